/- OverWrites: for every input the law returns true, and each argument reads afterwards as it read before. No conditions. -/
import Derived.Test.YtfbjjblgcgjndaaRows
import Derived.Test.YtfbjjblgcgjndaaPw9
set_option linter.unusedVariables false
set_option linter.unusedSimpArgs false
namespace Go.Proofs.Ytfbjjblgcgjndaa.overWrites
open Go.ChangeShapes Go.WideShapes Go.ChangeAt Go.RowKit

theorem fa : Rows.overWritesRow.wf (OpenSpec.ofChange Rows.overWritesSpec) = true := by kernel_rfl
theorem fb : Try.f7.params.all (Try.prog.readableRec ·) = true := by kernel_rfl
theorem fc : namedTie Try.prog Rows.overWritesRow.named Rows.overWritesSpec.vars = true := by kernel_rfl
theorem fd : (Rows.overWritesRow.stops == []) = true := by kernel_rfl
theorem fe : (Rows.overWritesRow.knobs == []) = true := by kernel_rfl
theorem ff : (Rows.overWritesRow.inPlace == Try.prog.inPlace 7) = true := by kernel_rfl
theorem fg : (Rows.overWritesRow.unfollowed == Try.prog.unfollowed 7) = true := by kernel_rfl
theorem fh : (Rows.overWritesRow.recurses == Try.prog.recurses 7) = true := by kernel_rfl
theorem fi : (Rows.overWritesRow.named == Try.prog.varsNamed 7) = true := by kernel_rfl
theorem fj : (Rows.overWritesRow.maps == (Try.f7.params.toList ++ Rows.overWritesSpec.plain.varTypes Try.prog).any (Try.prog.mapsRec ·)) = true := by kernel_rfl
theorem fk : (Rows.overWritesRow.ifaces == (Try.f7.params.toList ++ Rows.overWritesSpec.plain.varTypes Try.prog).any (Try.prog.ifacesRec ·)) = true := by kernel_rfl
theorem fl : (Rows.overWritesRow.mapsOut == Try.prog.mapsAmong Try.f7.resultTypes.toList) = true := by kernel_rfl
theorem fm : (Rows.overWritesRow.loops == (Try.f7.params.toList ++ Rows.overWritesSpec.plain.varTypes Try.prog).any (Try.prog.loopsFrom ·)) = true := by kernel_rfl
theorem fn : (Rows.overWritesRow.wideKeys == (Try.f7.params.toList ++ Rows.overWritesSpec.plain.varTypes Try.prog ++ Try.f7.resultTypes.toList).any (Try.prog.wideKeysFrom ·)) = true := by kernel_rfl
theorem fo : Rows.overWritesSpec.vars.all (Try.prog.varReadable ·) = true := by kernel_rfl
theorem fp : Try.f7.resultTypes.all (fun t => Try.prog.readableRec t && decide (t < Try.prog.types.size)) = true := by kernel_rfl
theorem fq : (Rows.overWritesRow.ifacesOut == Try.f7.resultTypes.toList.any (Try.prog.ifacesRec ·)) = true := by kernel_rfl
theorem fr : (Rows.overWritesRow.loopsOut == Try.f7.resultTypes.toList.any (Try.prog.loopsFrom ·)) = true := by kernel_rfl
theorem fs : Rows.overWritesRow.plainKeys = true := by kernel_rfl
theorem ft : Rows.overWritesRow.shortTexts.isNone = true := by kernel_rfl
theorem fu : Rows.overWritesRow.lifted = false := by kernel_rfl
theorem fv : Rows.overWritesRow.make = .cut := by kernel_rfl
theorem fw : (Rows.overWritesRow.kinds == (if Rows.overWritesRow.domain.isEmpty then [] else Try.f7.params.toList.map fun t => match Try.prog.underlying t with | some (.int k) => some k | _ => Option.none)) = true := by kernel_rfl
theorem fx : (Rows.overWritesRow.pinned == Rows.overWritesRow.pinnedBy) = true := by kernel_rfl
theorem fy : (Rows.overWritesRow.veiled == (Try.f7.params.toList ++ Rows.overWritesSpec.plain.varTypes Try.prog ++ Try.f7.resultTypes.toList).any (Try.prog.veiledRec ·)) = true := by kernel_rfl
theorem fz : Rows.overWritesRow.veiledFits Try.prog Try.f7.params.toList (Try.f7.params.toList ++ Rows.overWritesSpec.plain.varTypes Try.prog ++ Try.f7.resultTypes.toList) = true := by kernel_rfl
set_option maxRecDepth 100000 in
theorem closed : joinedFacts Try.prog 7 Try.f7 Rows.overWritesSpec Rows.overWritesRow = true :=
  joined_try 7 Try.f7 Rows.overWritesSpec Rows.overWritesRow fa fb fc fd fe ff fg fh fi fj fk fl fm fn fo fp fq fr fs ft fu fv fw fx fy fz
theorem named : Try.prog.funcNamed Rows.overWritesRow.func = some 7 := by kernel_rfl
theorem inst : Func.isInstance Try.prog Try.f7 Rows.overWritesRow.origin Rows.overWritesRow.targs := of_decide_eq_true (by kernel_rfl)
theorem wrap : Func.isWrapper Try.prog Try.f7 Rows.overWritesRow.wrapper Rows.overWritesRow.mainSum := by
  unfold Func.isWrapper; rw [if_neg (of_decide_eq_false (by kernel_rfl))]; exact ⟨rfl, rfl⟩

theorem typed : (Try.f7.params.toList.all fun t => Try.prog.readableRec t && decide (t < Try.prog.types.size)) = true := by kernel_rfl
theorem noInit : Try.prog.inits.idxOf? 7 = none := by kernel_rfl

set_option maxRecDepth 100000 in
theorem lifted (os : Os) (started : os.Started) (H : Type) (enc : TypeId × Value → H) :
    ReturnsInHanded {} Try.checked os 7 .any (Rows.overWritesSpec.pre6 enc Try.prog Try.f7 Rows.overWritesRow.domain false) (Rows.overWritesSpec.post enc Try.prog Try.f7 false true false false) := by
  refine law_lifted (enc := enc) 7 Try.f7 Rows.overWritesSpec os started noInit Try.func7 rfl ?_ rfl ?_
    (ChangeSpec.witness6 (enc := enc) (C := Try.checked) false ⟨#[], #[.slice none 0 0, .slice none 0 0, .int .i64 0], []⟩ 8 (by kernel_rfl) (by kernel_rfl) (by kernel_rfl) (by kernel_rfl)) ?_
  · intro ds h
    match ds, h with
    | [d0, d1, d2], _ => rfl
  · intro t ht
    have := List.all_eq_true.1 typed t ht
    simpa using this
  intro W base args ds p hval hA hsz
  rw [Try.params7] at hA hval hsz
  obtain ⟨v0, vs0, d0, ds0, p0, q0, ha0, rfl, rfl, h0, r0⟩ := trodAll_cons hA
  obtain ⟨v1, vs1, d1, ds1, p1, q1, rfl, rfl, rfl, h1, r1⟩ := trodAll_cons r0
  obtain ⟨v2, vs2, d2, ds2, p2, q2, rfl, rfl, rfl, h2, r2⟩ := trodAll_cons r1
  obtain ⟨rfl, rfl, rfl⟩ := trodAll_nil r2
  obtain rfl : args = #[v0, v1, v2] := by cases args; simp_all
  obtain ⟨a0, rfl, b0⟩ := open_bytes (hval 0 23 v0 rfl rfl) h0 (fun x hx => of_decide_eq_true (List.all_eq_true.1 hsz x (DataW.weights_mem_each (j := 0) rfl rfl x hx)))
  obtain ⟨a1, rfl, b1⟩ := open_words (hval 1 34 v1 rfl rfl) h1 (fun x hx => of_decide_eq_true (List.all_eq_true.1 hsz x (DataW.weights_mem_each (j := 1) rfl rfl x hx)))
  obtain ⟨a2, rfl, b2⟩ := open_i64 (hval 2 3 v2 rfl rfl) h2
  exact overWrites_any a0 a1 a2 W b0 b1

theorem over : Rows.overWritesRow.holds Try.pinned (OpenSpec.ofChange Rows.overWritesSpec) :=
  OpenClaim.holds_of_wide 7 Try.f7 rfl rfl rfl rfl rfl rfl rfl ⟨rfl, rfl, rfl, rfl, rfl⟩ rfl rfl rfl rfl rfl named Try.func7 closed inst wrap
    (fun os started H enc _ => lifted os started H enc)

/-- The statement. -/
theorem proved : Rows.OverWritesSaid := over
#print axioms proved
end Go.Proofs.Ytfbjjblgcgjndaa.overWrites
