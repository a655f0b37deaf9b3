/- PoolLast: for every input the law returns true, and each argument reads afterwards as it read before. No conditions. -/
import Derived.Test.YtfbjjblgcgjndaaRows
import Derived.Test.YtfbjjblgcgjndaaPm1
set_option linter.unusedVariables false
set_option linter.unusedSimpArgs false
namespace Go.Proofs.Ytfbjjblgcgjndaa.poolLast
open Go.ChangeShapes Go.WideShapes Go.ChangeAt Go.RowKit

theorem fa : Rows.poolLastRow.wf (OpenSpec.ofChange Rows.poolLastSpec) = true := by kernel_rfl
theorem fb : Try.f24.params.all (Try.prog.readableRec ·) = true := by kernel_rfl
theorem fc : namedTie Try.prog Rows.poolLastRow.named Rows.poolLastSpec.vars = true := by kernel_rfl
theorem fd : (Rows.poolLastRow.stops == []) = true := by kernel_rfl
theorem fe : (Rows.poolLastRow.knobs == []) = true := by kernel_rfl
theorem ff : (Rows.poolLastRow.inPlace == Try.prog.inPlace 24) = true := by kernel_rfl
theorem fg : (Rows.poolLastRow.unfollowed == Try.prog.unfollowed 24) = true := by kernel_rfl
theorem fh : (Rows.poolLastRow.recurses == Try.prog.recurses 24) = true := by kernel_rfl
theorem fi : (Rows.poolLastRow.named == Try.prog.varsNamed 24) = true := by kernel_rfl
theorem fj : (Rows.poolLastRow.maps == (Try.f24.params.toList ++ Rows.poolLastSpec.plain.varTypes Try.prog).any (Try.prog.mapsRec ·)) = true := by kernel_rfl
theorem fk : (Rows.poolLastRow.ifaces == (Try.f24.params.toList ++ Rows.poolLastSpec.plain.varTypes Try.prog).any (Try.prog.ifacesRec ·)) = true := by kernel_rfl
theorem fl : (Rows.poolLastRow.mapsOut == Try.prog.mapsAmong Try.f24.resultTypes.toList) = true := by kernel_rfl
theorem fm : (Rows.poolLastRow.loops == (Try.f24.params.toList ++ Rows.poolLastSpec.plain.varTypes Try.prog).any (Try.prog.loopsFrom ·)) = true := by kernel_rfl
theorem fn : (Rows.poolLastRow.wideKeys == (Try.f24.params.toList ++ Rows.poolLastSpec.plain.varTypes Try.prog ++ Try.f24.resultTypes.toList).any (Try.prog.wideKeysFrom ·)) = true := by kernel_rfl
theorem fo : Rows.poolLastSpec.vars.all (Try.prog.varReadable ·) = true := by kernel_rfl
theorem fp : Try.f24.resultTypes.all (fun t => Try.prog.readableRec t && decide (t < Try.prog.types.size)) = true := by kernel_rfl
theorem fq : (Rows.poolLastRow.ifacesOut == Try.f24.resultTypes.toList.any (Try.prog.ifacesRec ·)) = true := by kernel_rfl
theorem fr : (Rows.poolLastRow.loopsOut == Try.f24.resultTypes.toList.any (Try.prog.loopsFrom ·)) = true := by kernel_rfl
theorem fs : Rows.poolLastRow.plainKeys = true := by kernel_rfl
theorem ft : Rows.poolLastRow.shortTexts.isNone = true := by kernel_rfl
theorem fu : Rows.poolLastRow.lifted = false := by kernel_rfl
theorem fv : Rows.poolLastRow.make = .cut := by kernel_rfl
theorem fw : (Rows.poolLastRow.kinds == (if Rows.poolLastRow.domain.isEmpty then [] else Try.f24.params.toList.map fun t => match Try.prog.underlying t with | some (.int k) => some k | _ => Option.none)) = true := by kernel_rfl
theorem fx : (Rows.poolLastRow.pinned == Rows.poolLastRow.pinnedBy) = true := by kernel_rfl
theorem fy : (Rows.poolLastRow.veiled == (Try.f24.params.toList ++ Rows.poolLastSpec.plain.varTypes Try.prog ++ Try.f24.resultTypes.toList).any (Try.prog.veiledRec ·)) = true := by kernel_rfl
theorem fz : Rows.poolLastRow.veiledFits Try.prog Try.f24.params.toList (Try.f24.params.toList ++ Rows.poolLastSpec.plain.varTypes Try.prog ++ Try.f24.resultTypes.toList) = true := by kernel_rfl
set_option maxRecDepth 100000 in
theorem closed : joinedFacts Try.prog 24 Try.f24 Rows.poolLastSpec Rows.poolLastRow = true :=
  joined_try 24 Try.f24 Rows.poolLastSpec Rows.poolLastRow fa fb fc fd fe ff fg fh fi fj fk fl fm fn fo fp fq fr fs ft fu fv fw fx fy fz
theorem named : Try.prog.funcNamed Rows.poolLastRow.func = some 24 := by kernel_rfl
theorem inst : Func.isInstance Try.prog Try.f24 Rows.poolLastRow.origin Rows.poolLastRow.targs := of_decide_eq_true (by kernel_rfl)
theorem wrap : Func.isWrapper Try.prog Try.f24 Rows.poolLastRow.wrapper Rows.poolLastRow.mainSum := by
  unfold Func.isWrapper; rw [if_neg (of_decide_eq_false (by kernel_rfl))]; exact ⟨rfl, rfl⟩

theorem typed : (Try.f24.params.toList.all fun t => Try.prog.readableRec t && decide (t < Try.prog.types.size)) = true := by kernel_rfl
theorem noInit : Try.prog.inits.idxOf? 24 = none := by kernel_rfl

set_option maxRecDepth 100000 in
theorem lifted (os : Os) (started : os.Started) (H : Type) (enc : TypeId × Value → H) :
    ReturnsInHanded {} Try.checked os 24 .any (Rows.poolLastSpec.pre6 enc Try.prog Try.f24 Rows.poolLastRow.domain false) (Rows.poolLastSpec.post enc Try.prog Try.f24 false true false false) := by
  refine law_lifted (enc := enc) 24 Try.f24 Rows.poolLastSpec os started noInit Try.func24 rfl ?_ rfl ?_
    (ChangeSpec.witness6 (enc := enc) (C := Try.checked) false ⟨#[], #[.int .u8 0, .slice none 0 0], []⟩ 8 (by kernel_rfl) (by kernel_rfl) (by kernel_rfl) (by kernel_rfl)) ?_
  · intro ds h
    match ds, h with
    | [d0, d1], _ => rfl
  · intro t ht
    have := List.all_eq_true.1 typed t ht
    simpa using this
  intro W base args ds p hval hA hsz
  rw [Try.params24] at hA hval hsz
  obtain ⟨v0, vs0, d0, ds0, p0, q0, ha0, rfl, rfl, h0, r0⟩ := trodAll_cons hA
  obtain ⟨v1, vs1, d1, ds1, p1, q1, rfl, rfl, rfl, h1, r1⟩ := trodAll_cons r0
  obtain ⟨rfl, rfl, rfl⟩ := trodAll_nil r1
  obtain rfl : args = #[v0, v1] := by cases args; simp_all
  obtain ⟨a0, rfl, b0⟩ := open_u8 (hval 0 5 v0 rfl rfl) h0
  obtain ⟨a1, rfl, b1⟩ := open_pacts (hval 1 135 v1 rfl rfl) h1 (fun x hx => of_decide_eq_true (List.all_eq_true.1 hsz x (DataW.weights_mem_each (j := 1) rfl rfl x hx)))
  exact poolLast_any a0 a1 W b0 b1

theorem over : Rows.poolLastRow.holds Try.pinned (OpenSpec.ofChange Rows.poolLastSpec) :=
  OpenClaim.holds_of_wide 24 Try.f24 rfl rfl rfl rfl rfl rfl rfl ⟨rfl, rfl, rfl, rfl, rfl⟩ rfl rfl rfl rfl rfl named Try.func24 closed inst wrap
    (fun os started H enc _ => lifted os started H enc)

/-- The statement. -/
theorem proved : Rows.PoolLastSaid := over
#print axioms proved
end Go.Proofs.Ytfbjjblgcgjndaa.poolLast
