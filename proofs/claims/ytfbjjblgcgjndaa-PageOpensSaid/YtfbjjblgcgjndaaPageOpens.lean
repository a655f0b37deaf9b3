/- PageOpens: for every input the law returns true, and each argument reads afterwards as it read before. No conditions. -/
import Derived.Test.YtfbjjblgcgjndaaRows
import Derived.Test.YtfbjjblgcgjndaaOpen3
import Derived.Test.YtfbjjblgcgjndaaFacts
import Derived.Test.YtfbjjblgcgjndaaOpens
set_option linter.unusedVariables false
set_option linter.unusedSimpArgs false
namespace Go.Proofs.Ytfbjjblgcgjndaa.pageOpens
open Go.ChangeShapes Go.WideShapes Go.ChangeAt Go.RowKit

theorem fa : Rows.pageOpensRow.wf (OpenSpec.ofChange Rows.pageOpensSpec) = true := by kernel_rfl
theorem fb : Try.f17.params.all (Try.prog.readableRec ·) = true := by kernel_rfl
theorem fc : namedTie Try.prog Rows.pageOpensRow.named Rows.pageOpensSpec.vars = true := by kernel_rfl
theorem fd : (Rows.pageOpensRow.stops == []) = true := by kernel_rfl
theorem fe : (Rows.pageOpensRow.knobs == []) = true := by kernel_rfl
theorem ff : (Rows.pageOpensRow.inPlace == Try.prog.inPlace 17) = true := by kernel_rfl
theorem fg : (Rows.pageOpensRow.unfollowed == Try.prog.unfollowed 17) = true := by kernel_rfl
theorem fh : (Rows.pageOpensRow.recurses == Try.prog.recurses 17) = true := by kernel_rfl
theorem fi : (Rows.pageOpensRow.named == Try.prog.varsNamed 17) = true := by kernel_rfl
theorem fj : (Rows.pageOpensRow.maps == (Try.f17.params.toList ++ Rows.pageOpensSpec.plain.varTypes Try.prog).any (Try.prog.mapsRec ·)) = true := by kernel_rfl
theorem fk : (Rows.pageOpensRow.ifaces == (Try.f17.params.toList ++ Rows.pageOpensSpec.plain.varTypes Try.prog).any (Try.prog.ifacesRec ·)) = true := by kernel_rfl
theorem fl : (Rows.pageOpensRow.mapsOut == Try.prog.mapsAmong Try.f17.resultTypes.toList) = true := by kernel_rfl
theorem fm : (Rows.pageOpensRow.loops == (Try.f17.params.toList ++ Rows.pageOpensSpec.plain.varTypes Try.prog).any (Try.prog.loopsFrom ·)) = true := by kernel_rfl
theorem fn : (Rows.pageOpensRow.wideKeys == (Try.f17.params.toList ++ Rows.pageOpensSpec.plain.varTypes Try.prog ++ Try.f17.resultTypes.toList).any (Try.prog.wideKeysFrom ·)) = true := by kernel_rfl
theorem fo : Rows.pageOpensSpec.vars.all (Try.prog.varReadable ·) = true := by kernel_rfl
theorem fp : Try.f17.resultTypes.all (fun t => Try.prog.readableRec t && decide (t < Try.prog.types.size)) = true := by kernel_rfl
theorem fq : (Rows.pageOpensRow.ifacesOut == Try.f17.resultTypes.toList.any (Try.prog.ifacesRec ·)) = true := by kernel_rfl
theorem fr : (Rows.pageOpensRow.loopsOut == Try.f17.resultTypes.toList.any (Try.prog.loopsFrom ·)) = true := by kernel_rfl
theorem fs : Rows.pageOpensRow.plainKeys = true := by kernel_rfl
theorem ft : Rows.pageOpensRow.shortTexts.isNone = true := by kernel_rfl
theorem fu : Rows.pageOpensRow.lifted = false := by kernel_rfl
theorem fv : Rows.pageOpensRow.make = .cut := by kernel_rfl
theorem fw : (Rows.pageOpensRow.kinds == (if Rows.pageOpensRow.domain.isEmpty then [] else Try.f17.params.toList.map fun t => match Try.prog.underlying t with | some (.int k) => some k | _ => Option.none)) = true := by kernel_rfl
theorem fx : (Rows.pageOpensRow.pinned == Rows.pageOpensRow.pinnedBy) = true := by kernel_rfl
theorem fy : (Rows.pageOpensRow.veiled == (Try.f17.params.toList ++ Rows.pageOpensSpec.plain.varTypes Try.prog ++ Try.f17.resultTypes.toList).any (Try.prog.veiledRec ·)) = true := by kernel_rfl
theorem fz : Rows.pageOpensRow.veiledFits Try.prog Try.f17.params.toList (Try.f17.params.toList ++ Rows.pageOpensSpec.plain.varTypes Try.prog ++ Try.f17.resultTypes.toList) = true := by kernel_rfl
set_option maxRecDepth 100000 in
theorem closed : joinedFacts Try.prog 17 Try.f17 Rows.pageOpensSpec Rows.pageOpensRow = true :=
  joined_try 17 Try.f17 Rows.pageOpensSpec Rows.pageOpensRow fa fb fc fd fe ff fg fh fi fj fk fl fm fn fo fp fq fr fs ft fu fv fw fx fy fz
theorem named : Try.prog.funcNamed Rows.pageOpensRow.func = some 17 := by kernel_rfl
theorem inst : Func.isInstance Try.prog Try.f17 Rows.pageOpensRow.origin Rows.pageOpensRow.targs := of_decide_eq_true (by kernel_rfl)
theorem wrap : Func.isWrapper Try.prog Try.f17 Rows.pageOpensRow.wrapper Rows.pageOpensRow.mainSum := by
  unfold Func.isWrapper; rw [if_neg (of_decide_eq_false (by kernel_rfl))]; exact ⟨rfl, rfl⟩

theorem typed : (Try.f17.params.toList.all fun t => Try.prog.readableRec t && decide (t < Try.prog.types.size)) = true := by kernel_rfl
theorem noInit : Try.prog.inits.idxOf? 17 = none := by kernel_rfl

set_option maxRecDepth 100000 in
theorem lifted (os : Os) (started : os.Started) (H : Type) (enc : TypeId × Value → H) :
    ReturnsInHanded {} Try.checked os 17 .any (Rows.pageOpensSpec.pre6 enc Try.prog Try.f17 Rows.pageOpensRow.domain false) (Rows.pageOpensSpec.post enc Try.prog Try.f17 false true false false) := by
  refine law_lifted (enc := enc) 17 Try.f17 Rows.pageOpensSpec os started noInit Try.func17 rfl ?_ rfl ?_
    (ChangeSpec.witness6 (enc := enc) (C := Try.checked) false ⟨#[], #[.int .u32 0, .slice none 0 0], []⟩ 8 (by kernel_rfl) (by kernel_rfl) (by kernel_rfl) (by kernel_rfl)) ?_
  · intro ds h
    match ds, h with
    | [d0, d1], _ => rfl
  · intro t ht
    have := List.all_eq_true.1 typed t ht
    simpa using this
  intro W base args ds p hval hA hsz
  rw [Try.params17] at hA hval hsz
  obtain ⟨v0, vs0, d0, ds0, p0, q0, ha0, rfl, rfl, h0, r0⟩ := trodAll_cons hA
  obtain ⟨v1, vs1, d1, ds1, p1, q1, rfl, rfl, rfl, h1, r1⟩ := trodAll_cons r0
  obtain ⟨rfl, rfl, rfl⟩ := trodAll_nil r1
  obtain rfl : args = #[v0, v1] := by cases args; simp_all
  obtain ⟨a0, rfl, b0⟩ := open_u32 (hval 0 22 v0 rfl rfl) h0
  obtain ⟨a1, rfl, b1⟩ := open_bytes (hval 1 23 v1 rfl rfl) h1 (fun x hx => of_decide_eq_true (List.all_eq_true.1 hsz x (DataW.weights_mem_each (j := 1) rfl rfl x hx)))
  exact pageOpens_any a0 a1 W b1 b0

theorem over : Rows.pageOpensRow.holds Try.pinned (OpenSpec.ofChange Rows.pageOpensSpec) :=
  OpenClaim.holds_of_wide 17 Try.f17 rfl rfl rfl rfl rfl rfl rfl ⟨rfl, rfl, rfl, rfl, rfl⟩ rfl rfl rfl rfl rfl named Try.func17 closed inst wrap
    (fun os started H enc _ => lifted os started H enc)

/-- The statement. -/
theorem proved : Rows.PageOpensSaid := over
#print axioms proved
end Go.Proofs.Ytfbjjblgcgjndaa.pageOpens
