/- DiskLoads: for every input the law returns true, and each argument reads afterwards as it read before. No conditions. -/
import Derived.Test.YtfbjjblgcgjndaaRows
import Derived.Test.YtfbjjblgcgjndaaDk9
import Derived.Test.YtfbjjblgcgjndaaDk10
set_option linter.unusedVariables false
set_option linter.unusedSimpArgs false
namespace Go.Proofs.Ytfbjjblgcgjndaa.diskLoads
open Go.ChangeShapes Go.WideShapes Go.ChangeAt Go.RowKit

theorem fa : Rows.diskLoadsRow.wf (OpenSpec.ofChange Rows.diskLoadsSpec) = true := by kernel_rfl
theorem fb : Try.f14.params.all (Try.prog.readableRec ·) = true := by kernel_rfl
theorem fc : namedTie Try.prog Rows.diskLoadsRow.named Rows.diskLoadsSpec.vars = true := by kernel_rfl
theorem fd : (Rows.diskLoadsRow.stops == []) = true := by kernel_rfl
theorem fe : (Rows.diskLoadsRow.knobs == []) = true := by kernel_rfl
theorem ff : (Rows.diskLoadsRow.inPlace == Try.prog.inPlace 14) = true := by kernel_rfl
theorem fg : (Rows.diskLoadsRow.unfollowed == Try.prog.unfollowed 14) = true := by kernel_rfl
theorem fh : (Rows.diskLoadsRow.recurses == Try.prog.recurses 14) = true := by kernel_rfl
theorem fi : (Rows.diskLoadsRow.named == Try.prog.varsNamed 14) = true := by kernel_rfl
theorem fj : (Rows.diskLoadsRow.maps == (Try.f14.params.toList ++ Rows.diskLoadsSpec.plain.varTypes Try.prog).any (Try.prog.mapsRec ·)) = true := by kernel_rfl
theorem fk : (Rows.diskLoadsRow.ifaces == (Try.f14.params.toList ++ Rows.diskLoadsSpec.plain.varTypes Try.prog).any (Try.prog.ifacesRec ·)) = true := by kernel_rfl
theorem fl : (Rows.diskLoadsRow.mapsOut == Try.prog.mapsAmong Try.f14.resultTypes.toList) = true := by kernel_rfl
theorem fm : (Rows.diskLoadsRow.loops == (Try.f14.params.toList ++ Rows.diskLoadsSpec.plain.varTypes Try.prog).any (Try.prog.loopsFrom ·)) = true := by kernel_rfl
theorem fn : (Rows.diskLoadsRow.wideKeys == (Try.f14.params.toList ++ Rows.diskLoadsSpec.plain.varTypes Try.prog ++ Try.f14.resultTypes.toList).any (Try.prog.wideKeysFrom ·)) = true := by kernel_rfl
theorem fo : Rows.diskLoadsSpec.vars.all (Try.prog.varReadable ·) = true := by kernel_rfl
theorem fp : Try.f14.resultTypes.all (fun t => Try.prog.readableRec t && decide (t < Try.prog.types.size)) = true := by kernel_rfl
theorem fq : (Rows.diskLoadsRow.ifacesOut == Try.f14.resultTypes.toList.any (Try.prog.ifacesRec ·)) = true := by kernel_rfl
theorem fr : (Rows.diskLoadsRow.loopsOut == Try.f14.resultTypes.toList.any (Try.prog.loopsFrom ·)) = true := by kernel_rfl
theorem fs : Rows.diskLoadsRow.plainKeys = true := by kernel_rfl
theorem ft : Rows.diskLoadsRow.shortTexts.isNone = true := by kernel_rfl
theorem fu : Rows.diskLoadsRow.lifted = false := by kernel_rfl
theorem fv : Rows.diskLoadsRow.make = .cut := by kernel_rfl
theorem fw : (Rows.diskLoadsRow.kinds == (if Rows.diskLoadsRow.domain.isEmpty then [] else Try.f14.params.toList.map fun t => match Try.prog.underlying t with | some (.int k) => some k | _ => Option.none)) = true := by kernel_rfl
theorem fx : (Rows.diskLoadsRow.pinned == Rows.diskLoadsRow.pinnedBy) = true := by kernel_rfl
theorem fy : (Rows.diskLoadsRow.veiled == (Try.f14.params.toList ++ Rows.diskLoadsSpec.plain.varTypes Try.prog ++ Try.f14.resultTypes.toList).any (Try.prog.veiledRec ·)) = true := by kernel_rfl
theorem fz : Rows.diskLoadsRow.veiledFits Try.prog Try.f14.params.toList (Try.f14.params.toList ++ Rows.diskLoadsSpec.plain.varTypes Try.prog ++ Try.f14.resultTypes.toList) = true := by kernel_rfl
set_option maxRecDepth 100000 in
theorem closed : joinedFacts Try.prog 14 Try.f14 Rows.diskLoadsSpec Rows.diskLoadsRow = true :=
  joined_try 14 Try.f14 Rows.diskLoadsSpec Rows.diskLoadsRow fa fb fc fd fe ff fg fh fi fj fk fl fm fn fo fp fq fr fs ft fu fv fw fx fy fz
theorem named : Try.prog.funcNamed Rows.diskLoadsRow.func = some 14 := by kernel_rfl
theorem inst : Func.isInstance Try.prog Try.f14 Rows.diskLoadsRow.origin Rows.diskLoadsRow.targs := of_decide_eq_true (by kernel_rfl)
theorem wrap : Func.isWrapper Try.prog Try.f14 Rows.diskLoadsRow.wrapper Rows.diskLoadsRow.mainSum := by
  unfold Func.isWrapper; rw [if_neg (of_decide_eq_false (by kernel_rfl))]; exact ⟨rfl, rfl⟩

theorem typed : (Try.f14.params.toList.all fun t => Try.prog.readableRec t && decide (t < Try.prog.types.size)) = true := by kernel_rfl
theorem noInit : Try.prog.inits.idxOf? 14 = none := by kernel_rfl

set_option maxRecDepth 100000 in
theorem lifted (os : Os) (started : os.Started) (H : Type) (enc : TypeId × Value → H) :
    ReturnsInHanded {} Try.checked os 14 .any (Rows.diskLoadsSpec.pre6 enc Try.prog Try.f14 Rows.diskLoadsRow.domain false) (Rows.diskLoadsSpec.post enc Try.prog Try.f14 false true false false) := by
  refine law_lifted (enc := enc) 14 Try.f14 Rows.diskLoadsSpec os started noInit Try.func14 rfl ?_ rfl ?_
    (ChangeSpec.witness6 (enc := enc) (C := Try.checked) false ⟨#[], #[.slice none 0 0, .slice none 0 0], []⟩ 8 (by kernel_rfl) (by kernel_rfl) (by kernel_rfl) (by kernel_rfl)) ?_
  · intro ds h
    match ds, h with
    | [d0, d1], _ => rfl
  · intro t ht
    have := List.all_eq_true.1 typed t ht
    simpa using this
  intro W base args ds p hval hA hsz
  rw [Try.params14] at hA hval hsz
  obtain ⟨v0, vs0, d0, ds0, p0, q0, ha0, rfl, rfl, h0, r0⟩ := trodAll_cons hA
  obtain ⟨v1, vs1, d1, ds1, p1, q1, rfl, rfl, rfl, h1, r1⟩ := trodAll_cons r0
  obtain ⟨rfl, rfl, rfl⟩ := trodAll_nil r1
  obtain rfl : args = #[v0, v1] := by cases args; simp_all
  obtain ⟨a0, rfl, b0⟩ := open_bytes (hval 0 23 v0 rfl rfl) h0 (fun x hx => of_decide_eq_true (List.all_eq_true.1 hsz x (DataW.weights_mem_each (j := 0) rfl rfl x hx)))
  obtain ⟨a1, rfl, b1⟩ := open_acts (hval 1 96 v1 rfl rfl) h1 (fun x hx => of_decide_eq_true (List.all_eq_true.1 hsz x (DataW.weights_mem_each (j := 1) rfl rfl x hx)))
  exact diskLoads_any a0 a1 W b0 b1

theorem over : Rows.diskLoadsRow.holds Try.pinned (OpenSpec.ofChange Rows.diskLoadsSpec) :=
  OpenClaim.holds_of_wide 14 Try.f14 rfl rfl rfl rfl rfl rfl rfl ⟨rfl, rfl, rfl, rfl, rfl⟩ rfl rfl rfl rfl rfl named Try.func14 closed inst wrap
    (fun os started H enc _ => lifted os started H enc)

/-- The statement. -/
theorem proved : Rows.DiskLoadsSaid := over
#print axioms proved
end Go.Proofs.Ytfbjjblgcgjndaa.diskLoads
