/- DiskAlone: for every input the law returns true, and each argument reads afterwards as it read before. No conditions. -/
import Derived.Test.YtfbjjblgcgjndaaRows
import Derived.Test.YtfbjjblgcgjndaaOpen5
import Derived.Test.YtfbjjblgcgjndaaFacts
import Derived.Test.YtfbjjblgcgjndaaAlone
set_option linter.unusedVariables false
set_option linter.unusedSimpArgs false
namespace Go.Proofs.Ytfbjjblgcgjndaa.diskAlone
open Go.ChangeShapes Go.WideShapes Go.ChangeAt Go.RowKit

theorem fa : Rows.diskAloneRow.wf (OpenSpec.ofChange Rows.diskAloneSpec) = true := by kernel_rfl
theorem fb : Try.f15.params.all (Try.prog.readableRec ·) = true := by kernel_rfl
theorem fc : namedTie Try.prog Rows.diskAloneRow.named Rows.diskAloneSpec.vars = true := by kernel_rfl
theorem fd : (Rows.diskAloneRow.stops == []) = true := by kernel_rfl
theorem fe : (Rows.diskAloneRow.knobs == []) = true := by kernel_rfl
theorem ff : (Rows.diskAloneRow.inPlace == Try.prog.inPlace 15) = true := by kernel_rfl
theorem fg : (Rows.diskAloneRow.unfollowed == Try.prog.unfollowed 15) = true := by kernel_rfl
theorem fh : (Rows.diskAloneRow.recurses == Try.prog.recurses 15) = true := by kernel_rfl
theorem fi : (Rows.diskAloneRow.named == Try.prog.varsNamed 15) = true := by kernel_rfl
theorem fj : (Rows.diskAloneRow.maps == (Try.f15.params.toList ++ Rows.diskAloneSpec.plain.varTypes Try.prog).any (Try.prog.mapsRec ·)) = true := by kernel_rfl
theorem fk : (Rows.diskAloneRow.ifaces == (Try.f15.params.toList ++ Rows.diskAloneSpec.plain.varTypes Try.prog).any (Try.prog.ifacesRec ·)) = true := by kernel_rfl
theorem fl : (Rows.diskAloneRow.mapsOut == Try.prog.mapsAmong Try.f15.resultTypes.toList) = true := by kernel_rfl
theorem fm : (Rows.diskAloneRow.loops == (Try.f15.params.toList ++ Rows.diskAloneSpec.plain.varTypes Try.prog).any (Try.prog.loopsFrom ·)) = true := by kernel_rfl
theorem fn : (Rows.diskAloneRow.wideKeys == (Try.f15.params.toList ++ Rows.diskAloneSpec.plain.varTypes Try.prog ++ Try.f15.resultTypes.toList).any (Try.prog.wideKeysFrom ·)) = true := by kernel_rfl
theorem fo : Rows.diskAloneSpec.vars.all (Try.prog.varReadable ·) = true := by kernel_rfl
theorem fp : Try.f15.resultTypes.all (fun t => Try.prog.readableRec t && decide (t < Try.prog.types.size)) = true := by kernel_rfl
theorem fq : (Rows.diskAloneRow.ifacesOut == Try.f15.resultTypes.toList.any (Try.prog.ifacesRec ·)) = true := by kernel_rfl
theorem fr : (Rows.diskAloneRow.loopsOut == Try.f15.resultTypes.toList.any (Try.prog.loopsFrom ·)) = true := by kernel_rfl
theorem fs : Rows.diskAloneRow.plainKeys = true := by kernel_rfl
theorem ft : Rows.diskAloneRow.shortTexts.isNone = true := by kernel_rfl
theorem fu : Rows.diskAloneRow.lifted = false := by kernel_rfl
theorem fv : Rows.diskAloneRow.make = .cut := by kernel_rfl
theorem fw : (Rows.diskAloneRow.kinds == (if Rows.diskAloneRow.domain.isEmpty then [] else Try.f15.params.toList.map fun t => match Try.prog.underlying t with | some (.int k) => some k | _ => Option.none)) = true := by kernel_rfl
theorem fx : (Rows.diskAloneRow.pinned == Rows.diskAloneRow.pinnedBy) = true := by kernel_rfl
theorem fy : (Rows.diskAloneRow.veiled == (Try.f15.params.toList ++ Rows.diskAloneSpec.plain.varTypes Try.prog ++ Try.f15.resultTypes.toList).any (Try.prog.veiledRec ·)) = true := by kernel_rfl
theorem fz : Rows.diskAloneRow.veiledFits Try.prog Try.f15.params.toList (Try.f15.params.toList ++ Rows.diskAloneSpec.plain.varTypes Try.prog ++ Try.f15.resultTypes.toList) = true := by kernel_rfl
set_option maxRecDepth 100000 in
theorem closed : joinedFacts Try.prog 15 Try.f15 Rows.diskAloneSpec Rows.diskAloneRow = true :=
  joined_try 15 Try.f15 Rows.diskAloneSpec Rows.diskAloneRow fa fb fc fd fe ff fg fh fi fj fk fl fm fn fo fp fq fr fs ft fu fv fw fx fy fz
theorem named : Try.prog.funcNamed Rows.diskAloneRow.func = some 15 := by kernel_rfl
theorem inst : Func.isInstance Try.prog Try.f15 Rows.diskAloneRow.origin Rows.diskAloneRow.targs := of_decide_eq_true (by kernel_rfl)
theorem wrap : Func.isWrapper Try.prog Try.f15 Rows.diskAloneRow.wrapper Rows.diskAloneRow.mainSum := by
  unfold Func.isWrapper; rw [if_neg (of_decide_eq_false (by kernel_rfl))]; exact ⟨rfl, rfl⟩

theorem typed : (Try.f15.params.toList.all fun t => Try.prog.readableRec t && decide (t < Try.prog.types.size)) = true := by kernel_rfl
theorem noInit : Try.prog.inits.idxOf? 15 = none := by kernel_rfl

set_option maxRecDepth 100000 in
theorem lifted (os : Os) (started : os.Started) (H : Type) (enc : TypeId × Value → H) :
    ReturnsInHanded {} Try.checked os 15 .any (Rows.diskAloneSpec.pre6 enc Try.prog Try.f15 Rows.diskAloneRow.domain false) (Rows.diskAloneSpec.post enc Try.prog Try.f15 false true false false) := by
  refine law_lifted (enc := enc) 15 Try.f15 Rows.diskAloneSpec os started noInit Try.func15 rfl ?_ rfl ?_
    (ChangeSpec.witness6 (enc := enc) (C := Try.checked) false ⟨#[], #[.slice none 0 0, .slice none 0 0], []⟩ 8 (by kernel_rfl) (by kernel_rfl) (by kernel_rfl) (by kernel_rfl)) ?_
  · intro ds h
    match ds, h with
    | [d0, d1], _ => rfl
  · intro t ht
    have := List.all_eq_true.1 typed t ht
    simpa using this
  intro W base args ds p hval hA hsz
  rw [Try.params15] at hA hval hsz
  obtain ⟨v0, vs0, d0, ds0, p0, q0, ha0, rfl, rfl, h0, r0⟩ := trodAll_cons hA
  obtain ⟨v1, vs1, d1, ds1, p1, q1, rfl, rfl, rfl, h1, r1⟩ := trodAll_cons r0
  obtain ⟨rfl, rfl, rfl⟩ := trodAll_nil r1
  obtain rfl : args = #[v0, v1] := by cases args; simp_all
  obtain ⟨a0, rfl, b0⟩ := open_bytes (hval 0 23 v0 rfl rfl) h0 (fun x hx => of_decide_eq_true (List.all_eq_true.1 hsz x (DataW.weights_mem_each (j := 0) rfl rfl x hx)))
  obtain ⟨a1, rfl, b1⟩ := open_acts (hval 1 96 v1 rfl rfl) h1 (fun x hx => of_decide_eq_true (List.all_eq_true.1 hsz x (DataW.weights_mem_each (j := 1) rfl rfl x hx)))
  exact diskAlone_any a0 a1 W b0 b1

theorem over : Rows.diskAloneRow.holds Try.pinned (OpenSpec.ofChange Rows.diskAloneSpec) :=
  OpenClaim.holds_of_wide 15 Try.f15 rfl rfl rfl rfl rfl rfl rfl ⟨rfl, rfl, rfl, rfl, rfl⟩ rfl rfl rfl rfl rfl named Try.func15 closed inst wrap
    (fun os started H enc _ => lifted os started H enc)

/-- The statement. -/
theorem proved : Rows.DiskAloneSaid := over
#print axioms proved
end Go.Proofs.Ytfbjjblgcgjndaa.diskAlone
