/- DiskDoes: for every input the law returns true, and each argument reads afterwards as it read before. No conditions. -/
import Derived.Test.YtfbjjblgcgjndaaRows
import Derived.Test.YtfbjjblgcgjndaaDk9
import Derived.Test.YtfbjjblgcgjndaaDk10
set_option linter.unusedVariables false
set_option linter.unusedSimpArgs false
namespace Go.Proofs.Ytfbjjblgcgjndaa.diskDoes
open Go.ChangeShapes Go.WideShapes Go.ChangeAt Go.RowKit

theorem fa : Rows.diskDoesRow.wf (OpenSpec.ofChange Rows.diskDoesSpec) = true := by kernel_rfl
theorem fb : Try.f13.params.all (Try.prog.readableRec ·) = true := by kernel_rfl
theorem fc : namedTie Try.prog Rows.diskDoesRow.named Rows.diskDoesSpec.vars = true := by kernel_rfl
theorem fd : (Rows.diskDoesRow.stops == []) = true := by kernel_rfl
theorem fe : (Rows.diskDoesRow.knobs == []) = true := by kernel_rfl
theorem ff : (Rows.diskDoesRow.inPlace == Try.prog.inPlace 13) = true := by kernel_rfl
theorem fg : (Rows.diskDoesRow.unfollowed == Try.prog.unfollowed 13) = true := by kernel_rfl
theorem fh : (Rows.diskDoesRow.recurses == Try.prog.recurses 13) = true := by kernel_rfl
theorem fi : (Rows.diskDoesRow.named == Try.prog.varsNamed 13) = true := by kernel_rfl
theorem fj : (Rows.diskDoesRow.maps == (Try.f13.params.toList ++ Rows.diskDoesSpec.plain.varTypes Try.prog).any (Try.prog.mapsRec ·)) = true := by kernel_rfl
theorem fk : (Rows.diskDoesRow.ifaces == (Try.f13.params.toList ++ Rows.diskDoesSpec.plain.varTypes Try.prog).any (Try.prog.ifacesRec ·)) = true := by kernel_rfl
theorem fl : (Rows.diskDoesRow.mapsOut == Try.prog.mapsAmong Try.f13.resultTypes.toList) = true := by kernel_rfl
theorem fm : (Rows.diskDoesRow.loops == (Try.f13.params.toList ++ Rows.diskDoesSpec.plain.varTypes Try.prog).any (Try.prog.loopsFrom ·)) = true := by kernel_rfl
theorem fn : (Rows.diskDoesRow.wideKeys == (Try.f13.params.toList ++ Rows.diskDoesSpec.plain.varTypes Try.prog ++ Try.f13.resultTypes.toList).any (Try.prog.wideKeysFrom ·)) = true := by kernel_rfl
theorem fo : Rows.diskDoesSpec.vars.all (Try.prog.varReadable ·) = true := by kernel_rfl
theorem fp : Try.f13.resultTypes.all (fun t => Try.prog.readableRec t && decide (t < Try.prog.types.size)) = true := by kernel_rfl
theorem fq : (Rows.diskDoesRow.ifacesOut == Try.f13.resultTypes.toList.any (Try.prog.ifacesRec ·)) = true := by kernel_rfl
theorem fr : (Rows.diskDoesRow.loopsOut == Try.f13.resultTypes.toList.any (Try.prog.loopsFrom ·)) = true := by kernel_rfl
theorem fs : Rows.diskDoesRow.plainKeys = true := by kernel_rfl
theorem ft : Rows.diskDoesRow.shortTexts.isNone = true := by kernel_rfl
theorem fu : Rows.diskDoesRow.lifted = false := by kernel_rfl
theorem fv : Rows.diskDoesRow.make = .cut := by kernel_rfl
theorem fw : (Rows.diskDoesRow.kinds == (if Rows.diskDoesRow.domain.isEmpty then [] else Try.f13.params.toList.map fun t => match Try.prog.underlying t with | some (.int k) => some k | _ => Option.none)) = true := by kernel_rfl
theorem fx : (Rows.diskDoesRow.pinned == Rows.diskDoesRow.pinnedBy) = true := by kernel_rfl
theorem fy : (Rows.diskDoesRow.veiled == (Try.f13.params.toList ++ Rows.diskDoesSpec.plain.varTypes Try.prog ++ Try.f13.resultTypes.toList).any (Try.prog.veiledRec ·)) = true := by kernel_rfl
theorem fz : Rows.diskDoesRow.veiledFits Try.prog Try.f13.params.toList (Try.f13.params.toList ++ Rows.diskDoesSpec.plain.varTypes Try.prog ++ Try.f13.resultTypes.toList) = true := by kernel_rfl
set_option maxRecDepth 100000 in
theorem closed : joinedFacts Try.prog 13 Try.f13 Rows.diskDoesSpec Rows.diskDoesRow = true :=
  joined_try 13 Try.f13 Rows.diskDoesSpec Rows.diskDoesRow fa fb fc fd fe ff fg fh fi fj fk fl fm fn fo fp fq fr fs ft fu fv fw fx fy fz
theorem named : Try.prog.funcNamed Rows.diskDoesRow.func = some 13 := by kernel_rfl
theorem inst : Func.isInstance Try.prog Try.f13 Rows.diskDoesRow.origin Rows.diskDoesRow.targs := of_decide_eq_true (by kernel_rfl)
theorem wrap : Func.isWrapper Try.prog Try.f13 Rows.diskDoesRow.wrapper Rows.diskDoesRow.mainSum := by
  unfold Func.isWrapper; rw [if_neg (of_decide_eq_false (by kernel_rfl))]; exact ⟨rfl, rfl⟩

theorem typed : (Try.f13.params.toList.all fun t => Try.prog.readableRec t && decide (t < Try.prog.types.size)) = true := by kernel_rfl
theorem noInit : Try.prog.inits.idxOf? 13 = none := by kernel_rfl

set_option maxRecDepth 100000 in
theorem lifted (os : Os) (started : os.Started) (H : Type) (enc : TypeId × Value → H) :
    ReturnsInHanded {} Try.checked os 13 .any (Rows.diskDoesSpec.pre6 enc Try.prog Try.f13 Rows.diskDoesRow.domain false) (Rows.diskDoesSpec.post enc Try.prog Try.f13 false true false false) := by
  refine law_lifted (enc := enc) 13 Try.f13 Rows.diskDoesSpec os started noInit Try.func13 rfl ?_ rfl ?_
    (ChangeSpec.witness6 (enc := enc) (C := Try.checked) false ⟨#[], #[.int .i64 0, .slice none 0 0], []⟩ 8 (by kernel_rfl) (by kernel_rfl) (by kernel_rfl) (by kernel_rfl)) ?_
  · intro ds h
    match ds, h with
    | [d0, d1], _ => rfl
  · intro t ht
    have := List.all_eq_true.1 typed t ht
    simpa using this
  intro W base args ds p hval hA hsz
  rw [Try.params13] at hA hval hsz
  obtain ⟨v0, vs0, d0, ds0, p0, q0, ha0, rfl, rfl, h0, r0⟩ := trodAll_cons hA
  obtain ⟨v1, vs1, d1, ds1, p1, q1, rfl, rfl, rfl, h1, r1⟩ := trodAll_cons r0
  obtain ⟨rfl, rfl, rfl⟩ := trodAll_nil r1
  obtain rfl : args = #[v0, v1] := by cases args; simp_all
  obtain ⟨a0, rfl, b0⟩ := open_i64 (hval 0 3 v0 rfl rfl) h0
  obtain ⟨a1, rfl, b1⟩ := open_acts (hval 1 96 v1 rfl rfl) h1 (fun x hx => of_decide_eq_true (List.all_eq_true.1 hsz x (DataW.weights_mem_each (j := 1) rfl rfl x hx)))
  exact diskDoes_any a0 a1 W b0 b1

theorem over : Rows.diskDoesRow.holds Try.pinned (OpenSpec.ofChange Rows.diskDoesSpec) :=
  OpenClaim.holds_of_wide 13 Try.f13 rfl rfl rfl rfl rfl rfl rfl ⟨rfl, rfl, rfl, rfl, rfl⟩ rfl rfl rfl rfl rfl named Try.func13 closed inst wrap
    (fun os started H enc _ => lifted os started H enc)

/-- The statement. -/
theorem proved : Rows.DiskDoesSaid := over
#print axioms proved
end Go.Proofs.Ytfbjjblgcgjndaa.diskDoes
