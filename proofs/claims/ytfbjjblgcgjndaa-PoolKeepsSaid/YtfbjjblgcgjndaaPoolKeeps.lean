/- PoolKeeps: for every input the law returns true, and each argument reads afterwards as it read before. No conditions. -/
import Derived.Test.YtfbjjblgcgjndaaRows
import Derived.Test.YtfbjjblgcgjndaaPk8
import Derived.Test.YtfbjjblgcgjndaaPk9
set_option linter.unusedVariables false
set_option linter.unusedSimpArgs false
namespace Go.Proofs.Ytfbjjblgcgjndaa.poolKeeps
open Go.ChangeShapes Go.WideShapes Go.ChangeAt Go.RowKit

theorem fa : Rows.poolKeepsRow.wf (OpenSpec.ofChange Rows.poolKeepsSpec) = true := by kernel_rfl
theorem fb : Try.f22.params.all (Try.prog.readableRec ·) = true := by kernel_rfl
theorem fc : namedTie Try.prog Rows.poolKeepsRow.named Rows.poolKeepsSpec.vars = true := by kernel_rfl
theorem fd : (Rows.poolKeepsRow.stops == []) = true := by kernel_rfl
theorem fe : (Rows.poolKeepsRow.knobs == []) = true := by kernel_rfl
theorem ff : (Rows.poolKeepsRow.inPlace == Try.prog.inPlace 22) = true := by kernel_rfl
theorem fg : (Rows.poolKeepsRow.unfollowed == Try.prog.unfollowed 22) = true := by kernel_rfl
theorem fh : (Rows.poolKeepsRow.recurses == Try.prog.recurses 22) = true := by kernel_rfl
theorem fi : (Rows.poolKeepsRow.named == Try.prog.varsNamed 22) = true := by kernel_rfl
theorem fj : (Rows.poolKeepsRow.maps == (Try.f22.params.toList ++ Rows.poolKeepsSpec.plain.varTypes Try.prog).any (Try.prog.mapsRec ·)) = true := by kernel_rfl
theorem fk : (Rows.poolKeepsRow.ifaces == (Try.f22.params.toList ++ Rows.poolKeepsSpec.plain.varTypes Try.prog).any (Try.prog.ifacesRec ·)) = true := by kernel_rfl
theorem fl : (Rows.poolKeepsRow.mapsOut == Try.prog.mapsAmong Try.f22.resultTypes.toList) = true := by kernel_rfl
theorem fm : (Rows.poolKeepsRow.loops == (Try.f22.params.toList ++ Rows.poolKeepsSpec.plain.varTypes Try.prog).any (Try.prog.loopsFrom ·)) = true := by kernel_rfl
theorem fn : (Rows.poolKeepsRow.wideKeys == (Try.f22.params.toList ++ Rows.poolKeepsSpec.plain.varTypes Try.prog ++ Try.f22.resultTypes.toList).any (Try.prog.wideKeysFrom ·)) = true := by kernel_rfl
theorem fo : Rows.poolKeepsSpec.vars.all (Try.prog.varReadable ·) = true := by kernel_rfl
theorem fp : Try.f22.resultTypes.all (fun t => Try.prog.readableRec t && decide (t < Try.prog.types.size)) = true := by kernel_rfl
theorem fq : (Rows.poolKeepsRow.ifacesOut == Try.f22.resultTypes.toList.any (Try.prog.ifacesRec ·)) = true := by kernel_rfl
theorem fr : (Rows.poolKeepsRow.loopsOut == Try.f22.resultTypes.toList.any (Try.prog.loopsFrom ·)) = true := by kernel_rfl
theorem fs : Rows.poolKeepsRow.plainKeys = true := by kernel_rfl
theorem ft : Rows.poolKeepsRow.shortTexts.isNone = true := by kernel_rfl
theorem fu : Rows.poolKeepsRow.lifted = false := by kernel_rfl
theorem fv : Rows.poolKeepsRow.make = .cut := by kernel_rfl
theorem fw : (Rows.poolKeepsRow.kinds == (if Rows.poolKeepsRow.domain.isEmpty then [] else Try.f22.params.toList.map fun t => match Try.prog.underlying t with | some (.int k) => some k | _ => Option.none)) = true := by kernel_rfl
theorem fx : (Rows.poolKeepsRow.pinned == Rows.poolKeepsRow.pinnedBy) = true := by kernel_rfl
theorem fy : (Rows.poolKeepsRow.veiled == (Try.f22.params.toList ++ Rows.poolKeepsSpec.plain.varTypes Try.prog ++ Try.f22.resultTypes.toList).any (Try.prog.veiledRec ·)) = true := by kernel_rfl
theorem fz : Rows.poolKeepsRow.veiledFits Try.prog Try.f22.params.toList (Try.f22.params.toList ++ Rows.poolKeepsSpec.plain.varTypes Try.prog ++ Try.f22.resultTypes.toList) = true := by kernel_rfl
set_option maxRecDepth 100000 in
theorem closed : joinedFacts Try.prog 22 Try.f22 Rows.poolKeepsSpec Rows.poolKeepsRow = true :=
  joined_try 22 Try.f22 Rows.poolKeepsSpec Rows.poolKeepsRow fa fb fc fd fe ff fg fh fi fj fk fl fm fn fo fp fq fr fs ft fu fv fw fx fy fz
theorem named : Try.prog.funcNamed Rows.poolKeepsRow.func = some 22 := by kernel_rfl
theorem inst : Func.isInstance Try.prog Try.f22 Rows.poolKeepsRow.origin Rows.poolKeepsRow.targs := of_decide_eq_true (by kernel_rfl)
theorem wrap : Func.isWrapper Try.prog Try.f22 Rows.poolKeepsRow.wrapper Rows.poolKeepsRow.mainSum := by
  unfold Func.isWrapper; rw [if_neg (of_decide_eq_false (by kernel_rfl))]; exact ⟨rfl, rfl⟩

theorem typed : (Try.f22.params.toList.all fun t => Try.prog.readableRec t && decide (t < Try.prog.types.size)) = true := by kernel_rfl
theorem noInit : Try.prog.inits.idxOf? 22 = none := by kernel_rfl

set_option maxRecDepth 100000 in
theorem lifted (os : Os) (started : os.Started) (H : Type) (enc : TypeId × Value → H) :
    ReturnsInHanded {} Try.checked os 22 .any (Rows.poolKeepsSpec.pre6 enc Try.prog Try.f22 Rows.poolKeepsRow.domain false) (Rows.poolKeepsSpec.post enc Try.prog Try.f22 false true false false) := by
  refine law_lifted (enc := enc) 22 Try.f22 Rows.poolKeepsSpec os started noInit Try.func22 rfl ?_ rfl ?_
    (ChangeSpec.witness6 (enc := enc) (C := Try.checked) false ⟨#[], #[.int .u8 0, .slice none 0 0], []⟩ 8 (by kernel_rfl) (by kernel_rfl) (by kernel_rfl) (by kernel_rfl)) ?_
  · intro ds h
    match ds, h with
    | [d0, d1], _ => rfl
  · intro t ht
    have := List.all_eq_true.1 typed t ht
    simpa using this
  intro W base args ds p hval hA hsz
  rw [Try.params22] at hA hval hsz
  obtain ⟨v0, vs0, d0, ds0, p0, q0, ha0, rfl, rfl, h0, r0⟩ := trodAll_cons hA
  obtain ⟨v1, vs1, d1, ds1, p1, q1, rfl, rfl, rfl, h1, r1⟩ := trodAll_cons r0
  obtain ⟨rfl, rfl, rfl⟩ := trodAll_nil r1
  obtain rfl : args = #[v0, v1] := by cases args; simp_all
  obtain ⟨a0, rfl, b0⟩ := open_u8 (hval 0 5 v0 rfl rfl) h0
  obtain ⟨a1, rfl, b1⟩ := open_bytes (hval 1 23 v1 rfl rfl) h1 (fun x hx => of_decide_eq_true (List.all_eq_true.1 hsz x (DataW.weights_mem_each (j := 1) rfl rfl x hx)))
  exact poolKeeps_any a0 a1 W b0 b1

theorem over : Rows.poolKeepsRow.holds Try.pinned (OpenSpec.ofChange Rows.poolKeepsSpec) :=
  OpenClaim.holds_of_wide 22 Try.f22 rfl rfl rfl rfl rfl rfl rfl ⟨rfl, rfl, rfl, rfl, rfl⟩ rfl rfl rfl rfl rfl named Try.func22 closed inst wrap
    (fun os started H enc _ => lifted os started H enc)

/-- The statement. -/
theorem proved : Rows.PoolKeepsSaid := over
#print axioms proved
end Go.Proofs.Ytfbjjblgcgjndaa.poolKeeps
