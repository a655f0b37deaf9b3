/- DiskFails: for every input the law returns true, and each argument reads afterwards as it read before. No conditions. -/
import Derived.Test.YtfbjjblgcgjndaaRows
import Derived.Test.YtfbjjblgcgjndaaOpen4
import Derived.Test.YtfbjjblgcgjndaaFacts
import Derived.Test.YtfbjjblgcgjndaaFails
set_option linter.unusedVariables false
set_option linter.unusedSimpArgs false
namespace Go.Proofs.Ytfbjjblgcgjndaa.diskFails
open Go.ChangeShapes Go.WideShapes Go.ChangeAt Go.RowKit

theorem fa : Rows.diskFailsRow.wf (OpenSpec.ofChange Rows.diskFailsSpec) = true := by kernel_rfl
theorem fb : Try.f12.params.all (Try.prog.readableRec ·) = true := by kernel_rfl
theorem fc : namedTie Try.prog Rows.diskFailsRow.named Rows.diskFailsSpec.vars = true := by kernel_rfl
theorem fd : (Rows.diskFailsRow.stops == []) = true := by kernel_rfl
theorem fe : (Rows.diskFailsRow.knobs == []) = true := by kernel_rfl
theorem ff : (Rows.diskFailsRow.inPlace == Try.prog.inPlace 12) = true := by kernel_rfl
theorem fg : (Rows.diskFailsRow.unfollowed == Try.prog.unfollowed 12) = true := by kernel_rfl
theorem fh : (Rows.diskFailsRow.recurses == Try.prog.recurses 12) = true := by kernel_rfl
theorem fi : (Rows.diskFailsRow.named == Try.prog.varsNamed 12) = true := by kernel_rfl
theorem fj : (Rows.diskFailsRow.maps == (Try.f12.params.toList ++ Rows.diskFailsSpec.plain.varTypes Try.prog).any (Try.prog.mapsRec ·)) = true := by kernel_rfl
theorem fk : (Rows.diskFailsRow.ifaces == (Try.f12.params.toList ++ Rows.diskFailsSpec.plain.varTypes Try.prog).any (Try.prog.ifacesRec ·)) = true := by kernel_rfl
theorem fl : (Rows.diskFailsRow.mapsOut == Try.prog.mapsAmong Try.f12.resultTypes.toList) = true := by kernel_rfl
theorem fm : (Rows.diskFailsRow.loops == (Try.f12.params.toList ++ Rows.diskFailsSpec.plain.varTypes Try.prog).any (Try.prog.loopsFrom ·)) = true := by kernel_rfl
theorem fn : (Rows.diskFailsRow.wideKeys == (Try.f12.params.toList ++ Rows.diskFailsSpec.plain.varTypes Try.prog ++ Try.f12.resultTypes.toList).any (Try.prog.wideKeysFrom ·)) = true := by kernel_rfl
theorem fo : Rows.diskFailsSpec.vars.all (Try.prog.varReadable ·) = true := by kernel_rfl
theorem fp : Try.f12.resultTypes.all (fun t => Try.prog.readableRec t && decide (t < Try.prog.types.size)) = true := by kernel_rfl
theorem fq : (Rows.diskFailsRow.ifacesOut == Try.f12.resultTypes.toList.any (Try.prog.ifacesRec ·)) = true := by kernel_rfl
theorem fr : (Rows.diskFailsRow.loopsOut == Try.f12.resultTypes.toList.any (Try.prog.loopsFrom ·)) = true := by kernel_rfl
theorem fs : Rows.diskFailsRow.plainKeys = true := by kernel_rfl
theorem ft : Rows.diskFailsRow.shortTexts.isNone = true := by kernel_rfl
theorem fu : Rows.diskFailsRow.lifted = false := by kernel_rfl
theorem fv : Rows.diskFailsRow.make = .cut := by kernel_rfl
theorem fw : (Rows.diskFailsRow.kinds == (if Rows.diskFailsRow.domain.isEmpty then [] else Try.f12.params.toList.map fun t => match Try.prog.underlying t with | some (.int k) => some k | _ => Option.none)) = true := by kernel_rfl
theorem fx : (Rows.diskFailsRow.pinned == Rows.diskFailsRow.pinnedBy) = true := by kernel_rfl
theorem fy : (Rows.diskFailsRow.veiled == (Try.f12.params.toList ++ Rows.diskFailsSpec.plain.varTypes Try.prog ++ Try.f12.resultTypes.toList).any (Try.prog.veiledRec ·)) = true := by kernel_rfl
theorem fz : Rows.diskFailsRow.veiledFits Try.prog Try.f12.params.toList (Try.f12.params.toList ++ Rows.diskFailsSpec.plain.varTypes Try.prog ++ Try.f12.resultTypes.toList) = true := by kernel_rfl
set_option maxRecDepth 100000 in
theorem closed : joinedFacts Try.prog 12 Try.f12 Rows.diskFailsSpec Rows.diskFailsRow = true :=
  joined_try 12 Try.f12 Rows.diskFailsSpec Rows.diskFailsRow fa fb fc fd fe ff fg fh fi fj fk fl fm fn fo fp fq fr fs ft fu fv fw fx fy fz
theorem named : Try.prog.funcNamed Rows.diskFailsRow.func = some 12 := by kernel_rfl
theorem inst : Func.isInstance Try.prog Try.f12 Rows.diskFailsRow.origin Rows.diskFailsRow.targs := of_decide_eq_true (by kernel_rfl)
theorem wrap : Func.isWrapper Try.prog Try.f12 Rows.diskFailsRow.wrapper Rows.diskFailsRow.mainSum := by
  unfold Func.isWrapper; rw [if_neg (of_decide_eq_false (by kernel_rfl))]; exact ⟨rfl, rfl⟩

theorem typed : (Try.f12.params.toList.all fun t => Try.prog.readableRec t && decide (t < Try.prog.types.size)) = true := by kernel_rfl
theorem noInit : Try.prog.inits.idxOf? 12 = none := by kernel_rfl

set_option maxRecDepth 100000 in
theorem lifted (os : Os) (started : os.Started) (H : Type) (enc : TypeId × Value → H) :
    ReturnsInHanded {} Try.checked os 12 .any (Rows.diskFailsSpec.pre6 enc Try.prog Try.f12 Rows.diskFailsRow.domain false) (Rows.diskFailsSpec.post enc Try.prog Try.f12 false true false false) := by
  refine law_lifted (enc := enc) 12 Try.f12 Rows.diskFailsSpec os started noInit Try.func12 rfl ?_ rfl ?_
    (ChangeSpec.witness6 (enc := enc) (C := Try.checked) false ⟨#[], #[.int .u8 0, .int .u8 0, .slice none 0 0], []⟩ 8 (by kernel_rfl) (by kernel_rfl) (by kernel_rfl) (by kernel_rfl)) ?_
  · intro ds h
    match ds, h with
    | [d0, d1, d2], _ => rfl
  · intro t ht
    have := List.all_eq_true.1 typed t ht
    simpa using this
  intro W base args ds p hval hA hsz
  rw [Try.params12] at hA hval hsz
  obtain ⟨v0, vs0, d0, ds0, p0, q0, ha0, rfl, rfl, h0, r0⟩ := trodAll_cons hA
  obtain ⟨v1, vs1, d1, ds1, p1, q1, rfl, rfl, rfl, h1, r1⟩ := trodAll_cons r0
  obtain ⟨v2, vs2, d2, ds2, p2, q2, rfl, rfl, rfl, h2, r2⟩ := trodAll_cons r1
  obtain ⟨rfl, rfl, rfl⟩ := trodAll_nil r2
  obtain rfl : args = #[v0, v1, v2] := by cases args; simp_all
  obtain ⟨a0, rfl, b0⟩ := open_u8 (hval 0 5 v0 rfl rfl) h0
  obtain ⟨a1, rfl, b1⟩ := open_u8 (hval 1 5 v1 rfl rfl) h1
  obtain ⟨a2, rfl, b2⟩ := open_shorts (hval 2 84 v2 rfl rfl) h2 (fun x hx => of_decide_eq_true (List.all_eq_true.1 hsz x (DataW.weights_mem_each (j := 2) rfl rfl x hx)))
  exact diskFails_any a0 a1 a2.A a2.c a2.l W b0 b1 b2.lies b2.all (Nat.le_trans b2.small (by omega))

theorem over : Rows.diskFailsRow.holds Try.pinned (OpenSpec.ofChange Rows.diskFailsSpec) :=
  OpenClaim.holds_of_wide 12 Try.f12 rfl rfl rfl rfl rfl rfl rfl ⟨rfl, rfl, rfl, rfl, rfl⟩ rfl rfl rfl rfl rfl named Try.func12 closed inst wrap
    (fun os started H enc _ => lifted os started H enc)

/-- The statement. -/
theorem proved : Rows.DiskFailsSaid := over
#print axioms proved
end Go.Proofs.Ytfbjjblgcgjndaa.diskFails
