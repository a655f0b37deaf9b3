/- DiskKeeps: for every input the law returns true, and each argument reads afterwards as it read before. No conditions. -/
import Derived.Test.YtfbjjblgcgjndaaRows
import Derived.Test.YtfbjjblgcgjndaaOpen4
import Derived.Test.YtfbjjblgcgjndaaFacts
import Derived.Test.YtfbjjblgcgjndaaKeeps
set_option linter.unusedVariables false
set_option linter.unusedSimpArgs false
namespace Go.Proofs.Ytfbjjblgcgjndaa.diskKeeps
open Go.ChangeShapes Go.WideShapes Go.ChangeAt Go.RowKit

theorem fa : Rows.diskKeepsRow.wf (OpenSpec.ofChange Rows.diskKeepsSpec) = true := by kernel_rfl
theorem fb : Try.f11.params.all (Try.prog.readableRec ·) = true := by kernel_rfl
theorem fc : namedTie Try.prog Rows.diskKeepsRow.named Rows.diskKeepsSpec.vars = true := by kernel_rfl
theorem fd : (Rows.diskKeepsRow.stops == []) = true := by kernel_rfl
theorem fe : (Rows.diskKeepsRow.knobs == []) = true := by kernel_rfl
theorem ff : (Rows.diskKeepsRow.inPlace == Try.prog.inPlace 11) = true := by kernel_rfl
theorem fg : (Rows.diskKeepsRow.unfollowed == Try.prog.unfollowed 11) = true := by kernel_rfl
theorem fh : (Rows.diskKeepsRow.recurses == Try.prog.recurses 11) = true := by kernel_rfl
theorem fi : (Rows.diskKeepsRow.named == Try.prog.varsNamed 11) = true := by kernel_rfl
theorem fj : (Rows.diskKeepsRow.maps == (Try.f11.params.toList ++ Rows.diskKeepsSpec.plain.varTypes Try.prog).any (Try.prog.mapsRec ·)) = true := by kernel_rfl
theorem fk : (Rows.diskKeepsRow.ifaces == (Try.f11.params.toList ++ Rows.diskKeepsSpec.plain.varTypes Try.prog).any (Try.prog.ifacesRec ·)) = true := by kernel_rfl
theorem fl : (Rows.diskKeepsRow.mapsOut == Try.prog.mapsAmong Try.f11.resultTypes.toList) = true := by kernel_rfl
theorem fm : (Rows.diskKeepsRow.loops == (Try.f11.params.toList ++ Rows.diskKeepsSpec.plain.varTypes Try.prog).any (Try.prog.loopsFrom ·)) = true := by kernel_rfl
theorem fn : (Rows.diskKeepsRow.wideKeys == (Try.f11.params.toList ++ Rows.diskKeepsSpec.plain.varTypes Try.prog ++ Try.f11.resultTypes.toList).any (Try.prog.wideKeysFrom ·)) = true := by kernel_rfl
theorem fo : Rows.diskKeepsSpec.vars.all (Try.prog.varReadable ·) = true := by kernel_rfl
theorem fp : Try.f11.resultTypes.all (fun t => Try.prog.readableRec t && decide (t < Try.prog.types.size)) = true := by kernel_rfl
theorem fq : (Rows.diskKeepsRow.ifacesOut == Try.f11.resultTypes.toList.any (Try.prog.ifacesRec ·)) = true := by kernel_rfl
theorem fr : (Rows.diskKeepsRow.loopsOut == Try.f11.resultTypes.toList.any (Try.prog.loopsFrom ·)) = true := by kernel_rfl
theorem fs : Rows.diskKeepsRow.plainKeys = true := by kernel_rfl
theorem ft : Rows.diskKeepsRow.shortTexts.isNone = true := by kernel_rfl
theorem fu : Rows.diskKeepsRow.lifted = false := by kernel_rfl
theorem fv : Rows.diskKeepsRow.make = .cut := by kernel_rfl
theorem fw : (Rows.diskKeepsRow.kinds == (if Rows.diskKeepsRow.domain.isEmpty then [] else Try.f11.params.toList.map fun t => match Try.prog.underlying t with | some (.int k) => some k | _ => Option.none)) = true := by kernel_rfl
theorem fx : (Rows.diskKeepsRow.pinned == Rows.diskKeepsRow.pinnedBy) = true := by kernel_rfl
theorem fy : (Rows.diskKeepsRow.veiled == (Try.f11.params.toList ++ Rows.diskKeepsSpec.plain.varTypes Try.prog ++ Try.f11.resultTypes.toList).any (Try.prog.veiledRec ·)) = true := by kernel_rfl
theorem fz : Rows.diskKeepsRow.veiledFits Try.prog Try.f11.params.toList (Try.f11.params.toList ++ Rows.diskKeepsSpec.plain.varTypes Try.prog ++ Try.f11.resultTypes.toList) = true := by kernel_rfl
set_option maxRecDepth 100000 in
theorem closed : joinedFacts Try.prog 11 Try.f11 Rows.diskKeepsSpec Rows.diskKeepsRow = true :=
  joined_try 11 Try.f11 Rows.diskKeepsSpec Rows.diskKeepsRow fa fb fc fd fe ff fg fh fi fj fk fl fm fn fo fp fq fr fs ft fu fv fw fx fy fz
theorem named : Try.prog.funcNamed Rows.diskKeepsRow.func = some 11 := by kernel_rfl
theorem inst : Func.isInstance Try.prog Try.f11 Rows.diskKeepsRow.origin Rows.diskKeepsRow.targs := of_decide_eq_true (by kernel_rfl)
theorem wrap : Func.isWrapper Try.prog Try.f11 Rows.diskKeepsRow.wrapper Rows.diskKeepsRow.mainSum := by
  unfold Func.isWrapper; rw [if_neg (of_decide_eq_false (by kernel_rfl))]; exact ⟨rfl, rfl⟩

theorem typed : (Try.f11.params.toList.all fun t => Try.prog.readableRec t && decide (t < Try.prog.types.size)) = true := by kernel_rfl
theorem noInit : Try.prog.inits.idxOf? 11 = none := by kernel_rfl

set_option maxRecDepth 100000 in
theorem lifted (os : Os) (started : os.Started) (H : Type) (enc : TypeId × Value → H) :
    ReturnsInHanded {} Try.checked os 11 .any (Rows.diskKeepsSpec.pre6 enc Try.prog Try.f11 Rows.diskKeepsRow.domain false) (Rows.diskKeepsSpec.post enc Try.prog Try.f11 false true false false) := by
  refine law_lifted (enc := enc) 11 Try.f11 Rows.diskKeepsSpec os started noInit Try.func11 rfl ?_ rfl ?_
    (ChangeSpec.witness6 (enc := enc) (C := Try.checked) false ⟨#[], #[.int .u8 0, .slice none 0 0, .slice none 0 0, .slice none 0 0], []⟩ 8 (by kernel_rfl) (by kernel_rfl) (by kernel_rfl) (by kernel_rfl)) ?_
  · intro ds h
    match ds, h with
    | [d0, d1, d2, d3], _ => rfl
  · intro t ht
    have := List.all_eq_true.1 typed t ht
    simpa using this
  intro W base args ds p hval hA hsz
  rw [Try.params11] at hA hval hsz
  obtain ⟨v0, vs0, d0, ds0, p0, q0, ha0, rfl, rfl, h0, r0⟩ := trodAll_cons hA
  obtain ⟨v1, vs1, d1, ds1, p1, q1, rfl, rfl, rfl, h1, r1⟩ := trodAll_cons r0
  obtain ⟨v2, vs2, d2, ds2, p2, q2, rfl, rfl, rfl, h2, r2⟩ := trodAll_cons r1
  obtain ⟨v3, vs3, d3, ds3, p3, q3, rfl, rfl, rfl, h3, r3⟩ := trodAll_cons r2
  obtain ⟨rfl, rfl, rfl⟩ := trodAll_nil r3
  obtain rfl : args = #[v0, v1, v2, v3] := by cases args; simp_all
  obtain ⟨a0, rfl, b0⟩ := open_u8 (hval 0 5 v0 rfl rfl) h0
  obtain ⟨a1, rfl, b1⟩ := open_shorts (hval 1 84 v1 rfl rfl) h1 (fun x hx => of_decide_eq_true (List.all_eq_true.1 hsz x (DataW.weights_mem_each (j := 1) rfl rfl x hx)))
  obtain ⟨a2, rfl, b2⟩ := open_shorts (hval 2 84 v2 rfl rfl) h2 (fun x hx => of_decide_eq_true (List.all_eq_true.1 hsz x (DataW.weights_mem_each (j := 2) rfl rfl x hx)))
  obtain ⟨a3, rfl, b3⟩ := open_bools (hval 3 73 v3 rfl rfl) h3 (fun x hx => of_decide_eq_true (List.all_eq_true.1 hsz x (DataW.weights_mem_each (j := 3) rfl rfl x hx)))
  exact diskKeeps_any a0 a1.A a2.A a3.A a1.c a2.c a3.c a1.l a2.l a3.l W b0 b1.lies b1.all b2.lies b2.all b3.lies (Nat.le_trans b1.small (by omega)) (Nat.le_trans b2.small (by omega)) (Nat.le_trans b3.small (by omega))

theorem over : Rows.diskKeepsRow.holds Try.pinned (OpenSpec.ofChange Rows.diskKeepsSpec) :=
  OpenClaim.holds_of_wide 11 Try.f11 rfl rfl rfl rfl rfl rfl rfl ⟨rfl, rfl, rfl, rfl, rfl⟩ rfl rfl rfl rfl rfl named Try.func11 closed inst wrap
    (fun os started H enc _ => lifted os started H enc)

/-- The statement. -/
theorem proved : Rows.DiskKeepsSaid := over
#print axioms proved
end Go.Proofs.Ytfbjjblgcgjndaa.diskKeeps
