/- PoolDoes: for every input the law returns true, and each argument reads afterwards as it read before. No conditions. -/
import Derived.Test.YtfbjjblgcgjndaaGreatRows
import Derived.Test.YtfbjjblgcgjndaaGreatPz8
set_option linter.unusedVariables false
set_option linter.unusedSimpArgs false
namespace Go.Proofs.YtfbjjblgcgjndaaGreat.poolDoes
open Go.ChangeShapes Go.WideShapes Go.ChangeAt Go.RowKit

theorem closed : joinedFacts Tryz.prog 3 Tryz.f3 Rows.poolDoesSpec Rows.poolDoesRow = true := by kernel_rfl
theorem named : Tryz.prog.funcNamed Rows.poolDoesRow.func = some 3 := by kernel_rfl
theorem inst : Func.isInstance Tryz.prog Tryz.f3 Rows.poolDoesRow.origin Rows.poolDoesRow.targs := of_decide_eq_true (by kernel_rfl)
theorem wrap : Func.isWrapper Tryz.prog Tryz.f3 Rows.poolDoesRow.wrapper Rows.poolDoesRow.mainSum := by
  unfold Func.isWrapper; rw [if_neg (of_decide_eq_false (by kernel_rfl))]; exact ⟨rfl, rfl⟩

theorem typed : (Tryz.f3.params.toList.all fun t => Tryz.prog.readableRec t && decide (t < Tryz.prog.types.size)) = true := by kernel_rfl
theorem noInit : Tryz.prog.inits.idxOf? 3 = none := by kernel_rfl

set_option maxRecDepth 100000 in
theorem lifted (os : Os) (started : os.Started) (H : Type) (enc : TypeId × Value → H) :
    ReturnsInHanded {} Tryz.checked os 3 .any (Rows.poolDoesSpec.pre6 enc Tryz.prog Tryz.f3 Rows.poolDoesRow.domain false) (Rows.poolDoesSpec.post enc Tryz.prog Tryz.f3 false true false false) := by
  refine law_lifted (enc := enc) 3 Tryz.f3 Rows.poolDoesSpec os started noInit Tryz.func3 rfl ?_ rfl ?_
    (ChangeSpec.witness6 (enc := enc) (C := Tryz.checked) false ⟨#[], #[.int .i64 0, .int .i64 0, .slice none 0 0, .slice none 0 0], []⟩ 8 (by kernel_rfl) (by kernel_rfl) (by kernel_rfl) (by kernel_rfl)) ?_
  · intro ds h
    match ds, h with
    | [d0, d1, d2, d3], _ => rfl
  · intro t ht
    have := List.all_eq_true.1 typed t ht
    simpa using this
  intro W base args ds p hval hA hsz
  rw [Tryz.params3] at hA hval hsz
  obtain ⟨v0, vs0, d0, ds0, p0, q0, ha0, rfl, rfl, h0, r0⟩ := trodAll_cons hA
  obtain ⟨v1, vs1, d1, ds1, p1, q1, rfl, rfl, rfl, h1, r1⟩ := trodAll_cons r0
  obtain ⟨v2, vs2, d2, ds2, p2, q2, rfl, rfl, rfl, h2, r2⟩ := trodAll_cons r1
  obtain ⟨v3, vs3, d3, ds3, p3, q3, rfl, rfl, rfl, h3, r3⟩ := trodAll_cons r2
  obtain ⟨rfl, rfl, rfl⟩ := trodAll_nil r3
  obtain rfl : args = #[v0, v1, v2, v3] := by cases args; simp_all
  obtain ⟨a0, rfl, b0⟩ := open_i64 (hval 0 3 v0 rfl rfl) h0
  obtain ⟨a1, rfl, b1⟩ := open_i64 (hval 1 3 v1 rfl rfl) h1
  obtain ⟨a2, rfl, b2⟩ := open_bytes (hval 2 22 v2 rfl rfl) h2 (fun x hx => of_decide_eq_true (List.all_eq_true.1 hsz x (DataW.weights_mem_each (j := 2) rfl rfl x hx)))
  obtain ⟨a3, rfl, b3⟩ := open_pacts (hval 3 23 v3 rfl rfl) h3 (fun x hx => of_decide_eq_true (List.all_eq_true.1 hsz x (DataW.weights_mem_each (j := 3) rfl rfl x hx)))
  exact poolDoes_any a0 a1 a2 a3 W b0 b1 b2 b3

theorem over : Rows.poolDoesRow.holds Tryz.pinned (OpenSpec.ofChange Rows.poolDoesSpec) :=
  OpenClaim.holds_of_wide 3 Tryz.f3 rfl rfl rfl rfl rfl rfl rfl ⟨rfl, rfl, rfl, rfl, rfl⟩ rfl rfl rfl rfl rfl named Tryz.func3 closed inst wrap
    (fun os started H enc _ => lifted os started H enc)

/-- The statement. -/
theorem proved : Rows.PoolDoesSaid := over
#print axioms proved
end Go.Proofs.YtfbjjblgcgjndaaGreat.poolDoes
