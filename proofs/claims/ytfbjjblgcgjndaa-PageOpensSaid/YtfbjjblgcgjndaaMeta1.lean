/- Contracts of page.may and of the reference's May. -/
import Derived.Test.YtfbjjblgcgjndaaPage6
set_option linter.unusedVariables false
set_option linter.unusedSimpArgs false
namespace Go.Proofs.Ytfbjjblgcgjndaa
open Go.RowKit

theorem beq_nat (a b : Nat) : ((((a : Int) == 0) = ((b : Int) == 0)) ↔ (a = 0 ↔ b = 0)) := by
  rw [Bool.eq_iff_iff]
  simp
theorem ret_bool {a b : Bool} (h : a = b) : Ending.returned (.bool a) = .returned (.bool b) := by rw [h]
structure Meta where
  gen : Nat
  root : Nat
  free : Nat
  pages : Nat
  keys : Nat
deriving DecidableEq
def Meta.cells (m : Meta) : Array Value := #[.int .u64 (m.gen : Int), .int .u32 (m.root : Int), .int .u32 (m.free : Int), .int .u32 (m.pages : Int), .int .u64 (m.keys : Int)]
def Meta.val (m : Meta) : Value := .agg m.cells
structure Meta.Ok (m : Meta) : Prop where
  gen : m.gen < 18446744073709551616
  root : m.root < 4294967296
  free : m.free < 4294967296
  pages : m.pages < 4294967296
  keys : m.keys < 18446744073709551616
def MayBe (m : Meta) : Prop := (1 ≤ m.gen ∧ m.gen ≤ 4611686018427387904 ∧ 2 ≤ m.pages ∧ m.pages ≤ 16384 ∧ m.keys ≤ 4611686018427387904) ∧ (m.root = 0 ∨ (2 ≤ m.root ∧ m.root < m.pages)) ∧ (m.free = 0 ∨ (2 ≤ m.free ∧ m.free < m.pages)) ∧ (m.root ≠ m.free ∨ m.root = 0) ∧ (m.keys = 0 ↔ m.root = 0)
instance (m : Meta) : Decidable (MayBe m) := inferInstanceAs (Decidable (_ ∧ _ ∧ _ ∧ _ ∧ _))

set_option maxRecDepth 100000 in
set_option maxHeartbeats 2000000 in
theorem rmay_any (m : Meta) (w : World) (h : m.Ok) :
    Calls Try.prog 140 #[m.val] w fun e w' => e = .returned (.bool (decide (MayBe m))) ∧ Below w.heap.size w w' := by
  obtain ⟨g, r, f, p, k⟩ := m
  obtain ⟨h1, h2, h3, h4, h5⟩ := h
  simp only at h1 h2 h3 h4 h5
  unfold Meta.val Meta.cells
  simp only
  obtain ⟨D, hD, hiff⟩ : ∃ D, decide (MayBe ⟨g, r, f, p, k⟩) = D ∧ (D = true ↔ (1 ≤ g ∧ g ≤ 4611686018427387904 ∧ 2 ≤ p ∧ p ≤ 16384 ∧ k ≤ 4611686018427387904) ∧ (r = 0 ∨ (2 ≤ r ∧ r < p)) ∧ (f = 0 ∨ (2 ≤ f ∧ f < p)) ∧ (r ≠ f ∨ r = 0) ∧ (k = 0 ↔ r = 0)) := ⟨_, rfl, decide_eq_true_iff⟩
  rw [hD]
  have HD := Lib.hid hiff
  clear hiff hD
  go_enter Try.func140, Try.ntmps140
  go_wp2
  all_goals
    go_ret
    refine ⟨ret_bool ?_, below_alloc0 (Below.refl _ _) _⟩
    rw [Bool.eq_iff_iff, HD.out]
    clear HD
    simp [beq_nat] at *
    omega

set_option maxRecDepth 100000 in
set_option maxHeartbeats 2000000 in
theorem may_any (m : Meta) (w : World) (h : m.Ok) :
    Calls Try.prog 139 #[m.val] w fun e w' => e = .returned (.bool (decide (MayBe m))) ∧ Below w.heap.size w w' := by
  obtain ⟨g, r, f, p, k⟩ := m
  obtain ⟨h1, h2, h3, h4, h5⟩ := h
  simp only at h1 h2 h3 h4 h5
  unfold Meta.val Meta.cells
  simp only
  obtain ⟨D, hD, hiff⟩ : ∃ D, decide (MayBe ⟨g, r, f, p, k⟩) = D ∧ (D = true ↔ (1 ≤ g ∧ g ≤ 4611686018427387904 ∧ 2 ≤ p ∧ p ≤ 16384 ∧ k ≤ 4611686018427387904) ∧ (r = 0 ∨ (2 ≤ r ∧ r < p)) ∧ (f = 0 ∨ (2 ≤ f ∧ f < p)) ∧ (r ≠ f ∨ r = 0) ∧ (k = 0 ↔ r = 0)) := ⟨_, rfl, decide_eq_true_iff⟩
  rw [hD]
  have HD := Lib.hid hiff
  clear hiff hD
  have hmf : ∀ (fn : Fn) (first cap : Array Value) (w : World), (Instr.makeFunc fn first cap).run Try.prog w = .ok (.func fn first cap) w := fun _ _ _ _ => rfl
  go_enter Try.func139, Try.ntmps139
  go_wp2
  all_goals
    go_ret
    refine ⟨ret_bool ?_, below_alloc0 (Below.refl _ _) _⟩
    rw [Bool.eq_iff_iff, HD.out]
    clear HD
    simp [beq_nat] at *
    omega
end Go.Proofs.Ytfbjjblgcgjndaa
