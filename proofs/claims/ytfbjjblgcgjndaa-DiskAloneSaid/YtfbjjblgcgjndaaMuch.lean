/- Contract of the disk laws' much. -/
import Derived.Test.YtfbjjblgcgjndaaOpen5
set_option linter.unusedVariables false
set_option linter.unusedSimpArgs false
namespace Go.Proofs.Ytfbjjblgcgjndaa
open Go.RowKit

def MuchGives (n : Nat) (w : World) (e : Ending) (w' : World) : Prop := ∃ b, e = .returned (.bool b) ∧ (b = false → n ≤ 2000000) ∧ Below w.heap.size w w'
theorem act_mem {l : List ActD} {k : Nat} (h : k < l.length) : ∃ a, l[k]? = some a ∧ a ∈ l := ⟨l[k], List.getElem?_eq_getElem h, List.getElem_mem _⟩
set_option maxRecDepth 100000 in
set_option maxHeartbeats 1000000 in
theorem much_any (pg : Nat) (s : Acts) (w : World) (hp : pg ≤ 16384) (hs : s.Ok w) : Calls Try.prog 61 #[.int .i64 (pg : Int), .slice s.A s.l.length s.c] w (MuchGives s.l.length w) := by
  obtain ⟨A, l, c⟩ := s
  have hsm := hs.small
  simp only at hsm ⊢
  have HAT := Lib.hid hs.lies
  have HAL := Lib.hid hs.all
  clear hs
  go_enter Try.func61, Try.ntmps61
  go_wp2_with fail
  go_loopw [5, 6] (fun n i wr => ∃ k : Nat, k ≤ l.length ∧ i = .int .i64 k ∧ (∃ m : Nat, n = .int .i64 (m : Int) ∧ k ≤ m ∧ m ≤ 1000000000000000) ∧ Below w.heap.size w wr) (fun _ i _ => l.length - (intOf i).toNat)
  case atStart => exact ⟨0, by omega, rfl, ⟨0, rfl, by omega, by omega⟩, Below.refl _ _⟩
  case round =>
    obtain ⟨k, hk, rfl, ⟨m, rfl, hkm, hm⟩, hb⟩ := hrel
    by_cases hlt : k < l.length ∧ m ≤ 2000000
    · obtain ⟨h1, h2⟩ := hlt
      obtain ⟨a, ha, hmem⟩ := act_mem h1
      have hok := HAL.out a hmem
      obtain ⟨b, o, rfl, hcell⟩ := act_cell (HAT.out.below hb) k a ha
      have c0 : wr.cell? ⟨b, o + k * 5, none⟩ = some (.int .u8 (a.kind : Int)) := hcell 0 (by omega)
      have c3 : wr.cell? ⟨b, o + k * 5 + 3, none⟩ = some (.slice a.data.A a.data.l.length a.data.c) := hcell 3 (by omega)
      have c4 : wr.cell? ⟨b, o + k * 5 + 4, none⟩ = some (.slice a.keep.A a.keep.l.length a.keep.c) := hcell 4 (by omega)
      have d1 := hok.data.small
      have d2 := hok.keep.small
      have d3 := hok.kind
      obtain ⟨x, hx⟩ : ∃ x, x = a.data.l.length := ⟨_, rfl⟩
      obtain ⟨y, hy⟩ : ∃ y, y = a.keep.l.length := ⟨_, rfl⟩
      rw [← hx] at c3 d1
      rw [← hy] at c4 d2
      generalize a.kind = kd at *
      have h3 : (k : Int) < (l.length : Int) := by omega
      have h4 : (m : Int) ≤ 2000000 := by omega
      have e1 : IntKind.i64.wrap ((x : Int) + (y : Int)) = (x : Int) + (y : Int) := by rw [IntKind.wrap_i64]; omega
      have e2 : IntKind.i64.wrap ((x : Int) + (y : Int) + 1) = (x : Int) + (y : Int) + 1 := by rw [IntKind.wrap_i64]; omega
      have e3 : IntKind.i64.wrap ((m : Int) + ((x : Int) + (y : Int) + 1)) = (m : Int) + ((x : Int) + (y : Int) + 1) := by rw [IntKind.wrap_i64]; omega
      have HB := Lib.hid hb
      clear hb hcell hok ha hmem hx hy
      by_cases h6 : kd % 9 = 6
      · have g1 : ((kd : Int) % 9 == 6) = true := by simp; omega
        have g2 : (kd : Int) % 9 = 6 := by omega
        clear h6
        go_wp2_with fail
        go_quiet (fail)
        go_wp2_with fail
        case roundEnd => exact ⟨⟨k + 1, by omega, by go_num, ⟨m + (x + y + 1) + pg * 1024, by push_cast; rfl, by omega, by omega⟩, below_drewN HB.out _⟩, by simp only [intOf]; omega⟩
      · have g1 : ((kd : Int) % 9 == 6) = false := by simp; omega
        have g2 : ¬ (kd : Int) % 9 = 6 := by omega
        clear h6
        go_wp2_with fail
        go_quiet (fail)
        go_wp2_with fail
        case roundEnd => exact ⟨⟨k + 1, by omega, by go_num, ⟨m + (x + y + 1), by push_cast; rfl, by omega, by omega⟩, below_drewN HB.out _⟩, by simp only [intOf]; omega⟩
    · have hfin : ¬ (2000000 < m) → l.length ≤ 2000000 := by omega
      have HF := Lib.hid hfin
      clear hfin
      go_wp2_with fail
      · go_ret
        exact ⟨true, rfl, fun h => (by cases h), hb⟩
      · go_ret
        exact ⟨decide ((2000000 : Int) < (m : Int)), rfl, fun h => HF.out (by have := of_decide_eq_false h; omega), hb⟩
end Go.Proofs.Ytfbjjblgcgjndaa
