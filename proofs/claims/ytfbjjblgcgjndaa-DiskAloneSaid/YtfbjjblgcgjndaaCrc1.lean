/- Contract of crc.half: the table of sixteen numbers, in a new block. -/
import Derived.Test.YtfbjjblgcgjndaaLib
import Derived.Test.YtfbjjblgcgjndaaCrcMath
namespace Go.Proofs.Ytfbjjblgcgjndaa
open Go.RowKit

def tabAt (k : Nat) : Array Value := ((List.range 16).map fun j => Value.int .u32 (if j < k then (Crc.It 4 j : Nat) else (0 : Nat))).toArray
theorem tabAt_get (k j : Nat) (h : j < 16) : (tabAt k)[j]? = some (Value.int .u32 (if j < k then (Crc.It 4 j : Nat) else (0 : Nat))) := by
  simp [tabAt, h]
theorem tabAt_size (k : Nat) : (tabAt k).size = 16 := by simp [tabAt]
theorem tabAt_set (k : Nat) (h : k < 16) : (tabAt k).setIfInBounds k (.int .u32 (Crc.It 4 k : Nat)) = tabAt (k + 1) := by
  apply Array.ext_getElem?
  intro i
  by_cases hi : i < 16
  · rw [Array.getElem?_setIfInBounds, tabAt_get (k + 1) i hi, tabAt_size, if_pos h, tabAt_get k i hi]
    by_cases e : k = i
    · rw [if_pos e, ← e, if_pos (by omega)]
    · rw [if_neg e]
      by_cases hik : i < k
      · rw [if_pos hik, if_pos (by omega)]
      · rw [if_neg hik, if_neg (by omega)]
  · rw [Array.getElem?_eq_none (by rw [Array.size_setIfInBounds, tabAt_size]; omega), Array.getElem?_eq_none (by rw [tabAt_size]; omega)]
theorem tabAt_one (k : Nat) : (tabAt k).all (·.oneCell') = true := by
  rw [Array.all_eq_true_iff_forall_mem]
  intro v hv
  simp [tabAt] at hv
  obtain ⟨a, _, rfl⟩ := hv
  rfl
theorem Try.size145 : (Try.prog.info? 145).map (·.size) = some 16 := by kernel_rfl

theorem step_T (n : Nat) (h : n < 4294967296) :
    bits BinOp.xor IntKind.u32 ((n : Int) / 2) (2197175160 * bits BinOp.and IntKind.u32 (n : Int) 1 % 4294967296) = ((Crc.T n : Nat) : Int) := by
  have h1 : bits BinOp.and IntKind.u32 (n : Int) 1 = ((n % 2 : Nat) : Int) := by
    have := u32_and_nat n 1 h (by omega)
    rw [nat_mask1] at this
    exact this
  rw [h1]
  unfold Crc.T
  have h2 : (n : Int) / 2 = ((n / 2 : Nat) : Int) := by omega
  rw [h2]
  rcases Nat.mod_two_eq_zero_or_one n with hn | hn
  · rw [if_neg (by omega), hn]
    have := u32_xor_nat (n / 2) 0 (by omega) (by omega)
    rw [Nat.xor_zero] at this
    exact this
  · rw [if_pos hn, hn]
    exact u32_xor_nat (n / 2) 2197175160 (by omega) (by omega)

set_option maxHeartbeats 400000 in
theorem half_any (w : World) : Calls Try.prog 89 #[] w fun e w' => e = .returned (.agg (tabAt 16)) ∧ w.alloc (.cells (tabAt 16) 145) = w' := by
  go_enter Try.func89, Try.ntmps89
  go_wp2
  go_loopw [3] (fun i wr => ∃ k : Nat, k ≤ 16 ∧ i = .int .i64 k ∧ wr = w.alloc (.cells (tabAt k) 145)) (fun i _ => 16 - (intOf i).toNat)
  case atStart => exact ⟨0, by omega, rfl, rfl⟩
  case round =>
    obtain ⟨k, hk, rfl, rfl⟩ := hrel
    by_cases hlt : k < 16
    · have hget : (tabAt k)[k]? = some (Value.int .u32 0) := by rw [tabAt_get k k hlt, if_neg (by omega)]; rfl
      have hset := Lib.hid (tabAt_set k hlt)
      go_wp2
      go_loop [2, 8] (fun n j => ∃ i : Nat, i ≤ 4 ∧ j = .int .i64 i ∧ n = .int .u32 (Crc.It i k : Nat)) (fun _ j => 4 - (intOf j).toNat)
      case atStart => exact ⟨0, by omega, rfl, rfl⟩
      case round =>
        obtain ⟨i, hi, rfl, rfl⟩ := hrel
        have hb : Crc.It i k < 4294967296 := Crc.It_lt i k (by omega)
        by_cases hlt2 : i < 4
        · go_wp2
          go_round
          case rel => exact ⟨i + 1, by omega, by go_num, by rw [Crc.It_succ, step_T _ hb]⟩
          case measure => simp [intOf]; omega
        · obtain rfl : i = 4 := by omega
          go_wp2
          go_roundw
          case rel => exact ⟨k + 1, by omega, by go_num, by rw [hset.out]⟩
          case measure => simp [intOf]; omega
    · obtain rfl : k = 16 := by omega
      have hd : Try.prog.underlying 145 = some (.array 16 22) := Try.underlying145
      go_wp2_with (first
        | (with_reducible refine wpList_load_row rfl 145 (.tmp 0) rfl w.heap.size rfl 145 (tabAt 16) (0, 0) _ (heap_alloc_new w _) hd rfl (by rw [Try.size145, tabAt_size]) ?_)
        | (with_reducible refine wpList_store_row rfl 145 (.tmp 0) (.tmp 21) rfl w.heap.size (tabAt 16) rfl rfl 145 (tabAt 16) (heap_alloc_new w _) (by rw [Try.size145, tabAt_size]) rfl (tabAt_one 16) ?_; rw [World.setRow_alloc_new]))
      refine bodyPost_ret (results_cell_row (p := 0) (ty := 145) rfl _ _ w.heap.size 145 (tabAt 16) (0, 0) _ rfl (heap_alloc_new w _) hd rfl (by rw [Try.size145, tabAt_size])) rfl ⟨rfl, rfl⟩
end Go.Proofs.Ytfbjjblgcgjndaa
