/- Contracts of crc.More, crc.Sum and of the reference's: all four come to the reckoning of CrcMath. -/
import Derived.Test.YtfbjjblgcgjndaaCrc1
namespace Go.Proofs.Ytfbjjblgcgjndaa
open Go.RowKit

theorem nib (X : Nat) (h : X < 4294967296) : bits BinOp.xor IntKind.u32 ((X : Int) / 16) ((Crc.It 4 (X % 16) : Nat) : Int) = ((Crc.It 4 X : Nat) : Int) := by
  rw [Crc.It_half X]
  have e : (X : Int) / 16 = ((X / 16 : Nat) : Int) := by omega
  rw [e]
  exact u32_xor_nat _ _ (by omega) (Crc.It_lt _ _ (by omega))
theorem and15 (X : Nat) (h : X < 4294967296) : bits BinOp.and IntKind.u32 (X : Int) 15 = ((X % 16 : Nat) : Int) := by
  have := u32_and_nat X 15 h (by omega)
  rw [nat_mask4] at this
  exact this

theorem bnot (s : Nat) (h : s < 4294967296) : bits BinOp.xor IntKind.u32 IntKind.u32.max (s : Int) = ((Crc.inv s : Nat) : Int) := by
  have h1 : IntKind.u32.max = ((4294967295 : Nat) : Int) := by decide
  rw [h1, Crc.inv_xor s h]
  exact u32_xor_nat _ _ (by omega) h

set_option maxRecDepth 100000 in
set_option maxHeartbeats 400000 in
theorem more_any (s : Nat) (A : Option Addr) (c : Nat) (l : List Nat) (w : World) (hs : s < 4294967296) (hl : Bytes l) (hn : l.length ≤ 140737488351232) (hA : At w A (ns .u8 l)) :
    Calls Try.prog 28 #[.int .u32 (s : Int), .slice A l.length c] w fun e w' => e = .returned (.int .u32 (Crc.more s l : Nat)) ∧ Below w.heap.size w w' := by
  have hinv := bnot s hs
  have hz := Lib.hid Try.size145
  go_enter Try.func28, Try.ntmps28
  go_wp2_with (first
    | (go_at_call 89; refine (half_any _).mono ?_; rintro e w1 ⟨rfl, rfl⟩)
    | (with_reducible refine wpList_store_row rfl 145 (.tmp 5) (.tmp 9) rfl (w.heap.size + 1) (tabAt 16) rfl rfl 145 _ (heap_alloc2_new w _ _) (by rw [Try.size145, tabAt_size]) rfl (tabAt_one 16) ?_; rw [setRow_alloc2]))
  go_loop [6, 14] (fun n i => ∃ k : Nat, k ≤ l.length ∧ i = .int .i64 k ∧ n = .int .u32 (Crc.run (Crc.inv s) (l.take k) : Nat)) (fun _ i => l.length - (intOf i).toNat)
  case atStart => exact ⟨0, by omega, rfl, rfl⟩
  case round =>
    clear hinv
    obtain ⟨k, hk, rfl, rfl⟩ := hrel
    have hX := Crc.run_lt (Crc.inv s) (l.take k) (Crc.inv_lt s) (hl.take k)
    by_cases hlt : k < l.length
    · have hg := hl.nth k hlt
      obtain ⟨b, o, rfl, hc0⟩ := hA.num k hlt
      have hb : b < w.heap.size := World.block_lt_of_cell? w _ hc0
      have hts := Lib.hid (take_nth l k hlt)
      generalize hXe : Crc.run (Crc.inv s) (l.take k) = X at hX ⊢
      have HX := Lib.hid hXe
      clear hXe
      have h1 := u32_xor_nat X (nth l k) hX (by omega)
      have hX1 : X ^^^ nth l k < 4294967296 := Nat.xor_lt_two_pow (n := 32) (by omega) (by omega)
      generalize hY : X ^^^ nth l k = Y at h1 hX1
      have HY := Lib.hid hY
      clear hY
      have h2 := and15 Y hX1
      have h3 := nib Y hX1
      have h4 := tabAt_get 16 (Y % 16) (by omega)
      rw [if_pos (by omega)] at h4
      have hm1 : Y % 16 < 16 := by omega
      have hX2 := Crc.It_lt 4 Y hX1
      generalize hZ : Crc.It 4 Y = Z at h3 hX2
      have HZ := Lib.hid hZ
      clear hZ
      have h5 := and15 Z hX2
      have h6 := nib Z hX2
      have h7 := tabAt_get 16 (Z % 16) (by omega)
      rw [if_pos (by omega)] at h7
      have hm2 : Z % 16 < 16 := by omega
      go_wp2
      go_round
      case rel =>
        refine ⟨k + 1, by omega, by go_num, ?_⟩
        rw [hts.out, Crc.run_append, HX.out, Crc.run_cons, Crc.run_nil, Crc.B_half, HY.out, HZ.out]
      case measure => simp [intOf]; omega
    · obtain rfl : k = l.length := by omega
      rw [List.take_length] at hX
      have hfin := bnot _ hX
      go_wp2
      go_ret
      exact ⟨rfl, ((Below.refl _ _).alloc (Nat.le_refl _) _).alloc (by simp) _⟩

set_option maxHeartbeats 400000 in
theorem sum_any (A : Option Addr) (c : Nat) (l : List Nat) (w : World) (hl : Bytes l) (hn : l.length ≤ 140737488351232) (hA : At w A (ns .u8 l)) :
    Calls Try.prog 27 #[.slice A l.length c] w fun e w' => e = .returned (.int .u32 (Crc.sum l : Nat)) ∧ Below w.heap.size w w' := by
  go_enter Try.func27, Try.ntmps27
  go_wp2_with fail
  refine (more_any 0 A c l w (by omega) hl hn hA).mono ?_
  rintro e w1 ⟨rfl, hb⟩
  go_wp2
  go_ret
  exact ⟨rfl, hb⟩

theorem rstep (n : Nat) (h : n < 4294967296) : bits BinOp.xor IntKind.u32 ((n : Int) / 2) 2197175160 = (((n / 2) ^^^ 2197175160 : Nat) : Int) := by
  have e : (n : Int) / 2 = ((n / 2 : Nat) : Int) := by omega
  rw [e]; exact u32_xor_nat (n / 2) 2197175160 (by omega) (by omega)
theorem and1 (X : Nat) (h : X < 4294967296) : bits BinOp.and IntKind.u32 (X : Int) 1 = ((X % 2 : Nat) : Int) := by
  have := u32_and_nat X 1 h (by omega)
  rw [nat_mask1] at this
  exact this

set_option maxRecDepth 100000 in
set_option maxHeartbeats 400000 in
theorem rmore_any (s : Nat) (A : Option Addr) (c : Nat) (l : List Nat) (w : World) (hs : s < 4294967296) (hl : Bytes l) (hn : l.length ≤ 140737488351232) (hA : At w A (ns .u8 l)) :
    Calls Try.prog 32 #[.int .u32 (s : Int), .slice A l.length c] w fun e w' => e = .returned (.int .u32 (Crc.more s l : Nat)) ∧ w = w' := by
  have hinv := bnot s hs
  go_enter Try.func32, Try.ntmps32
  go_wp2
  go_loop [5, 6] (fun n i => ∃ k : Nat, k ≤ l.length ∧ i = .int .i64 k ∧ n = .int .u32 (Crc.run (Crc.inv s) (l.take k) : Nat)) (fun _ i => l.length - (intOf i).toNat)
  case atStart => exact ⟨0, by omega, rfl, rfl⟩
  case round =>
    clear hinv
    obtain ⟨k, hk, rfl, rfl⟩ := hrel
    have hX := Crc.run_lt (Crc.inv s) (l.take k) (Crc.inv_lt s) (hl.take k)
    by_cases hlt : k < l.length
    · have hg := hl.nth k hlt
      obtain ⟨b, o, rfl, hc0⟩ := hA.num k hlt
      have hb : b < w.heap.size := World.block_lt_of_cell? w _ hc0
      have hts := Lib.hid (take_nth l k hlt)
      generalize hXe : Crc.run (Crc.inv s) (l.take k) = X at hX ⊢
      have HX := Lib.hid hXe
      clear hXe
      have h1 := u32_xor_nat X (nth l k) hX (by omega)
      have hX1 : X ^^^ nth l k < 4294967296 := Nat.xor_lt_two_pow (n := 32) (by omega) (by omega)
      generalize hY : X ^^^ nth l k = Y at h1 hX1
      have HY := Lib.hid hY
      clear hY
      go_wp2
      go_loop [5, 7] (fun n i => ∃ j : Nat, j ≤ 8 ∧ i = .int .i64 j ∧ n = .int .u32 (Crc.It j Y : Nat)) (fun _ i => 8 - (intOf i).toNat)
      case atStart => exact ⟨0, by omega, rfl, rfl⟩
      case round =>
        obtain ⟨j, hj, rfl, rfl⟩ := hrel
        have hI := Crc.It_lt j Y hX1
        by_cases hlt2 : j < 8
        · have h2 := and1 _ hI
          have h3 := rstep _ hI
          rcases Nat.mod_two_eq_zero_or_one (Crc.It j Y) with hm | hm
          · rw [hm] at h2
            go_wp2
            go_round
            case rel =>
              refine ⟨j + 1, by omega, by go_num, ?_⟩
              rw [Crc.It_succ]; unfold Crc.T; rw [if_neg (by omega)]; go_num
            case measure => simp [intOf]; omega
          · rw [hm] at h2
            go_wp2
            go_round
            case rel =>
              refine ⟨j + 1, by omega, by go_num, ?_⟩
              rw [Crc.It_succ]; unfold Crc.T; rw [if_pos (by omega)]
            case measure => simp [intOf]; omega
        · obtain rfl : j = 8 := by omega
          go_wp2
          go_round
          case rel =>
            refine ⟨k + 1, by omega, by go_num, ?_⟩
            rw [hts.out, Crc.run_append, HX.out, Crc.run_cons, Crc.run_nil]; unfold Crc.B; rw [HY.out]
          case measure => simp [intOf]; omega
    · obtain rfl : k = l.length := by omega
      rw [List.take_length] at hX
      have hfin := bnot _ hX
      go_wp2
      go_ret
      exact ⟨rfl, rfl⟩

set_option maxHeartbeats 400000 in
theorem rsum_any (A : Option Addr) (c : Nat) (l : List Nat) (w : World) (hl : Bytes l) (hn : l.length ≤ 140737488351232) (hA : At w A (ns .u8 l)) :
    Calls Try.prog 31 #[.slice A l.length c] w fun e w' => e = .returned (.int .u32 (Crc.sum l : Nat)) ∧ w = w' := by
  go_enter Try.func31, Try.ntmps31
  go_wp2_with fail
  refine (rmore_any 0 A c l w (by omega) hl hn hA).mono ?_
  rintro e w1 ⟨rfl, rfl⟩
  go_wp2
  go_ret
  exact ⟨rfl, rfl⟩

end Go.Proofs.Ytfbjjblgcgjndaa
