/- Walk of CrcLinear. -/
import Derived.Test.YtfbjjblgcgjndaaLaw01
import Derived.Test.YtfbjjblgcgjndaaLib2
set_option linter.unusedVariables false
set_option linter.unusedSimpArgs false
namespace Go.Proofs.Ytfbjjblgcgjndaa
open Go.RowKit
attribute [local go_sem] min2_int min_two

theorem sum_n (A : Option Addr) (n c : Nat) (l : List Nat) (w : World) (hn : l.length = n) (hl : Bytes l) (hs : n ≤ 140737488351232) (hA : At w A (ns .u8 l)) :
    Calls Try.prog 27 #[.slice A n c] w fun e w' => e = .returned (.int .u32 (Crc.sum l : Nat)) ∧ Below w.heap.size w w' := by
  subst hn; exact sum_any A c l w hl hs hA

theorem zero_at (W : World) (k : Nat) : At (W.alloc (.cells (madeCells #[.int .u8 0] k) 5)) (some ⟨W.heap.size, 0, none⟩) (ns .u8 (List.replicate k 0)) := by
  have h := heap_alloc_new W (.cells (madeCells #[.int .u8 0] k) 5)
  have e : madeCells #[.int .u8 0] k = (ns .u8 (List.replicate k 0)).toArray := by rw [← made_ns]
  rw [e] at h ⊢
  exact At.whole h

theorem fill_zip (l m : List Nat) (k : Nat) (h1 : k ≤ l.length) (h2 : k ≤ m.length) : fillAt (fun i => nth l i ^^^ nth m i) 0 k k = List.zipWith (· ^^^ ·) (l.take k) (m.take k) := by
  apply List.ext_getElem?
  intro i
  by_cases hi : i < k
  · rw [fillAt_get _ 0 k k i hi, if_pos hi, List.getElem?_zipWith, List.getElem?_take, List.getElem?_take, if_pos hi, if_pos hi, nth_eq l i (by omega), nth_eq m i (by omega)]
  · rw [List.getElem?_eq_none (by rw [fillAt_length]; omega), List.getElem?_eq_none (by simp; omega)]
theorem four_bits (a b : List Nat) (k : Nat) (ha : a.length = k) (hb : b.length = k) (h1 : Bytes a) (h2 : Bytes b) :
    (bits BinOp.xor IntKind.u32 (bits BinOp.xor IntKind.u32 (bits BinOp.xor IntKind.u32 ((Crc.sum a : Nat) : Int) ((Crc.sum b : Nat) : Int)) ((Crc.sum (List.zipWith (· ^^^ ·) a b) : Nat) : Int)) ((Crc.sum (List.replicate k 0) : Nat) : Int) == 0) = true := by
  have e := Crc.sum_four a b (by omega) h1 h2
  have l1 : Crc.sum a < 4294967296 := Crc.more_lt _ _
  have l2 : Crc.sum b < 4294967296 := Crc.more_lt _ _
  have l3 : Crc.sum (List.zipWith (· ^^^ ·) a b) < 4294967296 := Crc.more_lt _ _
  have l4 : Crc.sum (List.replicate k 0) < 4294967296 := Crc.more_lt _ _
  rw [ha] at e
  rw [u32_xor_nat _ _ l1 l2, u32_xor_nat _ _ (Nat.xor_lt_two_pow (n := 32) l1 l2) l3, u32_xor_nat _ _ (Nat.xor_lt_two_pow (n := 32) (Nat.xor_lt_two_pow (n := 32) l1 l2) l3) l4, e]
  rfl

set_option maxRecDepth 100000 in
set_option maxHeartbeats 1000000 in
theorem crcLinear_any (A B : Option Addr) (c d : Nat) (l m : List Nat) (w : World) (hl : Bytes l) (hm : Bytes m) (hA : At w A (ns .u8 l)) (hB : At w B (ns .u8 m)) (hc : l.length ≤ c) (hd : m.length ≤ d) (hcm : c ≤ maxLen) (hdm : d ≤ maxLen) :
    Calls Try.prog 5 #[.slice A l.length c, .slice B m.length d] w fun e w' => e = .returned (.bool true) ∧ Below w.heap.size w w' := by
  obtain ⟨n, hn⟩ : ∃ n, n = min l.length m.length := ⟨_, rfl⟩
  have hmin : (if m.length < l.length then (m.length : Int) else (l.length : Int)) = (n : Int) := by split <;> omega
  have hn1 : n ≤ l.length := by omega
  have hn2 : n ≤ m.length := by omega
  unfold maxLen at hcm hdm
  have Hn := Lib.hid hn
  clear hn
  by_cases hbig : n ≤ 100000
  · have HM := made_ns .u8 n
    go_enter Try.func5, Try.ntmps5
    go_wp2_with (with_reducible refine wp_make rfl _ _ 23 5 (.int .u8 0) 1 1 rfl Try.underlying23 Try.info5 w.heap.size .i64 .i64 _ _ n rfl rfl rfl rfl (by omega) (by omega) (Nat.le_refl _) ?_; intro w1 ho1 hg1)
    have hb1 : Below w.heap.size w w1 := below_of_grown hg1
    have hX : w1.heap[w.heap.size]? = some (.cells (ns .u8 (fillAt (fun i => nth l i ^^^ nth m i) 0 0 n)).toArray 5 (0, 0)) := by
      have := own_full ho1
      rw [this, fillAt_zero, ← HM]; simp [Value.cells]
    clear ho1 hg1 HM hmin
    go_loopw [7] (fun i wr => ∃ k : Nat, k ≤ n ∧ i = .int .i64 k ∧ wr.heap[w.heap.size]? = some (.cells (ns .u8 (fillAt (fun i => nth l i ^^^ nth m i) 0 k n)).toArray 5 (0, 0)) ∧ Below w.heap.size w wr) (fun i _ => n - (intOf i).toNat)
    case atStart => exact ⟨0, by omega, rfl, hX, hb1⟩
    case round =>
      clear hX hb1
      obtain ⟨k, hk, rfl, hX, hb⟩ := hrel
      by_cases hlt : k < n
      · obtain ⟨b1, o1, rfl, hc1⟩ := (hA.below hb).num k (by omega)
        obtain ⟨b2, o2, rfl, hc2⟩ := (hB.below hb).num k (by omega)
        have hv1 := hl.nth k (by omega)
        have hv2 := hm.nth k (by omega)
        have hx := u8_xor_nat (nth l k) (nth m k) hv1 hv2
        have hset := Lib.hid (fillAt_set .u8 (fun i => nth l i ^^^ nth m i) 0 k n hlt)
        have HX := Lib.hid hX
        have hcx : wr.cell? ⟨w.heap.size, k, none⟩ = some (.int .u8 ((0 : Nat) : Int)) := by
          rw [cell_of_row wr _ k _ 5 (0, 0) hX]
          simp [ns, fillAt_get _ 0 k n k hlt]
        have hfr := frozen_of_row wr w.heap.size k _ 5 hX
        have hkl : (k : Int) < (l.length : Int) := by omega
        have hkm : (k : Int) < (m.length : Int) := by omega
        have hkn : (k : Int) < (n : Int) := by omega
        clear hX
        go_wp2
        go_region
        all_goals
          go_wp2
          go_roundw
          case rel =>
            refine ⟨k + 1, by omega, by go_num, ?_, ?_⟩
            · have := heap_setCell_same _ w.heap.size k _ 5 (.int .u8 ((nth l k ^^^ nth m k : Nat) : Int)) HX.out
              rw [hset.out] at this
              exact this
            · exact hb.drew.setCell (Nat.le_refl _) _
          case measure => simp [intOf]; omega
      · obtain rfl : k = n := by omega
        go_wp2
        have hA1 := (hA.below hb).takes k
        have hB1 := (hB.below hb).takes k
        have hX1 : At wr (some ⟨w.heap.size, 0, none⟩) (ns .u8 (fillAt (fun i => nth l i ^^^ nth m i) 0 k k)) := At.whole hX
        have hbx := fillAt_bytes (fun i => nth l i ^^^ nth m i) 0 k k (fun i hi => Nat.xor_lt_two_pow (n := 8) (hl.nth i (by omega)) (hm.nth i (by omega))) (by omega)
        have hlx := fillAt_length (fun i => nth l i ^^^ nth m i) 0 k k
        have hlA : (l.take k).length = k := by simp; omega
        have hlB : (m.take k).length = k := by simp; omega
        have HLA := Lib.hid hlA
        have HLB := Lib.hid hlB
        have HLX := Lib.hid hlx
        have HX := Lib.hid hX
        clear hlA hlB hlx hX
        have hk0 : (0 : Int) ≤ (k : Int) := by omega
        have hkc : (k : Int) ≤ (c : Int) := by omega
        have hkd : (k : Int) ≤ (d : Int) := by omega
        have hmk := run_make_row' (P := Try.prog) 23 5 (.int .u8 0) 1 Try.underlying23 Try.info5 rfl .i64 .i64 k (by omega) (by omega)
        have h4 := Lib.hid (four_bits (l.take k) (m.take k) k HLA.out HLB.out (hl.take k) (hm.take k))
        have hxe := Lib.hid (fill_zip l m k hn1 hn2)
        go_region_held3 (fun w' => Below wr.heap.size wr w') (first | exact below_drew0 (Below.refl _ _) | (exact below_alloc0 (by assumption) _) | (exact below_next0 (by assumption) (by assumption)) | assumption)
          (first
            | (go_at_call 30; refine (known_any _).mono ?_; rintro e w' ⟨rfl, hb2⟩)
            | (go_at_call 27; refine (sum_n A k c (l.take k) _ HLA.out (hl.take k) (by omega) (hA1.below (by assumption))).mono ?_; rintro e w' ⟨rfl, hb2⟩)
            | (go_at_call 27; refine (sum_n B k d (m.take k) _ HLB.out (hm.take k) (by omega) (hB1.below (by assumption))).mono ?_; rintro e w' ⟨rfl, hb2⟩)
            | (go_at_call 27; refine (sum_n (some ⟨w.heap.size, 0, none⟩) k k (fillAt (fun i => nth l i ^^^ nth m i) 0 k k) _ HLX.out hbx (by omega) (hX1.below (by assumption))).mono ?_; rintro e w' ⟨rfl, hb2⟩)
            | (go_at_call 27; refine (sum_n _ k k (List.replicate k 0) _ (by simp) (Bytes.zeros k) (by omega) (by first | exact zero_at _ k | exact (zero_at _ k).below (by assumption) | exact ((zero_at _ k).below (by assumption)).below (by assumption) | exact (((zero_at _ k).below (by assumption)).below (by assumption)).below (by assumption))).mono ?_; rintro e w' ⟨rfl, hb2⟩))
        all_goals
          go_wp2
          go_ret
          refine ⟨?_, below_next0 hb (by assumption)⟩
          rw [hxe.out, h4.out]; rfl
  · go_enter Try.func5, Try.ntmps5
    go_wp2
    go_ret
    exact ⟨rfl, Below.refl _ _⟩
end Go.Proofs.Ytfbjjblgcgjndaa
