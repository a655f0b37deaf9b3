/- Contracts of page.low, page.filled, page.Seal and their like in the reference. -/
import Derived.Test.YtfbjjblgcgjndaaBuf
set_option linter.unusedVariables false
set_option linter.unusedSimpArgs false
namespace Go.Proofs.Ytfbjjblgcgjndaa
open Go.RowKit

theorem pow256 (k : Nat) : (256 : Nat) ^ (k + 1) = 256 ^ k * 256 := Nat.pow_succ ..
theorem div256 (n k : Nat) : n / 256 ^ k / 256 = n / 256 ^ (k + 1) := by rw [Nat.div_div_eq_div_mul, Nat.pow_succ]

set_option maxRecDepth 100000 in
set_option maxHeartbeats 1000000 in
theorem low_any (n0 : Nat) (v : Value) (l : List Nat) (n many : Nat) (w : World) (hn0 : n0 ≤ w.heap.size) (hv : Buf n0 w v l) (hl : l.length ≤ 1000000) (hn : n < 18446744073709551616) (hm : many ≤ 8) :
    Calls Try.prog 131 #[v, .int .u64 (n : Int), .int .i64 (many : Int)] w fun e w' => ∃ v', e = .returned v' ∧ Buf n0 w' v' (l ++ le n many) ∧ Below n0 w w' ∧ n0 ≤ w'.heap.size := by
  go_enter Try.func131, Try.ntmps131
  go_wp2
  go_loopw [0, 1, 8] (fun b x i wr => ∃ k : Nat, k ≤ many ∧ i = .int .i64 k ∧ x = .int .u64 ((n / 256 ^ k : Nat) : Int) ∧ Buf n0 wr b (l ++ le n k) ∧ Below n0 w wr ∧ n0 ≤ wr.heap.size) (fun _ _ i _ => many - (intOf i).toNat)
  case atStart => exact ⟨0, by omega, rfl, by simp, by simpa [le] using hv, Below.refl _ _, hn0⟩
  case round =>
    clear hv
    obtain ⟨k, hk, rfl, rfl, hv, hb, hs⟩ := hrel
    have hx : n / 256 ^ k < 18446744073709551616 := Nat.lt_of_le_of_lt (Nat.div_le_self _ _) hn
    have hnext := Lib.hid (div256 n k)
    have hles := Lib.hid (le_succ n k)
    have hlen : (l ++ le n k).length = l.length + k := by simp [le_length]
    have HL := Lib.hid hlen
    clear hlen
    generalize n / 256 ^ k = x at hx hnext hles
    by_cases hlt : k < many
    · go_wp2_with (at_builtin; go_loud (refine buf_append (w0 := w) rfl (.tmp 10) (.tmp 13) rfl Try.underlying23 Try.info5 n0 u0 (l ++ le n k) rfl (Buf.below hv (below_alloc0 (Below.refl _ _) _)) (some ⟨wr.heap.size, 0, none⟩) 1 1 [x % 256] rfl rfl ?_ (by simp) (by rw [HL.out]; simp; omega) (by simp; omega) (hb.alloc hs _) ?_); rotate_left; intro v1 w1 hv1 hb1 hs1)
      · go_roundw
        case rel => exact ⟨k + 1, by omega, by go_num, by rw [← hnext.out]; go_num, by rw [hles.out, ← List.append_assoc]; exact hv1, hb1, hs1⟩
        case measure => simp [intOf]; omega
      · have := At.box wr (.int .u8 ((x % 256 : Nat) : Int)) 5 wr.heap.size rfl
        exact this
    · obtain rfl : k = many := by omega
      go_wp2
      go_ret
      exact ⟨_, rfl, hv, hb, hs⟩
set_option maxRecDepth 100000 in
set_option maxHeartbeats 1000000 in
theorem put_any (n0 : Nat) (v : Value) (l : List Nat) (n many : Nat) (w : World) (hn0 : n0 ≤ w.heap.size) (hv : Buf n0 w v l) (hl : l.length ≤ 1000000) (hn : n < 18446744073709551616) (hm : many ≤ 8) :
    Calls Try.prog 133 #[v, .int .u64 (n : Int), .int .i64 (many : Int)] w fun e w' => ∃ v', e = .returned v' ∧ Buf n0 w' v' (l ++ le n many) ∧ Below n0 w w' ∧ n0 ≤ w'.heap.size := by
  go_enter Try.func133, Try.ntmps133
  go_wp2
  go_loopw [0, 1, 7] (fun b x i wr => ∃ k : Nat, k ≤ many ∧ i = .int .i64 k ∧ x = .int .u64 ((n / 256 ^ k : Nat) : Int) ∧ Buf n0 wr b (l ++ le n k) ∧ Below n0 w wr ∧ n0 ≤ wr.heap.size) (fun _ _ i _ => many - (intOf i).toNat)
  case atStart => exact ⟨0, by omega, rfl, by simp, by simpa [le] using hv, Below.refl _ _, hn0⟩
  case round =>
    clear hv
    obtain ⟨k, hk, rfl, rfl, hv, hb, hs⟩ := hrel
    have hx : n / 256 ^ k < 18446744073709551616 := Nat.lt_of_le_of_lt (Nat.div_le_self _ _) hn
    have hnext := Lib.hid (div256 n k)
    have hles := Lib.hid (le_succ n k)
    have hlen : (l ++ le n k).length = l.length + k := by simp [le_length]
    have HL := Lib.hid hlen
    clear hlen
    generalize n / 256 ^ k = x at hx hnext hles
    by_cases hlt : k < many
    · go_wp2_with (at_builtin; go_loud (refine buf_append (w0 := w) rfl (.tmp 13) (.tmp 17) rfl Try.underlying23 Try.info5 n0 u0 (l ++ le n k) rfl (Buf.below hv (below_alloc0 (Below.refl _ _) _)) (some ⟨wr.heap.size, 0, none⟩) 1 1 [x % 256] rfl rfl ?_ (by simp) (by rw [HL.out]; simp; omega) (by simp; omega) (hb.alloc hs _) ?_); rotate_left; intro v1 w1 hv1 hb1 hs1)
      · go_roundw
        case rel => exact ⟨k + 1, by omega, by go_num, by rw [← hnext.out]; go_num, by rw [hles.out, ← List.append_assoc]; exact hv1, hb1, hs1⟩
        case measure => simp [intOf]; omega
      · have := At.box wr (.int .u8 ((x % 256 : Nat) : Int)) 5 wr.heap.size rfl
        exact this
    · obtain rfl : k = many := by omega
      go_wp2
      go_ret
      exact ⟨_, rfl, hv, hb, hs⟩
theorem crc_sum_lt (l : List Nat) (h : Bytes l) : Crc.sum l < 4294967296 := Crc.inv_lt _
/-- a slice's length -/
def sliceLen : Value → Nat
  | .slice _ n _ => n
  | _ => 0
/-- filled up to a length, and the sum behind -/
def fill (l : List Nat) (n : Nat) : List Nat := l ++ List.replicate (n - l.length) 0
theorem fill_length (l : List Nat) (n : Nat) (h : l.length ≤ n) : (fill l n).length = n := by simp [fill]; omega
theorem fill_bytes (l : List Nat) (n : Nat) (h : Bytes l) : Bytes (fill l n) := h.append (Bytes.zeros _)
def closed (l : List Nat) : List Nat := l ++ le (Crc.sum l) 4
theorem closed_length (l : List Nat) : (closed l).length = l.length + 4 := by simp [closed, le_length]
theorem closed_bytes (l : List Nat) (h : Bytes l) : Bytes (closed l) := h.append (le_bytes _ _)

/-- the facts of a filled list, its content out of sight -/
theorem fill_facts (l : List Nat) (n : Nat) (hB : Bytes l) (hl : l.length ≤ n) : ∃ f g s, closed (fill l n) = g ∧ g = f ++ le s 4 ∧ s < 4294967296 ∧ f.length = n ∧ Bytes f ∧ s = Crc.sum f ∧ f = l ++ List.replicate (n - l.length) 0 :=
  ⟨fill l n, _, Crc.sum (fill l n), rfl, rfl, crc_sum_lt _ (fill_bytes l n hB), fill_length l n hl, fill_bytes l n hB, rfl, rfl⟩

set_option maxRecDepth 100000 in
set_option maxHeartbeats 1000000 in
theorem filled_any (n0 : Nat) (v : Value) (l : List Nat) (n : Nat) (w : World) (hn0 : n0 ≤ w.heap.size) (hv : Buf n0 w v l) (hB : Bytes l) (hl : l.length ≤ n) (hn : n ≤ 100000) :
    Calls Try.prog 132 #[v, .int .i64 (n : Int)] w fun e w' => ∃ v', e = .returned v' ∧ Buf n0 w' v' (closed (fill l n)) ∧ Below n0 w w' ∧ n0 ≤ w'.heap.size := by
  obtain ⟨f, g, s, hg, hg2, hs, hfl, hfb, hsf, hf⟩ := fill_facts l n hB hl
  rw [hg]
  have hsum := Lib.hid (fun (A : Option Addr) (c : Nat) (w : World) (hA : At w A (ns .u8 f)) => sum_any A c f w hfb (by omega) hA)
  rw [← hsf] at hsum
  have HG := Lib.hid hg2
  clear hg hg2 hsf hfb hB
  have HF := Lib.hid hf
  have HFL := Lib.hid hfl
  clear hf hfl
  obtain ⟨A, c, rfl, hA, hnil, hc, hc2⟩ := hv.at
  go_enter Try.func132, Try.ntmps132
  go_wp2_with (at_builtin; go_loud (refine buf_zeros (w0 := w) rfl (.tmp 5) (.tmp 9) rfl Try.underlying23 Try.underlying3 Try.info5 n0 _ l rfl hv (kx := .i64) _ (n - l.length) rfl (by omega) (by omega) hn0 (Below.refl _ _) ?_); intro v1 w1 hv1 hb1 hs1)
  rw [← HF.out] at hv1
  obtain ⟨A1, c1, rfl, hA1, hnil1, hc1, hc12⟩ := hv1.at
  go_wp2_with fail
  refine (hsum.out A1 c1 w1 hA1).mono ?_
  rintro e w2 ⟨rfl, hb2⟩
  go_wp2_with fail
  refine (low_any n0 _ f s 4 w2 (Nat.le_trans hs1 hb2.size) (hv1.below hb2) (by have := HFL.out; omega) (by omega) (by omega)).mono ?_
  rintro e w3 ⟨v3, rfl, hv3, hb3, hs3⟩
  go_wp2
  go_ret
  exact ⟨_, rfl, by rw [HG.out]; exact hv3, (below_next hb1 hs1 hb2).trans hb3, hs3⟩

set_option maxRecDepth 100000 in
set_option maxHeartbeats 1000000 in
theorem rfilled_any (n0 : Nat) (v : Value) (l : List Nat) (n : Nat) (w : World) (hn0 : n0 ≤ w.heap.size) (hv : Buf n0 w v l) (hB : Bytes l) (hl : l.length ≤ n) (hn : n ≤ 100000) :
    Calls Try.prog 134 #[v, .int .i64 (n : Int)] w fun e w' => ∃ v', e = .returned v' ∧ Buf n0 w' v' (closed (fill l n)) ∧ Below n0 w w' ∧ n0 ≤ w'.heap.size := by
  obtain ⟨f, g, s, hg, hg2, hs, hfl, hfb, hsf, hf⟩ := fill_facts l n hB hl
  rw [hg]
  have hsum := Lib.hid (fun (A : Option Addr) (c : Nat) (w : World) (hA : At w A (ns .u8 f)) => rsum_any A c f w hfb (by omega) hA)
  rw [← hsf, hfl] at hsum
  have HG := Lib.hid hg2
  clear hg hg2 hsf hfb hB
  have HF := Lib.hid hf
  have HFL := Lib.hid hfl
  clear hf hfl
  go_enter Try.func134, Try.ntmps134
  go_wp2
  go_loopw [0] (fun b wr => ∃ k : Nat, ∃ A c, l.length ≤ k ∧ k ≤ n ∧ b = .slice A k c ∧ wr.ownsRow n0 5 1 b k (ns .u8 (fill l k)) ∧ Below n0 w wr ∧ n0 ≤ wr.heap.size) (fun b _ => n - (sliceLen b))
  case atStart => 
    obtain ⟨A, c, rfl, _⟩ := hv.at
    exact ⟨l.length, A, c, by omega, hl, rfl, by simpa [fill, Buf] using hv, Below.refl _ _, hn0⟩
  case round =>
    clear hv
    obtain ⟨k, A, c, hlk, hk, rfl, hv, hb, hs0⟩ := hrel
    have hlen := fill_length l k hlk
    have HL := Lib.hid hlen
    clear hlen
    by_cases hlt : k < n
    · have hv0 : Buf n0 wr (.slice A k c) (fill l k) := by unfold Buf; rw [HL.out]; exact hv
      go_wp2_with (at_builtin; go_loud (refine buf_append (w0 := w) rfl (.tmp 10) (.tmp 11) rfl Try.underlying23 Try.info5 n0 (.slice A k c) (fill l k) rfl (Buf.below hv0 (below_alloc0 (Below.refl _ _) _)) (some ⟨wr.heap.size, 0, none⟩) 1 1 [0] rfl rfl (At.box wr (.int .u8 0) 5 wr.heap.size rfl) (by simp) (by rw [HL.out]; simp; omega) (by simp; omega) (hb.alloc hs0 _) ?_); intro v1 w1 hv1 hb1 hs1)
      have hf : fill l k ++ [0] = fill l (k + 1) := by
        unfold fill
        rw [List.append_assoc]
        congr 1
        rw [show k + 1 - l.length = (k - l.length) + 1 by omega, List.replicate_succ']
      rw [hf] at hv1
      obtain ⟨A1, c1, rfl, hA1, hnil1, hc1, hc12⟩ := hv1.at
      have hlen1 := fill_length l (k + 1) (by omega)
      unfold Buf at hv1
      rw [hlen1] at hv1 ⊢
      go_roundw
      case rel => exact ⟨k + 1, A1, c1, by omega, by omega, rfl, hv1, hb1, hs1⟩
      case measure => simp [sliceLen]; omega
    · obtain rfl : k = n := by omega
      have hff : fill l k = f := HF.out.symm
      rw [hff] at hv
      have hv0 : Buf n0 wr (.slice A k c) f := by unfold Buf; rw [HFL.out]; exact hv
      obtain ⟨A1, c1, e1, hA1, hnil1, hc1, hc12⟩ := hv0.at
      injection e1 with e1 e2 e3
      subst e1 e3
      clear e2 hff HL HF
      go_wp2_with fail
      refine (hsum.out A c wr hA1).mono ?_
      rintro e w2 ⟨rfl, rfl⟩
      go_wp2_with fail
      refine (put_any n0 _ f s 4 wr hs0 hv0 (by rw [HFL.out]; omega) (by omega) (by omega)).mono ?_
      rintro e w3 ⟨v3, rfl, hv3, hb3, hs3⟩
      go_wp2
      go_ret
      exact ⟨_, rfl, by rw [HG.out]; exact hv3, hb.trans hb3, hs3⟩
end Go.Proofs.Ytfbjjblgcgjndaa
