/- Joined texts: Page1, Page2, Page3, Page4, Page5, Page6, SealCall, Pool6, Pool7, OwnNil, OwnBools, Book, Book2, Book3. -/
import Derived.Defers
import Derived.Recover
import Derived.IntWalk
import Derived.Test.YtfbjjblgcgjndaaGreatPz1
import Derived.Test.YtfbjjblgcgjndaaGreatPz3
import Derived.Test.YtfbjjblgcgjndaaGreatPz4
import Derived.Test.YtfbjjblgcgjndaaGreatPz5
set_option linter.unusedVariables false
set_option linter.unusedSimpArgs false

/- Contracts of page.low, page.filled, page.Seal and their like in the reference. -/
namespace Go.Proofs.YtfbjjblgcgjndaaGreat
open Go.RowKit

theorem pow256 (k : Nat) : (256 : Nat) ^ (k + 1) = 256 ^ k * 256 := Nat.pow_succ ..
theorem div256 (n k : Nat) : n / 256 ^ k / 256 = n / 256 ^ (k + 1) := by rw [Nat.div_div_eq_div_mul, Nat.pow_succ]

set_option maxRecDepth 100000 in
set_option maxHeartbeats 1000000 in
theorem low_any (n0 : Nat) (v : Value) (l : List Nat) (n many : Nat) (w : World) (hn0 : n0 ≤ w.heap.size) (hv : Buf n0 w v l) (hl : l.length ≤ 1000000) (hn : n < 18446744073709551616) (hm : many ≤ 8) :
    Calls Tryz.prog 88 #[v, .int .u64 (n : Int), .int .i64 (many : Int)] w fun e w' => ∃ v', e = .returned v' ∧ Buf n0 w' v' (l ++ le n many) ∧ Below n0 w w' ∧ n0 ≤ w'.heap.size := by
  go_enter Tryz.func88, Tryz.ntmps88
  go_wp2
  go_loopw [0, 1, 8] (fun b x i wr => ∃ k : Nat, k ≤ many ∧ i = .int .i64 k ∧ x = .int .u64 ((n / 256 ^ k : Nat) : Int) ∧ Buf n0 wr b (l ++ le n k) ∧ Below n0 w wr ∧ n0 ≤ wr.heap.size) (fun _ _ i _ => many - (intOf i).toNat)
  case atStart => exact ⟨0, by omega, rfl, by simp, by simpa [le] using hv, Below.refl _ _, hn0⟩
  case round =>
    clear hv
    obtain ⟨k, hk, rfl, rfl, hv, hb, hs⟩ := hrel
    have hx : n / 256 ^ k < 18446744073709551616 := Nat.lt_of_le_of_lt (Nat.div_le_self _ _) hn
    have hnext := Lib.hid (div256 n k)
    have hles := Lib.hid (le_succ n k)
    have hlen : (l ++ le n k).length = l.length + k := by simp [le_length]
    have HL := Lib.hid hlen
    clear hlen
    generalize n / 256 ^ k = x at hx hnext hles
    by_cases hlt : k < many
    · go_wp2_with (at_builtin; go_loud (refine buf_append (w0 := w) rfl (.tmp 10) (.tmp 13) rfl Tryz.underlying22 Tryz.info5 n0 u0 (l ++ le n k) rfl (Buf.below hv (below_alloc0 (Below.refl _ _) _)) (some ⟨wr.heap.size, 0, none⟩) 1 1 [x % 256] rfl rfl ?_ (by simp) (by rw [HL.out]; simp; omega) (by simp; omega) (hb.alloc hs _) ?_); rotate_left; intro v1 w1 hv1 hb1 hs1)
      · go_roundw
        case rel => exact ⟨k + 1, by omega, by go_num, by rw [← hnext.out]; go_num, by rw [hles.out, ← List.append_assoc]; exact hv1, hb1, hs1⟩
        case measure => simp [intOf]; omega
      · have := At.box wr (.int .u8 ((x % 256 : Nat) : Int)) 5 wr.heap.size rfl
        exact this
    · obtain rfl : k = many := by omega
      go_wp2
      go_ret
      exact ⟨_, rfl, hv, hb, hs⟩
set_option maxRecDepth 100000 in
set_option maxHeartbeats 1000000 in
theorem put_any (n0 : Nat) (v : Value) (l : List Nat) (n many : Nat) (w : World) (hn0 : n0 ≤ w.heap.size) (hv : Buf n0 w v l) (hl : l.length ≤ 1000000) (hn : n < 18446744073709551616) (hm : many ≤ 8) :
    Calls Tryz.prog 90 #[v, .int .u64 (n : Int), .int .i64 (many : Int)] w fun e w' => ∃ v', e = .returned v' ∧ Buf n0 w' v' (l ++ le n many) ∧ Below n0 w w' ∧ n0 ≤ w'.heap.size := by
  go_enter Tryz.func90, Tryz.ntmps90
  go_wp2
  go_loopw [0, 1, 7] (fun b x i wr => ∃ k : Nat, k ≤ many ∧ i = .int .i64 k ∧ x = .int .u64 ((n / 256 ^ k : Nat) : Int) ∧ Buf n0 wr b (l ++ le n k) ∧ Below n0 w wr ∧ n0 ≤ wr.heap.size) (fun _ _ i _ => many - (intOf i).toNat)
  case atStart => exact ⟨0, by omega, rfl, by simp, by simpa [le] using hv, Below.refl _ _, hn0⟩
  case round =>
    clear hv
    obtain ⟨k, hk, rfl, rfl, hv, hb, hs⟩ := hrel
    have hx : n / 256 ^ k < 18446744073709551616 := Nat.lt_of_le_of_lt (Nat.div_le_self _ _) hn
    have hnext := Lib.hid (div256 n k)
    have hles := Lib.hid (le_succ n k)
    have hlen : (l ++ le n k).length = l.length + k := by simp [le_length]
    have HL := Lib.hid hlen
    clear hlen
    generalize n / 256 ^ k = x at hx hnext hles
    by_cases hlt : k < many
    · go_wp2_with (at_builtin; go_loud (refine buf_append (w0 := w) rfl (.tmp 13) (.tmp 17) rfl Tryz.underlying22 Tryz.info5 n0 u0 (l ++ le n k) rfl (Buf.below hv (below_alloc0 (Below.refl _ _) _)) (some ⟨wr.heap.size, 0, none⟩) 1 1 [x % 256] rfl rfl ?_ (by simp) (by rw [HL.out]; simp; omega) (by simp; omega) (hb.alloc hs _) ?_); rotate_left; intro v1 w1 hv1 hb1 hs1)
      · go_roundw
        case rel => exact ⟨k + 1, by omega, by go_num, by rw [← hnext.out]; go_num, by rw [hles.out, ← List.append_assoc]; exact hv1, hb1, hs1⟩
        case measure => simp [intOf]; omega
      · have := At.box wr (.int .u8 ((x % 256 : Nat) : Int)) 5 wr.heap.size rfl
        exact this
    · obtain rfl : k = many := by omega
      go_wp2
      go_ret
      exact ⟨_, rfl, hv, hb, hs⟩
theorem crc_sum_lt (l : List Nat) (h : Bytes l) : Crc.sum l < 4294967296 := Crc.inv_lt _
/-- a slice's length -/
def sliceLen : Value → Nat
  | .slice _ n _ => n
  | _ => 0
/-- filled up to a length, and the sum behind -/
def fill (l : List Nat) (n : Nat) : List Nat := l ++ List.replicate (n - l.length) 0
theorem fill_length (l : List Nat) (n : Nat) (h : l.length ≤ n) : (fill l n).length = n := by simp [fill]; omega
theorem fill_bytes (l : List Nat) (n : Nat) (h : Bytes l) : Bytes (fill l n) := h.append (Bytes.zeros _)
def closed (l : List Nat) : List Nat := l ++ le (Crc.sum l) 4
theorem closed_length (l : List Nat) : (closed l).length = l.length + 4 := by simp [closed, le_length]
theorem closed_bytes (l : List Nat) (h : Bytes l) : Bytes (closed l) := h.append (le_bytes _ _)

/-- the facts of a filled list, its content out of sight -/
theorem fill_facts (l : List Nat) (n : Nat) (hB : Bytes l) (hl : l.length ≤ n) : ∃ f g s, closed (fill l n) = g ∧ g = f ++ le s 4 ∧ s < 4294967296 ∧ f.length = n ∧ Bytes f ∧ s = Crc.sum f ∧ f = l ++ List.replicate (n - l.length) 0 :=
  ⟨fill l n, _, Crc.sum (fill l n), rfl, rfl, crc_sum_lt _ (fill_bytes l n hB), fill_length l n hl, fill_bytes l n hB, rfl, rfl⟩

set_option maxRecDepth 100000 in
set_option maxHeartbeats 1000000 in
theorem filled_any (n0 : Nat) (v : Value) (l : List Nat) (n : Nat) (w : World) (hn0 : n0 ≤ w.heap.size) (hv : Buf n0 w v l) (hB : Bytes l) (hl : l.length ≤ n) (hn : n ≤ 100000) :
    Calls Tryz.prog 89 #[v, .int .i64 (n : Int)] w fun e w' => ∃ v', e = .returned v' ∧ Buf n0 w' v' (closed (fill l n)) ∧ Below n0 w w' ∧ n0 ≤ w'.heap.size := by
  obtain ⟨f, g, s, hg, hg2, hs, hfl, hfb, hsf, hf⟩ := fill_facts l n hB hl
  rw [hg]
  have hsum := Lib.hid (fun (A : Option Addr) (c : Nat) (w : World) (hA : At w A (ns .u8 f)) => sum_any A c f w hfb (by omega) hA)
  rw [← hsf] at hsum
  have HG := Lib.hid hg2
  clear hg hg2 hsf hfb hB
  have HF := Lib.hid hf
  have HFL := Lib.hid hfl
  clear hf hfl
  obtain ⟨A, c, rfl, hA, hnil, hc, hc2⟩ := hv.at
  go_enter Tryz.func89, Tryz.ntmps89
  go_wp2_with (at_builtin; go_loud (refine buf_zeros (w0 := w) rfl (.tmp 5) (.tmp 9) rfl Tryz.underlying22 Tryz.underlying3 Tryz.info5 n0 _ l rfl hv (kx := .i64) _ (n - l.length) rfl (by omega) (by omega) hn0 (Below.refl _ _) ?_); intro v1 w1 hv1 hb1 hs1)
  rw [← HF.out] at hv1
  obtain ⟨A1, c1, rfl, hA1, hnil1, hc1, hc12⟩ := hv1.at
  go_wp2_with fail
  refine (hsum.out A1 c1 w1 hA1).mono ?_
  rintro e w2 ⟨rfl, hb2⟩
  go_wp2_with fail
  refine (low_any n0 _ f s 4 w2 (Nat.le_trans hs1 hb2.size) (hv1.below hb2) (by have := HFL.out; omega) (by omega) (by omega)).mono ?_
  rintro e w3 ⟨v3, rfl, hv3, hb3, hs3⟩
  go_wp2
  go_ret
  exact ⟨_, rfl, by rw [HG.out]; exact hv3, (below_next hb1 hs1 hb2).trans hb3, hs3⟩

set_option maxRecDepth 100000 in
set_option maxHeartbeats 1000000 in
theorem rfilled_any (n0 : Nat) (v : Value) (l : List Nat) (n : Nat) (w : World) (hn0 : n0 ≤ w.heap.size) (hv : Buf n0 w v l) (hB : Bytes l) (hl : l.length ≤ n) (hn : n ≤ 100000) :
    Calls Tryz.prog 91 #[v, .int .i64 (n : Int)] w fun e w' => ∃ v', e = .returned v' ∧ Buf n0 w' v' (closed (fill l n)) ∧ Below n0 w w' ∧ n0 ≤ w'.heap.size := by
  obtain ⟨f, g, s, hg, hg2, hs, hfl, hfb, hsf, hf⟩ := fill_facts l n hB hl
  rw [hg]
  have hsum := Lib.hid (fun (A : Option Addr) (c : Nat) (w : World) (hA : At w A (ns .u8 f)) => rsum_any A c f w hfb (by omega) hA)
  rw [← hsf, hfl] at hsum
  have HG := Lib.hid hg2
  clear hg hg2 hsf hfb hB
  have HF := Lib.hid hf
  have HFL := Lib.hid hfl
  clear hf hfl
  go_enter Tryz.func91, Tryz.ntmps91
  go_wp2
  go_loopw [0] (fun b wr => ∃ k : Nat, ∃ A c, l.length ≤ k ∧ k ≤ n ∧ b = .slice A k c ∧ wr.ownsRow n0 5 1 b k (ns .u8 (fill l k)) ∧ Below n0 w wr ∧ n0 ≤ wr.heap.size) (fun b _ => n - (sliceLen b))
  case atStart => 
    obtain ⟨A, c, rfl, _⟩ := hv.at
    exact ⟨l.length, A, c, by omega, hl, rfl, by simpa [fill, Buf] using hv, Below.refl _ _, hn0⟩
  case round =>
    clear hv
    obtain ⟨k, A, c, hlk, hk, rfl, hv, hb, hs0⟩ := hrel
    have hlen := fill_length l k hlk
    have HL := Lib.hid hlen
    clear hlen
    by_cases hlt : k < n
    · have hv0 : Buf n0 wr (.slice A k c) (fill l k) := by unfold Buf; rw [HL.out]; exact hv
      go_wp2_with (at_builtin; go_loud (refine buf_append (w0 := w) rfl (.tmp 10) (.tmp 11) rfl Tryz.underlying22 Tryz.info5 n0 (.slice A k c) (fill l k) rfl (Buf.below hv0 (below_alloc0 (Below.refl _ _) _)) (some ⟨wr.heap.size, 0, none⟩) 1 1 [0] rfl rfl (At.box wr (.int .u8 0) 5 wr.heap.size rfl) (by simp) (by rw [HL.out]; simp; omega) (by simp; omega) (hb.alloc hs0 _) ?_); intro v1 w1 hv1 hb1 hs1)
      have hf : fill l k ++ [0] = fill l (k + 1) := by
        unfold fill
        rw [List.append_assoc]
        congr 1
        rw [show k + 1 - l.length = (k - l.length) + 1 by omega, List.replicate_succ']
      rw [hf] at hv1
      obtain ⟨A1, c1, rfl, hA1, hnil1, hc1, hc12⟩ := hv1.at
      have hlen1 := fill_length l (k + 1) (by omega)
      unfold Buf at hv1
      rw [hlen1] at hv1 ⊢
      go_roundw
      case rel => exact ⟨k + 1, A1, c1, by omega, by omega, rfl, hv1, hb1, hs1⟩
      case measure => simp [sliceLen]; omega
    · obtain rfl : k = n := by omega
      have hff : fill l k = f := HF.out.symm
      rw [hff] at hv
      have hv0 : Buf n0 wr (.slice A k c) f := by unfold Buf; rw [HFL.out]; exact hv
      obtain ⟨A1, c1, e1, hA1, hnil1, hc1, hc12⟩ := hv0.at
      injection e1 with e1 e2 e3
      subst e1 e3
      clear e2 hff HL HF
      go_wp2_with fail
      refine (hsum.out A c wr hA1).mono ?_
      rintro e w2 ⟨rfl, rfl⟩
      go_wp2_with fail
      refine (put_any n0 _ f s 4 wr hs0 hv0 (by rw [HFL.out]; omega) (by omega) (by omega)).mono ?_
      rintro e w3 ⟨v3, rfl, hv3, hb3, hs3⟩
      go_wp2
      go_ret
      exact ⟨_, rfl, by rw [HG.out]; exact hv3, hb.trans hb3, hs3⟩
end Go.Proofs.YtfbjjblgcgjndaaGreat

/- Contracts of page.Seal and of the reference's Seal. -/
namespace Go.Proofs.YtfbjjblgcgjndaaGreat
open Go.RowKit

/-- what a page begins with -/
def front (kind number n : Nat) : List Nat := [67, 80, kind, 0] ++ le number 4 ++ le n 2 ++ le 0 2
theorem front_length (kind number n : Nat) : (front kind number n).length = 12 := by simp [front, le_length]
theorem front_bytes (kind number n : Nat) (h : kind < 256) : Bytes (front kind number n) := by
  refine Bytes.append (Bytes.append (Bytes.append ?_ (le_bytes _ _)) (le_bytes _ _)) (le_bytes _ _)
  exact Bytes.cons (by omega) (Bytes.cons (by omega) (Bytes.cons h (Bytes.cons (by omega) Bytes.nil)))
/-- a page -/
def sealed (kind number : Nat) (p : List Nat) : List Nat := closed (fill (front kind number p.length ++ p) 1020)
def SealOk (kind : Nat) (p : List Nat) : Prop := 1 ≤ kind ∧ kind ≤ 4 ∧ p.length ≤ 1008
instance (kind : Nat) (p : List Nat) : Decidable (SealOk kind p) := inferInstanceAs (Decidable (_ ∧ _ ∧ _))
theorem sealed_length (kind number : Nat) (p : List Nat) (h : p.length ≤ 1008) : (sealed kind number p).length = 1024 := by
  rw [sealed, closed_length, fill_length _ _ (by rw [List.length_append, front_length]; omega)]
theorem sealed_bytes (kind number : Nat) (p : List Nat) (h : kind < 256) (hp : Bytes p) : Bytes (sealed kind number p) := closed_bytes _ (fill_bytes _ _ ((front_bytes _ _ _ h).append hp))

theorem seal_no_tests (kind : Nat) (p : List Nat) (h : ¬ SealOk kind p) : kind < 1 ∨ (¬ kind < 1 ∧ 4 < kind) ∨ (¬ kind < 1 ∧ ¬ 4 < kind ∧ 1008 < p.length) := by
  unfold SealOk at h
  omega

set_option maxRecDepth 100000 in
set_option maxHeartbeats 1000000 in
theorem seal_no (kind number : Nat) (A : Option Addr) (c : Nat) (p : List Nat) (w : World) (h : ¬ SealOk kind p) :
    Calls Tryz.prog 54 #[.int .u8 (kind : Int), .int .u32 (number : Int), .slice A p.length c] w fun e w' => e = .returned (.tuple #[.slice none 0 0, .int .u16 80]) ∧ w = w' := by
  rcases seal_no_tests kind p h with h1 | ⟨h1, h2⟩ | ⟨h1, h2, h3⟩
  all_goals
    clear h
    go_enter Tryz.func54, Tryz.ntmps54
    go_wp2
    go_ret2
    exact ⟨rfl, rfl⟩

set_option maxRecDepth 100000 in
set_option maxHeartbeats 1000000 in
theorem rseal_no (kind number : Nat) (A : Option Addr) (c : Nat) (p : List Nat) (w : World) (h : ¬ SealOk kind p) :
    Calls Tryz.prog 55 #[.int .u8 (kind : Int), .int .u32 (number : Int), .slice A p.length c] w fun e w' => e = .returned (.tuple #[.slice none 0 0, .int .u16 80]) ∧ w = w' := by
  rcases seal_no_tests kind p h with h1 | ⟨h1, h2⟩ | ⟨h1, h2, h3⟩
  all_goals
    clear h
    go_enter Tryz.func55, Tryz.ntmps55
    go_wp2
    go_ret2
    exact ⟨rfl, rfl⟩

set_option maxRecDepth 100000 in
set_option maxHeartbeats 1000000 in
theorem seal_ok (kind number : Nat) (A : Option Addr) (c : Nat) (p : List Nat) (w : World) (h : SealOk kind p) (hk : kind < 256) (hn : number < 4294967296) (hp : Bytes p) (hA : At w A (ns .u8 p)) (hnil : A = none → c = 0) :
    Calls Tryz.prog 54 #[.int .u8 (kind : Int), .int .u32 (number : Int), .slice A p.length c] w fun e w' => ∃ v, e = .returned (.tuple #[v, .int .u16 0]) ∧ Buf w.heap.size w' v (sealed kind number p) ∧ Below w.heap.size w w' ∧ w.heap.size ≤ w'.heap.size := by
  obtain ⟨h1, h2, h3⟩ := h
  have hBY0 : Bytes (([67, 80, kind, 0] ++ le number 4 ++ le p.length 2 ++ le 0 2) ++ p) := (front_bytes _ _ _ hk).append hp
  have hBY := Lib.hid hBY0
  clear hBY0
  have hst : Hid (sealed kind number p = closed (fill (([67, 80, kind, 0] ++ le number 4 ++ le p.length 2 ++ le 0 2) ++ p) 1020)) := Lib.hid rfl
  generalize sealed kind number p = g at hst
  have hk1 : ¬ (kind < 1) := by omega
  have hk2 : ¬ (4 < kind) := by omega
  have hk3 : ¬ (1008 < p.length) := by omega
  go_enter Tryz.func54, Tryz.ntmps54
  go_wp2_with fail
  refine (low_any w.heap.size _ [67, 80, kind, 0] number 4 _ (by simp) (Buf.new w [67, 80, kind, 0] (Nat.le_refl _) (by simp) _ _ rfl rfl) (by simp) (by omega) (by omega)).mono ?_
  rintro e w1 ⟨v1, rfl, hv1, hb1, hs1⟩
  replace hb1 := (below_alloc0 (Below.refl w.heap.size w) _).trans hb1
  have hl1 : ([67, 80, kind, 0] ++ le number 4).length = 8 := by simp [le_length]
  generalize [67, 80, kind, 0] ++ le number 4 = b1 at hv1 hl1 hst hBY
  have HL1 := Lib.hid hl1
  clear hl1
  go_wp2_with fail
  refine (low_any w.heap.size _ b1 p.length 2 _ hs1 hv1 (by rw [HL1.out]; omega) (by omega) (by omega)).mono ?_
  rintro e w2 ⟨v2, rfl, hv2, hb2, hs2⟩
  have hl2 : (b1 ++ le p.length 2).length = 10 := by rw [List.length_append, HL1.out, le_length]
  generalize b1 ++ le p.length 2 = b2 at hv2 hl2 hst hBY
  have HL2 := Lib.hid hl2
  clear hl2
  go_wp2_with fail
  refine (low_any w.heap.size _ b2 0 2 _ hs2 hv2 (by rw [HL2.out]; omega) (by omega) (by omega)).mono ?_
  rintro e w3 ⟨v3, rfl, hv3, hb3, hs3⟩
  have hl3 : (b2 ++ le 0 2).length = 12 := by rw [List.length_append, HL2.out, le_length]
  generalize b2 ++ le 0 2 = b3 at hv3 hl3 hst hBY
  have HL3 := Lib.hid hl3
  clear hl3
  have hb03 := (hb1.trans hb2).trans hb3
  go_wp2_with (at_builtin; go_loud (refine buf_append (w0 := w) rfl (.tmp 31) (.tmp 32) rfl Tryz.underlying22 Tryz.info5 w.heap.size v3 b3 rfl hv3 A p.length c p rfl rfl (hA.below hb03) hnil (by rw [HL3.out]; omega) hs3 hb03 ?_); intro v4 w4 hv4 hb4 hs4)
  have hl4 : (b3 ++ p).length = 12 + p.length := by rw [List.length_append, HL3.out]
  generalize b3 ++ p = b4 at hv4 hl4 hst hBY
  have HL4 := Lib.hid hl4
  clear hl4
  go_wp2_with fail
  refine (filled_any w.heap.size _ b4 1020 _ hs4 hv4 hBY.out (by rw [HL4.out]; omega) (by omega)).mono ?_
  rintro e w5 ⟨v5, rfl, hv5, hb5, hs5⟩
  go_wp2
  go_ret2
  exact ⟨_, rfl, by rw [hst.out]; exact hv5, hb4.trans hb5, hs5⟩

set_option maxRecDepth 100000 in
set_option maxHeartbeats 1000000 in
theorem rseal_ok (kind number : Nat) (A : Option Addr) (c : Nat) (p : List Nat) (w : World) (h : SealOk kind p) (hk : kind < 256) (hn : number < 4294967296) (hp : Bytes p) (hA : At w A (ns .u8 p)) (hnil : A = none → c = 0) :
    Calls Tryz.prog 55 #[.int .u8 (kind : Int), .int .u32 (number : Int), .slice A p.length c] w fun e w' => ∃ v, e = .returned (.tuple #[v, .int .u16 0]) ∧ Buf w.heap.size w' v (sealed kind number p) ∧ Below w.heap.size w w' ∧ w.heap.size ≤ w'.heap.size := by
  obtain ⟨h1, h2, h3⟩ := h
  have hBY0 : Bytes (([67, 80, kind, 0] ++ le number 4 ++ le p.length 2 ++ le 0 2) ++ p) := (front_bytes _ _ _ hk).append hp
  have hBY := Lib.hid hBY0
  clear hBY0
  have hst : Hid (sealed kind number p = closed (fill (([67, 80, kind, 0] ++ le number 4 ++ le p.length 2 ++ le 0 2) ++ p) 1020)) := Lib.hid rfl
  generalize sealed kind number p = g at hst
  have hk1 : ¬ (kind < 1) := by omega
  have hk2 : ¬ (4 < kind) := by omega
  have hk3 : ¬ (1008 < p.length) := by omega
  go_enter Tryz.func55, Tryz.ntmps55
  go_wp2_with fail
  refine (put_any w.heap.size _ [67, 80, kind, 0] number 4 _ (by simp) (Buf.new w [67, 80, kind, 0] (Nat.le_refl _) (by simp) _ _ rfl rfl) (by simp) (by omega) (by omega)).mono ?_
  rintro e w1 ⟨v1, rfl, hv1, hb1, hs1⟩
  replace hb1 := (below_alloc0 (Below.refl w.heap.size w) _).trans hb1
  have hl1 : ([67, 80, kind, 0] ++ le number 4).length = 8 := by simp [le_length]
  generalize [67, 80, kind, 0] ++ le number 4 = b1 at hv1 hl1 hst hBY
  have HL1 := Lib.hid hl1
  clear hl1
  go_wp2_with fail
  refine (put_any w.heap.size _ b1 p.length 2 _ hs1 hv1 (by rw [HL1.out]; omega) (by omega) (by omega)).mono ?_
  rintro e w2 ⟨v2, rfl, hv2, hb2, hs2⟩
  have hl2 : (b1 ++ le p.length 2).length = 10 := by rw [List.length_append, HL1.out, le_length]
  generalize b1 ++ le p.length 2 = b2 at hv2 hl2 hst hBY
  have HL2 := Lib.hid hl2
  clear hl2
  go_wp2_with fail
  refine (put_any w.heap.size _ b2 0 2 _ hs2 hv2 (by rw [HL2.out]; omega) (by omega) (by omega)).mono ?_
  rintro e w3 ⟨v3, rfl, hv3, hb3, hs3⟩
  have hl3 : (b2 ++ le 0 2).length = 12 := by rw [List.length_append, HL2.out, le_length]
  generalize b2 ++ le 0 2 = b3 at hv3 hl3 hst hBY
  have HL3 := Lib.hid hl3
  clear hl3
  have hb03 := (hb1.trans hb2).trans hb3
  go_wp2_with (at_builtin; go_loud (refine buf_append (w0 := w) rfl (.tmp 33) (.tmp 34) rfl Tryz.underlying22 Tryz.info5 w.heap.size v3 b3 rfl hv3 A p.length c p rfl rfl (hA.below hb03) hnil (by rw [HL3.out]; omega) hs3 hb03 ?_); intro v4 w4 hv4 hb4 hs4)
  have hl4 : (b3 ++ p).length = 12 + p.length := by rw [List.length_append, HL3.out]
  generalize b3 ++ p = b4 at hv4 hl4 hst hBY
  have HL4 := Lib.hid hl4
  clear hl4
  go_wp2_with fail
  refine (rfilled_any w.heap.size _ b4 1020 _ hs4 hv4 hBY.out (by rw [HL4.out]; omega) (by omega)).mono ?_
  rintro e w5 ⟨v5, rfl, hv5, hb5, hs5⟩
  go_wp2
  go_ret2
  exact ⟨_, rfl, by rw [hst.out]; exact hv5, hb4.trans hb5, hs5⟩
end Go.Proofs.YtfbjjblgcgjndaaGreat

/- Contracts of the reader: take, number, guard. -/
namespace Go.Proofs.YtfbjjblgcgjndaaGreat
open Go.RowKit

def Inner.pre (r : Inner) (k : Nat) : Inner := ⟨r.A, r.l.take k, r.c⟩
def Inner.suf (r : Inner) (k : Nat) : Inner := ⟨if r.c = k then r.A else r.A.map (·.add k), r.l.drop k, r.c - k⟩
theorem Inner.Ok.pre {w : World} {r : Inner} (h : r.Ok w) (k : Nat) : (r.pre k).Ok w :=
  ⟨h.lies.takes k, h.nil, by have := h.le; simp [Inner.pre]; omega, by have := h.small; simp [Inner.pre]; omega, h.bytes.take k⟩
theorem Inner.Ok.suf {w : World} {r : Inner} (h : r.Ok w) (k : Nat) (hk : k ≤ r.l.length) : (r.suf k).Ok w := by
  have hle := h.le
  refine ⟨?_, ?_, by show (r.l.drop k).length ≤ r.c - k; rw [List.length_drop]; omega, by have := h.small; show (r.l.drop k).length ≤ 140737488351232; rw [List.length_drop]; omega, h.bytes.drop k⟩
  · intro hn
    have hlt : k < r.l.length := by
      refine Decidable.byContradiction fun hc => hn ?_
      simp [Inner.suf, ns, List.drop_eq_nil_of_le (Nat.le_of_not_lt hc)]
    obtain ⟨b, o, e, hr⟩ := h.lies (by intro he; have := congrArg List.length he; simp [ns] at this; rw [this] at hlt; simp at hlt)
    refine ⟨b, o + k, ?_, ?_⟩
    · simp only [Inner.suf, e, Option.map_some]
      rw [if_neg (by omega), Addr.add_mid]
    · intro j v hv
      rw [Nat.add_assoc]
      refine hr (k + j) v ?_
      simpa [Inner.suf, ns] using hv
  · intro he
    simp only [Inner.suf] at he ⊢
    split at he
    · have := h.nil he; omega
    · have : r.A = none := by cases hA : r.A <;> simp_all
      have := h.nil this; omega

/-- a reader in block b, all that it reads lies in w0 -/
structure Reads (w0 w : World) (b : Nat) (r : Inner) : Prop where
  cell : w.heap[b]? = some (.cells #[r.val] 210 (0, 0))
  ok : r.Ok w0
  below : Below w0.heap.size w0 w
  new : w0.heap.size ≤ b
theorem Reads.set {w0 w : World} {b : Nat} {r : Inner} (h : Reads w0 w b r) (r2 : Inner) (h2 : r2.Ok w0) : Reads w0 (w.setCell ⟨b, 0, none⟩ r2.val) b r2 :=
  ⟨blk_set h.cell 0 r2.val, h2, h.below.setCell h.new _, h.new⟩
theorem grown_setCell (w : World) (b i : Nat) (v : Value) : w.grownBy (w.setCell ⟨b, i, none⟩ v) (some b) :=
  ⟨rfl, rfl, rfl, by simp [World.setCell], fun k hk hne => Below.heap_setCell _ _ _ _ (by intro e; exact hne (by rw [e]))⟩

theorem take_tests (r : Inner) (k : Nat) (A : Option Addr) (n c : Nat) (h : r.val = .slice A n c) : r.A = A ∧ r.l.length = n ∧ r.c = c := by
  unfold Inner.val at h
  injection h with h1 h2 h3
  exact ⟨h1, h2, h3⟩

set_option maxRecDepth 100000 in
set_option maxHeartbeats 1000000 in
theorem take_raw (b : Nat) (A : Option Addr) (n c k : Nat) (w : World) (hb : w.heap[b]? = some (.cells #[.slice A n c] 210 (0, 0))) (hk : k ≤ n) (hc : n ≤ c) :
    Calls Tryz.prog 96 #[.pointer (some ⟨b, 0, none⟩), .int .i64 (k : Int)] w fun e w' => e = .returned (.slice A k c) ∧ w' = w.setCell ⟨b, 0, none⟩ (.slice (if c = k then A else A.map (·.add k)) (n - k) (c - k)) := by
  have hcell : w.cell? ⟨b, 0, none⟩ = some (.slice A n c) := by rw [cell_of_row w b 0 _ 210 (0, 0) hb]; rfl
  have hfr := frozen_of_row w b 0 _ 210 hb
  clear hb
  by_cases he : c = k
  · subst he
    go_enter Tryz.func96, Tryz.ntmps96
    go_wp2
    go_ret
    exact ⟨rfl, by simp⟩
  · go_enter Tryz.func96, Tryz.ntmps96
    go_wp2
    go_ret
    exact ⟨rfl, by simp [he]⟩
theorem take_ok {w0 w : World} {b : Nat} {r : Inner} (h : Reads w0 w b r) (k : Nat) (hk : k ≤ r.l.length) :
    Calls Tryz.prog 96 #[.pointer (some ⟨b, 0, none⟩), .int .i64 (k : Int)] w fun e w' => e = .returned (.slice r.A k r.c) ∧ Reads w0 w' b (r.suf k) ∧ w.grownBy w' (some b) := by
  refine (take_raw b r.A r.l.length r.c k w h.cell hk h.ok.le).mono ?_
  rintro e w' ⟨rfl, rfl⟩
  have e1 : Value.slice (if r.c = k then r.A else r.A.map (·.add k)) (r.l.length - k) (r.c - k) = (r.suf k).val := by simp [Inner.val, Inner.suf]
  rw [e1]
  exact ⟨rfl, h.set _ (h.ok.suf k hk), grown_setCell w b 0 _⟩

def Gave : Ending := .panicked [{ v := .iface 214 (.agg #[]), recovered := false }]
set_option maxRecDepth 100000 in
set_option maxHeartbeats 1000000 in
theorem take_bad {w0 w : World} {b : Nat} {r : Inner} (h : Reads w0 w b r) (k : Nat) (hk : r.l.length < k) (hs : k ≤ 1000000) :
    Calls Tryz.prog 96 #[.pointer (some ⟨b, 0, none⟩), .int .i64 (k : Int)] w fun e w' => e = Gave ∧ w' = w := by
  have hcell : w.cell? ⟨b, 0, none⟩ = some (.slice r.A r.l.length r.c) := by rw [cell_of_row w b 0 _ 210 (0, 0) h.cell]; rfl
  have hfr := frozen_of_row w b 0 _ 210 h.cell
  clear h
  go_enter Tryz.func96, Tryz.ntmps96
  go_wp2
  exact ⟨rfl, rfl, rfl⟩

theorem run_assert273 (w : World) : (Instr.typeAssert (.iface 214 (.agg #[])) 20 214 true).run Tryz.prog w = .ok (.tuple #[.agg #[], .bool true]) w := by
  simp [Instr.typeAssert, run_underlying Tryz.underlying214]
/-- the variable of a result, in a block of its own -/
def ErrBox (w : World) (g : Nat) (x : Int) : Prop := w.heap[g]? = some (.cells #[.int .u16 x] 28 (0, 0))
set_option maxRecDepth 100000 in
theorem guard_panicking (g : Nat) (x : Int) (older : List PanicEntry) (w : World) (hg : ErrBox w g x) :
    CallsD Tryz.prog 95 #[.pointer (some ⟨g, 0, none⟩)] (.panicking ({ v := .iface 214 (.agg #[]), recovered := false } :: older)) w fun e u' w' =>
      e = .returned (.tuple #[]) ∧ u' = .panicking ({ v := .iface 214 (.agg #[]), recovered := true } :: older) ∧ ErrBox w' g 80 ∧ w.grownBy w' (some g) := by
  have hlt : g < w.heap.size := (Array.getElem?_eq_some_iff.1 hg).1
  have hg' : (w.alloc (.cells #[] 214)).heap[g]? = some (.cells #[.int .u16 x] 28 (0, 0)) := by rw [heap_alloc_old w _ hlt]; exact hg
  have hc : (w.alloc (.cells #[] 214)).cell? ⟨g, 0, none⟩ = some (.int .u16 x) := by rw [cell_of_row _ g 0 _ 28 (0, 0) hg']; rfl
  have hz : (w.alloc (.cells #[] 214)).frozen? ⟨g, 0, none⟩ = false := blk_frozen hg' 0
  have hbx0 : (w.setCell ⟨g, 0, none⟩ (.int .u16 80)).heap[g]? = some (.cells #[.int .u16 80] 28 (0, 0)) := blk_set hg 0 _
  have hfin : w.grownBy ((w.setCell ⟨g, 0, none⟩ (.int .u16 80)).alloc (.cells #[] 214)) (some g) := by
    have h0 := grown_setCell w g 0 (.int .u16 80)
    have h1 : (w.setCell ⟨g, 0, none⟩ (.int .u16 80)).grownBy ((w.setCell ⟨g, 0, none⟩ (.int .u16 80)).alloc (.cells #[] 214)) (some g) := ⟨rfl, rfl, rfl, by simp, fun i hi _ => heap_alloc_old _ _ hi⟩
    exact h0.trans h1
  have hbx : ErrBox ((w.setCell ⟨g, 0, none⟩ (.int .u16 80)).alloc (.cells #[] 214)) g 80 := by
    unfold ErrBox
    rw [heap_alloc_old _ _ (Array.getElem?_eq_some_iff.1 hbx0).1]; exact hbx0
  clear hbx0
  have HF := Lib.hid hfin
  have HB := Lib.hid hbx
  clear hg hg' hfin hbx
  refine callsD_of_wpS Tryz.func95 rfl fun c₀ cs hu => ?_
  apply wpS_seq
  apply wpS_region
  simp [wpOpsS, go_sem, recoverD, hu, Tryz.ntmps95, Exit.thenS]
  apply wpS_seq
  apply wpS_region
  simp [wpOpsS, go_sem, Exit.thenS]
  refine wpS_cond (t := true) (by simp [Act.eval, Array.replicate]) ?_
  simp only [if_true]
  refine wpS_of_wp ?_
  change Code.wp _ _ _ { tmps := #[.pointer (some ⟨g, 0, none⟩), undef, .iface 214 (.agg #[]), undef, undef, .iface 214 (.agg #[]), .iface 214 (.agg #[]), .bool true, undef, undef, undef, undef, undef, undef, undef, undef, undef, undef], defers := [] } _
  have hta := run_assert273
  go_wp2
  exact ⟨rfl, _, rfl, _, results_none rfl _ _ _, rfl, rfl, HB.out, HF.out⟩
theorem guard_idle (p : Addr) (w : World) :
    CallsD Tryz.prog 95 #[.pointer (some p)] .returning w fun e u' w' => e = .returned (.tuple #[]) ∧ u' = .returning ∧ w' = w := by
  refine callsD_of_wpS Tryz.func95 rfl fun c₀ cs hu => ?_
  apply wpS_seq
  apply wpS_region
  simp [wpOpsS, go_sem, recoverD, hu, Tryz.ntmps95, Exit.thenS]
  apply wpS_seq
  apply wpS_region
  simp [wpOpsS, go_sem, Exit.thenS]
  refine wpS_cond (t := false) (by simp [Act.eval, Array.replicate]) ?_
  simp only [Bool.false_eq_true, if_false]
  refine wpS_of_wp (wp_skip ?_)
  cases c₀
  simp_all [bodyPostS, results, Tryz.results95]
end Go.Proofs.YtfbjjblgcgjndaaGreat

/- Contracts of number and open. -/
namespace Go.Proofs.YtfbjjblgcgjndaaGreat
open Go.RowKit

theorem el_append (l m : List Nat) : el (l ++ m) = el l + 256 ^ l.length * el m := by
  induction l with
  | nil => simp [el]
  | cons b l ih =>
    simp only [List.cons_append, el, ih, List.length_cons, Nat.pow_succ]
    rw [Nat.mul_add, Nat.mul_comm (256 ^ l.length) 256, Nat.mul_assoc]
    omega
theorem el_take (l : List Nat) (k : Nat) (h : k < l.length) : el (l.take (k + 1)) = el (l.take k) + 256 ^ k * nth l k := by
  rw [take_nth l k h, el_append]
  have : min k l.length = k := Nat.min_eq_left (by omega)
  simp [el, this]
theorem el_take_lt (l : List Nat) (k : Nat) (h : k ≤ l.length) (hb : Bytes l) : el (l.take k) < 256 ^ k := by
  have := el_lt (l.take k) (hb.take k)
  rwa [List.length_take, Nat.min_eq_left h] at this

theorem or_at (n c j : Nat) (hn : n < 256 ^ j) (hc : c < 256) (hj : j < 8) :
    bits BinOp.or IntKind.u64 (n : Int) (IntKind.u64.wrap ((c : Int) * 2 ^ (8 * j))) = ((n + 256 ^ j * c : Nat) : Int) := by
  have h256 : (256 : Nat) ^ j = 2 ^ (8 * j) := by rw [Nat.pow_mul]
  have hpos : 0 < 256 ^ j := Nat.pow_pos (by decide)
  have hle : 256 ^ j ≤ 256 ^ 7 := Nat.pow_le_pow_right (by decide) (by omega)
  have h1 : 256 ^ j * c < 18446744073709551616 := by
    calc 256 ^ j * c ≤ 256 ^ 7 * c := Nat.mul_le_mul_right _ hle
      _ ≤ 256 ^ 7 * 255 := Nat.mul_le_mul_left _ (by omega)
      _ < 18446744073709551616 := by decide
  have e1 : (c : Int) * 2 ^ (8 * j) = ((256 ^ j * c : Nat) : Int) := by
    rw [h256]
    push_cast
    exact Int.mul_comm _ _
  rw [e1]
  generalize hX : 256 ^ j * c = X at h1
  have e2 : IntKind.u64.wrap (X : Int) = (X : Int) := by rw [IntKind.wrap_u64]; omega
  rw [e2, u64_or_nat n X (by have : (256:Nat) ^ 7 < 18446744073709551616 := by decide
                             omega) h1, ← hX, h256, Nat.or_comm, ← Nat.two_pow_add_eq_or_of_lt (by rw [← h256]; exact hn), Nat.add_comm]
set_option maxRecDepth 100000 in
set_option maxHeartbeats 1000000 in
theorem number_ok {w0 w : World} {b : Nat} {r : Inner} (h : Reads w0 w b r) (k : Nat) (hk : k ≤ r.l.length) (hk8 : k ≤ 8) :
    Calls Tryz.prog 97 #[.pointer (some ⟨b, 0, none⟩), .int .i64 (k : Int)] w fun e w' => e = .returned (.int .u64 ((el (r.l.take k) : Nat) : Int)) ∧ Reads w0 w' b (r.suf k) ∧ w.grownBy w' (some b) := by
  go_enter Tryz.func97, Tryz.ntmps97
  go_wp2_with fail
  refine (take_ok h k hk).mono ?_
  rintro e w1 ⟨rfl, hr1, hg1⟩
  have hA := (h.ok.pre k).lies.below hr1.below
  have hb := h.ok.bytes
  generalize hQ : Reads w0 w1 b (r.suf k) = QQ at hr1
  have HQ := Lib.hid hQ
  clear hQ h
  go_wp2
  go_loop [5, 12] (fun n i => ∃ j : Nat, j ≤ k ∧ i = .int .i64 j ∧ n = .int .u64 ((el (r.l.take j) : Nat) : Int)) (fun _ i => k - (intOf i).toNat)
  case atStart => exact ⟨0, by omega, rfl, by simp [el]⟩
  case round =>
    obtain ⟨j, hj, rfl, rfl⟩ := hrel
    by_cases hlt : j < k
    · obtain ⟨g, o, e, hc⟩ := hA.num j (by simp [Inner.pre]; omega)
      have e2 : nth (r.pre k).l j = nth r.l j := by
        have h1 := nth_eq (r.pre k).l j (by simp [Inner.pre]; omega)
        have h2 := nth_eq r.l j (by omega)
        simp only [Inner.pre] at h1 ⊢
        rw [List.getElem?_take_of_lt hlt, h2] at h1
        exact (Option.some.inj h1).symm
      rw [e2] at hc
      have e3 : r.A = some ⟨g, o, none⟩ := e
      have hlt1 := el_take_lt r.l j (by omega) hb
      have hbj := hb.nth j (by omega)
      have hor := or_at _ _ j hlt1 hbj (by omega)
      rw [← el_take r.l j (by omega)] at hor
      have HO := Lib.hid hor
      clear hor hlt1
      go_wp2
      go_round
      case rel => exact ⟨j + 1, by omega, by go_num, by rw [HO.out]⟩
      case measure => simp [intOf]; omega
    · obtain rfl : j = k := by omega
      go_wp2
      go_ret
      exact ⟨rfl, by rw [HQ.out]; exact hr1, hg1⟩

set_option maxRecDepth 100000 in
set_option maxHeartbeats 1000000 in
theorem number_bad {w0 w : World} {b : Nat} {r : Inner} (h : Reads w0 w b r) (k : Nat) (hk : r.l.length < k) (hs : k ≤ 1000000) :
    Calls Tryz.prog 97 #[.pointer (some ⟨b, 0, none⟩), .int .i64 (k : Int)] w fun e w' => e = Gave ∧ w' = w := by
  have ht := Lib.hid (take_bad h k hk hs)
  clear h
  go_enter Tryz.func97, Tryz.ntmps97
  go_wp2_with fail
  refine ht.out.mono ?_
  rintro e w1 ⟨rfl, rfl⟩
  exact ⟨rfl, rfl, rfl⟩

theorem ErrBox.grown {w w1 : World} {g b : Nat} {x : Int} (h : ErrBox w g x) (hg : w.grownBy w1 (some b)) (hne : g ≠ b) : ErrBox w1 g x := by
  unfold ErrBox
  rw [hg.block g (Array.getElem?_eq_some_iff.1 h).1 (by intro e; injection e with e; exact hne e)]
  exact h

theorem suf_length (r : Inner) (k : Nat) : (r.suf k).l.length = r.l.length - k := by simp [Inner.suf]
theorem suf_l (r : Inner) (k : Nat) : (r.suf k).l = r.l.drop k := rfl
theorem suf_suf_l (r : Inner) (k m : Nat) : ((r.suf k).suf m).l = r.l.drop (k + m) := by simp [Inner.suf]
theorem pre_l (r : Inner) (k : Nat) : (r.pre k).l = r.l.take k := rfl
theorem nth_drop (l : List Nat) (k j : Nat) : nth (l.drop k) j = nth l (k + j) := by simp [nth, List.getD_eq_getElem?_getD]
theorem nth_take (l : List Nat) (k j : Nat) (h : j < k) : nth (l.take k) j = nth l j := by simp [nth, List.getD_eq_getElem?_getD, List.getElem?_take_of_lt h]

/-- the start: the variable of the error, the reader behind it -/
theorem opened (r : Inner) (w : World) (h : r.Ok w) (W : World) (hW : W = (w.alloc (.cells #[.int .u16 0] 28)).alloc (.cells #[.slice r.A r.l.length r.c] 210)) :
    Reads w W (w.heap.size + 1) r ∧ ErrBox W w.heap.size 0 := by
  subst hW
  refine ⟨⟨?_, h, below_alloc0 (below_alloc0 (Below.refl _ _) _) _, by omega⟩, ?_⟩
  · rw [show w.heap.size + 1 = (w.alloc (.cells #[.int .u16 0] 28)).heap.size by simp]
    exact heap_alloc_new _ _
  · unfold ErrBox
    rw [heap_alloc_old _ _ (by simp)]
    exact heap_alloc_new w _

set_option maxRecDepth 100000 in
set_option maxHeartbeats 1000000 in
theorem open_ok (r : Inner) (w : World) (h : r.Ok w) (h12 : 12 ≤ r.l.length) (n : Nat) (hn : n = el ((r.l.drop 8).take 2)) (hfit : n ≤ r.l.length - 12) :
    Calls Tryz.prog 84 #[.slice r.A r.l.length r.c] w fun e w' => ∃ q : Inner, q.Ok w ∧ q.l = (r.l.drop 12).take n ∧ e = .returned (.tuple #[.int .u8 (nth r.l 2 : Int), .slice q.A q.l.length q.c, .int .u16 0]) ∧ Below w.heap.size w w' := by
  have hsmall := h.small
  have hle := h.le
  have hne : w.heap.size ≠ w.heap.size + 1 := by omega
  go_enter_defers Tryz.func84, Tryz.ntmps84
  go_wp2_with fail
  generalize hW : (w.alloc (Obj.cells #[Value.int IntKind.u16 0] 28)).alloc (Obj.cells #[Value.slice r.A r.l.length r.c] 210) = W0
  obtain ⟨hr0, hE0⟩ := opened r w h W0 hW.symm
  clear hW
  refine (take_ok hr0 2 (by omega)).mono ?_
  rintro e w1 ⟨rfl, hr1, hg1⟩
  have hE1 := hE0.grown hg1 hne
  go_wp2_with fail
  refine (take_ok hr1 1 (by rw [suf_length]; omega)).mono ?_
  rintro e w2 ⟨rfl, hr2, hg2⟩
  have hE2 := hE1.grown hg2 hne
  have hA2 := (hr1.ok.pre 1).lies.below hr2.below
  obtain ⟨g, o, e2, hc2⟩ := hA2.num 0 (by simp [Inner.pre, suf_l]; omega)
  rw [pre_l, nth_take _ _ _ (by omega), suf_l, nth_drop, Nat.add_zero] at hc2
  have e2' : (r.suf 2).A = some ⟨g, o, none⟩ := e2
  clear e2
  rw [e2']
  go_wp2_with fail
  refine (take_ok hr2 5 (by rw [suf_length, suf_length]; omega)).mono ?_
  rintro e w3 ⟨rfl, hr3, hg3⟩
  have hE3 := hE2.grown hg3 hne
  go_wp2_with fail
  refine (number_ok hr3 2 (by rw [suf_length, suf_length, suf_length]; omega) (by omega)).mono ?_
  rintro e w4 ⟨rfl, hr4, hg4⟩
  have hE4 := hE3.grown hg4 hne
  have hnum : el ((((r.suf 2).suf 1).suf 5).l.take 2) = n := by rw [hn]; simp [Inner.suf]
  rw [hnum]
  clear hnum hn
  go_wp2_with fail
  refine (take_ok hr4 2 (by rw [suf_length, suf_length, suf_length, suf_length]; omega)).mono ?_
  rintro e w5 ⟨rfl, hr5, hg5⟩
  have hE5 := hE4.grown hg5 hne
  go_wp2_with fail
  refine (take_ok hr5 n (by rw [suf_length, suf_length, suf_length, suf_length, suf_length]; omega)).mono ?_
  rintro e w6 ⟨rfl, hr6, hg6⟩
  have hE6 := hE5.grown hg6 hne
  have hq := hr5.ok.pre n
  have hql : ((((((r.suf 2).suf 1).suf 5).suf 2).suf 2).pre n).l = (r.l.drop 12).take n := by simp [Inner.suf, Inner.pre]
  have hb6 := hr6.below
  have hcell : w6.cell? ⟨w.heap.size, 0, none⟩ = some (.int .u16 0) := by rw [cell_of_row w6 _ 0 _ 28 (0, 0) hE6]; rfl
  have hfr := frozen_of_row w6 _ 0 _ 28 hE6
  generalize (((((r.suf 2).suf 1).suf 5).suf 2).suf 2) = r5 at hq hql ⊢
  go_wp2
  refine leaves_cons (f := 95) (args := #[.pointer (some ⟨w.heap.size, 0, none⟩)]) (by simp) (by simp [go_sem]) ?_
  refine (guard_idle _ _).mono ?_
  rintro e u' w'' ⟨rfl, rfl, rfl⟩
  have hcell2 : (w6.setCell ⟨w.heap.size, 0, none⟩ (.int .u16 0)).cell? ⟨w.heap.size, 0, none⟩ = some (.int .u16 0) := by
    have h2 : ErrBox (w6.setCell ⟨w.heap.size, 0, none⟩ (.int .u16 0)) w.heap.size 0 := blk_set hE6 0 _
    rw [cell_of_row _ _ 0 _ 28 (0, 0) h2]; rfl
  have hlen : (r5.pre n).l.length = n := by rw [hql, List.length_take, List.length_drop]; omega
  simp only [Leaves, settle, results, Tryz.results84, go_sem]
  simp [hcell2, go_sem]
  exact ⟨r5.pre n, hq, hql, by rw [hlen]; exact ⟨rfl, rfl, rfl⟩, hb6.setCell (Nat.le_refl _) _⟩

/-- the door of open, where the reader gave up -/
theorem open_door (g : Nat) (tmps : Array Value) (k v : Value) (R : Ending → World → Prop) (w : World) (h2 : tmps.getD 2 undef = k) (h3 : tmps.getD 3 undef = v) (h4 : tmps.getD 4 undef = .pointer (some ⟨g, 0, none⟩)) (hE : ErrBox w g 0)
    (h : ∀ w2, w.grownBy w2 (some g) → R (.returned (.tuple #[k, v, .int .u16 80])) w2) :
    Leaves Tryz.prog Tryz.f84 tmps R [{ target := .fn (.func 95) #[], args := #[.pointer (some ⟨g, 0, none⟩)] }] (.panicking [{ v := .iface 214 (.agg #[]), recovered := false }]) w := by
  refine leaves_cons (f := 95) (args := #[.pointer (some ⟨g, 0, none⟩)]) (by simp) (by simp [go_sem]) ?_
  refine (guard_panicking g 0 [] w hE).mono ?_
  rintro e u' w2 ⟨rfl, rfl, hE2, hg2⟩
  have hcell2 : w2.cell? ⟨g, 0, none⟩ = some (.int .u16 80) := by rw [cell_of_row _ _ 0 _ 28 (0, 0) hE2]; rfl
  have := h w2 hg2
  have hres : (results Tryz.f84 tmps).run Tryz.prog w2 = .ok (.tuple #[k, v, .int .u16 80]) w2 := by
    have h2' : tmps.getD 2 undef = k := h2
    simp [results, Tryz.results84, go_sem]
    simp [Array.getD_eq_getD_getElem?] at h2 h3 h4
    simp [h2, h3, h4, hcell2, go_sem]
  exact ⟨_, hres, this⟩

set_option maxRecDepth 100000 in
set_option maxHeartbeats 1000000 in
theorem open_bad (r : Inner) (w : World) (h : r.Ok w) (hbad : r.l.length < 12 ∨ (12 ≤ r.l.length ∧ r.l.length - 12 < el ((r.l.drop 8).take 2))) :
    Calls Tryz.prog 84 #[.slice r.A r.l.length r.c] w fun e w' => ∃ k v, e = .returned (.tuple #[k, v, .int .u16 80]) ∧ Below w.heap.size w w' := by
  have hsmall := h.small
  have hle := h.le
  have hne : w.heap.size ≠ w.heap.size + 1 := by omega
  go_enter_defers Tryz.func84, Tryz.ntmps84
  go_wp2_with fail
  generalize hW : (w.alloc (Obj.cells #[Value.int IntKind.u16 0] 28)).alloc (Obj.cells #[Value.slice r.A r.l.length r.c] 210) = W0
  obtain ⟨hr0, hE0⟩ := opened r w h W0 hW.symm
  clear hW
  by_cases d0 : r.l.length < 2
  · clear hbad
    refine (take_bad hr0 2 d0 (by omega)).mono ?_
    rintro e w9 ⟨rfl, rfl⟩
    exact open_door w.heap.size _ _ _ _ _ rfl rfl rfl hE0 (fun w2 hg2 => ⟨_, _, rfl, below_grown hr0.below hg2 hr0.below.size (by intro k hk; injection hk with hk; omega)⟩)
  refine (take_ok hr0 2 (by omega)).mono ?_
  rintro e w1 ⟨rfl, hr1, hg1⟩
  have hE1 := hE0.grown hg1 hne
  by_cases d1 : r.l.length < 3
  · clear hbad
    go_wp2_with fail
    refine (take_bad hr1 1 (by rw [suf_length]; omega) (by omega)).mono ?_
    rintro e w9 ⟨rfl, rfl⟩
    exact open_door w.heap.size _ _ _ _ _ rfl rfl rfl hE1 (fun w2 hg2 => ⟨_, _, rfl, below_grown hr1.below hg2 hr1.below.size (by intro k hk; injection hk with hk; omega)⟩)
  go_wp2_with fail
  refine (take_ok hr1 1 (by rw [suf_length]; omega)).mono ?_
  rintro e w2 ⟨rfl, hr2, hg2⟩
  have hE2 := hE1.grown hg2 hne
  have hA2 := (hr1.ok.pre 1).lies.below hr2.below
  obtain ⟨g, o, e2, hc2⟩ := hA2.num 0 (by simp [Inner.pre, suf_l]; omega)
  rw [pre_l, nth_take _ _ _ (by omega), suf_l, nth_drop, Nat.add_zero] at hc2
  have e2' : (r.suf 2).A = some ⟨g, o, none⟩ := e2
  clear e2
  rw [e2']
  by_cases d2 : r.l.length < 8
  · clear hbad
    go_wp2_with fail
    refine (take_bad hr2 5 (by rw [suf_length, suf_length]; omega) (by omega)).mono ?_
    rintro e w9 ⟨rfl, rfl⟩
    exact open_door w.heap.size _ _ _ _ _ rfl rfl rfl hE2 (fun w2 hg2 => ⟨_, _, rfl, below_grown hr2.below hg2 hr2.below.size (by intro k hk; injection hk with hk; omega)⟩)
  go_wp2_with fail
  refine (take_ok hr2 5 (by rw [suf_length, suf_length]; omega)).mono ?_
  rintro e w3 ⟨rfl, hr3, hg3⟩
  have hE3 := hE2.grown hg3 hne
  by_cases d3 : r.l.length < 10
  · clear hbad
    go_wp2_with fail
    refine (number_bad hr3 2 (by rw [suf_length, suf_length, suf_length]; omega) (by omega)).mono ?_
    rintro e w9 ⟨rfl, rfl⟩
    exact open_door w.heap.size _ _ _ _ _ rfl rfl rfl hE3 (fun w2 hg2 => ⟨_, _, rfl, below_grown hr3.below hg2 hr3.below.size (by intro k hk; injection hk with hk; omega)⟩)
  go_wp2_with fail
  refine (number_ok hr3 2 (by rw [suf_length, suf_length, suf_length]; omega) (by omega)).mono ?_
  rintro e w4 ⟨rfl, hr4, hg4⟩
  have hE4 := hE3.grown hg4 hne
  have hnum : el ((((r.suf 2).suf 1).suf 5).l.take 2) = el ((r.l.drop 8).take 2) := by simp [Inner.suf]
  rw [hnum]
  clear hnum
  have hnlt := el_take_lt (r.l.drop 8) 2 (by rw [List.length_drop]; omega) (h.bytes.drop 8)
  generalize el ((r.l.drop 8).take 2) = n at hbad hnlt
  by_cases d4 : r.l.length < 12
  · clear hbad
    go_wp2_with fail
    refine (take_bad hr4 2 (by rw [suf_length, suf_length, suf_length, suf_length]; omega) (by omega)).mono ?_
    rintro e w9 ⟨rfl, rfl⟩
    exact open_door w.heap.size _ _ _ _ _ rfl rfl rfl hE4 (fun w2 hg2 => ⟨_, _, rfl, below_grown hr4.below hg2 hr4.below.size (by intro k hk; injection hk with hk; omega)⟩)
  go_wp2_with fail
  refine (take_ok hr4 2 (by rw [suf_length, suf_length, suf_length, suf_length]; omega)).mono ?_
  rintro e w5 ⟨rfl, hr5, hg5⟩
  have hE5 := hE4.grown hg5 hne
  have d5 : r.l.length - 12 < n := by omega
  clear hbad
  go_wp2_with fail
  refine (take_bad hr5 n (by rw [suf_length, suf_length, suf_length, suf_length, suf_length]; omega) (by omega)).mono ?_
  rintro e w9 ⟨rfl, rfl⟩
  exact open_door w.heap.size _ _ _ _ _ rfl rfl rfl hE5 (fun w2 hg2 => ⟨_, _, rfl, below_grown hr5.below hg2 hr5.below.size (by intro k hk; injection hk with hk; omega)⟩)
end Go.Proofs.YtfbjjblgcgjndaaGreat

/- Contracts of page.Open and of the reference's get and Open. -/
namespace Go.Proofs.YtfbjjblgcgjndaaGreat
open Go.RowKit

def kindOf (l : List Nat) : Nat := nth l 2
def lenOf (l : List Nat) : Nat := el ((l.drop 8).take 2)
def payOf (l : List Nat) : List Nat := (l.drop 12).take (lenOf l)
/-- the bytes are the page of that number -/
def IsPage (number : Nat) (l : List Nat) : Prop := 12 ≤ l.length ∧ lenOf l ≤ l.length - 12 ∧ SealOk (kindOf l) (payOf l) ∧ l = sealed (kindOf l) number (payOf l)
instance (number : Nat) (l : List Nat) : Decidable (IsPage number l) := inferInstanceAs (Decidable (_ ∧ _ ∧ _ ∧ _))
theorem IsPage.length {number : Nat} {l : List Nat} (h : IsPage number l) : l.length = 1024 := by
  have := h.2.2.2
  rw [this]
  exact sealed_length _ _ _ h.2.2.1.2.2

theorem sealed_form (k number : Nat) (p : List Nat) : ∃ rest, sealed k number p = front k number p.length ++ (p ++ rest) := by
  unfold sealed closed fill
  exact ⟨_, by rw [List.append_assoc, List.append_assoc]⟩
theorem front_form (k number n : Nat) : ∃ a, a.length = 4 ∧ front k number n = [67, 80, k, 0] ++ (a ++ (le n 2 ++ le 0 2)) ∧ a = le number 4 :=
  ⟨le number 4, le_length _ _, by simp [front], rfl⟩
theorem sealed_parts (k number : Nat) (p : List Nat) (h : p.length ≤ 1008) : kindOf (sealed k number p) = k ∧ lenOf (sealed k number p) = p.length ∧ payOf (sealed k number p) = p ∧ ((sealed k number p).drop 4).take 4 = le number 4 := by
  obtain ⟨rest, hs⟩ := sealed_form k number p
  obtain ⟨a, ha, hf, ha2⟩ := front_form k number p.length
  have h1 : kindOf (sealed k number p) = k := by rw [hs, hf]; simp [kindOf, nth]
  have h2 : lenOf (sealed k number p) = p.length := by
    rw [hs, hf]
    unfold lenOf
    have e : (([67, 80, k, 0] ++ (a ++ (le p.length 2 ++ le 0 2)) ++ (p ++ rest)).drop 8).take 2 = le p.length 2 := by
      have e1 : [67, 80, k, 0] ++ (a ++ (le p.length 2 ++ le 0 2)) ++ (p ++ rest) = ([67, 80, k, 0] ++ a) ++ (le p.length 2 ++ (le 0 2 ++ (p ++ rest))) := by simp
      rw [e1, List.drop_left' (by simp [ha]), List.take_left' (le_length _ _)]
    rw [e, el_le, Nat.mod_eq_of_lt (by omega)]
  refine ⟨h1, h2, ?_, ?_⟩
  · unfold payOf
    rw [h2, hs, List.drop_left' (front_length _ _ _), List.take_left' rfl]
  · rw [hs, hf]
    have e1 : [67, 80, k, 0] ++ (a ++ (le p.length 2 ++ le 0 2)) ++ (p ++ rest) = [67, 80, k, 0] ++ (a ++ (le p.length 2 ++ (le 0 2 ++ (p ++ rest)))) := by simp
    rw [e1, List.drop_left' (by simp), List.take_left' ha, ha2]
theorem isPage_sealed (k number : Nat) (p : List Nat) (h : SealOk k p) : IsPage number (sealed k number p) := by
  obtain ⟨h1, h2, h3, _⟩ := sealed_parts k number p h.2.2
  have hl := sealed_length k number p h.2.2
  have := h.2.2
  exact ⟨by omega, by rw [h2, hl]; omega, by rw [h1, h3]; exact h, by rw [h1, h3]⟩
theorem kindOf_lt {l : List Nat} (hb : Bytes l) (h : 12 ≤ l.length) : kindOf l < 256 := hb.nth 2 (by omega)

theorem own_base_mono {n0 n1 : Nat} {w : World} {v : Value} {l : List Nat} (h : Buf n1 w v l) (hn : n0 ≤ n1) : Buf n0 w v l := by
  refine ⟨h.1, ?_⟩
  rcases h.2 with h2 | ⟨g, cap, cur, h1, h2, h3⟩
  · exact .inl h2
  · exact .inr ⟨g, cap, cur, h1, Nat.le_trans hn h2, h3⟩

set_option maxRecDepth 100000 in
set_option maxHeartbeats 1000000 in
theorem open_yes (number : Nat) (r : Inner) (w : World) (h : r.Ok w) (hn : number < 4294967296) (hp : IsPage number r.l) :
    Calls Tryz.prog 48 #[.int .u32 (number : Int), .slice r.A r.l.length r.c] w fun e w' => ∃ v, e = .returned (.tuple #[.int .u8 (kindOf r.l : Int), v, .int .u16 0]) ∧ Buf w.heap.size w' v (payOf r.l) ∧ Below w.heap.size w w' ∧ w.heap.size ≤ w'.heap.size := by
  obtain ⟨h12, hfit, hso, heq⟩ := hp
  have hk := kindOf_lt h.bytes h12
  have hpb : Bytes (payOf r.l) := (h.bytes.drop 12).take _
  have hop := Lib.hid (open_ok r w h h12 (lenOf r.l) rfl hfit)
  rw [show (nth r.l 2) = kindOf r.l from rfl, show (r.l.drop 12).take (lenOf r.l) = payOf r.l from rfl] at hop
  generalize kindOf r.l = K at *
  generalize payOf r.l = Y at *
  have HEQ := Lib.hid heq
  have HB := Lib.hid h.bytes
  have hpl := hso.2.2
  clear heq hfit
  go_enter Tryz.func48, Tryz.ntmps48
  go_wp2_with fail
  refine hop.out.mono ?_
  rintro e w1 ⟨⟨qA, ql, qc⟩, hq, hql, rfl, hb1⟩
  simp only at hql
  subst hql
  have hq1 := hq.below hb1
  have hl1 : At w1 qA (ns .u8 ql) := hq1.lies
  have hn1 : qA = none → qc = 0 := hq1.nil
  have hqb : Bytes ql := hq1.bytes
  clear hq hq1
  go_wp2_with fail
  refine (seal_ok K number qA qc ql w1 hso hk hn hqb hl1 hn1).mono ?_
  rintro e w2 ⟨v2, rfl, hv2, hb2, hs2⟩
  rw [← HEQ.out] at hv2
  obtain ⟨A2, c2, rfl, hA2, hnil2, hc2, hm2⟩ := hv2.at
  have hb02 := below_next0 hb1 hb2
  have hlies := h.lies.below hb02
  have hl2 := hl1.below hb2
  have heqc := equal_any A2 r.A c2 r.c _ _ r.l r.l w2 rfl rfl hA2 hlies HB.out HB.out
  rw [decide_eq_true rfl] at heqc
  go_wp2_with fail
  refine heqc.mono ?_
  rintro e w3 ⟨rfl, rfl⟩
  go_wp2_with fail
  refine (clone_any qA qc _ ql w2 rfl (by omega) hl2 hn1).mono ?_
  rintro e w4 ⟨v4, rfl, hv4, hb4, hs4⟩
  go_wp2
  go_ret3
  exact ⟨_, rfl, own_base_mono hv4 hb02.size, below_next0 hb02 hb4, Nat.le_trans hb02.size hs4⟩

/-- bytes that are no page: where the parts fail -/
theorem no_page {number : Nat} {l : List Nat} (h : ¬ IsPage number l) : (l.length < 12 ∨ (12 ≤ l.length ∧ l.length - 12 < lenOf l)) ∨ (12 ≤ l.length ∧ lenOf l ≤ l.length - 12 ∧ (¬ SealOk (kindOf l) (payOf l) ∨ (SealOk (kindOf l) (payOf l) ∧ sealed (kindOf l) number (payOf l) ≠ l))) := by
  by_cases h1 : 12 ≤ l.length
  · by_cases h2 : lenOf l ≤ l.length - 12
    · refine .inr ⟨h1, h2, ?_⟩
      by_cases h3 : SealOk (kindOf l) (payOf l)
      · exact .inr ⟨h3, fun e => h ⟨h1, h2, h3, e.symm⟩⟩
      · exact .inl h3
    · exact .inl (.inr ⟨h1, by omega⟩)
  · exact .inl (.inl (by omega))

set_option maxRecDepth 100000 in
set_option maxHeartbeats 1000000 in
theorem open_no (number : Nat) (r : Inner) (w : World) (h : r.Ok w) (hn : number < 4294967296) (hp : ¬ IsPage number r.l) :
    Calls Tryz.prog 48 #[.int .u32 (number : Int), .slice r.A r.l.length r.c] w fun e w' => e = .returned (.tuple #[.int .u8 0, .slice none 0 0, .int .u16 80]) ∧ Below w.heap.size w w' := by
  rcases no_page hp with hbad | ⟨h12, hfit, hrest⟩
  · have hop := Lib.hid (open_bad r w h hbad)
    clear hbad hp
    go_enter Tryz.func48, Tryz.ntmps48
    go_wp2_with fail
    refine hop.out.mono ?_
    rintro e w1 ⟨k, v, rfl, hb1⟩
    go_wp2
    go_ret3
    exact ⟨rfl, hb1⟩
  · have hk := kindOf_lt h.bytes h12
    have hpb : Bytes (payOf r.l) := (h.bytes.drop 12).take _
    have hop := Lib.hid (open_ok r w h h12 (lenOf r.l) rfl hfit)
    rw [show (nth r.l 2) = kindOf r.l from rfl, show (r.l.drop 12).take (lenOf r.l) = payOf r.l from rfl] at hop
    clear hp hfit
    generalize kindOf r.l = K at *
    generalize payOf r.l = Y at *
    have HB := Lib.hid h.bytes
    rcases hrest with hso | ⟨hso, hne⟩
    · go_enter Tryz.func48, Tryz.ntmps48
      go_wp2_with fail
      refine hop.out.mono ?_
      rintro e w1 ⟨⟨qA, ql, qc⟩, hq, hql, rfl, hb1⟩
      simp only at hql
      subst hql
      go_wp2_with fail
      refine (seal_no K number qA qc ql w1 hso).mono ?_
      rintro e w2 ⟨rfl, rfl⟩
      go_wp2
      go_ret3
      exact ⟨rfl, hb1⟩
    · have hsl := sealed_bytes K number Y hk hpb
      generalize hS : sealed K number Y = S at hne hsl
      have HS := Lib.hid hS
      have HNE := Lib.hid hne
      clear hS hne
      go_enter Tryz.func48, Tryz.ntmps48
      go_wp2_with fail
      refine hop.out.mono ?_
      rintro e w1 ⟨⟨qA, ql, qc⟩, hq, hql, rfl, hb1⟩
      simp only at hql
      subst hql
      have hq1 := hq.below hb1
      have hl1 : At w1 qA (ns .u8 ql) := hq1.lies
      have hn1 : qA = none → qc = 0 := hq1.nil
      have hqb : Bytes ql := hq1.bytes
      clear hq hq1
      go_wp2_with fail
      refine (seal_ok K number qA qc ql w1 hso hk hn hqb hl1 hn1).mono ?_
      rintro e w2 ⟨v2, rfl, hv2, hb2, hs2⟩
      rw [HS.out] at hv2
      obtain ⟨A2, c2, rfl, hA2, hnil2, hc2, hm2⟩ := hv2.at
      have hb02 := below_next0 hb1 hb2
      have hlies := h.lies.below hb02
      have heqc := equal_any A2 r.A c2 r.c _ _ S r.l w2 rfl rfl hA2 hlies hsl HB.out
      rw [decide_eq_false HNE.out] at heqc
      go_wp2_with fail
      refine heqc.mono ?_
      rintro e w3 ⟨rfl, rfl⟩
      go_wp2
      go_ret3
      exact ⟨rfl, hb02⟩
end Go.Proofs.YtfbjjblgcgjndaaGreat

/- Contracts of the reference's get and Open. -/
namespace Go.Proofs.YtfbjjblgcgjndaaGreat
open Go.RowKit

/-- the last ones of k from at on -/
def seg (l : List Nat) (at_ k : Nat) : List Nat := (l.drop at_).take k
theorem seg_cons (l : List Nat) (a k : Nat) (h : a < l.length) : seg l a (k + 1) = nth l a :: seg l (a + 1) k := by
  unfold seg
  have : l.drop a = nth l a :: l.drop (a + 1) := by rw [List.drop_eq_getElem_cons h, nth_get l a h]
  rw [this, List.take_succ_cons]
theorem el_seg (l : List Nat) (a k : Nat) (h : a < l.length) : el (seg l a (k + 1)) = nth l a + 256 * el (seg l (a + 1) k) := by rw [seg_cons l a k h, el]
theorem el_seg_lt (l : List Nat) (a k : Nat) (hb : Bytes l) : el (seg l a k) < 256 ^ k := by
  have h1 := el_lt (seg l a k) ((hb.drop a).take k)
  have h2 : (seg l a k).length ≤ k := by simp [seg]; omega
  exact Nat.lt_of_lt_of_le h1 (Nat.pow_le_pow_right (by decide) h2)

set_option maxRecDepth 100000 in
set_option maxHeartbeats 1000000 in
theorem get_any (A : Option Addr) (c n : Nat) (l : List Nat) (a k : Nat) (w : World) (hn : n = l.length) (hs : l.length ≤ 1000000000) (hak : a + k ≤ l.length) (hk : k ≤ 8) (hA : At w A (ns .u8 l)) (hb : Bytes l) :
    Calls Tryz.prog 87 #[.slice A n c, .int .i64 (a : Int), .int .i64 (k : Int)] w fun e w' => e = .returned (.int .u64 ((el (seg l a k) : Nat) : Int)) ∧ w = w' := by
  subst hn
  go_enter Tryz.func87, Tryz.ntmps87
  go_wp2
  go_loop [7, 8] (fun n i => ∃ j : Nat, j ≤ k ∧ i = .int .i64 ((j : Int) - 1) ∧ n = .int .u64 ((el (seg l (a + j) (k - j)) : Nat) : Int)) (fun _ i => (intOf i + 1).toNat)
  case atStart => exact ⟨k, by omega, rfl, by simp [seg, el]⟩
  case round =>
    obtain ⟨j, hj, rfl, rfl⟩ := hrel
    by_cases hlt : 0 < j
    · obtain ⟨i, rfl⟩ : ∃ i, j = i + 1 := ⟨j - 1, by omega⟩
      obtain ⟨g, o, rfl, hc⟩ := hA.num (a + i) (by omega)
      have hst := el_seg l (a + i) (k - (i + 1)) (by omega)
      rw [show k - (i + 1) + 1 = k - i by omega] at hst
      have hlt2 := el_seg_lt l (a + (i + 1)) (k - (i + 1)) hb
      have hv := hb.nth (a + i) (by omega)
      have hp7 : 256 ^ (k - (i + 1)) ≤ 256 ^ 7 := Nat.pow_le_pow_right (by decide) (by omega)
      rw [show a + i + 1 = a + (i + 1) by omega] at hst
      have e7 : (256 : Nat) ^ 7 = 72057594037927936 := by decide
      have HST := Lib.hid hst
      have hE : el (seg l (a + (i + 1)) (k - (i + 1))) < 72057594037927936 := by omega
      clear hst hlt2 hp7 e7
      generalize el (seg l (a + (i + 1)) (k - (i + 1))) = E at hE HST
      have e1 : ((i + 1 : Nat) : Int) - 1 = (i : Int) := by omega
      rw [e1]
      go_wp2
      go_round
      case rel => exact ⟨i, by omega, by go_num, by rw [HST.out]; go_num⟩
      case measure => simp [intOf]
    · obtain rfl : j = 0 := by omega
      go_wp2
      go_ret
      exact ⟨rfl, rfl⟩

theorem At.cut {w : World} {g o : Nat} {kd : IntKind} {l : List Nat} (h : At w (some ⟨g, o, none⟩) (ns kd l)) (k : Nat) : At w (some ⟨g, o + k, none⟩) (ns kd (l.drop k)) := by
  intro hn
  obtain ⟨b, o', e, hr⟩ := h (by intro he; apply hn; have := congrArg List.length he; simp [ns] at this; rw [this]; simp [ns])
  cases e
  refine ⟨g, o + k, rfl, fun j v hv => ?_⟩
  rw [Nat.add_assoc]
  refine hr (k + j) v ?_
  simpa [ns] using hv

/-- append at a step of a region that draws its order, of what the call owns -/
theorem step_buf_append {P : Program} {ops : Array Oper} {o : Oper} {a : Act} {w w0 : World} {K : Act → World → Prop} {Q : Exit → Act → World → Prop} {E : Prop} (hgd : o.guard = none) (s x : Operand)
    (ho : o.op = .call { callee := .builtin .append, args := #[s, x], argTypes := #[22, 22] })
    (ht : P.underlying 22 = some (.slice 5)) (hinfo : (P.info? 5).map (fun i => (i.zero, i.size, i.bytes)) = some (some (.int .u8 0), 1, 1))
    (n0 : Nat) (v : Value) (l : List Nat) (hs : a.eval s = v) (hown : Buf n0 w v l)
    (ad : Addr) (m c : Nat) (l2 : List Nat) (hx : a.eval x = .slice (some ad) m c) (hm : m = l2.length) (hAt : At w (some ad) (ns .u8 l2))
    (hsm : l.length + l2.length ≤ 140737488355328) (hbase : n0 ≤ w.heap.size) (hb : Below n0 w0 w)
    (h : ∀ v' w', Buf n0 w' v' (l ++ l2) → Below n0 w0 w' → n0 ≤ w'.heap.size → K (a.put o.dst v') w') :
    if Region.wanted o (yielded ops a.tmps) = true then Oper.wp P o a w K Q else E := by
  have hw : Region.wanted o (yielded ops a.tmps) = true := by simp [Region.wanted, hgd]
  rw [if_pos hw]
  subst hm
  obtain ⟨i0, hi, hzz⟩ := Option.map_eq_some_iff.1 hinfo
  simp only [Prod.mk.injEq] at hzz
  obtain ⟨hz0, hz1, hz2⟩ := hzz
  have hnews : ∀ j u, (ns .u8 l2)[j]? = some u → w.cell? (ad.add j) = some u := fun j u hu => by
    obtain ⟨b, o, e, hr⟩ := hAt (by intro hn; rw [hn] at hu; simp at hu)
    cases e
    rw [Addr.add_mid]; exact hr j u hu
  obtain ⟨v', w', hr, h2, h3, h4, h5⟩ := run_append_own_at (P := P) w n0 22 o.type 5 i0 (.int .u8 0) 1 1 ht hi hz0 hz1 hz2 rfl (by decide) v l.length (ns .u8 l) hown ad l2.length c (ns .u8 l2) (by simp [ns]) hnews (ns_one _ _) (by simp only [maxLen]; omega) (by omega) hbase
  unfold Oper.wp execOp
  simp only [ho, resolve, invoke, builtin, Sem.run_bind, Sem.run_pure, Result.andThen_ok, List.map_toArray, List.map_cons, List.map_nil, hs, hx, hr]
  refine h v' w' ?_ (hown.grown hb h3 hbase) (Nat.le_trans hbase h3.size)
  unfold Buf
  rw [List.length_append, ns_append]; exact h2

set_option maxRecDepth 100000 in
set_option maxHeartbeats 2000000 in
theorem ropen_yes (number : Nat) (A : Option Addr) (c : Nat) (l : List Nat) (w : World) (hs : l.length ≤ 1000000000) (hA : At w A (ns .u8 l)) (hb : Bytes l) (hcl : l.length ≤ c) (hn : number < 4294967296) (hp : IsPage number l) :
    Calls Tryz.prog 53 #[.int .u32 (number : Int), .slice A l.length c] w fun e w' => ∃ v, e = .returned (.tuple #[.int .u8 (kindOf l : Int), v, .int .u16 0]) ∧ Buf w.heap.size w' v (payOf l) ∧ Below w.heap.size w w' ∧ w.heap.size ≤ w'.heap.size := by
  have hlen := hp.length
  obtain ⟨h12, hfit, hso, heq⟩ := hp
  have hget := get_any A c _ l 8 2 w rfl hs (by omega) (by omega) hA hb
  rw [show el (seg l 8 2) = lenOf l from rfl] at hget
  have hpl : (payOf l).length = lenOf l := by simp only [payOf, List.length_take, List.length_drop]; omega
  have h1008 := hso.2.2
  have hk := kindOf_lt hb h12
  obtain ⟨g, o, rfl, hc⟩ := hA.num 2 (by omega)
  rw [show nth l 2 = kindOf l from rfl] at hc
  have hpb : Bytes (payOf l) := (hb.drop 12).take _
  have hAp : At w (some ⟨g, o + 12, none⟩) (ns .u8 (payOf l)) := by
    have h1 := (At.cut hA 12).takes (lenOf l)
    exact h1
  generalize kindOf l = K at *
  generalize payOf l = Y at *
  generalize lenOf l = N at *
  subst hpl
  have HG := Lib.hid hget
  have HEQ := Lib.hid heq
  have hso2 : 1 ≤ K ∧ K ≤ 4 := ⟨hso.1, hso.2.1⟩
  have HSO := Lib.hid hso
  have hc12 : (12 + Y.length : Int) ≤ (c : Int) := by omega
  have hc1024 : 1024 ≤ c := by omega
  clear hget heq hso hfit hs h12 hcl
  have HLEN := Lib.hid hlen
  rw [hlen] at HG ⊢
  clear hlen
  go_enter Tryz.func53, Tryz.ntmps53
  go_wp2_with fail
  refine HG.out.mono ?_
  rintro e w1 ⟨rfl, rfl⟩
  go_wp2_with fail
  have x1 : IntKind.i64.wrap (12 + (Y.length : Int)) = 12 + (Y.length : Int) := IntWalk.i64_in _ (by omega)
  have x2 : (12 : Int) ≤ 12 + (Y.length : Int) := by omega
  have x3 : (0 : Int) ≤ 12 + (Y.length : Int) := by omega
  have x4 : (12 + (Y.length : Int)).toNat = 12 + Y.length := by omega
  have x5 : ¬ (c = 12) := by omega
  have x6 : 12 + Y.length - 12 = Y.length := by omega
  go_region_held3 (fun w' => Below w.heap.size w w' ∧ w'.cell? ⟨g, o + 2, none⟩ = some (.int .u8 (K : Int))) (first | exact ⟨Below.refl _ _, hc⟩ | exact ⟨below_drew0 (Below.refl _ _), hc⟩ | exact ⟨below_next0 (below_drew0 (Below.refl _ _)) (by assumption), Eq.trans (Below.cell (B := w.heap.size) (below_next0 (below_drew0 (Below.refl _ _)) (by assumption)) (World.block_lt_of_cell? w _ hc)) hc⟩ | assumption)
    (first | (go_at_call 55; refine (rseal_ok K number (some ⟨g, o + 12, none⟩) (c - 12) Y _ HSO.out hk hn hpb (hAp.below (by first | exact Below.refl _ _ | exact below_drew0 (Below.refl _ _) | exact And.left (by assumption))) (by simp)).mono ?_; rintro e w2 ⟨v2, rfl, hv2, hb2, hs2⟩))
  clear x1 x2 x3 x4 x5 x6
  rw [← HEQ.out] at hv2
  obtain ⟨A2, c2, e2, hA2, hnil2, hc2, hm2⟩ := hv2.at
  rw [HLEN.out] at e2
  subst e2
  have hbw : Below w.heap.size w w2 := below_next0 (below_drew0 (Below.refl _ _)) hb2
  have hlw := hA.below hbw
  have k1 := conv_str (P := Tryz.prog) w2 A2 c2 l 1024 HLEN.out.symm hA2 Tryz.underlying22 Tryz.underlying5 Tryz.underlying9
  have k2 := conv_str (P := Tryz.prog) w2 (some ⟨g, o, none⟩) c l 1024 HLEN.out.symm hlw Tryz.underlying22 Tryz.underlying5 Tryz.underlying9
  have hcw : w2.cell? ⟨g, o + 2, none⟩ = some (.int .u8 (K : Int)) := (hbw.cell (World.block_lt_of_cell? w _ hc)).trans hc
  have hAw := hAp.below hbw
  go_wp2_with fail
  have x1 : IntKind.i64.wrap (12 + (Y.length : Int)) = 12 + (Y.length : Int) := IntWalk.i64_in _ (by omega)
  have x2 : (12 : Int) ≤ 12 + (Y.length : Int) := by omega
  have x3 : (0 : Int) ≤ 12 + (Y.length : Int) := by omega
  have x4 : (12 + (Y.length : Int)).toNat = 12 + Y.length := by omega
  have x5 : ¬ (c = 12) := by omega
  have x6 : 12 + Y.length - 12 = Y.length := by omega
  have hsz : w.heap.size ≤ w2.heap.size := hbw.size
  go_region_held3 (fun w' => Below w.heap.size w w' ∧ w'.cell? ⟨g, o + 2, none⟩ = some (.int .u8 (K : Int))) (first | exact ⟨hbw, hcw⟩ | exact ⟨hbw.drew, hcw⟩ | exact ⟨by assumption, Eq.trans (Below.cell (B := w.heap.size) (by assumption) (World.block_lt_of_cell? w _ hc)) hc⟩ | assumption)
    ((refine step_buf_append (w0 := w) (by rfl) _ _ (by rfl) Tryz.underlying22 Tryz.info5 w.heap.size (.slice none 0 0) [] (by rfl) (Buf.nil _ _) ⟨g, o + 12, none⟩ Y.length (c - 12) Y (by rfl) rfl (hAw.below (below_drew0 (Below.refl _ _))) (by simp; omega) hsz hbw.drew ?_; intro v3 w3 hv3 hb3 hs3))
  rw [List.nil_append] at hv3
  clear x1 x2 x3 x4 x5 x6
  go_wp2
  go_ret3
  exact ⟨_, rfl, hv3, hb3, hs3⟩

set_option maxRecDepth 100000 in
set_option maxHeartbeats 2000000 in
theorem ropen_no (number : Nat) (A : Option Addr) (c : Nat) (l : List Nat) (w : World) (hs : l.length ≤ 1000000000) (hA : At w A (ns .u8 l)) (hb : Bytes l) (hcl : l.length ≤ c) (hn : number < 4294967296) (hp : ¬ IsPage number l) :
    Calls Tryz.prog 53 #[.int .u32 (number : Int), .slice A l.length c] w fun e w' => e = .returned (.tuple #[.int .u8 0, .slice none 0 0, .int .u16 80]) ∧ Below w.heap.size w w' := by
  by_cases hlen : l.length = 1024
  · have hget := get_any A c _ l 8 2 w rfl hs (by omega) (by omega) hA hb
    rw [show el (seg l 8 2) = lenOf l from rfl] at hget
    by_cases h1008 : lenOf l ≤ 1008
    · have hpl : (payOf l).length = lenOf l := by simp only [payOf, List.length_take, List.length_drop]; omega
      have hrest : ¬ SealOk (kindOf l) (payOf l) ∨ (SealOk (kindOf l) (payOf l) ∧ sealed (kindOf l) number (payOf l) ≠ l) := by
        rcases no_page hp with (h | ⟨_, h⟩) | ⟨_, _, h⟩
        · omega
        · omega
        · exact h
      have hk := kindOf_lt hb (by omega)
      obtain ⟨g, o, rfl, hc⟩ := hA.num 2 (by omega)
      rw [show nth l 2 = kindOf l from rfl] at hc
      have hpb : Bytes (payOf l) := (hb.drop 12).take _
      have hAp : At w (some ⟨g, o + 12, none⟩) (ns .u8 (payOf l)) := by
        have h1 := (At.cut hA 12).takes (lenOf l)
        exact h1
      have hsb : SealOk (kindOf l) (payOf l) → Bytes (sealed (kindOf l) number (payOf l)) := fun _ => sealed_bytes _ _ _ hk hpb
      have hsl : SealOk (kindOf l) (payOf l) → (sealed (kindOf l) number (payOf l)).length = 1024 := fun h => sealed_length _ _ _ h.2.2
      clear hp
      generalize kindOf l = K at *
      generalize payOf l = Y at *
      generalize lenOf l = N at *
      subst hpl
      have HG := Lib.hid hget
      have hc1024 : 1024 ≤ c := by omega
      have HLEN := Lib.hid hlen
      clear hget hs hcl
      rw [hlen] at HG ⊢
      clear hlen
      rcases hrest with hso | ⟨hso, hne⟩
      · go_enter Tryz.func53, Tryz.ntmps53
        go_wp2_with fail
        refine HG.out.mono ?_
        rintro e w1 ⟨rfl, rfl⟩
        go_wp2_with fail
        have x1 : IntKind.i64.wrap (12 + (Y.length : Int)) = 12 + (Y.length : Int) := IntWalk.i64_in _ (by omega)
        have x2 : (12 : Int) ≤ 12 + (Y.length : Int) := by omega
        have x2b : 12 + (Y.length : Int) ≤ (c : Int) := by omega
        have x3 : (0 : Int) ≤ 12 + (Y.length : Int) := by omega
        have x4 : (12 + (Y.length : Int)).toNat = 12 + Y.length := by omega
        have x5 : ¬ (c = 12) := by omega
        have x6 : 12 + Y.length - 12 = Y.length := by omega
        go_region_held3 (fun w' => Below w.heap.size w w' ∧ w'.cell? ⟨g, o + 2, none⟩ = some (.int .u8 (K : Int))) (first | exact ⟨Below.refl _ _, hc⟩ | exact ⟨below_drew0 (Below.refl _ _), hc⟩ | assumption)
          (first | (go_at_call 55; refine (rseal_no K number (some ⟨g, o + 12, none⟩) (c - 12) Y _ hso).mono ?_; rintro e w2 ⟨rfl, rfl⟩))
        clear x1 x2 x2b x3 x4 x5 x6
        go_wp2
        go_ret3
        exact ⟨rfl, below_drew0 (Below.refl _ _)⟩
      · have hsb' := hsb hso
        have hsl' := hsl hso
        generalize hS : sealed K number Y = S at hne hsb' hsl'
        have HS := Lib.hid hS
        have HSO := Lib.hid hso
        have HNE := Lib.hid hne
        have HSL := Lib.hid hsl'
        clear hS hne hsb hsl hso hsl'
        go_enter Tryz.func53, Tryz.ntmps53
        go_wp2_with fail
        refine HG.out.mono ?_
        rintro e w1 ⟨rfl, rfl⟩
        go_wp2_with fail
        have x1 : IntKind.i64.wrap (12 + (Y.length : Int)) = 12 + (Y.length : Int) := IntWalk.i64_in _ (by omega)
        have x2 : (12 : Int) ≤ 12 + (Y.length : Int) := by omega
        have x2b : 12 + (Y.length : Int) ≤ (c : Int) := by omega
        have x3 : (0 : Int) ≤ 12 + (Y.length : Int) := by omega
        have x4 : (12 + (Y.length : Int)).toNat = 12 + Y.length := by omega
        have x5 : ¬ (c = 12) := by omega
        have x6 : 12 + Y.length - 12 = Y.length := by omega
        go_region_held3 (fun w' => Below w.heap.size w w' ∧ w'.cell? ⟨g, o + 2, none⟩ = some (.int .u8 (K : Int))) (first | exact ⟨Below.refl _ _, hc⟩ | exact ⟨below_drew0 (Below.refl _ _), hc⟩ | exact ⟨below_next0 (below_drew0 (Below.refl _ _)) (by assumption), Eq.trans (Below.cell (B := w.heap.size) (below_next0 (below_drew0 (Below.refl _ _)) (by assumption)) (World.block_lt_of_cell? w _ hc)) hc⟩ | assumption)
          (first | (go_at_call 55; refine (rseal_ok K number (some ⟨g, o + 12, none⟩) (c - 12) Y _ HSO.out hk hn hpb (hAp.below (by first | exact Below.refl _ _ | exact below_drew0 (Below.refl _ _) | exact And.left (by assumption))) (by simp)).mono ?_; rintro e w2 ⟨v2, rfl, hv2, hb2, hs2⟩))
        clear x1 x2 x2b x3 x4 x5 x6
        rw [HS.out] at hv2
        obtain ⟨A2, c2, e2, hA2, hnil2, hc2, hm2⟩ := hv2.at
        rw [HSL.out] at e2
        subst e2
        have hbw : Below w.heap.size w w2 := below_next0 (below_drew0 (Below.refl _ _)) hb2
        have hlw := hA.below hbw
        have k1 := conv_str (P := Tryz.prog) w2 A2 c2 S 1024 HSL.out.symm hA2 Tryz.underlying22 Tryz.underlying5 Tryz.underlying9
        have k2 := conv_str (P := Tryz.prog) w2 (some ⟨g, o, none⟩) c l 1024 HLEN.out.symm hlw Tryz.underlying22 Tryz.underlying5 Tryz.underlying9
        have k3 := str_beq S l hsb' hb
        rw [decide_eq_false HNE.out] at k3
        go_wp2
        go_ret3
        exact ⟨rfl, hbw⟩
    · have hn1 : 1008 < lenOf l := by omega
      have hN : lenOf l < 65536 := by
        have := el_seg_lt l 8 2 hb
        exact this
      generalize lenOf l = N at *
      have HG := Lib.hid hget
      clear hget hs hcl hp h1008
      rw [hlen] at HG ⊢
      clear hlen
      go_enter Tryz.func53, Tryz.ntmps53
      go_wp2_with fail
      refine HG.out.mono ?_
      rintro e w1 ⟨rfl, rfl⟩
      go_wp2
      go_ret3
      exact ⟨rfl, Below.refl _ _⟩
  · have h0 : ((l.length : Int) != 1024) = true := by simp; omega
    have h0' : (l.length == 1024) = false := by simp; omega
    have h0'' : (l.length != 1024) = true := by simp; omega
    clear hlen hp
    go_enter Tryz.func53, Tryz.ntmps53
    go_wp2
    go_ret3
    exact ⟨rfl, Below.refl _ _⟩
end Go.Proofs.YtfbjjblgcgjndaaGreat

/- Seal and Open, what they tell in one: yes and no. -/
namespace Go.Proofs.YtfbjjblgcgjndaaGreat
open Go.RowKit

def sealOut (k n : Nat) (p : List Nat) : List Nat := if SealOk k p then sealed k n p else []
def sealErr (k : Nat) (p : List Nat) : Nat := if SealOk k p then 0 else 80
theorem sealOut_length (k n : Nat) (p : List Nat) : (sealOut k n p).length ≤ 1024 := by
  unfold sealOut
  split
  · rename_i h; rw [sealed_length _ _ _ h.2.2]; omega
  · simp
theorem sealOut_bytes (k n : Nat) (p : List Nat) (hk : k < 256) (hp : Bytes p) : Bytes (sealOut k n p) := by
  unfold sealOut
  split
  · exact sealed_bytes _ _ _ hk hp
  · exact Bytes.nil
def GivesBuf (l : List Nat) (x : Nat) (w : World) (e : Ending) (w' : World) : Prop :=
  ∃ A c, e = .returned (.tuple #[.slice A l.length c, .int .u16 (x : Nat)]) ∧ Buf w.heap.size w' (.slice A l.length c) l ∧ Below w.heap.size w w'
theorem seal_call (kind number : Nat) (A : Option Addr) (c : Nat) (p : List Nat) (w : World) (hk : kind < 256) (hn : number < 4294967296) (hp : Bytes p) (hA : At w A (ns .u8 p)) (hnil : A = none → c = 0) :
    Calls Tryz.prog 54 #[.int .u8 (kind : Int), .int .u32 (number : Int), .slice A p.length c] w (GivesBuf (sealOut kind number p) (sealErr kind p) w) := by
  by_cases h : SealOk kind p
  · unfold sealOut sealErr
    rw [if_pos h, if_pos h]
    refine (seal_ok kind number A c p w h hk hn hp hA hnil).mono ?_
    rintro e w' ⟨v, rfl, hv, hb, _⟩
    obtain ⟨A', c', rfl, _⟩ := hv.at
    exact ⟨A', c', rfl, hv, hb⟩
  · unfold sealOut sealErr
    rw [if_neg h, if_neg h]
    refine (seal_no kind number A c p w h).mono ?_
    rintro e w' ⟨rfl, rfl⟩
    exact ⟨none, 0, rfl, Buf.nil _ _, Below.refl _ _⟩
theorem rseal_call (kind number : Nat) (A : Option Addr) (c : Nat) (p : List Nat) (w : World) (hk : kind < 256) (hn : number < 4294967296) (hp : Bytes p) (hA : At w A (ns .u8 p)) (hnil : A = none → c = 0) :
    Calls Tryz.prog 55 #[.int .u8 (kind : Int), .int .u32 (number : Int), .slice A p.length c] w (GivesBuf (sealOut kind number p) (sealErr kind p) w) := by
  by_cases h : SealOk kind p
  · unfold sealOut sealErr
    rw [if_pos h, if_pos h]
    refine (rseal_ok kind number A c p w h hk hn hp hA hnil).mono ?_
    rintro e w' ⟨v, rfl, hv, hb, _⟩
    obtain ⟨A', c', rfl, _⟩ := hv.at
    exact ⟨A', c', rfl, hv, hb⟩
  · unfold sealOut sealErr
    rw [if_neg h, if_neg h]
    refine (rseal_no kind number A c p w h).mono ?_
    rintro e w' ⟨rfl, rfl⟩
    exact ⟨none, 0, rfl, Buf.nil _ _, Below.refl _ _⟩

def openKind (n : Nat) (l : List Nat) : Nat := if IsPage n l then kindOf l else 0
def openPay (n : Nat) (l : List Nat) : List Nat := if IsPage n l then payOf l else []
def openErr (n : Nat) (l : List Nat) : Nat := if IsPage n l then 0 else 80
theorem openPay_length (n : Nat) (l : List Nat) : (openPay n l).length ≤ 1008 := by
  unfold openPay
  split
  · rename_i h; exact h.2.2.1.2.2
  · simp
theorem openPay_bytes (n : Nat) (l : List Nat) (h : Bytes l) : Bytes (openPay n l) := by
  unfold openPay
  split
  · exact (h.drop 12).take _
  · exact Bytes.nil
theorem openKind_lt (n : Nat) (l : List Nat) (h : Bytes l) : openKind n l < 256 := by
  unfold openKind
  split
  · rename_i h1; have := h1.2.2.1.2.1; omega
  · omega
def GivesPage (k : Nat) (l : List Nat) (x : Nat) (w : World) (e : Ending) (w' : World) : Prop :=
  ∃ A c, e = .returned (.tuple #[.int .u8 (k : Nat), .slice A l.length c, .int .u16 (x : Nat)]) ∧ Buf w.heap.size w' (.slice A l.length c) l ∧ Below w.heap.size w w'
theorem open_call (number : Nat) (r : Inner) (w : World) (h : r.Ok w) (hn : number < 4294967296) :
    Calls Tryz.prog 48 #[.int .u32 (number : Int), .slice r.A r.l.length r.c] w (GivesPage (openKind number r.l) (openPay number r.l) (openErr number r.l) w) := by
  by_cases hp : IsPage number r.l
  · unfold openKind openPay openErr
    rw [if_pos hp, if_pos hp, if_pos hp]
    refine (open_yes number r w h hn hp).mono ?_
    rintro e w' ⟨v, rfl, hv, hb, _⟩
    obtain ⟨A', c', rfl, _⟩ := hv.at
    exact ⟨A', c', rfl, hv, hb⟩
  · unfold openKind openPay openErr
    rw [if_neg hp, if_neg hp, if_neg hp]
    refine (open_no number r w h hn hp).mono ?_
    rintro e w' ⟨rfl, hb⟩
    exact ⟨none, 0, rfl, Buf.nil _ _, hb⟩
theorem ropen_call (number : Nat) (r : Inner) (w : World) (h : r.Ok w) (hs : r.l.length ≤ 1000000000) (hn : number < 4294967296) :
    Calls Tryz.prog 53 #[.int .u32 (number : Int), .slice r.A r.l.length r.c] w (GivesPage (openKind number r.l) (openPay number r.l) (openErr number r.l) w) := by
  by_cases hp : IsPage number r.l
  · unfold openKind openPay openErr
    rw [if_pos hp, if_pos hp, if_pos hp]
    refine (ropen_yes number r.A r.c r.l w hs h.lies h.bytes h.le hn hp).mono ?_
    rintro e w' ⟨v, rfl, hv, hb, _⟩
    obtain ⟨A', c', rfl, _⟩ := hv.at
    exact ⟨A', c', rfl, hv, hb⟩
  · unfold openKind openPay openErr
    rw [if_neg hp, if_neg hp, if_neg hp]
    refine (ropen_no number r.A r.c r.l w hs h.lies h.bytes h.le hn hp).mono ?_
    rintro e w' ⟨rfl, hb⟩
    exact ⟨none, 0, rfl, Buf.nil _ _, hb⟩
end Go.Proofs.YtfbjjblgcgjndaaGreat

/- Contract of the pool's Read. -/
namespace Go.Proofs.YtfbjjblgcgjndaaGreat
open Go.RowKit Go.Maps

/-- what a read of a pool gives and leaves -/
structure Rd where
  kind : Nat
  pay : List Nat
  err : Nat
  D : Dsk
  L : List Hand
def plRead (most : Nat) (D : Dsk) (L : List Hand) (n : Nat) : Rd :=
  if D.pages ≤ n then ⟨0, [], 2, D, L⟩
  else match findPage n L with
    | some h => ⟨h.kind, h.pay, 0, D, forget n L ++ [h]⟩
    | none => if (D.read (n : Int)).1 ≠ 0 then ⟨0, [], (D.read (n : Int)).1, (D.read (n : Int)).2.2, L⟩
      else if IsPage n (D.read (n : Int)).2.1 then ⟨openKind n (D.read (n : Int)).2.1, openPay n (D.read (n : Int)).2.1, 0, (D.read (n : Int)).2.2, usePage most ⟨n, openKind n (D.read (n : Int)).2.1, openPay n (D.read (n : Int)).2.1⟩ L⟩
      else ⟨0, [], 100, (D.read (n : Int)).2.2, L⟩
section
variable {n0 : Nat} {w w1 w2 : World} {P d most e mb nb : Nat} {l1 l2 : List Nat} {b : Nat} {hd : Nat → Hand} {nx pv nx' pv' : Nat → Nat} {dat : Nat → Nat → Value} {M : DataW Unit} {Y : Nat → Prop}
theorem mem_end {x : Nat} : x ∈ (l1 ++ l2) ++ [b] ↔ x ∈ l1 ++ b :: l2 := by
  simp only [List.mem_append, List.mem_cons, List.not_mem_nil, or_false]
  constructor
  · rintro ((h | h) | h)
    · exact .inl h
    · exact .inr (.inr h)
    · exact .inr (.inl h)
  · rintro (h | h | h)
    · exact .inl (.inl h)
    · exact .inr h
    · exact .inl (.inr h)
theorem mem_end' {x : Nat} : x ∈ e :: ((l1 ++ l2) ++ [b]) ↔ x ∈ e :: (l1 ++ b :: l2) := by
  rw [List.mem_cons, List.mem_cons, mem_end]
/-- a hand goes to the ring's end -/
theorem PoolIn.moved (h : PoolIn n0 w P d most e mb nb (l1 ++ b :: l2) hd nx pv dat M Y) (hr : RingIn w2 e ((l1 ++ l2) ++ [b]) nx' pv' dat) (hc : Chg (fun g => g ∈ e :: (l1 ++ b :: l2)) w w2) :
    PoolIn n0 w2 P d most e mb nb ((l1 ++ l2) ++ [b]) hd nx' pv' dat M Y := by
  obtain ⟨r1, r2, r3⟩ := h.rest hc
  obtain ⟨s1, s2, s3, s4⟩ := h.sep
  exact ⟨r1, hr, fun c hc => r3 c (mem_end.1 hc), fun c c' hc hc' => h.nums c c' (mem_end.1 hc) (mem_end.1 hc'), r2, h.mfor.perm (fun x => mem_end) (by simp only [List.length_append, List.length_cons, List.length_nil]; omega), ⟨h.base.1, h.base.2.1, fun x hx => h.base.2.2.1 x (mem_end'.1 hx), fun g hg => ⟨(h.base.2.2.2 g hg).1, Nat.lt_of_lt_of_le (h.base.2.2.2 g hg).2 hc.size⟩⟩, s1, fun hx => s2 (mem_end'.1 hx), fun hx => s3 (mem_end'.1 hx), fun g hg => ⟨(s4 g hg).1, (s4 g hg).2.1, fun hx => (s4 g hg).2.2 (mem_end'.1 hx)⟩⟩
theorem PoolIn.find_one (h : PoolIn n0 w P d most e mb nb (l1 ++ b :: l2) hd nx pv dat M Y) : findPage (hd b).num ((l1 ++ b :: l2).map hd) = some (hd b) := by
  unfold findPage
  rw [List.map_append, List.find?_append, List.find?_eq_none.2, List.map_cons, List.find?_cons]
  · simp
  · intro x hx
    obtain ⟨c, hc, rfl⟩ := List.mem_map.1 hx
    simpa using h.others c (by simp [hc])
end
theorem find_none {L : List Hand} {n : Nat} (h : ∀ x, x ∈ L → x.num ≠ n) : findPage n L = none := by
  unfold findPage
  rw [List.find?_eq_none]
  intro x hx
  simpa using h x hx
def PlRead (n0 : Nat) (w : World) (P d most c : Nat) (X : Nat → Prop) (r : Rd) (e : Ending) (w' : World) : Prop :=
  ∃ A cap, e = .returned (.tuple #[.int .u8 (r.kind : Nat), .slice A r.pay.length cap, .int .u16 (r.err : Nat)]) ∧ Buf w.heap.size w' (.slice A r.pay.length cap) r.pay ∧ PoolX n0 w' P d most r.D r.L (c + 1) (fun g => X g ∨ blk (.slice A r.pay.length cap) g) ∧ Step n0 X w w'
theorem PlRead.stay {n0 : Nat} {w w' : World} {P d most c x : Nat} {D : Dsk} {L : List Hand} {X : Nat → Prop} (h : PoolX n0 w' P d most D L c X) (hs : Step n0 X w w') : PlRead n0 w P d most c X ⟨0, [], x, D, L⟩ (.returned (.tuple #[.int .u8 0, .slice none 0 0, .int .u16 (x : Nat)])) w' :=
  ⟨none, 0, rfl, Buf.nil _ _, (h.moreC (by omega)).less (fun g hg => hg.elim id (fun e => by cases e)), hs⟩
theorem Step.refl (n0 : Nat) (X : Nat → Prop) (w : World) : Step n0 X w w := ⟨Chg.refl _ _, Below.refl _ _⟩
section
variable {n0 : Nat} {w : World} {P d most : Nat} {D : Dsk} {L : List Hand} {c : Nat} {X : Nat → Prop}
set_option maxRecDepth 100000 in
set_option maxHeartbeats 4000000 in
/-- it is at hand -/
theorem plread_hit (h : PoolX n0 w P d most D L c X) (n : Nat) (hn : n < 4294967296) (hp : n < D.pages) (x : Hand) (hf : findPage n L = some x) :
    Calls Tryz.prog 12 #[.pointer (some ⟨P, 0, none⟩), .int .u32 (n : Int)] w (PlRead n0 w P d most c X ⟨x.kind, x.pay, 0, D, forget n L ++ [x]⟩) := by
  have HW := Lib.hid (within_any h n hn)
  have hdp : decide (n < D.pages) = true := by simpa using hp
  rw [hdp] at HW
  obtain ⟨T, hpa, hXT, hTn, hst⟩ := h.pool
  have HX := Lib.hid hXT
  have HST := Lib.hid hst
  have HN0 := Lib.hid h.n_le
  obtain ⟨⟨e, mb, nb, bl, hd, nx, pv, dat, M, Y, h1, rfl, h3, h4⟩, h5⟩ := hpa
  rcases h1.split n with hno | ⟨l1, b, l2, rfl, hbn⟩
  · rw [find_none (fun y hy => by obtain ⟨q, hq, rfl⟩ := List.mem_map.1 hy; exact hno q hq)] at hf
    cases hf
  · have hfb := h1.find_one
    rw [hbn] at hfb
    have hxb : x = hd b := by rw [hfb] at hf; cases hf; rfl
    have hfo := h1.forget_one
    rw [hbn] at hfo
    have hl := h1.look_yes b (by simp)
    rw [hbn] at hl
    obtain ⟨q2, q3, ⟨A4, c4, q4, hA4, hn4, hY4⟩, hok⟩ := h1.dat b (by simp)
    rw [← hxb] at q3 q4 hA4 hok
    have c2 : w.cell? ⟨P, 2, none⟩ = some (.map (some mb)) := h1.rcd.cell 2 (by omega)
    have HOUT := Lib.hid (out_any h1.ring)
    have H1 := Lib.hid h1
    have H3 := Lib.hid h3
    have H4 := Lib.hid h4
    have H5 := Lib.hid h5
    have HXB := Lib.hid hxb
    have HFO := Lib.hid hfo
    have HQ3 := Lib.hid q3
    have HQ4 := Lib.hid q4
    have HA4 := Lib.hid hA4
    have HOK := Lib.hid hok
    have HN4 := Lib.hid hn4
    have HY4 := Lib.hid hY4
    clear h hXT hTn hst h1 h3 h4 h5 hf hfb hxb hfo hbn q2 q3 q4 hA4 hn4 hY4 hok hdp
    obtain ⟨k, hk⟩ : ∃ k, k = x.kind := ⟨_, rfl⟩
    obtain ⟨m, hm⟩ : ∃ m, m = x.pay.length := ⟨_, rfl⟩
    have HK := Lib.hid hk
    have HM := Lib.hid hm
    clear hk hm
    go_enter Tryz.func12, Tryz.ntmps12
    go_wp2_with fail
    refine HW.out.mono ?_
    rintro e0 w0 ⟨rfl, rfl⟩
    go_wp2_with fail
    refine HOUT.out.mono ?_
    rintro e0 w1 ⟨rfl, hr1, hrb, hc1⟩
    have hc1' : Chg (fun g => g ∈ e :: (l1 ++ b :: l2)) w w1 := hc1.mono (fun g _ hg => mem_mid hg)
    obtain ⟨r1, r2, _⟩ := H1.out.rest hc1'
    have hbn : b ∉ e :: (l1 ++ l2) := fun hx => by
      have nd := H1.out.ring.nodup
      rw [List.nodup_cons, List.nodup_append, List.nodup_cons] at nd
      simp only [List.mem_cons, List.mem_append] at hx
      rcases hx with hx | hx | hx
      · exact nd.1 (by rw [← hx]; simp)
      · exact nd.2.2.2 b hx b (by simp) rfl
      · exact nd.2.2.1.1 hx
    have hPb : P ≠ b := fun e' => H1.out.sep.2.1 (by rw [e']; simp)
    have HIN := Lib.hid (in_any (r1.cell 3 (by omega)) hPb hr1 hbn hrb (fun i h2 _ => by
      match i, h2 with
      | i + 2, _ => rfl))
    have HC1 := Lib.hid hc1'
    clear hr1 hrb hc1 hc1' r1 r2 hbn hPb HOUT c2 hl
    go_wp2_with fail
    refine HIN.out.mono ?_
    rintro e0 w2 ⟨rfl, hr2, hc2⟩
    have hc02 : Chg (fun g => g ∈ e :: (l1 ++ b :: l2)) w w2 := HC1.out.trans hc2 (fun g _ hg => mem_end'.1 hg)
    have hin2 := H1.out.moved hr2 hc02
    have p3 : w2.cell? ⟨b, 3, none⟩ = some (.int .u8 (k : Int)) := by
      have := (hr2.node b (by simp)).cell 3 (by omega)
      rw [this]
      show some (dat b 3) = _
      rw [HQ3.out, HK.out]
    have p4 : w2.cell? ⟨b, 4, none⟩ = some (.slice A4 m c4) := by
      have := (hr2.node b (by simp)).cell 4 (by omega)
      rw [this]
      show some (dat b 4) = _
      rw [HQ4.out, HM.out]
    have hat2 : At w2 A4 (ns .u8 x.pay) := HA4.out.chg hc02 (fun a ha hx => (H1.out.sep.2.2.2 _ (HY4.out a ha)).2.2 hx)
    have hcl := clone_any A4 c4 m x.pay w2.drew HM.out (Nat.le_trans HOK.out.len (by omega)) (hat2.below (below_drew0 (Below.refl _ w2))) HN4.out
    have HCL := Lib.hid hcl
    have HI2 := Lib.hid hin2
    have HC2 := Lib.hid hc02
    clear hcl hin2 hr2 hc2 hat2 HIN hc02
    go_wp2_with fail
    go_region_held3 (fun W' => W'.cell? ⟨b, 3, none⟩ = some (.int .u8 (k : Int)) ∧ W'.cell? ⟨b, 4, none⟩ = some (.slice A4 m c4)) (first | exact ⟨p3, p4⟩ | exact ⟨(HB3.out.cell (p := ⟨b, 3, none⟩) HLT.out).trans p3, (HB3.out.cell (p := ⟨b, 4, none⟩) HLT.out).trans p4⟩ | assumption)
      (first | (go_at_call 46; refine HCL.out.mono ?_; rintro e0 w3 ⟨v, rfl, hv, hb3, _⟩; obtain ⟨A5, c5, e5, _⟩ := hv.at; rw [← HM.out] at e5; subst e5; have HV := Lib.hid hv; have HB3 := Lib.hid hb3; have HLT := Lib.hid (HI2.out.ring.node b (by simp)).lt; clear hv hb3))
    go_wp2_with fail
    go_ret3
    have hpa2 : PoolAt n0 w2 P d most (forget n ((l1 ++ b :: l2).map hd) ++ [x]) c T := ⟨⟨e, mb, nb, (l1 ++ l2) ++ [b], hd, _, _, dat, M, Y, HI2.out, by rw [HFO.out, HXB.out]; simp, H3.out, fun g hg => H4.out g (by
      rcases hg with hg | hg | hg | hg
      · exact .inl hg
      · exact .inr (.inl hg)
      · exact .inr (.inr (.inl (mem_end'.1 hg)))
      · exact .inr (.inr (.inr hg)))⟩, fun g hg => ⟨(H5.out g hg).1, Nat.lt_of_lt_of_le (H5.out g hg).2 HC2.out.size⟩⟩
    have hcT : Chg T w w2 := HC2.out.mono (fun g _ hg => H4.out g (.inr (.inr (.inl hg))))
    obtain ⟨hx2, hs2⟩ := HST.out w2 _ c (hpa2.pnow hcT)
    have hb23 : Below w2.heap.size w2 w3 := below_next0 (below_drew0 (Below.refl _ w2)) HB3.out
    have hv3 : ∀ g, blk (.slice A5 m c5) g → w2.heap.size ≤ g ∧ g < w3.heap.size := fun g hg => row_lt HV.out hg
    have hfx := (hx2.also hb23 (Y := blk (.slice A5 m c5)) hv3).moreC (c' := c + 1) (by omega)
    have hsx := hs2.trans (Step.of_below (X := X) hb23 hx2.n_le) (fun _ h => h)
    have hbv : Buf w.heap.size w3 (.slice A5 m c5) x.pay := own_down HV.out hcT.size
    rw [HM.out] at hfx hbv ⊢
    rw [HK.out]
    exact ⟨A5, c5, rfl, hbv, hfx, hsx⟩
set_option maxRecDepth 100000 in
set_option maxHeartbeats 4000000 in
/-- beyond the disk -/
theorem plread_out (h : PoolX n0 w P d most D L c X) (n : Nat) (hn : n < 4294967296) (hp : D.pages ≤ n) :
    Calls Tryz.prog 12 #[.pointer (some ⟨P, 0, none⟩), .int .u32 (n : Int)] w (PlRead n0 w P d most c X ⟨0, [], 2, D, L⟩) := by
  have HW := Lib.hid (within_any h n hn)
  have hdp : decide (n < D.pages) = false := by simpa using hp
  rw [hdp] at HW
  have H := Lib.hid h
  clear h hdp hp
  go_enter Tryz.func12, Tryz.ntmps12
  go_wp2_with fail
  refine HW.out.mono ?_
  rintro e0 w0 ⟨rfl, rfl⟩
  go_wp2_with fail
  go_ret3
  exact PlRead.stay H.out (Step.refl _ _ _)
theorem PoolX.look (h : PoolX n0 w P d most D L c X) (n : Nat) (hn : n < 4294967296) (hf : findPage n L = none) : ∃ mb, w.cell? ⟨P, 2, none⟩ = some (.map (some mb)) ∧ (Instr.lookup 119 (.map (some mb)) (.int .u32 (n : Int)) false).run Tryz.prog w = .ok (.pointer none) w := by
  obtain ⟨S, T, h, _⟩ := h
  obtain ⟨⟨e, mb, nb, bl, hd, nx, pv, dat, M, Y, h1, rfl, h3, h4⟩, h5⟩ := h.pool
  refine ⟨mb, h1.rcd.cell 2 (by omega), ?_⟩
  rcases h1.split n with hno | ⟨l1, b, l2, rfl, hbn⟩
  · exact h1.look_no n hn hno
  · have := h1.find_one
    rw [hbn, hf] at this
    cases this
theorem read_bytes {D : Dsk} (ok : D.Ok) (pg : Int) : Bytes (D.read pg).2.1 ∧ (D.read pg).2.1.length ≤ 1024 := by
  unfold Dsk.read
  split
  · exact ⟨Bytes.nil, by simp⟩
  · split
    · exact ⟨Bytes.nil, by simp⟩
    · rename_i h2
      obtain ⟨p, a, b, c⟩ := ok.pages
      have hp : D.pages = p := by unfold Dsk.pages; omega
      have := D.secs_ok ok (8 * pg.toNat) 8 (by omega)
      exact ⟨this.2, by simp only [this.1]; omega⟩
set_option maxRecDepth 100000 in
set_option maxHeartbeats 4000000 in
/-- it is not at hand -/
theorem plread_miss (h : PoolX n0 w P d most D L c X) (n : Nat) (hn : n < 4294967296) (hp : n < D.pages) (hf : findPage n L = none) (hcl : D.cache.length ≤ 1000000000000) (hdn : D.n 1 ≤ 4611686018427387904) (hm : most ≤ 9223372036854775807) (hc : c ≤ 1000000000) :
    Calls Tryz.prog 12 #[.pointer (some ⟨P, 0, none⟩), .int .u32 (n : Int)] w (PlRead n0 w P d most c X (plRead most D L n)) := by
  have HW := Lib.hid (within_any h n hn)
  have hdp : decide (n < D.pages) = true := by simpa using hp
  rw [hdp] at HW
  obtain ⟨mb, c2, hl⟩ := h.look n hn hf
  have c0 := h.cell0.1
  obtain ⟨S, hd, hXS, _, hst⟩ := h.disk
  have HRD := Lib.hid (dg_read hd (n : Int) hcl hdn)
  have HST := Lib.hid hst
  have HB := Lib.hid (read_bytes h.ok (n : Int))
  have HN0 := Lib.hid h.n_le
  have hpl : plRead most D L n = if (D.read (n : Int)).1 ≠ 0 then ⟨0, [], (D.read (n : Int)).1, (D.read (n : Int)).2.2, L⟩
      else if IsPage n (D.read (n : Int)).2.1 then ⟨openKind n (D.read (n : Int)).2.1, openPay n (D.read (n : Int)).2.1, 0, (D.read (n : Int)).2.2, usePage most ⟨n, openKind n (D.read (n : Int)).2.1, openPay n (D.read (n : Int)).2.1⟩ L⟩
      else ⟨0, [], 100, (D.read (n : Int)).2.2, L⟩ := by
    unfold plRead
    rw [if_neg (by omega), hf]
  rw [hpl]
  generalize D.read (n : Int) = q at *
  obtain ⟨x, l, D'⟩ := q
  simp only at HRD HST HB ⊢
  have HPN := Lib.hid hp
  clear h hdp hp hd hXS hst hpl hf
  by_cases hx : x = 0
  · subst hx
    simp only [ne_eq, not_true_eq_false, if_false]
    have hread : ∀ (Q : Ending → World → Prop), True := fun _ => trivial
    by_cases hpg : IsPage n l
    · rw [if_pos hpg]
      have hoe : openErr n l = 0 := by unfold openErr; rw [if_pos hpg]
      have HOE := Lib.hid hoe
      clear hpg hoe hread
      go_enter Tryz.func12, Tryz.ntmps12
      go_wp2_with fail
      refine HW.out.mono ?_
      rintro e0 w0 ⟨rfl, rfl⟩
      go_wp2_with fail
      refine HRD.out.mono ?_
      rintro e0 w1 ⟨A1, rfl, hcl1, hd1, hc1⟩
      obtain ⟨hx1, hs1⟩ := HST.out w1 D' (blk (.slice A1 l.length l.length)) hd1 hc1 (by
        intro g hg
        cases A1 with
        | none => cases hg
        | some a => cases hg; exact hcl1.base a rfl)
      have hop := open_call n ⟨A1, l, l.length⟩ w1 (hcl1.inner HB.out.1 (Nat.le_trans HB.out.2 (by omega))) hn
      simp only at hop
      rw [HOE.out] at hop
      have HOP := Lib.hid hop
      have HX1 := Lib.hid hx1
      have HS1 := Lib.hid hs1
      have HOK := Lib.hid (show Hand.Ok ⟨n, openKind n l, openPay n l⟩ from ⟨hn, openKind_lt n l HB.out.1, openPay_bytes n l HB.out.1, openPay_length n l⟩)
      generalize openKind n l = k at *
      generalize openPay n l = p at *
      clear hcl1 hd1 hc1 hx1 hs1 hop HRD HST hl c2 c0
      go_wp2_with fail
      refine HOP.out.mono ?_
      rintro e0 w2 ⟨A2, c2, rfl, hv2, hb2⟩
      have hx2 := HX1.out.also hb2 (Y := blk (.slice A2 p.length c2)) (fun g hg => row_lt hv2 hg)
      obtain ⟨T, hpa, hXT, hTn, hst2⟩ := hx2.pool
      have hnil : A2 = none → c2 = 0 := by
        obtain ⟨A', c', e', _, h2, _⟩ := hv2.at
        injection e' with e1 e2 e3
        subst e1 e3; exact h2
      have HPUT := Lib.hid (plput_any hpa ⟨n, k, p⟩ HOK.out A2 c2 (fun w' hw' => (buf_at hv2).2.chg hw' (fun a ha ht => hXT _ (.inr (by rw [ha]; rfl)) ht)) hnil hm hc)
      have HST2 := Lib.hid hst2
      have HV2 := Lib.hid hv2
      have HX2 := Lib.hid hx2
      have HB2 := Lib.hid hb2
      clear hpa hXT hTn hst2 hnil hv2 hx2 hb2 HOP
      go_wp2_with fail
      refine HPUT.out.mono ?_
      rintro e0 w3 ⟨rfl, hN⟩
      obtain ⟨hx3, hs3⟩ := HST2.out w3 _ _ hN
      have HX3 := Lib.hid hx3
      have HS3 := Lib.hid hs3
      clear hN hx3 hs3
      go_wp2_with fail
      go_ret3
      refine ⟨A2, c2, rfl, ?_, HX3.out.less (fun g hg => hg.elim (fun e => .inl (.inl e)) .inr), ?_⟩
      · exact own_chg (own_down HV2.out HS1.out.1.size) HS3.out.1 (fun g hg e => e (.inr hg))
      · exact (HS1.out.trans (Step.of_below (X := X) HB2.out HX1.out.n_le) (fun _ h => h)).trans HS3.out (fun g hg => .inl (.inl hg))
    · rw [if_neg hpg]
      have hoe : openErr n l = 80 := by unfold openErr; rw [if_neg hpg]
      have HOE := Lib.hid hoe
      clear hpg hoe hread
      go_enter Tryz.func12, Tryz.ntmps12
      go_wp2_with fail
      refine HW.out.mono ?_
      rintro e0 w0 ⟨rfl, rfl⟩
      go_wp2_with fail
      refine HRD.out.mono ?_
      rintro e0 w1 ⟨A1, rfl, hcl1, hd1, hc1⟩
      obtain ⟨hx1, hs1⟩ := HST.out w1 D' (fun _ => False) hd1 hc1 (fun g hg => hg.elim)
      have hop := open_call n ⟨A1, l, l.length⟩ w1 (hcl1.inner HB.out.1 (Nat.le_trans HB.out.2 (by omega))) hn
      simp only at hop
      rw [HOE.out] at hop
      have HOP := Lib.hid hop
      have HX1 := Lib.hid hx1
      have HS1 := Lib.hid hs1
      generalize openKind n l = k at *
      generalize openPay n l = p at *
      clear hcl1 hd1 hc1 hx1 hs1 hop HRD HST hl c2 c0
      go_wp2_with fail
      refine HOP.out.mono ?_
      rintro e0 w2 ⟨A2, c2, rfl, hv2, hb2⟩
      have HB2 := Lib.hid hb2
      clear hv2 hb2 HOP
      go_wp2_with fail
      go_ret3
      exact PlRead.stay ((HX1.out.less (fun g hg => .inl hg)).below HB2.out) (HS1.out.trans (Step.of_below (X := X) HB2.out HX1.out.n_le) (fun _ h => h))
  · have hx1 : ((x : Int) != 0) = true := by simp; omega
    have hx2 : (x != 0) = true := by simpa using hx
    rw [if_pos hx]
    clear hx
    go_enter Tryz.func12, Tryz.ntmps12
    go_wp2_with fail
    refine HW.out.mono ?_
    rintro e0 w0 ⟨rfl, rfl⟩
    go_wp2_with fail
    refine HRD.out.mono ?_
    rintro e0 w1 ⟨A1, rfl, hcl1, hd1, hc1⟩
    obtain ⟨hx3, hs3⟩ := HST.out w1 D' (fun _ => False) hd1 hc1 (fun g hg => hg.elim)
    have HX3 := Lib.hid hx3
    have HS3 := Lib.hid hs3
    clear hcl1 hd1 hc1 hx3 hs3 HRD HST hl c2 c0
    go_wp2_with fail
    go_ret3
    exact PlRead.stay (HX3.out.less (fun g hg => .inl hg)) HS3.out
/-- the whole of it -/
theorem plread_any (h : PoolX n0 w P d most D L c X) (n : Nat) (hn : n < 4294967296) (hcl : D.cache.length ≤ 1000000000000) (hdn : D.n 1 ≤ 4611686018427387904) (hm : most ≤ 9223372036854775807) (hc : c ≤ 1000000000) :
    Calls Tryz.prog 12 #[.pointer (some ⟨P, 0, none⟩), .int .u32 (n : Int)] w (PlRead n0 w P d most c X (plRead most D L n)) := by
  by_cases hp : D.pages ≤ n
  · have : plRead most D L n = ⟨0, [], 2, D, L⟩ := by unfold plRead; rw [if_pos hp]
    rw [this]
    exact plread_out h n hn hp
  · cases hf : findPage n L with
    | none => exact plread_miss h n hn (by omega) hf hcl hdn hm hc
    | some x =>
      have : plRead most D L n = ⟨x.kind, x.pay, 0, D, forget n L ++ [x]⟩ := by unfold plRead; rw [if_neg hp, hf]
      rw [this]
      exact plread_hit h n hn (by omega) x hf
end
end Go.Proofs.YtfbjjblgcgjndaaGreat

/- Contract of the pool's Write; and of Forget over both. -/
namespace Go.Proofs.YtfbjjblgcgjndaaGreat
open Go.RowKit Go.Maps

structure Wr where
  err : Nat
  D : Dsk
  L : List Hand
def plWrite (most : Nat) (D : Dsk) (L : List Hand) (n k : Nat) (pay : List Nat) : Wr :=
  if SealOk k pay then
    if D.pages ≤ n then ⟨2, D, L⟩
    else if (D.write (n : Int) (sealed k n pay)).1 ≠ 0 then ⟨(D.write (n : Int) (sealed k n pay)).1, (D.write (n : Int) (sealed k n pay)).2, forget n L⟩
    else ⟨0, (D.write (n : Int) (sealed k n pay)).2, usePage most ⟨n, k, pay⟩ L⟩
  else ⟨80, D, L⟩
def PlWrite (n0 : Nat) (w : World) (P d most c : Nat) (X : Nat → Prop) (r : Wr) (e : Ending) (w' : World) : Prop :=
  e = .returned (.int .u16 (r.err : Nat)) ∧ PoolX n0 w' P d most r.D r.L (c + 1) X ∧ Step n0 X w w'
section
variable {n0 : Nat} {w : World} {P d most : Nat} {D : Dsk} {L : List Hand} {c : Nat} {X : Nat → Prop}
theorem plforget_any (h : PoolX n0 w P d most D L c X) (n : Nat) (hn : n < 4294967296) :
    Calls Tryz.prog 21 #[.pointer (some ⟨P, 0, none⟩), .int .u32 (n : Int)] w fun e w' => e = .returned (.tuple #[]) ∧ PoolX n0 w' P d most D (forget n L) c X ∧ Step n0 X w w' := by
  obtain ⟨T, hpa, _, _, hst⟩ := h.pool
  refine (forget_any hpa n hn).mono ?_
  rintro e w' ⟨rfl, h1, h2⟩
  exact ⟨rfl, hst w' _ c (h1.pnow h2)⟩
theorem plhas_any (h : PoolX n0 w P d most D L c X) (n : Nat) (hn : n < 4294967296) : Calls Tryz.prog 32 #[.pointer (some ⟨P, 0, none⟩), .int .u32 (n : Int)] w fun x w' => x = .returned (.bool (isHand n L)) ∧ w = w' := by
  obtain ⟨T, hpa, _⟩ := h.pool
  exact has_any hpa n hn
theorem pllen_any (h : PoolX n0 w P d most D L c X) : Calls Tryz.prog 30 #[.pointer (some ⟨P, 0, none⟩)] w fun x w' => x = .returned (.int .i64 (L.length : Int)) ∧ w = w' := by
  obtain ⟨T, hpa, _⟩ := h.pool
  exact len_any hpa
set_option maxRecDepth 100000 in
set_option maxHeartbeats 4000000 in
theorem plwrite_any (h : PoolX n0 w P d most D L c X) (n k : Nat) (hn : n < 4294967296) (hk : k < 256) (pay : List Nat) (A : Option Addr) (cap m : Nat) (hpm : m = pay.length) (hA : ∀ w', Step n0 X w w' → At w' A (ns .u8 pay)) (hnil : A = none → cap = 0) (hbp : Bytes pay) (hcl : D.cache.length ≤ 1000000000000) (hdn : D.n 2 ≤ 4611686018427387904) (hm : most ≤ 9223372036854775807) (hc : c ≤ 1000000000) :
    Calls Tryz.prog 17 #[.pointer (some ⟨P, 0, none⟩), .int .u32 (n : Int), .int .u8 (k : Int), .slice A m cap] w (PlWrite n0 w P d most c X (plWrite most D L n k pay)) := by
  have HSL := Lib.hid (seal_call k n A cap pay w hk hn hbp (hA w (Step.refl _ _ _)) hnil)
  rw [← hpm] at HSL
  by_cases hs : SealOk k pay
  · have e1 : sealErr k pay = 0 := by unfold sealErr; rw [if_pos hs]
    have e2 : sealOut k n pay = sealed k n pay := by unfold sealOut; rw [if_pos hs]
    have hx : Hand.Ok ⟨n, k, pay⟩ := ⟨hn, hk, hbp, hs.2.2⟩
    have hpl : plWrite most D L n k pay = if D.pages ≤ n then ⟨2, D, L⟩
      else if (D.write (n : Int) (sealed k n pay)).1 ≠ 0 then ⟨(D.write (n : Int) (sealed k n pay)).1, (D.write (n : Int) (sealed k n pay)).2, forget n L⟩
      else ⟨0, (D.write (n : Int) (sealed k n pay)).2, usePage most ⟨n, k, pay⟩ L⟩ := by unfold plWrite; rw [if_pos hs]
    rw [hpl]
    rw [e1, e2] at HSL
    have hsb : Bytes (sealed k n pay) ∧ (sealed k n pay).length = 1024 := ⟨sealed_bytes _ _ _ hk hbp, by rw [sealed_length _ _ _ hs.2.2]⟩
    generalize sealed k n pay = sl at *
    have HSB := Lib.hid hsb
    have HH := Lib.hid h
    have HX := Lib.hid hx
    have HA := Lib.hid hA
    have HNIL := Lib.hid hnil
    have HPM := Lib.hid hpm
    have HN0 := Lib.hid h.n_le
    clear hsb hpl e1 e2 hs h hx hA hnil hpm hbp
    by_cases hp : D.pages ≤ n
    · have hdp : decide (n < D.pages) = false := by simpa using hp
      rw [if_pos hp]
      have HDP := Lib.hid hdp
      clear hdp hp
      go_enter Tryz.func17, Tryz.ntmps17
      go_wp2_with fail
      refine HSL.out.mono ?_
      rintro e0 w1 ⟨A1, c1, rfl, hv1, hb1⟩
      have HX1 := Lib.hid (HH.out.below hb1)
      have hwi := within_any HX1.out n hn
      rw [HDP.out] at hwi
      have HW := Lib.hid hwi
      have HB1 := Lib.hid hb1
      clear hv1 hb1 hwi
      go_wp2_with fail
      refine HW.out.mono ?_
      rintro e0 w2 ⟨rfl, rfl⟩
      go_wp2_with fail
      go_ret
      exact ⟨rfl, HX1.out.moreC (by omega), Step.of_below HB1.out HN0.out⟩
    · have hdp : decide (n < D.pages) = true := by simp; omega
      rw [if_neg hp]
      obtain ⟨x, D', hq⟩ : ∃ x D', D.write (n : Int) sl = (x, D') := ⟨_, _, rfl⟩
      rw [hq]
      have HQ := Lib.hid hq
      clear hq
      by_cases hx0 : x = 0
      · subst hx0
        simp only [ne_eq, not_true_eq_false, if_false]
        have HDP := Lib.hid hdp
        clear hdp hp
        go_enter Tryz.func17, Tryz.ntmps17
        go_wp2_with fail
        refine HSL.out.mono ?_
        rintro e0 w1 ⟨A1, c1, rfl, hv1, hb1⟩
        have HX1 := Lib.hid (HH.out.also hb1 (Y := blk (.slice A1 sl.length c1)) (fun g hg => row_lt hv1 hg))
        have hwi := within_any HX1.out n hn
        rw [HDP.out] at hwi
        have HW := Lib.hid hwi
        have HS1 := Lib.hid (Step.of_below (X := X) hb1 HN0.out)
        obtain ⟨S, hd, hXS, hst, _⟩ := HX1.out.disk
        have c0 := HX1.out.cell0.1
        have hwr := dg_writeb hd (n : Int) sl.length A1 c1 sl hv1 ⟨fun g hg => (row_lt hv1 hg).2, fun g hg e => hXS g (.inr hg) e⟩ HSB.out.1 (by rw [HSB.out.2]; omega) hcl hdn
        rw [HQ.out] at hwr
        have HWR := Lib.hid hwr
        have HST := Lib.hid hst
        clear hv1 hb1 hwi hd hXS hst hwr
        simp only at HWR
        go_wp2_with fail
        refine HW.out.mono ?_
        rintro e0 w2 ⟨rfl, rfl⟩
        go_wp2_with fail
        refine HWR.out.mono ?_
        rintro e0 w2 ⟨rfl, hN⟩
        obtain ⟨hx2, hs2⟩ := HST.out w2 D' hN
        have HX2 := Lib.hid hx2
        have HS2 := Lib.hid (HS1.out.trans hs2 (fun g hg => .inl hg))
        clear hN hx2 hs2 c0 HWR HST
        obtain ⟨T, hpa, hXT, hTn, hst2⟩ := HX2.out.pool
        have HPUT := Lib.hid (plput_any hpa ⟨n, k, pay⟩ HX.out A cap (fun w' hw' => HA.out w' (HS2.out.trans (Y := X) ⟨hw'.mono (fun g _ e hg => hXT g (.inl hg) e), hw'.below HX2.out.n_le hTn⟩ (fun _ h => h))) HNIL.out hm hc)
        rw [show (⟨n, k, pay⟩ : Hand).pay.length = m from HPM.out.symm] at HPUT
        have HST2 := Lib.hid hst2
        clear hpa hXT hTn hst2
        go_wp2_with fail
        refine HPUT.out.mono ?_
        rintro e0 w3 ⟨rfl, hN⟩
        obtain ⟨hx3, hs3⟩ := HST2.out w3 _ _ hN
        have HX3 := Lib.hid hx3
        have HS3 := Lib.hid (HS2.out.trans hs3 (fun g hg => .inl hg))
        clear hN hx3 hs3
        go_wp2_with fail
        go_ret
        exact ⟨rfl, HX3.out.less (fun g hg => .inl hg), HS3.out⟩
      · have hx1 : ((x : Int) != 0) = true := by simp; omega
        have hx2 : (x != 0) = true := by simpa using hx0
        have hx9 : ¬ (x : Int) = 0 := by omega
        rw [if_pos hx0]
        clear hx0
        have HDP := Lib.hid hdp
        clear hdp hp
        go_enter Tryz.func17, Tryz.ntmps17
        go_wp2_with fail
        refine HSL.out.mono ?_
        rintro e0 w1 ⟨A1, c1, rfl, hv1, hb1⟩
        have HX1 := Lib.hid (HH.out.also hb1 (Y := blk (.slice A1 sl.length c1)) (fun g hg => row_lt hv1 hg))
        have hwi := within_any HX1.out n hn
        rw [HDP.out] at hwi
        have HW := Lib.hid hwi
        have HS1 := Lib.hid (Step.of_below (X := X) hb1 HN0.out)
        obtain ⟨S, hd, hXS, hst, _⟩ := HX1.out.disk
        have c0 := HX1.out.cell0.1
        have hwr := dg_writeb hd (n : Int) sl.length A1 c1 sl hv1 ⟨fun g hg => (row_lt hv1 hg).2, fun g hg e => hXS g (.inr hg) e⟩ HSB.out.1 (by rw [HSB.out.2]; omega) hcl hdn
        rw [HQ.out] at hwr
        have HWR := Lib.hid hwr
        have HST := Lib.hid hst
        clear hv1 hb1 hwi hd hXS hst hwr
        simp only at HWR
        go_wp2_with fail
        refine HW.out.mono ?_
        rintro e0 w2 ⟨rfl, rfl⟩
        go_wp2_with fail
        refine HWR.out.mono ?_
        rintro e0 w2 ⟨rfl, hN⟩
        obtain ⟨hx2, hs2⟩ := HST.out w2 D' hN
        have HX2 := Lib.hid hx2
        have HS2 := Lib.hid (HS1.out.trans hs2 (fun g hg => .inl hg))
        clear hN hx2 hs2 c0 HWR HST
        have HFG := Lib.hid (plforget_any HX2.out n hn)
        go_wp2_with fail
        refine HFG.out.mono ?_
        rintro e0 w3 ⟨rfl, hx3, hs3⟩
        have HX3 := Lib.hid hx3
        have HS3 := Lib.hid (HS2.out.trans hs3 (fun g hg => .inl hg))
        clear hx3 hs3
        go_wp2_with fail
        go_ret
        exact ⟨rfl, (HX3.out.moreC (by omega)).less (fun g hg => .inl hg), HS3.out⟩
  · have e1 : sealErr k pay = 80 := by unfold sealErr; rw [if_neg hs]
    have hpl : plWrite most D L n k pay = ⟨80, D, L⟩ := by unfold plWrite; rw [if_neg hs]
    rw [hpl]
    rw [e1] at HSL
    generalize sealOut k n pay = sl at *
    have HH := Lib.hid h
    clear hpl e1 hs h hA hnil hpm hbp
    go_enter Tryz.func17, Tryz.ntmps17
    go_wp2_with fail
    refine HSL.out.mono ?_
    rintro e0 w1 ⟨A1, c1, rfl, hv1, hb1⟩
    have HB1 := Lib.hid hb1
    clear hv1 hb1
    go_wp2_with fail
    go_ret
    exact ⟨rfl, (HH.out.below HB1.out).moreC (by omega), Step.of_below HB1.out HH.out.n_le⟩
end
end Go.Proofs.YtfbjjblgcgjndaaGreat

/- The helpers own.. of the book, at lists that are nil. -/
namespace Go.Proofs.YtfbjjblgcgjndaaGreat
open Go.RowKit

set_option maxRecDepth 100000 in
theorem own_nil_95 (w : World) : Calls Tryz.prog 59 #[.slice none 0 0] w fun e w' => e = .returned (.bool true) ∧ w = w' := by
  go_enter Tryz.func59, Tryz.ntmps59
  go_wp2
  go_loop [3] (fun i => i = .int .i64 0) (fun _ => 0)
  case atStart => rfl
  case round =>
    obtain rfl := hrel
    go_wp2
    go_loop [6] (fun i => i = .int .i64 0) (fun _ => 0)
    case atStart => rfl
    case round =>
      obtain rfl := hrel
      go_wp2
      go_loop [9] (fun i => i = .int .i64 0) (fun _ => 0)
      case atStart => rfl
      case round =>
        obtain rfl := hrel
        go_wp2
        go_ret
        exact ⟨rfl, rfl⟩
set_option maxRecDepth 100000 in
theorem own_nil_96 (w : World) : Calls Tryz.prog 60 #[.slice none 0 0] w fun e w' => e = .returned (.bool true) ∧ w = w' := by
  go_enter Tryz.func60, Tryz.ntmps60
  go_wp2
  go_loop [3] (fun i => i = .int .i64 0) (fun _ => 0)
  case atStart => rfl
  case round =>
    obtain rfl := hrel
    go_wp2
    go_loop [6] (fun i => i = .int .i64 0) (fun _ => 0)
    case atStart => rfl
    case round =>
      obtain rfl := hrel
      go_wp2
      go_loop [9] (fun i => i = .int .i64 0) (fun _ => 0)
      case atStart => rfl
      case round =>
        obtain rfl := hrel
        go_wp2
        go_ret
        exact ⟨rfl, rfl⟩
set_option maxRecDepth 100000 in
theorem own_nil_97 (w : World) : Calls Tryz.prog 61 #[.slice none 0 0] w fun e w' => e = .returned (.bool true) ∧ w = w' := by
  go_enter Tryz.func61, Tryz.ntmps61
  go_wp2
  go_loop [3] (fun i => i = .int .i64 0) (fun _ => 0)
  case atStart => rfl
  case round =>
    obtain rfl := hrel
    go_wp2
    go_loop [6] (fun i => i = .int .i64 0) (fun _ => 0)
    case atStart => rfl
    case round =>
      obtain rfl := hrel
      go_wp2
      go_loop [9] (fun i => i = .int .i64 0) (fun _ => 0)
      case atStart => rfl
      case round =>
        obtain rfl := hrel
        go_wp2
        go_ret
        exact ⟨rfl, rfl⟩
set_option maxRecDepth 100000 in
theorem own_nil_98 (w : World) : Calls Tryz.prog 62 #[.slice none 0 0] w fun e w' => e = .returned (.bool true) ∧ w = w' := by
  go_enter Tryz.func62, Tryz.ntmps62
  go_wp2
  go_loop [3] (fun i => i = .int .i64 0) (fun _ => 0)
  case atStart => rfl
  case round =>
    obtain rfl := hrel
    go_wp2
    go_loop [6] (fun i => i = .int .i64 0) (fun _ => 0)
    case atStart => rfl
    case round =>
      obtain rfl := hrel
      go_wp2
      go_loop [9] (fun i => i = .int .i64 0) (fun _ => 0)
      case atStart => rfl
      case round =>
        obtain rfl := hrel
        go_wp2
        go_ret
        exact ⟨rfl, rfl⟩
set_option maxRecDepth 100000 in
theorem own_nil_99 (w : World) : Calls Tryz.prog 63 #[.slice none 0 0] w fun e w' => e = .returned (.bool true) ∧ w = w' := by
  go_enter Tryz.func63, Tryz.ntmps63
  go_wp2
  go_loop [3] (fun i => i = .int .i64 0) (fun _ => 0)
  case atStart => rfl
  case round =>
    obtain rfl := hrel
    go_wp2
    go_loop [6] (fun i => i = .int .i64 0) (fun _ => 0)
    case atStart => rfl
    case round =>
      obtain rfl := hrel
      go_wp2
      go_loop [9] (fun i => i = .int .i64 0) (fun _ => 0)
      case atStart => rfl
      case round =>
        obtain rfl := hrel
        go_wp2
        go_ret
        exact ⟨rfl, rfl⟩
set_option maxRecDepth 100000 in
theorem own_nil_100 (w : World) : Calls Tryz.prog 64 #[.slice none 0 0] w fun e w' => e = .returned (.bool true) ∧ w = w' := by
  go_enter Tryz.func64, Tryz.ntmps64
  go_wp2
  go_loop [3] (fun i => i = .int .i64 0) (fun _ => 0)
  case atStart => rfl
  case round =>
    obtain rfl := hrel
    go_wp2
    go_loop [6] (fun i => i = .int .i64 0) (fun _ => 0)
    case atStart => rfl
    case round =>
      obtain rfl := hrel
      go_wp2
      go_loop [9] (fun i => i = .int .i64 0) (fun _ => 0)
      case atStart => rfl
      case round =>
        obtain rfl := hrel
        go_wp2
        go_ret
        exact ⟨rfl, rfl⟩
set_option maxRecDepth 100000 in
theorem own_nil_101 (w : World) : Calls Tryz.prog 65 #[.slice none 0 0] w fun e w' => e = .returned (.bool true) ∧ w = w' := by
  go_enter Tryz.func65, Tryz.ntmps65
  go_wp2
  go_loop [3] (fun i => i = .int .i64 0) (fun _ => 0)
  case atStart => rfl
  case round =>
    obtain rfl := hrel
    go_wp2
    go_loop [6] (fun i => i = .int .i64 0) (fun _ => 0)
    case atStart => rfl
    case round =>
      obtain rfl := hrel
      go_wp2
      go_loop [9] (fun i => i = .int .i64 0) (fun _ => 0)
      case atStart => rfl
      case round =>
        obtain rfl := hrel
        go_wp2
        go_ret
        exact ⟨rfl, rfl⟩
set_option maxRecDepth 100000 in
theorem own_nil_102 (w : World) : Calls Tryz.prog 66 #[.slice none 0 0] w fun e w' => e = .returned (.bool true) ∧ w = w' := by
  go_enter Tryz.func66, Tryz.ntmps66
  go_wp2
  go_loop [3] (fun i => i = .int .i64 0) (fun _ => 0)
  case atStart => rfl
  case round =>
    obtain rfl := hrel
    go_wp2
    go_loop [6] (fun i => i = .int .i64 0) (fun _ => 0)
    case atStart => rfl
    case round =>
      obtain rfl := hrel
      go_wp2
      go_loop [9] (fun i => i = .int .i64 0) (fun _ => 0)
      case atStart => rfl
      case round =>
        obtain rfl := hrel
        go_wp2
        go_ret
        exact ⟨rfl, rfl⟩
set_option maxRecDepth 100000 in
theorem own_nil_103 (w : World) : Calls Tryz.prog 67 #[.slice none 0 0] w fun e w' => e = .returned (.bool true) ∧ w = w' := by
  go_enter Tryz.func67, Tryz.ntmps67
  go_wp2
  go_loop [3] (fun i => i = .int .i64 0) (fun _ => 0)
  case atStart => rfl
  case round =>
    obtain rfl := hrel
    go_wp2
    go_loop [6] (fun i => i = .int .i64 0) (fun _ => 0)
    case atStart => rfl
    case round =>
      obtain rfl := hrel
      go_wp2
      go_loop [9] (fun i => i = .int .i64 0) (fun _ => 0)
      case atStart => rfl
      case round =>
        obtain rfl := hrel
        go_wp2
        go_ret
        exact ⟨rfl, rfl⟩
set_option maxRecDepth 100000 in
theorem own_nil_104 (w : World) : Calls Tryz.prog 68 #[.slice none 0 0] w fun e w' => e = .returned (.bool true) ∧ w = w' := by
  go_enter Tryz.func68, Tryz.ntmps68
  go_wp2
  go_loop [3] (fun i => i = .int .i64 0) (fun _ => 0)
  case atStart => rfl
  case round =>
    obtain rfl := hrel
    go_wp2
    go_loop [6] (fun i => i = .int .i64 0) (fun _ => 0)
    case atStart => rfl
    case round =>
      obtain rfl := hrel
      go_wp2
      go_loop [9] (fun i => i = .int .i64 0) (fun _ => 0)
      case atStart => rfl
      case round =>
        obtain rfl := hrel
        go_wp2
        go_ret
        exact ⟨rfl, rfl⟩
set_option maxRecDepth 100000 in
theorem own_nil_105 (w : World) : Calls Tryz.prog 69 #[.slice none 0 0] w fun e w' => e = .returned (.bool true) ∧ w = w' := by
  go_enter Tryz.func69, Tryz.ntmps69
  go_wp2
  go_loop [3] (fun i => i = .int .i64 0) (fun _ => 0)
  case atStart => rfl
  case round =>
    obtain rfl := hrel
    go_wp2
    go_loop [6] (fun i => i = .int .i64 0) (fun _ => 0)
    case atStart => rfl
    case round =>
      obtain rfl := hrel
      go_wp2
      go_loop [9] (fun i => i = .int .i64 0) (fun _ => 0)
      case atStart => rfl
      case round =>
        obtain rfl := hrel
        go_wp2
        go_ret
        exact ⟨rfl, rfl⟩
set_option maxRecDepth 100000 in
theorem own_nil_106 (w : World) : Calls Tryz.prog 70 #[.slice none 0 0] w fun e w' => e = .returned (.bool true) ∧ w = w' := by
  go_enter Tryz.func70, Tryz.ntmps70
  go_wp2
  go_loop [3] (fun i => i = .int .i64 0) (fun _ => 0)
  case atStart => rfl
  case round =>
    obtain rfl := hrel
    go_wp2
    go_loop [6] (fun i => i = .int .i64 0) (fun _ => 0)
    case atStart => rfl
    case round =>
      obtain rfl := hrel
      go_wp2
      go_loop [9] (fun i => i = .int .i64 0) (fun _ => 0)
      case atStart => rfl
      case round =>
        obtain rfl := hrel
        go_wp2
        go_ret
        exact ⟨rfl, rfl⟩
set_option maxRecDepth 100000 in
theorem own_nil_107 (w : World) : Calls Tryz.prog 71 #[.slice none 0 0] w fun e w' => e = .returned (.bool true) ∧ w = w' := by
  go_enter Tryz.func71, Tryz.ntmps71
  go_wp2
  go_loop [3] (fun i => i = .int .i64 0) (fun _ => 0)
  case atStart => rfl
  case round =>
    obtain rfl := hrel
    go_wp2
    go_loop [6] (fun i => i = .int .i64 0) (fun _ => 0)
    case atStart => rfl
    case round =>
      obtain rfl := hrel
      go_wp2
      go_loop [9] (fun i => i = .int .i64 0) (fun _ => 0)
      case atStart => rfl
      case round =>
        obtain rfl := hrel
        go_wp2
        go_ret
        exact ⟨rfl, rfl⟩
set_option maxRecDepth 100000 in
theorem own_nil_108 (w : World) : Calls Tryz.prog 72 #[.slice none 0 0] w fun e w' => e = .returned (.bool true) ∧ w = w' := by
  go_enter Tryz.func72, Tryz.ntmps72
  go_wp2
  go_loop [3] (fun i => i = .int .i64 0) (fun _ => 0)
  case atStart => rfl
  case round =>
    obtain rfl := hrel
    go_wp2
    go_loop [6] (fun i => i = .int .i64 0) (fun _ => 0)
    case atStart => rfl
    case round =>
      obtain rfl := hrel
      go_wp2
      go_loop [9] (fun i => i = .int .i64 0) (fun _ => 0)
      case atStart => rfl
      case round =>
        obtain rfl := hrel
        go_wp2
        go_ret
        exact ⟨rfl, rfl⟩
set_option maxRecDepth 100000 in
theorem own_nil_109 (w : World) : Calls Tryz.prog 73 #[.slice none 0 0] w fun e w' => e = .returned (.bool true) ∧ w = w' := by
  go_enter Tryz.func73, Tryz.ntmps73
  go_wp2
  go_loop [3] (fun i => i = .int .i64 0) (fun _ => 0)
  case atStart => rfl
  case round =>
    obtain rfl := hrel
    go_wp2
    go_loop [6] (fun i => i = .int .i64 0) (fun _ => 0)
    case atStart => rfl
    case round =>
      obtain rfl := hrel
      go_wp2
      go_loop [9] (fun i => i = .int .i64 0) (fun _ => 0)
      case atStart => rfl
      case round =>
        obtain rfl := hrel
        go_wp2
        go_ret
        exact ⟨rfl, rfl⟩
set_option maxRecDepth 100000 in
theorem own_nil_110 (w : World) : Calls Tryz.prog 74 #[.slice none 0 0] w fun e w' => e = .returned (.bool true) ∧ w = w' := by
  go_enter Tryz.func74, Tryz.ntmps74
  go_wp2
  go_loop [3] (fun i => i = .int .i64 0) (fun _ => 0)
  case atStart => rfl
  case round =>
    obtain rfl := hrel
    go_wp2
    go_loop [6] (fun i => i = .int .i64 0) (fun _ => 0)
    case atStart => rfl
    case round =>
      obtain rfl := hrel
      go_wp2
      go_loop [9] (fun i => i = .int .i64 0) (fun _ => 0)
      case atStart => rfl
      case round =>
        obtain rfl := hrel
        go_wp2
        go_ret
        exact ⟨rfl, rfl⟩
set_option maxRecDepth 100000 in
theorem own_nil_111 (w : World) : Calls Tryz.prog 75 #[.slice none 0 0] w fun e w' => e = .returned (.bool true) ∧ w = w' := by
  go_enter Tryz.func75, Tryz.ntmps75
  go_wp2
  go_loop [3] (fun i => i = .int .i64 0) (fun _ => 0)
  case atStart => rfl
  case round =>
    obtain rfl := hrel
    go_wp2
    go_loop [6] (fun i => i = .int .i64 0) (fun _ => 0)
    case atStart => rfl
    case round =>
      obtain rfl := hrel
      go_wp2
      go_loop [9] (fun i => i = .int .i64 0) (fun _ => 0)
      case atStart => rfl
      case round =>
        obtain rfl := hrel
        go_wp2
        go_ret
        exact ⟨rfl, rfl⟩
set_option maxRecDepth 100000 in
theorem own_nil_113 (w : World) : Calls Tryz.prog 77 #[.slice none 0 0] w fun e w' => e = .returned (.bool true) ∧ w = w' := by
  go_enter Tryz.func77, Tryz.ntmps77
  go_wp2
  go_loop [3] (fun i => i = .int .i64 0) (fun _ => 0)
  case atStart => rfl
  case round =>
    obtain rfl := hrel
    go_wp2
    go_loop [6] (fun i => i = .int .i64 0) (fun _ => 0)
    case atStart => rfl
    case round =>
      obtain rfl := hrel
      go_wp2
      go_loop [9] (fun i => i = .int .i64 0) (fun _ => 0)
      case atStart => rfl
      case round =>
        obtain rfl := hrel
        go_wp2
        go_ret
        exact ⟨rfl, rfl⟩
set_option maxRecDepth 100000 in
theorem own_nil_114 (w : World) : Calls Tryz.prog 78 #[.slice none 0 0] w fun e w' => e = .returned (.bool true) ∧ w = w' := by
  go_enter Tryz.func78, Tryz.ntmps78
  go_wp2
  go_loop [3] (fun i => i = .int .i64 0) (fun _ => 0)
  case atStart => rfl
  case round =>
    obtain rfl := hrel
    go_wp2
    go_loop [6] (fun i => i = .int .i64 0) (fun _ => 0)
    case atStart => rfl
    case round =>
      obtain rfl := hrel
      go_wp2
      go_loop [9] (fun i => i = .int .i64 0) (fun _ => 0)
      case atStart => rfl
      case round =>
        obtain rfl := hrel
        go_wp2
        go_ret
        exact ⟨rfl, rfl⟩
set_option maxRecDepth 100000 in
theorem own_nil_115 (w : World) : Calls Tryz.prog 79 #[.slice none 0 0] w fun e w' => e = .returned (.bool true) ∧ w = w' := by
  go_enter Tryz.func79, Tryz.ntmps79
  go_wp2
  go_loop [3] (fun i => i = .int .i64 0) (fun _ => 0)
  case atStart => rfl
  case round =>
    obtain rfl := hrel
    go_wp2
    go_loop [6] (fun i => i = .int .i64 0) (fun _ => 0)
    case atStart => rfl
    case round =>
      obtain rfl := hrel
      go_wp2
      go_loop [9] (fun i => i = .int .i64 0) (fun _ => 0)
      case atStart => rfl
      case round =>
        obtain rfl := hrel
        go_wp2
        go_ret
        exact ⟨rfl, rfl⟩
set_option maxRecDepth 100000 in
theorem own_nil_116 (w : World) : Calls Tryz.prog 80 #[.slice none 0 0] w fun e w' => e = .returned (.bool true) ∧ w = w' := by
  go_enter Tryz.func80, Tryz.ntmps80
  go_wp2
  go_loop [3] (fun i => i = .int .i64 0) (fun _ => 0)
  case atStart => rfl
  case round =>
    obtain rfl := hrel
    go_wp2
    go_loop [6] (fun i => i = .int .i64 0) (fun _ => 0)
    case atStart => rfl
    case round =>
      obtain rfl := hrel
      go_wp2
      go_loop [9] (fun i => i = .int .i64 0) (fun _ => 0)
      case atStart => rfl
      case round =>
        obtain rfl := hrel
        go_wp2
        go_ret
        exact ⟨rfl, rfl⟩
set_option maxRecDepth 100000 in
theorem own_nil_117 (w : World) : Calls Tryz.prog 81 #[.slice none 0 0] w fun e w' => e = .returned (.bool true) ∧ w = w' := by
  go_enter Tryz.func81, Tryz.ntmps81
  go_wp2
  go_loop [3] (fun i => i = .int .i64 0) (fun _ => 0)
  case atStart => rfl
  case round =>
    obtain rfl := hrel
    go_wp2
    go_loop [6] (fun i => i = .int .i64 0) (fun _ => 0)
    case atStart => rfl
    case round =>
      obtain rfl := hrel
      go_wp2
      go_loop [9] (fun i => i = .int .i64 0) (fun _ => 0)
      case atStart => rfl
      case round =>
        obtain rfl := hrel
        go_wp2
        go_ret
        exact ⟨rfl, rfl⟩
end Go.Proofs.YtfbjjblgcgjndaaGreat

/- ownBools at a list that is nil. -/
namespace Go.Proofs.YtfbjjblgcgjndaaGreat
open Go.RowKit

theorem Tryz.info68 : (Tryz.prog.info? 68).map (fun i => (i.zero, i.size, i.bytes)) = some (some (.slice none 0 0), 1, 24) := by kernel_rfl
set_option maxRecDepth 100000 in
theorem own_nil_112 (w : World) : Calls Tryz.prog 76 #[.slice none 0 0] w fun e w' => e = .returned (.bool true) ∧ Below w.heap.size w w' := by
  go_enter Tryz.func76, Tryz.ntmps76
  go_wp2_with (with_reducible refine wp_make rfl _ _ 59 68 (.slice none 0 0) 1 24 rfl Tryz.underlying59 Tryz.info68 w.heap.size .i64 .i64 _ _ 0 rfl rfl rfl rfl (by omega) (by omega) (Nat.le_refl _) ?_; intro w5 ho5 hg5)
  have hb5 := below_of_grown hg5
  go_loopw [4] (fun i wr => i = .int .i64 0 ∧ Below w.heap.size w wr) (fun _ _ => 0)
  case atStart => exact ⟨rfl, hb5⟩
  case round =>
    clear hb5
    obtain ⟨rfl, hb5⟩ := hrel
    go_wp2
    go_ret
    exact ⟨rfl, hb5⟩
end Go.Proofs.YtfbjjblgcgjndaaGreat

/- The book: lists that came out, each with memory of its own; it passes. -/
namespace Go.Proofs.YtfbjjblgcgjndaaGreat
open Go.RowKit

def nilV : Value := .slice none 0 0
/-- the book's block: a slice a field -/
def BookAt (w : World) (b : Nat) (F : Nat → Value) : Prop := w.heap[b]? = some (.cells (lst F 23).toArray 66 (0, 0))
theorem BookAt.cell {w : World} {b : Nat} {F : Nat → Value} (h : BookAt w b F) (i : Nat) (hi : i < 23) : w.cell? ⟨b, i, none⟩ = some (F i) := by
  rw [cell_of_row w b i _ 66 (0, 0) h]
  have := lst_get F 23 i hi
  simpa using this
theorem BookAt.frozen {w : World} {b : Nat} {F : Nat → Value} (h : BookAt w b F) (i : Nat) : w.frozen? ⟨b, i, none⟩ = false := frozen_of_row w b i _ 66 h
theorem BookAt.lt {w : World} {b : Nat} {F : Nat → Value} (h : BookAt w b F) : b < w.heap.size := (Array.getElem?_eq_some_iff.1 h).1
theorem lst_set (F : Nat → Value) (k i : Nat) (x : Value) : (lst F k).set i x = lst (turn F i x) k := by
  apply List.ext_getElem?
  intro q
  by_cases hq : q < k
  · rw [lst_get _ _ _ hq]
    by_cases e : q = i
    · subst e; rw [turn_same, List.getElem?_set_self (by rw [lst_length]; exact hq)]
    · rw [turn_other _ _ _ _ e, List.getElem?_set_ne (by omega), lst_get _ _ _ hq]
  · rw [List.getElem?_eq_none (by rw [List.length_set, lst_length]; omega), List.getElem?_eq_none (by rw [lst_length]; omega)]
theorem BookAt.set {w : World} {b : Nat} {F : Nat → Value} (h : BookAt w b F) (i : Nat) (x : Value) : BookAt (w.setCell ⟨b, i, none⟩ x) b (turn F i x) := by
  have := heap_setCell_same w b i _ 66 x h
  unfold BookAt
  rw [this, ← lst_set]
  simp
theorem BookAt.keep {w w' : World} {b : Nat} {F : Nat → Value} {G : Nat → Prop} (h : BookAt w b F) (hc : Chg G w w') (hG : ¬ G b) : BookAt w' b F := by
  unfold BookAt; rw [hc.block b h.lt hG]; exact h

/-- what a shelf's rows are made of, and the rows' own type -/
def ety : Nat → TypeId
  | 0 => 5
  | 2 => 3
  | 9 => 22
  | _ => 0
def sty : Nat → TypeId
  | 0 => 22
  | 2 => 86
  | 9 => 42
  | _ => 0
inductive Item where
  | book
  | list (j : Nat)
  | row (j i : Nat)
deriving DecidableEq
def Item.has (b : Nat) (F : Nat → Value) (live : Nat → Prop) (k : Nat → Nat) (u : Nat → Nat → Value) : Item → Nat → Prop
  | .book, g => g = b
  | .list j, g => live j ∧ blk (F j) g
  | .row j i, g => live j ∧ i < k j ∧ blk (u j i) g
structure Books (n0 : Nat) (w : World) (b : Nat) (F : Nat → Value) (live : Nat → Prop) (k : Nat → Nat) (u : Nat → Nat → Value) (n : Nat → Nat → Nat) (c : Nat → Nat → List Value) : Prop where
  at_ : BookAt w b F
  base : n0 ≤ b
  list : ∀ j, live j → w.ownsRow n0 (sty j) 1 (F j) (k j) (lst (u j) (k j))
  row : ∀ j i, live j → i < k j → Rw n0 (ety j) w (u j i) (n j i) (c j i)
  sep : ∀ x y, x ≠ y → ∀ g, Item.has b F live k u x g → ¬ Item.has b F live k u y g
def foot (b : Nat) (F : Nat → Value) (live : Nat → Prop) (k : Nat → Nat) (u : Nat → Nat → Value) (g : Nat) : Prop := ∃ x, Item.has b F live k u x g

section
variable {n0 : Nat} {w w' : World} {b : Nat} {F : Nat → Value} {live : Nat → Prop} {k : Nat → Nat} {u : Nat → Nat → Value} {n : Nat → Nat → Nat} {c : Nat → Nat → List Value}
theorem Books.lt (h : Books n0 w b F live k u n c) {x : Item} {g : Nat} (hx : Item.has b F live k u x g) : n0 ≤ g ∧ g < w.heap.size := by
  cases x with
  | book => obtain rfl : g = b := hx; exact ⟨h.base, h.at_.lt⟩
  | list j => exact row_lt (h.list j hx.1) hx.2
  | row j i => exact (h.row j i hx.1 hx.2.1).lt hx.2.2
theorem Books.keep {G : Nat → Prop} (h : Books n0 w b F live k u n c) (hc : Chg G w w') (hG : ∀ g, foot b F live k u g → ¬ G g) : Books n0 w' b F live k u n c :=
  ⟨h.at_.keep hc (hG b ⟨.book, rfl⟩), h.base, fun j hj => own_chg (h.list j hj) hc (fun g hg => hG g ⟨.list j, hj, hg⟩), fun j i hj hi => (h.row j i hj hi).chg hc (fun g hg => hG g ⟨.row j i, hj, hi, hg⟩), h.sep⟩
theorem Books.below (h : Books n0 w b F live k u n c) (hb : Below w.heap.size w w') : Books n0 w' b F live k u n c :=
  h.keep (G := fun _ => False) (.of_below hb) (fun _ _ h => h)
/-- a shelf is looked at no more -/
theorem Books.drop (h : Books n0 w b F live k u n c) {live' : Nat → Prop} (hl : ∀ j, live' j → live j) : Books n0 w b F live' k u n c :=
  have up : ∀ x g, Item.has b F live' k u x g → Item.has b F live k u x g := fun x g hx => by
    cases x with
    | book => exact hx
    | list j => exact ⟨hl j hx.1, hx.2⟩
    | row j i => exact ⟨hl j hx.1, hx.2⟩
  ⟨h.at_, h.base, fun j hj => h.list j (hl j hj), fun j i hj hi => h.row j i (hl j hj) hi, fun x y hxy g hx hy => h.sep x y hxy g (up x g hx) (up y g hy)⟩
/-- a list more on a shelf -/
theorem Books.add (h : Books n0 w b F live k u n c) (j : Nat) (hj : live j) (x : Value) (nx : Nat) (cx : List Value) (L' : Value) (hx : Rw n0 (ety j) w' x nx cx) (hfx : ∀ g, blk x g → g < w.heap.size ∧ ¬ foot b F live k u g)
    (ha : BookAt w' b (turn F j L')) (hl : w'.ownsRow n0 (sty j) 1 L' (k j + 1) (lst (u j) (k j) ++ [x])) (hc : Chg (fun g => g = b ∨ blk (F j) g) w w') (hL : ∀ g, blk L' g → blk (F j) g ∨ w.heap.size ≤ g) :
    Books n0 w' b (turn F j L') live (turn k j (k j + 1)) (turn u j (turn (u j) (k j) x)) (turn n j (turn (n j) (k j) nx)) (turn c j (turn (c j) (k j) cx)) := by
  have hlst : lst (turn (u j) (k j) x) (k j + 1) = lst (u j) (k j) ++ [x] := by
    rw [lst_succ, turn_same]
    congr 1
    exact lst_congr fun i hi => turn_other _ _ _ _ (by omega)
  have isRow : ∀ q i, live q → i < k q → ∀ g, blk (u q i) g → ¬ (g = b ∨ blk (F j) g) := by
    intro q i hq hi g hg h2
    rcases h2 with rfl | h2
    · exact h.sep (.row q i) .book (by simp) g ⟨hq, hi, hg⟩ rfl
    · exact h.sep (.row q i) (.list j) (by simp) g ⟨hq, hi, hg⟩ ⟨hj, h2⟩
  have isList : ∀ q, live q → q ≠ j → ∀ g, blk (F q) g → ¬ (g = b ∨ blk (F j) g) := by
    intro q hq hqj g hg h2
    rcases h2 with rfl | h2
    · exact h.sep (.list q) .book (by simp) g ⟨hq, hg⟩ rfl
    · exact h.sep (.list q) (.list j) (by simpa using hqj) g ⟨hq, hg⟩ ⟨hj, h2⟩
  -- what holds now, held before, or is the new list, or the list's new block
  have key : ∀ y g, Item.has b (turn F j L') live (turn k j (k j + 1)) (turn u j (turn (u j) (k j) x)) y g → (Item.has b F live k u y g) ∨ (y = .row j (k j) ∧ blk x g) ∨ (y = .list j ∧ w.heap.size ≤ g) := by
    intro y g hy
    cases y with
    | book => exact .inl hy
    | list q =>
      obtain ⟨h1, h2⟩ := hy
      by_cases e : q = j
      · subst e
        rw [turn_same] at h2
        rcases hL g h2 with h3 | h3
        · exact .inl ⟨h1, h3⟩
        · exact .inr (.inr ⟨rfl, h3⟩)
      · rw [turn_other _ _ _ _ e] at h2
        exact .inl ⟨h1, h2⟩
    | row q i =>
      obtain ⟨h1, h2, h3⟩ := hy
      by_cases e : q = j
      · subst e
        rw [turn_same] at h2 h3
        by_cases e2 : i = k q
        · subst e2
          rw [turn_same] at h3
          exact .inr (.inl ⟨rfl, h3⟩)
        · rw [turn_other _ _ _ _ e2] at h3
          exact .inl ⟨h1, by omega, h3⟩
      · rw [turn_other _ _ _ _ e] at h2 h3
        exact .inl ⟨h1, h2, h3⟩
  refine ⟨ha, h.base, fun q hq => ?_, fun q i hq hi => ?_, fun y z hyz g hy hz => ?_⟩
  · by_cases e : q = j
    · subst e
      rw [turn_same, turn_same, turn_same, hlst]; exact hl
    · rw [turn_other _ _ _ _ e, turn_other _ _ _ _ e, turn_other _ _ _ _ e]
      exact own_chg (h.list q hq) hc (isList q hq e)
  · by_cases e : q = j
    · subst e
      rw [turn_same] at hi
      rw [turn_same, turn_same, turn_same]
      by_cases e2 : i = k q
      · subst e2
        rw [turn_same, turn_same, turn_same]; exact hx
      · rw [turn_other _ _ _ _ e2, turn_other _ _ _ _ e2, turn_other _ _ _ _ e2]
        exact (h.row q i hq (by omega)).chg hc (isRow q i hq (by omega))
    · rw [turn_other _ _ _ _ e] at hi
      rw [turn_other _ _ _ _ e, turn_other _ _ _ _ e, turn_other _ _ _ _ e]
      exact (h.row q i hq hi).chg hc (isRow q i hq hi)
  · rcases key y g hy with h1 | ⟨rfl, h1⟩ | ⟨rfl, h1⟩ <;> rcases key z g hz with h2 | ⟨rfl, h2⟩ | ⟨rfl, h2⟩
    · exact h.sep y z hyz g h1 h2
    · exact (hfx g h2).2 ⟨y, h1⟩
    · have := (h.lt h1).2; omega
    · exact (hfx g h1).2 ⟨z, h2⟩
    · exact hyz rfl
    · have := (hfx g h1).1; omega
    · have := (h.lt h2).2; omega
    · have := (hfx g h2).1; omega
    · exact hyz rfl
/-- the shelf's rows, as own.. asks them -/
theorem Books.apart (h : Books n0 w b F live k u n c) (j : Nat) (hj : live j) (X : Nat → Prop) (hX : ∀ g, X g → g = b ∨ blk (F j) g) : Apart n0 (ety j) w (k j) (u j) (n j) (c j) X :=
  ⟨fun i hi => h.row j i hj hi, fun p q hp hq hpq g hg hg' => h.sep (.row j p) (.row j q) (by simpa using hpq) g ⟨hj, hp, hg⟩ ⟨hj, hq, hg'⟩, fun i hi g hg hx => by
    rcases hX g hx with rfl | h2
    · exact h.sep (.row j i) .book (by simp) g ⟨hj, hi, hg⟩ rfl
    · exact h.sep (.row j i) (.list j) (by simp) g ⟨hj, hi, hg⟩ ⟨hj, h2⟩⟩
end
end Go.Proofs.YtfbjjblgcgjndaaGreat

/- Contracts of the book's methods. -/
namespace Go.Proofs.YtfbjjblgcgjndaaGreat
open Go.RowKit


set_option maxRecDepth 100000 in
theorem book_bytes (n0 : Nat) (w : World) (b : Nat) (F : Nat → Value) (k : Nat) (us : List Value) (A : Option Addr) (n cp : Nat) (hB : BookAt w b F) (hown : w.ownsRow n0 22 1 (F 0) k us) (hsep : ¬ blk (F 0) b) (hk : k ≤ 1000000000000) (hn0 : n0 ≤ w.heap.size) :
    Calls Tryz.prog 14 #[.pointer (some ⟨b, 0, none⟩), .slice A n cp] w fun e w' => e = .returned (.tuple #[]) ∧ ∃ L', BookAt w' b (turn F 0 L') ∧ w'.ownsRow n0 22 1 L' (k + 1) (us ++ [.slice A n cp]) ∧ Chg (fun g => g = b ∨ blk (F 0) g) w w' ∧ ∀ g, blk L' g → blk (F 0) g ∨ w.heap.size ≤ g := by
  have c0 := hB.cell 0 (by omega)
  generalize hL : F 0 = L at *
  have HL := Lib.hid hL
  have HB := Lib.hid hB
  clear hL hB
  have h1 := own_below hown (below_alloc0 (Below.refl _ _) (.cells #[.slice A n cp] 22))
  have hAt : At (w.alloc (.cells #[.slice A n cp] 22)) (some ⟨w.heap.size, 0, none⟩) [.slice A n cp] := At.box w _ 22 w.heap.size rfl
  have hn1 : n0 ≤ (w.alloc (.cells #[.slice A n cp] 22)).heap.size := Nat.le_trans hn0 (by simp)
  have hsz : w.heap.size ≤ (w.alloc (.cells #[.slice A n cp] 22)).heap.size := by simp
  have hc1 : Chg (fun g => g = b ∨ blk L g) w (w.alloc (.cells #[.slice A n cp] 22)) := (Chg.refl _ w).alloc _
  go_enter Tryz.func14, Tryz.ntmps14
  go_wp2_with (at_builtin; go_loud (refine wp_append2 rfl (.tmp 8) (.tmp 10) 42 22 (.slice none 0 0) 1 24 rfl Tryz.underlying42 Tryz.info22 rfl (by decide) n0 L k us rfl h1 (some ⟨w.heap.size, 0, none⟩) 1 1 _ rfl rfl hAt (by simp) (by simp [Value.oneCell']) (by omega) (by omega) hn1 ?_); intro v1 w1 ho1 hor1; obtain ⟨V1, cap1, rfl, _⟩ := own_cells ho1; have hch1 := push_chg hor1; have hbl1 := fun g (hg : blk (.slice V1 (k + 1) cap1) g) => push_blk hor1 hg; have hB1 := (HB.out.keep (G := fun _ => False) (Chg.of_below (below_alloc0 (Below.refl _ _) (.cells #[.slice A n cp] 22))) (fun h => h)).keep hch1 hsep; have hcell1 := hB1.cell 0 (by omega); have hfr1 := hB1.frozen 0; have HB1 := Lib.hid hB1; clear hB1 hor1)
  go_end0
  have hs1 := own_chg ho1 (setCell_chg w1 b 0 (.slice V1 (k + 1) cap1)) (fun g hg e => by
    subst e
    rcases hbl1 _ hg with h | h
    · exact hsep h
    · have := HB.out.lt; simp at h; omega)
  refine ⟨rfl, _, HB1.out.set 0 _, hs1, ?_, fun g hg => ?_⟩
  · exact (hc1.trans hch1 (fun g _ hg => .inr hg)).setCell _ _ (.inl (.inl rfl))
  · rcases hbl1 g hg with h | h
    · exact .inl h
    · exact .inr (Nat.le_trans hsz h)

theorem Books.chg_rows {n0 : Nat} {w w' : World} {b : Nat} {F : Nat → Value} {live : Nat → Prop} {k : Nat → Nat} {u : Nat → Nat → Value} {n : Nat → Nat → Nat} {c : Nat → Nat → List Value} (h : Books n0 w b F live k u n c) (j : Nat) (hj : live j) {G : Nat → Prop} (hc : Chg G w w') (hG : ∀ g, G g → ∃ i, i < k j ∧ blk (u j i) g) :
    Books n0 w' b F (fun q => live q ∧ q ≠ j) k u n c := by
  refine (h.drop (live' := fun q => live q ∧ q ≠ j) (fun q hq => hq.1)).keep hc fun g hg hG' => ?_
  obtain ⟨i, hi, hgi⟩ := hG g hG'
  obtain ⟨x, hx⟩ := hg
  cases x with
  | book => exact h.sep .book (.row j i) (by simp) g hx ⟨hj, hi, hgi⟩
  | list q => exact h.sep (.list q) (.row j i) (by simp) g ⟨hx.1.1, hx.2⟩ ⟨hj, hi, hgi⟩
  | row q p => exact h.sep (.row q p) (.row j i) (by simp; intro e; exact absurd e hx.1.2) g ⟨hx.1.1, hx.2⟩ ⟨hj, hi, hgi⟩
/-- the shelf's list and rows, as the helper own.. wants them -/
theorem Books.shelf {n0 : Nat} {w : World} {b : Nat} {F : Nat → Value} {live : Nat → Prop} {k : Nat → Nat} {u : Nat → Nat → Value} {n : Nat → Nat → Nat} {c : Nat → Nat → List Value} (h : Books n0 w b F live k u n c) (j : Nat) (hj : live j) :
    ∃ A cp, F j = .slice A (k j) cp ∧ At w A (lst (u j) (k j)) ∧ Apart n0 (ety j) w (k j) (u j) (n j) (c j) (fun g => ∃ a, A = some a ∧ g = a.block) ∧ ∀ a, A = some a → a.block < w.heap.size := by
  obtain ⟨A, cp, e, hA, _, _, _⟩ := At.own (h.list j hj)
  refine ⟨A, cp, e, hA, h.apart j hj _ ?_, ?_⟩
  · rintro g ⟨a, rfl, rfl⟩
    exact .inr (by rw [e]; rfl)
  · rintro a rfl
    exact (row_lt (h.list j hj) (g := a.block) (by rw [e]; rfl)).2

set_option maxRecDepth 100000 in
set_option maxHeartbeats 4000000 in
theorem book_own (n0 : Nat) (w : World) (b : Nat) (F : Nat → Value) (k : Nat → Nat) (u : Nat → Nat → Value) (n : Nat → Nat → Nat) (c : Nat → Nat → List Value) (h : Books n0 w b F (fun j => j = 0 ∨ j = 2) k u n c)
    (hnil : ∀ j, j < 23 → j ≠ 0 → j ≠ 2 → F j = .slice none 0 0) (hk : ∀ j, k j ≤ 1000000000000) (hn : ∀ j i, (j = 0 ∨ j = 2) → i < k j → n j i ≤ 1000000000000) (hn0 : n0 ≤ w.heap.size) :
    Calls Tryz.prog 35 #[.pointer (some ⟨b, 0, none⟩)] w fun e w' => e = .returned (.bool true) ∧ Chg (foot b F (fun j => j = 0 ∨ j = 2) k u) w w' := by
  obtain ⟨A0, cp0, e0, hA0, hP0, hX0⟩ := h.shelf 0 (.inl rfl)
  have c0 := h.at_.cell 0 (by omega)
  rw [e0] at c0
  have o0 := Lib.hid (own_Bytes n0 A0 cp0 (k 0) (u 0) (n 0) (c 0) w hA0 (hk 0) (fun i hi => hn 0 i (.inl rfl) hi) hP0 hX0 hn0)
  have HH := Lib.hid h
  have HN := Lib.hid hnil
  have HK := Lib.hid hk
  have HNN := Lib.hid hn
  have HN0 := Lib.hid hn0
  clear h hnil hA0 hP0 hX0 e0 hn hk hn0
  go_enter Tryz.func35, Tryz.ntmps35
  go_wp2_with fail
  refine o0.out.mono ?_
  rintro e w1 ⟨rfl, hc1⟩
  have h1 := HH.out.chg_rows 0 (.inl rfl) hc1 (fun g hg => hg)
  have hcc1 : Chg (foot b F (fun j => j = 0 ∨ j = 2) k u) w w1 := hc1.mono (fun g _ hg => by obtain ⟨i, hi, hg⟩ := hg; exact ⟨.row 0 i, .inl rfl, hi, hg⟩)
  have d1 := h1.at_.cell 1 (by omega)
  rw [HN.out 1 (by omega) (by omega) (by omega)] at d1
  clear c0 o0 hc1
  go_wp2_with fail
  refine (own_nil_96 _).mono ?_
  rintro e w2 ⟨rfl, rfl⟩
  obtain ⟨A2, cp2, e2, hA2, hP2, hX2⟩ := h1.shelf 2 ⟨.inr rfl, by omega⟩
  have c2 := h1.at_.cell 2 (by omega)
  rw [e2] at c2
  have o2 := Lib.hid (own_Ints n0 A2 cp2 (k 2) (u 2) (n 2) (c 2) w1 hA2 (HK.out 2) (fun i hi => HNN.out 2 i (.inr rfl) hi) hP2 hX2 (Nat.le_trans HN0.out hcc1.size))
  have H1 := Lib.hid h1
  clear hA2 hP2 hX2 e2 h1 d1
  go_wp2_with fail
  refine o2.out.mono ?_
  rintro e w3 ⟨rfl, hc3⟩
  have h3 := H1.out.chg_rows 2 ⟨.inr rfl, by omega⟩ hc3 (fun g hg => hg)
  have hcc3 := hcc1.trans hc3 (fun g _ hg => by obtain ⟨i, hi, hg⟩ := hg; exact ⟨.row 2 i, .inr rfl, hi, hg⟩)
  have hB := h3.at_
  have HC := Lib.hid hcc3
  have HF := HN.out
  have f3 := HF 3 (by omega) (by omega) (by omega)
  have d3 := hB.cell 3 (by omega)
  rw [HF 3 (by omega) (by omega) (by omega)] at d3
  have d4 := hB.cell 4 (by omega)
  rw [HF 4 (by omega) (by omega) (by omega)] at d4
  have d5 := hB.cell 5 (by omega)
  rw [HF 5 (by omega) (by omega) (by omega)] at d5
  have d6 := hB.cell 6 (by omega)
  rw [HF 6 (by omega) (by omega) (by omega)] at d6
  have d7 := hB.cell 7 (by omega)
  rw [HF 7 (by omega) (by omega) (by omega)] at d7
  have d8 := hB.cell 8 (by omega)
  rw [HF 8 (by omega) (by omega) (by omega)] at d8
  have d9 := hB.cell 9 (by omega)
  rw [HF 9 (by omega) (by omega) (by omega)] at d9
  have d10 := hB.cell 10 (by omega)
  rw [HF 10 (by omega) (by omega) (by omega)] at d10
  have d11 := hB.cell 11 (by omega)
  rw [HF 11 (by omega) (by omega) (by omega)] at d11
  have d12 := hB.cell 12 (by omega)
  rw [HF 12 (by omega) (by omega) (by omega)] at d12
  have d13 := hB.cell 13 (by omega)
  rw [HF 13 (by omega) (by omega) (by omega)] at d13
  have d14 := hB.cell 14 (by omega)
  rw [HF 14 (by omega) (by omega) (by omega)] at d14
  have d15 := hB.cell 15 (by omega)
  rw [HF 15 (by omega) (by omega) (by omega)] at d15
  have d16 := hB.cell 16 (by omega)
  rw [HF 16 (by omega) (by omega) (by omega)] at d16
  have d17 := hB.cell 17 (by omega)
  rw [HF 17 (by omega) (by omega) (by omega)] at d17
  have d18 := hB.cell 18 (by omega)
  rw [HF 18 (by omega) (by omega) (by omega)] at d18
  have d19 := hB.cell 19 (by omega)
  rw [HF 19 (by omega) (by omega) (by omega)] at d19
  have d20 := hB.cell 20 (by omega)
  rw [HF 20 (by omega) (by omega) (by omega)] at d20
  have d21 := hB.cell 21 (by omega)
  rw [HF 21 (by omega) (by omega) (by omega)] at d21
  have d22 := hB.cell 22 (by omega)
  rw [HF 22 (by omega) (by omega) (by omega)] at d22
  have HB := Lib.hid hB
  clear hB HF f3 c2 o2 hcc1 hc3 h3 hcc3
  go_wp2_with fail
  refine (own_nil_98 _).mono ?_
  rintro e w9 ⟨rfl, rfl⟩
  go_wp2_with fail
  refine (own_nil_99 _).mono ?_
  rintro e w9 ⟨rfl, rfl⟩
  go_wp2_with fail
  refine (own_nil_100 _).mono ?_
  rintro e w9 ⟨rfl, rfl⟩
  go_wp2_with fail
  refine (own_nil_101 _).mono ?_
  rintro e w9 ⟨rfl, rfl⟩
  go_wp2_with fail
  refine (own_nil_102 _).mono ?_
  rintro e w9 ⟨rfl, rfl⟩
  go_wp2_with fail
  refine (own_nil_103 _).mono ?_
  rintro e w9 ⟨rfl, rfl⟩
  go_wp2_with fail
  refine (own_nil_104 _).mono ?_
  rintro e w9 ⟨rfl, rfl⟩
  go_wp2_with fail
  refine (own_nil_105 _).mono ?_
  rintro e w9 ⟨rfl, rfl⟩
  go_wp2_with fail
  refine (own_nil_106 _).mono ?_
  rintro e w9 ⟨rfl, rfl⟩
  go_wp2_with fail
  refine (own_nil_107 _).mono ?_
  rintro e w9 ⟨rfl, rfl⟩
  go_wp2_with fail
  refine (own_nil_108 _).mono ?_
  rintro e w9 ⟨rfl, rfl⟩
  go_wp2_with fail
  refine (own_nil_109 _).mono ?_
  rintro e w9 ⟨rfl, rfl⟩
  go_wp2_with fail
  refine (own_nil_110 _).mono ?_
  rintro e w9 ⟨rfl, rfl⟩
  go_wp2_with fail
  refine (own_nil_111 _).mono ?_
  rintro e w9 ⟨rfl, rfl⟩
  go_wp2_with fail
  refine (own_nil_112 _).mono ?_
  rintro e w9 ⟨rfl, hb9⟩
  have hB := HB.out.keep (G := fun _ => False) (Chg.of_below hb9) (fun h => h)
  have hcc9 := HC.out.trans (Chg.of_below (F := fun _ => False) hb9) (fun _ _ h => h.elim)
  have HF := HN.out
  clear d3 d4 d5 d6 d7 d8 d9 d10 d11 d12 d13 d14 d15 d16 d17 d18 d19 d20 d21 d22
  have d18 := hB.cell 18 (by omega)
  rw [HF 18 (by omega) (by omega) (by omega)] at d18
  have d19 := hB.cell 19 (by omega)
  rw [HF 19 (by omega) (by omega) (by omega)] at d19
  have d20 := hB.cell 20 (by omega)
  rw [HF 20 (by omega) (by omega) (by omega)] at d20
  have d21 := hB.cell 21 (by omega)
  rw [HF 21 (by omega) (by omega) (by omega)] at d21
  have d22 := hB.cell 22 (by omega)
  rw [HF 22 (by omega) (by omega) (by omega)] at d22
  clear HF
  go_wp2_with fail
  refine (own_nil_113 _).mono ?_
  rintro e w10 ⟨rfl, rfl⟩
  go_wp2_with fail
  refine (own_nil_114 _).mono ?_
  rintro e w10 ⟨rfl, rfl⟩
  go_wp2_with fail
  refine (own_nil_115 _).mono ?_
  rintro e w10 ⟨rfl, rfl⟩
  go_wp2_with fail
  refine (own_nil_116 _).mono ?_
  rintro e w10 ⟨rfl, rfl⟩
  go_wp2_with fail
  refine (own_nil_117 _).mono ?_
  rintro e w10 ⟨rfl, rfl⟩
  go_wp2
  go_ret
  exact ⟨rfl, hcc9⟩
end Go.Proofs.YtfbjjblgcgjndaaGreat

/- The book, its inside out of sight. -/
namespace Go.Proofs.YtfbjjblgcgjndaaGreat
open Go.RowKit

def lives (j : Nat) : Prop := j = 0 ∨ j = 2
/-- the book's own block and its lists' -/
def Sys (b : Nat) (F : Nat → Value) (g : Nat) : Prop := g = b ∨ ∃ j, (j = 0 ∨ j = 2) ∧ blk (F j) g
/-- a book at b of at most K lists a shelf; its own blocks are among S, those of what it bears among R -/
def BookOk (n0 : Nat) (w : World) (b K : Nat) (S R : Nat → Prop) : Prop :=
  ∃ F k u n c, Books n0 w b F (fun j => j = 0 ∨ j = 2) k u n c ∧ (∀ j, j < 23 → j ≠ 0 → j ≠ 2 → F j = .slice none 0 0) ∧ (∀ j, k j ≤ K) ∧ (∀ j i, (j = 0 ∨ j = 2) → i < k j → n j i ≤ 1000000000000) ∧ (∀ g, Sys b F g → S g) ∧ ∀ j i g, (j = 0 ∨ j = 2) → i < k j → blk (u j i) g → R g
theorem foot_or {b : Nat} {F : Nat → Value} {k : Nat → Nat} {u : Nat → Nat → Value} {S R : Nat → Prop} (hS : ∀ g, Sys b F g → S g) (hR : ∀ j i g, (j = 0 ∨ j = 2) → i < k j → blk (u j i) g → R g) {g : Nat} (h : foot b F (fun j => j = 0 ∨ j = 2) k u g) : S g ∨ R g := by
  obtain ⟨x, hx⟩ := h
  cases x with
  | book => exact .inl (hS g (.inl hx))
  | list j => exact .inl (hS g (.inr ⟨j, hx.1, hx.2⟩))
  | row j i => exact .inr (hR j i g hx.1 hx.2.1 hx.2.2)
theorem BookOk.keep {n0 : Nat} {w w' : World} {b K : Nat} {S R H : Nat → Prop} (h : BookOk n0 w b K S R) (hc : Chg H w w') (hG : ∀ g, g < w.heap.size → S g ∨ R g → ¬ H g) : BookOk n0 w' b K S R := by
  obtain ⟨F, k, u, n, c, h1, h2, h3, h4, h5, h6⟩ := h
  exact ⟨F, k, u, n, c, h1.keep hc (fun g hg => by have hg' := hg; obtain ⟨x, hx⟩ := hg; exact hG g (h1.lt hx).2 (foot_or h5 h6 hg')), h2, h3, h4, h5, h6⟩
theorem BookOk.below {n0 : Nat} {w w' : World} {b K : Nat} {S R : Nat → Prop} (h : BookOk n0 w b K S R) (hb : Below w.heap.size w w') : BookOk n0 w' b K S R :=
  h.keep (H := fun _ => False) (.of_below hb) (fun _ _ _ h => h)
theorem BookOk.mono {n0 : Nat} {w : World} {b K : Nat} {S R S' R' : Nat → Prop} (h : BookOk n0 w b K S R) (hS : ∀ g, n0 ≤ g → g < w.heap.size → S g → S' g) (hR : ∀ g, n0 ≤ g → g < w.heap.size → R g → R' g) : BookOk n0 w b K S' R' := by
  obtain ⟨F, k, u, n, c, h1, h2, h3, h4, h5, h6⟩ := h
  have lt1 : ∀ g, Sys b F g → n0 ≤ g ∧ g < w.heap.size := by
    rintro g (h | ⟨j, hj, h⟩)
    · exact h1.lt (x := .book) h
    · exact h1.lt (x := .list j) ⟨hj, h⟩
  refine ⟨F, k, u, n, c, h1, h2, h3, h4, fun g hg => hS g (lt1 g hg).1 (lt1 g hg).2 (h5 g hg), fun j i g hj hi hg => ?_⟩
  have := h1.lt (x := .row j i) ⟨hj, hi, hg⟩
  exact hR g this.1 this.2 (h6 j i g hj hi hg)
theorem lst_nil_book : (lst (fun _ => nilV) 23).toArray = #[.slice none 0 0, .slice none 0 0, .slice none 0 0, .slice none 0 0, .slice none 0 0, .slice none 0 0, .slice none 0 0, .slice none 0 0, .slice none 0 0, .slice none 0 0, .slice none 0 0, .slice none 0 0, .slice none 0 0, .slice none 0 0, .slice none 0 0, .slice none 0 0, .slice none 0 0, .slice none 0 0, .slice none 0 0, .slice none 0 0, .slice none 0 0, .slice none 0 0, .slice none 0 0] := rfl
theorem BookOk.new (n0 : Nat) (w : World) (hn : n0 ≤ w.heap.size) : BookOk n0 (w.alloc (.cells (lst (fun _ => nilV) 23).toArray 66)) w.heap.size 0 (fun g => g = w.heap.size) (fun _ => False) := by
  have hno : ∀ x g, Item.has w.heap.size (fun _ => nilV) (fun j => j = 0 ∨ j = 2) (fun _ => 0) (fun _ _ => nilV) x g → x = .book ∧ g = w.heap.size := by
    intro x g hx
    cases x with
    | book => exact ⟨rfl, hx⟩
    | list j => cases hx.2
    | row j i => exact absurd hx.2.1 (Nat.not_lt_zero _)
  refine ⟨fun _ => nilV, fun _ => 0, fun _ _ => nilV, fun _ _ => 0, fun _ _ => [], ⟨heap_alloc_new w _, hn, fun j hj => World.ownsRow_nil _ _ _ _, fun j i hj hi => absurd hi (Nat.not_lt_zero _), fun x y hxy g hx hy => hxy ((hno x g hx).1.trans (hno y g hy).1.symm)⟩, fun _ _ _ _ => rfl, fun _ => Nat.le_refl _, fun j i _ hi => absurd hi (Nat.not_lt_zero _), ?_, fun j i g _ hi => absurd hi (Nat.not_lt_zero _)⟩
  rintro g (h | ⟨j, _, h⟩)
  · exact h
  · cases h
def More (S : Nat → Prop) (s s' : Nat) (g : Nat) : Prop := S g ∨ (s ≤ g ∧ g < s')
def Also (R : Nat → Prop) (x : Value) (g : Nat) : Prop := R g ∨ blk x g
def BookPut (n0 : Nat) (w : World) (b K : Nat) (S R : Nat → Prop) (x : Value) (e : Ending) (w' : World) : Prop :=
  e = .returned (.tuple #[]) ∧ BookOk n0 w' b (K + 1) (More S w.heap.size w'.heap.size) (Also R x) ∧ Chg S w w' ∧ Below n0 w w'
theorem book_put {n0 : Nat} {w : World} {b K : Nat} {S R : Nat → Prop} {fn : FuncId} (j : Nat) (hj : j = 0 ∨ j = 2) (A : Option Addr) (n cp : Nat) (cx : List Value) (h : BookOk n0 w b K S R) (hx : Rw n0 (ety j) w (.slice A n cp) n cx) (hG : ∀ g, blk (.slice A n cp) g → ¬ (S g ∨ R g)) (hn : n ≤ 1000000000000) (hn0 : n0 ≤ w.heap.size) (hK : K < 1000000000000)
    (hput : ∀ (F : Nat → Value) (k : Nat) (us : List Value), BookAt w b F → w.ownsRow n0 (sty j) 1 (F j) k us → ¬ blk (F j) b → k ≤ 1000000000000 →
      Calls Tryz.prog fn #[.pointer (some ⟨b, 0, none⟩), .slice A n cp] w fun e w' => e = .returned (.tuple #[]) ∧ ∃ L', BookAt w' b (turn F j L') ∧ w'.ownsRow n0 (sty j) 1 L' (k + 1) (us ++ [.slice A n cp]) ∧ Chg (fun g => g = b ∨ blk (F j) g) w w' ∧ ∀ g, blk L' g → blk (F j) g ∨ w.heap.size ≤ g) :
    Calls Tryz.prog fn #[.pointer (some ⟨b, 0, none⟩), .slice A n cp] w (BookPut n0 w b K S R (.slice A n cp)) := by
  obtain ⟨F, k, u, nn, c, h1, h2, h3, h4, h5, h6⟩ := h
  have hsep : ¬ blk (F j) b := fun hb => h1.sep .book (.list j) (by simp) b rfl ⟨hj, hb⟩
  have hkj := h3 j
  refine (hput F (k j) (lst (u j) (k j)) h1.at_ (h1.list j hj) hsep (by omega)).mono ?_
  rintro e w' ⟨rfl, L', ha, hl, hc, hL⟩
  have hcS : Chg S w w' := hc.mono fun g _ hg => by
    rcases hg with rfl | hg
    · exact h5 _ (.inl rfl)
    · exact h5 _ (.inr ⟨j, hj, hg⟩)
  have hbl : Below n0 w w' := hc.below hn0 fun g hg => by
    rcases hg with rfl | hg
    · exact h1.base
    · exact (row_lt (h1.list j hj) hg).1
  have hx' : Rw n0 (ety j) w' (.slice A n cp) n cx := hx.chg hcS (fun g hg hs => hG g hg (.inl hs))
  have hb2 := h1.add (w' := w') j hj (.slice A n cp) n cx L' hx' (fun g hg => ⟨(hx.lt hg).2, fun hf => hG g hg (foot_or h5 h6 hf)⟩) ha hl hc hL
  refine ⟨rfl, ⟨_, _, _, _, _, hb2, fun q hq h0 h2' => ?_, fun q => ?_, fun q i hq hi => ?_, fun g hg => ?_, fun q i g hq hi hg => ?_⟩, hcS, hbl⟩
  · rw [turn_other _ _ _ _ (by omega)]; exact h2 q hq h0 h2'
  · by_cases e : q = j
    · subst e; rw [turn_same]; omega
    · rw [turn_other _ _ _ _ e]; have := h3 q; omega
  · by_cases e : q = j
    · subst e
      rw [turn_same] at hi ⊢
      by_cases e2 : i = k q
      · subst e2; rw [turn_same]; exact hn
      · rw [turn_other _ _ _ _ e2]; exact h4 q i hq (by omega)
    · rw [turn_other _ _ _ _ e] at hi ⊢
      exact h4 q i hq hi
  · rcases hg with rfl | ⟨q, hq, hg⟩
    · exact .inl (h5 _ (.inl rfl))
    · by_cases e : q = j
      · subst e
        rw [turn_same] at hg
        rcases hL g hg with h | h
        · exact .inl (h5 _ (.inr ⟨q, hq, h⟩))
        · exact .inr ⟨h, (row_lt hl hg).2⟩
      · rw [turn_other _ _ _ _ e] at hg
        exact .inl (h5 _ (.inr ⟨q, hq, hg⟩))
  · by_cases e : q = j
    · subst e
      rw [turn_same] at hi hg
      by_cases e2 : i = k q
      · subst e2; rw [turn_same] at hg; exact .inr hg
      · rw [turn_other _ _ _ _ e2] at hg; exact .inl (h6 q i g hq (by omega) hg)
    · rw [turn_other _ _ _ _ e] at hi hg
      exact .inl (h6 q i g hq hi hg)
theorem bytes_put {n0 : Nat} {w : World} {b K : Nat} {S R : Nat → Prop} (A : Option Addr) (n cp : Nat) (cx : List Value) (h : BookOk n0 w b K S R) (hx : w.ownsRow n0 5 1 (.slice A n cp) n cx) (hG : ∀ g, blk (.slice A n cp) g → ¬ (S g ∨ R g)) (hn : n ≤ 1000000000000) (hn0 : n0 ≤ w.heap.size) (hK : K < 1000000000000) :
    Calls Tryz.prog 14 #[.pointer (some ⟨b, 0, none⟩), .slice A n cp] w (BookPut n0 w b K S R (.slice A n cp)) :=
  book_put 0 (.inl rfl) A n cp cx h (Rw.of hx) hG hn hn0 hK fun F k us h1 h2 h3 h4 => book_bytes n0 w b F k us A n cp h1 h2 h3 h4 hn0
theorem bytes_putc {n0 : Nat} {w : World} {b K : Nat} {S R : Nat → Prop} (A : Option Addr) (n cp : Nat) (cx : List Value) (h : BookOk n0 w b K S R) (hx : Rw n0 5 w (.slice A n cp) n cx) (hG : ∀ g, blk (.slice A n cp) g → ¬ (S g ∨ R g)) (hn : n ≤ 1000000000000) (hn0 : n0 ≤ w.heap.size) (hK : K < 1000000000000) :
    Calls Tryz.prog 14 #[.pointer (some ⟨b, 0, none⟩), .slice A n cp] w (BookPut n0 w b K S R (.slice A n cp)) :=
  book_put 0 (.inl rfl) A n cp cx h hx hG hn hn0 hK fun F k us h1 h2 h3 h4 => book_bytes n0 w b F k us A n cp h1 h2 h3 h4 hn0
theorem own_ok {n0 : Nat} {w : World} {b K : Nat} {S R : Nat → Prop} (h : BookOk n0 w b K S R) (hn0 : n0 ≤ w.heap.size) (hK : K ≤ 1000000000000) :
    Calls Tryz.prog 35 #[.pointer (some ⟨b, 0, none⟩)] w fun e w' => e = .returned (.bool true) ∧ Chg (fun g => S g ∨ R g) w w' ∧ Below n0 w w' := by
  obtain ⟨F, k, u, nn, c, h1, h2, h3, h4, h5, h6⟩ := h
  refine (book_own n0 w b F k u nn c h1 h2 (fun j => Nat.le_trans (h3 j) hK) h4 hn0).mono ?_
  rintro e w' ⟨rfl, hc⟩
  exact ⟨rfl, hc.mono fun g _ hg => foot_or h5 h6 hg, hc.below hn0 fun g hg => by obtain ⟨x, hx⟩ := hg; exact (h1.lt hx).1⟩
end Go.Proofs.YtfbjjblgcgjndaaGreat
