/- Contracts of page.Seal and of the reference's Seal. -/
import Derived.Test.YtfbjjblgcgjndaaPage1
set_option linter.unusedVariables false
set_option linter.unusedSimpArgs false
namespace Go.Proofs.Ytfbjjblgcgjndaa
open Go.RowKit

/-- what a page begins with -/
def front (kind number n : Nat) : List Nat := [67, 80, kind, 0] ++ le number 4 ++ le n 2 ++ le 0 2
theorem front_length (kind number n : Nat) : (front kind number n).length = 12 := by simp [front, le_length]
theorem front_bytes (kind number n : Nat) (h : kind < 256) : Bytes (front kind number n) := by
  refine Bytes.append (Bytes.append (Bytes.append ?_ (le_bytes _ _)) (le_bytes _ _)) (le_bytes _ _)
  exact Bytes.cons (by omega) (Bytes.cons (by omega) (Bytes.cons h (Bytes.cons (by omega) Bytes.nil)))
/-- a page -/
def sealed (kind number : Nat) (p : List Nat) : List Nat := closed (fill (front kind number p.length ++ p) 1020)
def SealOk (kind : Nat) (p : List Nat) : Prop := 1 ≤ kind ∧ kind ≤ 4 ∧ p.length ≤ 1008
instance (kind : Nat) (p : List Nat) : Decidable (SealOk kind p) := inferInstanceAs (Decidable (_ ∧ _ ∧ _))
theorem sealed_length (kind number : Nat) (p : List Nat) (h : p.length ≤ 1008) : (sealed kind number p).length = 1024 := by
  rw [sealed, closed_length, fill_length _ _ (by rw [List.length_append, front_length]; omega)]
theorem sealed_bytes (kind number : Nat) (p : List Nat) (h : kind < 256) (hp : Bytes p) : Bytes (sealed kind number p) := closed_bytes _ (fill_bytes _ _ ((front_bytes _ _ _ h).append hp))

theorem seal_no_tests (kind : Nat) (p : List Nat) (h : ¬ SealOk kind p) : kind < 1 ∨ (¬ kind < 1 ∧ 4 < kind) ∨ (¬ kind < 1 ∧ ¬ 4 < kind ∧ 1008 < p.length) := by
  unfold SealOk at h
  omega

set_option maxRecDepth 100000 in
set_option maxHeartbeats 1000000 in
theorem seal_no (kind number : Nat) (A : Option Addr) (c : Nat) (p : List Nat) (w : World) (h : ¬ SealOk kind p) :
    Calls Try.prog 66 #[.int .u8 (kind : Int), .int .u32 (number : Int), .slice A p.length c] w fun e w' => e = .returned (.tuple #[.slice none 0 0, .int .u16 80]) ∧ w = w' := by
  rcases seal_no_tests kind p h with h1 | ⟨h1, h2⟩ | ⟨h1, h2, h3⟩
  all_goals
    clear h
    go_enter Try.func66, Try.ntmps66
    go_wp2
    go_ret2
    exact ⟨rfl, rfl⟩

set_option maxRecDepth 100000 in
set_option maxHeartbeats 1000000 in
theorem rseal_no (kind number : Nat) (A : Option Addr) (c : Nat) (p : List Nat) (w : World) (h : ¬ SealOk kind p) :
    Calls Try.prog 67 #[.int .u8 (kind : Int), .int .u32 (number : Int), .slice A p.length c] w fun e w' => e = .returned (.tuple #[.slice none 0 0, .int .u16 80]) ∧ w = w' := by
  rcases seal_no_tests kind p h with h1 | ⟨h1, h2⟩ | ⟨h1, h2, h3⟩
  all_goals
    clear h
    go_enter Try.func67, Try.ntmps67
    go_wp2
    go_ret2
    exact ⟨rfl, rfl⟩

set_option maxRecDepth 100000 in
set_option maxHeartbeats 1000000 in
theorem seal_ok (kind number : Nat) (A : Option Addr) (c : Nat) (p : List Nat) (w : World) (h : SealOk kind p) (hk : kind < 256) (hn : number < 4294967296) (hp : Bytes p) (hA : At w A (ns .u8 p)) (hnil : A = none → c = 0) :
    Calls Try.prog 66 #[.int .u8 (kind : Int), .int .u32 (number : Int), .slice A p.length c] w fun e w' => ∃ v, e = .returned (.tuple #[v, .int .u16 0]) ∧ Buf w.heap.size w' v (sealed kind number p) ∧ Below w.heap.size w w' ∧ w.heap.size ≤ w'.heap.size := by
  obtain ⟨h1, h2, h3⟩ := h
  have hBY0 : Bytes (([67, 80, kind, 0] ++ le number 4 ++ le p.length 2 ++ le 0 2) ++ p) := (front_bytes _ _ _ hk).append hp
  have hBY := Lib.hid hBY0
  clear hBY0
  have hst : Hid (sealed kind number p = closed (fill (([67, 80, kind, 0] ++ le number 4 ++ le p.length 2 ++ le 0 2) ++ p) 1020)) := Lib.hid rfl
  generalize sealed kind number p = g at hst
  have hk1 : ¬ (kind < 1) := by omega
  have hk2 : ¬ (4 < kind) := by omega
  have hk3 : ¬ (1008 < p.length) := by omega
  go_enter Try.func66, Try.ntmps66
  go_wp2_with fail
  refine (low_any w.heap.size _ [67, 80, kind, 0] number 4 _ (by simp) (Buf.new w [67, 80, kind, 0] (Nat.le_refl _) (by simp) _ _ rfl rfl) (by simp) (by omega) (by omega)).mono ?_
  rintro e w1 ⟨v1, rfl, hv1, hb1, hs1⟩
  replace hb1 := (below_alloc0 (Below.refl w.heap.size w) _).trans hb1
  have hl1 : ([67, 80, kind, 0] ++ le number 4).length = 8 := by simp [le_length]
  generalize [67, 80, kind, 0] ++ le number 4 = b1 at hv1 hl1 hst hBY
  have HL1 := Lib.hid hl1
  clear hl1
  go_wp2_with fail
  refine (low_any w.heap.size _ b1 p.length 2 _ hs1 hv1 (by rw [HL1.out]; omega) (by omega) (by omega)).mono ?_
  rintro e w2 ⟨v2, rfl, hv2, hb2, hs2⟩
  have hl2 : (b1 ++ le p.length 2).length = 10 := by rw [List.length_append, HL1.out, le_length]
  generalize b1 ++ le p.length 2 = b2 at hv2 hl2 hst hBY
  have HL2 := Lib.hid hl2
  clear hl2
  go_wp2_with fail
  refine (low_any w.heap.size _ b2 0 2 _ hs2 hv2 (by rw [HL2.out]; omega) (by omega) (by omega)).mono ?_
  rintro e w3 ⟨v3, rfl, hv3, hb3, hs3⟩
  have hl3 : (b2 ++ le 0 2).length = 12 := by rw [List.length_append, HL2.out, le_length]
  generalize b2 ++ le 0 2 = b3 at hv3 hl3 hst hBY
  have HL3 := Lib.hid hl3
  clear hl3
  have hb03 := (hb1.trans hb2).trans hb3
  go_wp2_with (at_builtin; go_loud (refine buf_append (w0 := w) rfl (.tmp 31) (.tmp 32) rfl Try.underlying23 Try.info5 w.heap.size v3 b3 rfl hv3 A p.length c p rfl rfl (hA.below hb03) hnil (by rw [HL3.out]; omega) hs3 hb03 ?_); intro v4 w4 hv4 hb4 hs4)
  have hl4 : (b3 ++ p).length = 12 + p.length := by rw [List.length_append, HL3.out]
  generalize b3 ++ p = b4 at hv4 hl4 hst hBY
  have HL4 := Lib.hid hl4
  clear hl4
  go_wp2_with fail
  refine (filled_any w.heap.size _ b4 1020 _ hs4 hv4 hBY.out (by rw [HL4.out]; omega) (by omega)).mono ?_
  rintro e w5 ⟨v5, rfl, hv5, hb5, hs5⟩
  go_wp2
  go_ret2
  exact ⟨_, rfl, by rw [hst.out]; exact hv5, hb4.trans hb5, hs5⟩

set_option maxRecDepth 100000 in
set_option maxHeartbeats 1000000 in
theorem rseal_ok (kind number : Nat) (A : Option Addr) (c : Nat) (p : List Nat) (w : World) (h : SealOk kind p) (hk : kind < 256) (hn : number < 4294967296) (hp : Bytes p) (hA : At w A (ns .u8 p)) (hnil : A = none → c = 0) :
    Calls Try.prog 67 #[.int .u8 (kind : Int), .int .u32 (number : Int), .slice A p.length c] w fun e w' => ∃ v, e = .returned (.tuple #[v, .int .u16 0]) ∧ Buf w.heap.size w' v (sealed kind number p) ∧ Below w.heap.size w w' ∧ w.heap.size ≤ w'.heap.size := by
  obtain ⟨h1, h2, h3⟩ := h
  have hBY0 : Bytes (([67, 80, kind, 0] ++ le number 4 ++ le p.length 2 ++ le 0 2) ++ p) := (front_bytes _ _ _ hk).append hp
  have hBY := Lib.hid hBY0
  clear hBY0
  have hst : Hid (sealed kind number p = closed (fill (([67, 80, kind, 0] ++ le number 4 ++ le p.length 2 ++ le 0 2) ++ p) 1020)) := Lib.hid rfl
  generalize sealed kind number p = g at hst
  have hk1 : ¬ (kind < 1) := by omega
  have hk2 : ¬ (4 < kind) := by omega
  have hk3 : ¬ (1008 < p.length) := by omega
  go_enter Try.func67, Try.ntmps67
  go_wp2_with fail
  refine (put_any w.heap.size _ [67, 80, kind, 0] number 4 _ (by simp) (Buf.new w [67, 80, kind, 0] (Nat.le_refl _) (by simp) _ _ rfl rfl) (by simp) (by omega) (by omega)).mono ?_
  rintro e w1 ⟨v1, rfl, hv1, hb1, hs1⟩
  replace hb1 := (below_alloc0 (Below.refl w.heap.size w) _).trans hb1
  have hl1 : ([67, 80, kind, 0] ++ le number 4).length = 8 := by simp [le_length]
  generalize [67, 80, kind, 0] ++ le number 4 = b1 at hv1 hl1 hst hBY
  have HL1 := Lib.hid hl1
  clear hl1
  go_wp2_with fail
  refine (put_any w.heap.size _ b1 p.length 2 _ hs1 hv1 (by rw [HL1.out]; omega) (by omega) (by omega)).mono ?_
  rintro e w2 ⟨v2, rfl, hv2, hb2, hs2⟩
  have hl2 : (b1 ++ le p.length 2).length = 10 := by rw [List.length_append, HL1.out, le_length]
  generalize b1 ++ le p.length 2 = b2 at hv2 hl2 hst hBY
  have HL2 := Lib.hid hl2
  clear hl2
  go_wp2_with fail
  refine (put_any w.heap.size _ b2 0 2 _ hs2 hv2 (by rw [HL2.out]; omega) (by omega) (by omega)).mono ?_
  rintro e w3 ⟨v3, rfl, hv3, hb3, hs3⟩
  have hl3 : (b2 ++ le 0 2).length = 12 := by rw [List.length_append, HL2.out, le_length]
  generalize b2 ++ le 0 2 = b3 at hv3 hl3 hst hBY
  have HL3 := Lib.hid hl3
  clear hl3
  have hb03 := (hb1.trans hb2).trans hb3
  go_wp2_with (at_builtin; go_loud (refine buf_append (w0 := w) rfl (.tmp 33) (.tmp 34) rfl Try.underlying23 Try.info5 w.heap.size v3 b3 rfl hv3 A p.length c p rfl rfl (hA.below hb03) hnil (by rw [HL3.out]; omega) hs3 hb03 ?_); intro v4 w4 hv4 hb4 hs4)
  have hl4 : (b3 ++ p).length = 12 + p.length := by rw [List.length_append, HL3.out]
  generalize b3 ++ p = b4 at hv4 hl4 hst hBY
  have HL4 := Lib.hid hl4
  clear hl4
  go_wp2_with fail
  refine (rfilled_any w.heap.size _ b4 1020 _ hs4 hv4 hBY.out (by rw [HL4.out]; omega) (by omega)).mono ?_
  rintro e w5 ⟨v5, rfl, hv5, hb5, hs5⟩
  go_wp2
  go_ret2
  exact ⟨_, rfl, by rw [hst.out]; exact hv5, hb4.trans hb5, hs5⟩
end Go.Proofs.Ytfbjjblgcgjndaa
