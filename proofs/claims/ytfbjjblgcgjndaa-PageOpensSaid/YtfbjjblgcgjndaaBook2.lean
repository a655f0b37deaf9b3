/- Contracts of the book's methods. -/
import Derived.Test.YtfbjjblgcgjndaaBook
import Derived.Test.YtfbjjblgcgjndaaOwnI
set_option linter.unusedVariables false
set_option linter.unusedSimpArgs false
namespace Go.Proofs.Ytfbjjblgcgjndaa
open Go.RowKit


set_option maxRecDepth 100000 in
theorem book_bytes (n0 : Nat) (w : World) (b : Nat) (F : Nat → Value) (k : Nat) (us : List Value) (A : Option Addr) (n cp : Nat) (hB : BookAt w b F) (hown : w.ownsRow n0 23 1 (F 0) k us) (hsep : ¬ blk (F 0) b) (hk : k ≤ 1000000000000) (hn0 : n0 ≤ w.heap.size) :
    Calls Try.prog 65 #[.pointer (some ⟨b, 0, none⟩), .slice A n cp] w fun e w' => e = .returned (.tuple #[]) ∧ ∃ L', BookAt w' b (turn F 0 L') ∧ w'.ownsRow n0 23 1 L' (k + 1) (us ++ [.slice A n cp]) ∧ Chg (fun g => g = b ∨ blk (F 0) g) w w' ∧ ∀ g, blk L' g → blk (F 0) g ∨ w.heap.size ≤ g := by
  have c0 := hB.cell 0 (by omega)
  generalize hL : F 0 = L at *
  have HL := Lib.hid hL
  have HB := Lib.hid hB
  clear hL hB
  have h1 := own_below hown (below_alloc0 (Below.refl _ _) (.cells #[.slice A n cp] 23))
  have hAt : At (w.alloc (.cells #[.slice A n cp] 23)) (some ⟨w.heap.size, 0, none⟩) [.slice A n cp] := At.box w _ 23 w.heap.size rfl
  have hn1 : n0 ≤ (w.alloc (.cells #[.slice A n cp] 23)).heap.size := Nat.le_trans hn0 (by simp)
  have hsz : w.heap.size ≤ (w.alloc (.cells #[.slice A n cp] 23)).heap.size := by simp
  have hc1 : Chg (fun g => g = b ∨ blk L g) w (w.alloc (.cells #[.slice A n cp] 23)) := (Chg.refl _ w).alloc _
  go_enter Try.func65, Try.ntmps65
  go_wp2_with (at_builtin; go_loud (refine wp_append2 rfl (.tmp 8) (.tmp 10) 30 23 (.slice none 0 0) 1 24 rfl Try.underlying30 Try.info23 rfl (by decide) n0 L k us rfl h1 (some ⟨w.heap.size, 0, none⟩) 1 1 _ rfl rfl hAt (by simp) (by simp [Value.oneCell']) (by omega) (by omega) hn1 ?_); intro v1 w1 ho1 hor1; obtain ⟨V1, cap1, rfl, _⟩ := own_cells ho1; have hch1 := push_chg hor1; have hbl1 := fun g (hg : blk (.slice V1 (k + 1) cap1) g) => push_blk hor1 hg; have hB1 := (HB.out.keep (G := fun _ => False) (Chg.of_below (below_alloc0 (Below.refl _ _) (.cells #[.slice A n cp] 23))) (fun h => h)).keep hch1 hsep; have hcell1 := hB1.cell 0 (by omega); have hfr1 := hB1.frozen 0; have HB1 := Lib.hid hB1; clear hB1 hor1)
  go_end0
  have hs1 := own_chg ho1 (setCell_chg w1 b 0 (.slice V1 (k + 1) cap1)) (fun g hg e => by
    subst e
    rcases hbl1 _ hg with h | h
    · exact hsep h
    · have := HB.out.lt; simp at h; omega)
  refine ⟨rfl, _, HB1.out.set 0 _, hs1, ?_, fun g hg => ?_⟩
  · exact (hc1.trans hch1 (fun g _ hg => .inr hg)).setCell _ _ (.inl (.inl rfl))
  · rcases hbl1 g hg with h | h
    · exact .inl h
    · exact .inr (Nat.le_trans hsz h)

set_option maxRecDepth 100000 in
theorem book_ints (n0 : Nat) (w : World) (b : Nat) (F : Nat → Value) (k : Nat) (us : List Value) (A : Option Addr) (n cp : Nat) (hB : BookAt w b F) (hown : w.ownsRow n0 86 1 (F 2) k us) (hsep : ¬ blk (F 2) b) (hk : k ≤ 1000000000000) (hn0 : n0 ≤ w.heap.size) :
    Calls Try.prog 158 #[.pointer (some ⟨b, 0, none⟩), .slice A n cp] w fun e w' => e = .returned (.tuple #[]) ∧ ∃ L', BookAt w' b (turn F 2 L') ∧ w'.ownsRow n0 86 1 L' (k + 1) (us ++ [.slice A n cp]) ∧ Chg (fun g => g = b ∨ blk (F 2) g) w w' ∧ ∀ g, blk L' g → blk (F 2) g ∨ w.heap.size ≤ g := by
  have c0 := hB.cell 2 (by omega)
  generalize hL : F 2 = L at *
  have HL := Lib.hid hL
  have HB := Lib.hid hB
  clear hL hB
  have h1 := own_below hown (below_alloc0 (Below.refl _ _) (.cells #[.slice A n cp] 86))
  have hAt : At (w.alloc (.cells #[.slice A n cp] 86)) (some ⟨w.heap.size, 0, none⟩) [.slice A n cp] := At.box w _ 86 w.heap.size rfl
  have hn1 : n0 ≤ (w.alloc (.cells #[.slice A n cp] 86)).heap.size := Nat.le_trans hn0 (by simp)
  have hsz : w.heap.size ≤ (w.alloc (.cells #[.slice A n cp] 86)).heap.size := by simp
  have hc1 : Chg (fun g => g = b ∨ blk L g) w (w.alloc (.cells #[.slice A n cp] 86)) := (Chg.refl _ w).alloc _
  go_enter Try.func158, Try.ntmps158
  go_wp2_with (at_builtin; go_loud (refine wp_append2 rfl (.tmp 8) (.tmp 10) 45 86 (.slice none 0 0) 1 24 rfl Try.underlying45 Try.info86 rfl (by decide) n0 L k us rfl h1 (some ⟨w.heap.size, 0, none⟩) 1 1 _ rfl rfl hAt (by simp) (by simp [Value.oneCell']) (by omega) (by omega) hn1 ?_); intro v1 w1 ho1 hor1; obtain ⟨V1, cap1, rfl, _⟩ := own_cells ho1; have hch1 := push_chg hor1; have hbl1 := fun g (hg : blk (.slice V1 (k + 1) cap1) g) => push_blk hor1 hg; have hB1 := (HB.out.keep (G := fun _ => False) (Chg.of_below (below_alloc0 (Below.refl _ _) (.cells #[.slice A n cp] 86))) (fun h => h)).keep hch1 hsep; have hcell1 := hB1.cell 2 (by omega); have hfr1 := hB1.frozen 2; have HB1 := Lib.hid hB1; clear hB1 hor1)
  go_end0
  have hs1 := own_chg ho1 (setCell_chg w1 b 2 (.slice V1 (k + 1) cap1)) (fun g hg e => by
    subst e
    rcases hbl1 _ hg with h | h
    · exact hsep h
    · have := HB.out.lt; simp at h; omega)
  refine ⟨rfl, _, HB1.out.set 2 _, hs1, ?_, fun g hg => ?_⟩
  · exact (hc1.trans hch1 (fun g _ hg => .inr hg)).setCell _ _ (.inl (.inl rfl))
  · rcases hbl1 g hg with h | h
    · exact .inl h
    · exact .inr (Nat.le_trans hsz h)

theorem Books.chg_rows {n0 : Nat} {w w' : World} {b : Nat} {F : Nat → Value} {live : Nat → Prop} {k : Nat → Nat} {u : Nat → Nat → Value} {n : Nat → Nat → Nat} {c : Nat → Nat → List Value} (h : Books n0 w b F live k u n c) (j : Nat) (hj : live j) {G : Nat → Prop} (hc : Chg G w w') (hG : ∀ g, G g → ∃ i, i < k j ∧ blk (u j i) g) :
    Books n0 w' b F (fun q => live q ∧ q ≠ j) k u n c := by
  refine (h.drop (live' := fun q => live q ∧ q ≠ j) (fun q hq => hq.1)).keep hc fun g hg hG' => ?_
  obtain ⟨i, hi, hgi⟩ := hG g hG'
  obtain ⟨x, hx⟩ := hg
  cases x with
  | book => exact h.sep .book (.row j i) (by simp) g hx ⟨hj, hi, hgi⟩
  | list q => exact h.sep (.list q) (.row j i) (by simp) g ⟨hx.1.1, hx.2⟩ ⟨hj, hi, hgi⟩
  | row q p => exact h.sep (.row q p) (.row j i) (by simp; intro e; exact absurd e hx.1.2) g ⟨hx.1.1, hx.2⟩ ⟨hj, hi, hgi⟩
/-- the shelf's list and rows, as the helper own.. wants them -/
theorem Books.shelf {n0 : Nat} {w : World} {b : Nat} {F : Nat → Value} {live : Nat → Prop} {k : Nat → Nat} {u : Nat → Nat → Value} {n : Nat → Nat → Nat} {c : Nat → Nat → List Value} (h : Books n0 w b F live k u n c) (j : Nat) (hj : live j) :
    ∃ A cp, F j = .slice A (k j) cp ∧ At w A (lst (u j) (k j)) ∧ Apart n0 (ety j) w (k j) (u j) (n j) (c j) (fun g => ∃ a, A = some a ∧ g = a.block) ∧ ∀ a, A = some a → a.block < w.heap.size := by
  obtain ⟨A, cp, e, hA, _, _, _⟩ := At.own (h.list j hj)
  refine ⟨A, cp, e, hA, h.apart j hj _ ?_, ?_⟩
  · rintro g ⟨a, rfl, rfl⟩
    exact .inr (by rw [e]; rfl)
  · rintro a rfl
    exact (row_lt (h.list j hj) (g := a.block) (by rw [e]; rfl)).2

set_option maxRecDepth 100000 in
set_option maxHeartbeats 4000000 in
theorem book_own (n0 : Nat) (w : World) (b : Nat) (F : Nat → Value) (k : Nat → Nat) (u : Nat → Nat → Value) (n : Nat → Nat → Nat) (c : Nat → Nat → List Value) (h : Books n0 w b F (fun j => j = 0 ∨ j = 2) k u n c)
    (hnil : ∀ j, j < 23 → j ≠ 0 → j ≠ 2 → F j = .slice none 0 0) (hk : ∀ j, k j ≤ 1000000000000) (hn : ∀ j i, (j = 0 ∨ j = 2) → i < k j → n j i ≤ 1000000000000) (hn0 : n0 ≤ w.heap.size) :
    Calls Try.prog 44 #[.pointer (some ⟨b, 0, none⟩)] w fun e w' => e = .returned (.bool true) ∧ Chg (foot b F (fun j => j = 0 ∨ j = 2) k u) w w' := by
  obtain ⟨A0, cp0, e0, hA0, hP0, hX0⟩ := h.shelf 0 (.inl rfl)
  have c0 := h.at_.cell 0 (by omega)
  rw [e0] at c0
  have o0 := Lib.hid (own_Bytes n0 A0 cp0 (k 0) (u 0) (n 0) (c 0) w hA0 (hk 0) (fun i hi => hn 0 i (.inl rfl) hi) hP0 hX0 hn0)
  have HH := Lib.hid h
  have HN := Lib.hid hnil
  have HK := Lib.hid hk
  have HNN := Lib.hid hn
  have HN0 := Lib.hid hn0
  clear h hnil hA0 hP0 hX0 e0 hn hk hn0
  go_enter Try.func44, Try.ntmps44
  go_wp2_with fail
  refine o0.out.mono ?_
  rintro e w1 ⟨rfl, hc1⟩
  have h1 := HH.out.chg_rows 0 (.inl rfl) hc1 (fun g hg => hg)
  have hcc1 : Chg (foot b F (fun j => j = 0 ∨ j = 2) k u) w w1 := hc1.mono (fun g _ hg => by obtain ⟨i, hi, hg⟩ := hg; exact ⟨.row 0 i, .inl rfl, hi, hg⟩)
  have d1 := h1.at_.cell 1 (by omega)
  rw [HN.out 1 (by omega) (by omega) (by omega)] at d1
  clear c0 o0 hc1
  go_wp2_with fail
  refine (own_nil_96 _).mono ?_
  rintro e w2 ⟨rfl, rfl⟩
  obtain ⟨A2, cp2, e2, hA2, hP2, hX2⟩ := h1.shelf 2 ⟨.inr rfl, by omega⟩
  have c2 := h1.at_.cell 2 (by omega)
  rw [e2] at c2
  have o2 := Lib.hid (own_Ints n0 A2 cp2 (k 2) (u 2) (n 2) (c 2) w1 hA2 (HK.out 2) (fun i hi => HNN.out 2 i (.inr rfl) hi) hP2 hX2 (Nat.le_trans HN0.out hcc1.size))
  have H1 := Lib.hid h1
  clear hA2 hP2 hX2 e2 h1 d1
  go_wp2_with fail
  refine o2.out.mono ?_
  rintro e w3 ⟨rfl, hc3⟩
  have h3 := H1.out.chg_rows 2 ⟨.inr rfl, by omega⟩ hc3 (fun g hg => hg)
  have hcc3 := hcc1.trans hc3 (fun g _ hg => by obtain ⟨i, hi, hg⟩ := hg; exact ⟨.row 2 i, .inr rfl, hi, hg⟩)
  have hB := h3.at_
  have HC := Lib.hid hcc3
  have HF := HN.out
  have f3 := HF 3 (by omega) (by omega) (by omega)
  have d3 := hB.cell 3 (by omega)
  rw [HF 3 (by omega) (by omega) (by omega)] at d3
  have d4 := hB.cell 4 (by omega)
  rw [HF 4 (by omega) (by omega) (by omega)] at d4
  have d5 := hB.cell 5 (by omega)
  rw [HF 5 (by omega) (by omega) (by omega)] at d5
  have d6 := hB.cell 6 (by omega)
  rw [HF 6 (by omega) (by omega) (by omega)] at d6
  have d7 := hB.cell 7 (by omega)
  rw [HF 7 (by omega) (by omega) (by omega)] at d7
  have d8 := hB.cell 8 (by omega)
  rw [HF 8 (by omega) (by omega) (by omega)] at d8
  have d9 := hB.cell 9 (by omega)
  rw [HF 9 (by omega) (by omega) (by omega)] at d9
  have d10 := hB.cell 10 (by omega)
  rw [HF 10 (by omega) (by omega) (by omega)] at d10
  have d11 := hB.cell 11 (by omega)
  rw [HF 11 (by omega) (by omega) (by omega)] at d11
  have d12 := hB.cell 12 (by omega)
  rw [HF 12 (by omega) (by omega) (by omega)] at d12
  have d13 := hB.cell 13 (by omega)
  rw [HF 13 (by omega) (by omega) (by omega)] at d13
  have d14 := hB.cell 14 (by omega)
  rw [HF 14 (by omega) (by omega) (by omega)] at d14
  have d15 := hB.cell 15 (by omega)
  rw [HF 15 (by omega) (by omega) (by omega)] at d15
  have d16 := hB.cell 16 (by omega)
  rw [HF 16 (by omega) (by omega) (by omega)] at d16
  have d17 := hB.cell 17 (by omega)
  rw [HF 17 (by omega) (by omega) (by omega)] at d17
  have d18 := hB.cell 18 (by omega)
  rw [HF 18 (by omega) (by omega) (by omega)] at d18
  have d19 := hB.cell 19 (by omega)
  rw [HF 19 (by omega) (by omega) (by omega)] at d19
  have d20 := hB.cell 20 (by omega)
  rw [HF 20 (by omega) (by omega) (by omega)] at d20
  have d21 := hB.cell 21 (by omega)
  rw [HF 21 (by omega) (by omega) (by omega)] at d21
  have d22 := hB.cell 22 (by omega)
  rw [HF 22 (by omega) (by omega) (by omega)] at d22
  have HB := Lib.hid hB
  clear hB HF f3 c2 o2 hcc1 hc3 h3 hcc3
  go_wp2_with fail
  refine (own_nil_98 _).mono ?_
  rintro e w9 ⟨rfl, rfl⟩
  go_wp2_with fail
  refine (own_nil_99 _).mono ?_
  rintro e w9 ⟨rfl, rfl⟩
  go_wp2_with fail
  refine (own_nil_100 _).mono ?_
  rintro e w9 ⟨rfl, rfl⟩
  go_wp2_with fail
  refine (own_nil_101 _).mono ?_
  rintro e w9 ⟨rfl, rfl⟩
  go_wp2_with fail
  refine (own_nil_102 _).mono ?_
  rintro e w9 ⟨rfl, rfl⟩
  go_wp2_with fail
  refine (own_nil_103 _).mono ?_
  rintro e w9 ⟨rfl, rfl⟩
  go_wp2_with fail
  refine (own_nil_104 _).mono ?_
  rintro e w9 ⟨rfl, rfl⟩
  go_wp2_with fail
  refine (own_nil_105 _).mono ?_
  rintro e w9 ⟨rfl, rfl⟩
  go_wp2_with fail
  refine (own_nil_106 _).mono ?_
  rintro e w9 ⟨rfl, rfl⟩
  go_wp2_with fail
  refine (own_nil_107 _).mono ?_
  rintro e w9 ⟨rfl, rfl⟩
  go_wp2_with fail
  refine (own_nil_108 _).mono ?_
  rintro e w9 ⟨rfl, rfl⟩
  go_wp2_with fail
  refine (own_nil_109 _).mono ?_
  rintro e w9 ⟨rfl, rfl⟩
  go_wp2_with fail
  refine (own_nil_110 _).mono ?_
  rintro e w9 ⟨rfl, rfl⟩
  go_wp2_with fail
  refine (own_nil_111 _).mono ?_
  rintro e w9 ⟨rfl, rfl⟩
  go_wp2_with fail
  refine (own_nil_112 _).mono ?_
  rintro e w9 ⟨rfl, hb9⟩
  have hB := HB.out.keep (G := fun _ => False) (Chg.of_below hb9) (fun h => h)
  have hcc9 := HC.out.trans (Chg.of_below (F := fun _ => False) hb9) (fun _ _ h => h.elim)
  have HF := HN.out
  clear d3 d4 d5 d6 d7 d8 d9 d10 d11 d12 d13 d14 d15 d16 d17 d18 d19 d20 d21 d22
  have d18 := hB.cell 18 (by omega)
  rw [HF 18 (by omega) (by omega) (by omega)] at d18
  have d19 := hB.cell 19 (by omega)
  rw [HF 19 (by omega) (by omega) (by omega)] at d19
  have d20 := hB.cell 20 (by omega)
  rw [HF 20 (by omega) (by omega) (by omega)] at d20
  have d21 := hB.cell 21 (by omega)
  rw [HF 21 (by omega) (by omega) (by omega)] at d21
  have d22 := hB.cell 22 (by omega)
  rw [HF 22 (by omega) (by omega) (by omega)] at d22
  clear HF
  go_wp2_with fail
  refine (own_nil_113 _).mono ?_
  rintro e w10 ⟨rfl, rfl⟩
  go_wp2_with fail
  refine (own_nil_114 _).mono ?_
  rintro e w10 ⟨rfl, rfl⟩
  go_wp2_with fail
  refine (own_nil_115 _).mono ?_
  rintro e w10 ⟨rfl, rfl⟩
  go_wp2_with fail
  refine (own_nil_116 _).mono ?_
  rintro e w10 ⟨rfl, rfl⟩
  go_wp2_with fail
  refine (own_nil_117 _).mono ?_
  rintro e w10 ⟨rfl, rfl⟩
  go_wp2
  go_ret
  exact ⟨rfl, hcc9⟩
end Go.Proofs.Ytfbjjblgcgjndaa
