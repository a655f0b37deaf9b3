/- Joined texts: BookR, LentW, Open, Open2, OpenA, Open4, Over10, Facts. -/
import Derived.ProofKit
import Derived.OpenShut
import Derived.ShutString
import Derived.ChangeOld
import Derived.Test.YtfbjjblgcgjndaaRows
import Derived.SizedLaws
import Derived.Deep.Slices
import Derived.JoinedOf
import Derived.KernelRfl
import Derived.Test.YtfbjjblgcgjndaaPw1
import Derived.Test.YtfbjjblgcgjndaaPw4
import Derived.Test.YtfbjjblgcgjndaaPw7
import Derived.Test.YtfbjjblgcgjndaaPw8
set_option linter.unusedVariables false
set_option linter.unusedSimpArgs false

/- The book with rows: Rows (39) and Own (44) where lists of lists are borne too. -/
namespace Go.Proofs.Ytfbjjblgcgjndaa
open Go.RowKit

set_option maxRecDepth 100000 in
set_option maxHeartbeats 8000000 in
theorem book_ownR (n0 : Nat) (w : World) (b : Nat) (F : Nat → Value) (k : Nat → Nat) (u : Nat → Nat → Value) (n : Nat → Nat → Nat) (c : Nat → Nat → List Value) (h : Books n0 w b F (fun j => j = 0 ∨ j = 9) k u n c)
    (hnil : ∀ j, j < 23 → j ≠ 0 → j ≠ 9 → F j = .slice none 0 0) (hk : ∀ j, k j ≤ 1000000000000) (hn : ∀ j i, (j = 0 ∨ j = 9) → i < k j → n j i ≤ 1000000000000) (hn0 : n0 ≤ w.heap.size) :
    Calls Try.prog 44 #[.pointer (some ⟨b, 0, none⟩)] w fun e w' => e = .returned (.bool true) ∧ Chg (foot b F (fun j => j = 0 ∨ j = 9) k u) w w' := by
  obtain ⟨A0, cp0, e0, hA0, hP0, hX0⟩ := h.shelf 0 (.inl rfl)
  have c0 := h.at_.cell 0 (by omega)
  rw [e0] at c0
  have o0 := Lib.hid (own_Bytes n0 A0 cp0 (k 0) (u 0) (n 0) (c 0) w hA0 (hk 0) (fun i hi => hn 0 i (.inl rfl) hi) hP0 hX0 hn0)
  have HH := Lib.hid h
  have HN := Lib.hid hnil
  have HK := Lib.hid hk
  have HNN := Lib.hid hn
  have HN0 := Lib.hid hn0
  clear h hnil hA0 hP0 hX0 e0 hn hk hn0
  go_enter Try.func44, Try.ntmps44
  go_wp2_with fail
  refine o0.out.mono ?_
  rintro e w1 ⟨rfl, hc1⟩
  have h1 := HH.out.chg_rows 0 (.inl rfl) hc1 (fun g hg => hg)
  have hcc1 : Chg (foot b F (fun j => j = 0 ∨ j = 9) k u) w w1 := hc1.mono (fun g _ hg => by obtain ⟨i, hi, hg⟩ := hg; exact ⟨.row 0 i, .inl rfl, hi, hg⟩)
  have d1 := h1.at_.cell 1 (by omega)
  rw [HN.out 1 (by omega) (by omega) (by omega)] at d1
  have d2 := h1.at_.cell 2 (by omega)
  rw [HN.out 2 (by omega) (by omega) (by omega)] at d2
  have d3 := h1.at_.cell 3 (by omega)
  rw [HN.out 3 (by omega) (by omega) (by omega)] at d3
  have d4 := h1.at_.cell 4 (by omega)
  rw [HN.out 4 (by omega) (by omega) (by omega)] at d4
  have d5 := h1.at_.cell 5 (by omega)
  rw [HN.out 5 (by omega) (by omega) (by omega)] at d5
  have d6 := h1.at_.cell 6 (by omega)
  rw [HN.out 6 (by omega) (by omega) (by omega)] at d6
  have d7 := h1.at_.cell 7 (by omega)
  rw [HN.out 7 (by omega) (by omega) (by omega)] at d7
  have d8 := h1.at_.cell 8 (by omega)
  rw [HN.out 8 (by omega) (by omega) (by omega)] at d8
  obtain ⟨A2, cp2, e2, hA2, hP2, hX2⟩ := h1.shelf 9 ⟨.inr rfl, by omega⟩
  have c2 := h1.at_.cell 9 (by omega)
  rw [e2] at c2
  have o2 := Lib.hid (own_Rows n0 A2 cp2 (k 9) (u 9) (n 9) (c 9) w1 hA2 (HK.out 9) (fun i hi => HNN.out 9 i (.inr rfl) hi) hP2 hX2 (Nat.le_trans HN0.out hcc1.size))
  have H1 := Lib.hid h1
  have HC1 := Lib.hid hcc1
  clear c0 o0 hc1 hA2 hP2 hX2 e2 h1 hcc1
  go_wp2_with fail
  refine (own_nil_96 _).mono ?_
  rintro e w9 ⟨rfl, rfl⟩
  go_wp2_with fail
  refine (own_nil_97 _).mono ?_
  rintro e w9 ⟨rfl, rfl⟩
  go_wp2_with fail
  refine (own_nil_98 _).mono ?_
  rintro e w9 ⟨rfl, rfl⟩
  go_wp2_with fail
  refine (own_nil_99 _).mono ?_
  rintro e w9 ⟨rfl, rfl⟩
  go_wp2_with fail
  refine (own_nil_100 _).mono ?_
  rintro e w9 ⟨rfl, rfl⟩
  go_wp2_with fail
  refine (own_nil_101 _).mono ?_
  rintro e w9 ⟨rfl, rfl⟩
  go_wp2_with fail
  refine (own_nil_102 _).mono ?_
  rintro e w9 ⟨rfl, rfl⟩
  go_wp2_with fail
  refine (own_nil_103 _).mono ?_
  rintro e w9 ⟨rfl, rfl⟩
  go_wp2_with fail
  refine o2.out.mono ?_
  rintro e w3 ⟨rfl, hc3⟩
  have h3 := H1.out.chg_rows 9 ⟨.inr rfl, by omega⟩ hc3 (fun g hg => hg)
  have hcc3 := HC1.out.trans hc3 (fun g _ hg => by obtain ⟨i, hi, hg⟩ := hg; exact ⟨.row 9 i, .inr rfl, hi, hg⟩)
  have hB := h3.at_
  have HC := Lib.hid hcc3
  have HF := HN.out
  clear d1 d2 d3 d4 d5 d6 d7 d8
  have d10 := hB.cell 10 (by omega)
  rw [HF 10 (by omega) (by omega) (by omega)] at d10
  have d11 := hB.cell 11 (by omega)
  rw [HF 11 (by omega) (by omega) (by omega)] at d11
  have d12 := hB.cell 12 (by omega)
  rw [HF 12 (by omega) (by omega) (by omega)] at d12
  have d13 := hB.cell 13 (by omega)
  rw [HF 13 (by omega) (by omega) (by omega)] at d13
  have d14 := hB.cell 14 (by omega)
  rw [HF 14 (by omega) (by omega) (by omega)] at d14
  have d15 := hB.cell 15 (by omega)
  rw [HF 15 (by omega) (by omega) (by omega)] at d15
  have d16 := hB.cell 16 (by omega)
  rw [HF 16 (by omega) (by omega) (by omega)] at d16
  have d17 := hB.cell 17 (by omega)
  rw [HF 17 (by omega) (by omega) (by omega)] at d17
  have d18 := hB.cell 18 (by omega)
  rw [HF 18 (by omega) (by omega) (by omega)] at d18
  have d19 := hB.cell 19 (by omega)
  rw [HF 19 (by omega) (by omega) (by omega)] at d19
  have d20 := hB.cell 20 (by omega)
  rw [HF 20 (by omega) (by omega) (by omega)] at d20
  have d21 := hB.cell 21 (by omega)
  rw [HF 21 (by omega) (by omega) (by omega)] at d21
  have d22 := hB.cell 22 (by omega)
  rw [HF 22 (by omega) (by omega) (by omega)] at d22
  have HB := Lib.hid hB
  clear hB HF c2 o2 hc3 h3 hcc3
  go_wp2_with fail
  refine (own_nil_105 _).mono ?_
  rintro e w9 ⟨rfl, rfl⟩
  go_wp2_with fail
  refine (own_nil_106 _).mono ?_
  rintro e w9 ⟨rfl, rfl⟩
  go_wp2_with fail
  refine (own_nil_107 _).mono ?_
  rintro e w9 ⟨rfl, rfl⟩
  go_wp2_with fail
  refine (own_nil_108 _).mono ?_
  rintro e w9 ⟨rfl, rfl⟩
  go_wp2_with fail
  refine (own_nil_109 _).mono ?_
  rintro e w9 ⟨rfl, rfl⟩
  go_wp2_with fail
  refine (own_nil_110 _).mono ?_
  rintro e w9 ⟨rfl, rfl⟩
  go_wp2_with fail
  refine (own_nil_111 _).mono ?_
  rintro e w9 ⟨rfl, rfl⟩
  go_wp2_with fail
  refine (own_nil_112 _).mono ?_
  rintro e w9 ⟨rfl, hb9⟩
  have hB := HB.out.keep (G := fun _ => False) (Chg.of_below hb9) (fun h => h)
  have hcc9 := HC.out.trans (Chg.of_below (F := fun _ => False) hb9) (fun _ _ h => h.elim)
  have HF := HN.out
  clear d10 d11 d12 d13 d14 d15 d16 d17 d18 d19 d20 d21 d22
  have d18 := hB.cell 18 (by omega)
  rw [HF 18 (by omega) (by omega) (by omega)] at d18
  have d19 := hB.cell 19 (by omega)
  rw [HF 19 (by omega) (by omega) (by omega)] at d19
  have d20 := hB.cell 20 (by omega)
  rw [HF 20 (by omega) (by omega) (by omega)] at d20
  have d21 := hB.cell 21 (by omega)
  rw [HF 21 (by omega) (by omega) (by omega)] at d21
  have d22 := hB.cell 22 (by omega)
  rw [HF 22 (by omega) (by omega) (by omega)] at d22
  clear HF
  go_wp2_with fail
  refine (own_nil_113 _).mono ?_
  rintro e w10 ⟨rfl, rfl⟩
  go_wp2_with fail
  refine (own_nil_114 _).mono ?_
  rintro e w10 ⟨rfl, rfl⟩
  go_wp2_with fail
  refine (own_nil_115 _).mono ?_
  rintro e w10 ⟨rfl, rfl⟩
  go_wp2_with fail
  refine (own_nil_116 _).mono ?_
  rintro e w10 ⟨rfl, rfl⟩
  go_wp2_with fail
  refine (own_nil_117 _).mono ?_
  rintro e w10 ⟨rfl, rfl⟩
  go_wp2
  go_ret
  exact ⟨rfl, hcc9⟩
/-- the book's own block and its lists' -/
def SysR (b : Nat) (F : Nat → Value) (g : Nat) : Prop := g = b ∨ ∃ j, (j = 0 ∨ j = 9) ∧ blk (F j) g
/-- a book at b of at most K lists a shelf; its own blocks are among S, those of what it bears among R -/
def BookOkR (n0 : Nat) (w : World) (b K : Nat) (S R : Nat → Prop) : Prop :=
  ∃ F k u n c, Books n0 w b F (fun j => j = 0 ∨ j = 9) k u n c ∧ (∀ j, j < 23 → j ≠ 0 → j ≠ 9 → F j = .slice none 0 0) ∧ (∀ j, k j ≤ K) ∧ (∀ j i, (j = 0 ∨ j = 9) → i < k j → n j i ≤ 1000000000000) ∧ (∀ g, SysR b F g → S g) ∧ ∀ j i g, (j = 0 ∨ j = 9) → i < k j → blk (u j i) g → R g
theorem foot_orR {b : Nat} {F : Nat → Value} {k : Nat → Nat} {u : Nat → Nat → Value} {S R : Nat → Prop} (hS : ∀ g, SysR b F g → S g) (hR : ∀ j i g, (j = 0 ∨ j = 9) → i < k j → blk (u j i) g → R g) {g : Nat} (h : foot b F (fun j => j = 0 ∨ j = 9) k u g) : S g ∨ R g := by
  obtain ⟨x, hx⟩ := h
  cases x with
  | book => exact .inl (hS g (.inl hx))
  | list j => exact .inl (hS g (.inr ⟨j, hx.1, hx.2⟩))
  | row j i => exact .inr (hR j i g hx.1 hx.2.1 hx.2.2)
theorem BookOkR.keep {n0 : Nat} {w w' : World} {b K : Nat} {S R H : Nat → Prop} (h : BookOkR n0 w b K S R) (hc : Chg H w w') (hG : ∀ g, g < w.heap.size → S g ∨ R g → ¬ H g) : BookOkR n0 w' b K S R := by
  obtain ⟨F, k, u, n, c, h1, h2, h3, h4, h5, h6⟩ := h
  exact ⟨F, k, u, n, c, h1.keep hc (fun g hg => by have hg' := hg; obtain ⟨x, hx⟩ := hg; exact hG g (h1.lt hx).2 (foot_orR h5 h6 hg')), h2, h3, h4, h5, h6⟩
theorem BookOkR.below {n0 : Nat} {w w' : World} {b K : Nat} {S R : Nat → Prop} (h : BookOkR n0 w b K S R) (hb : Below w.heap.size w w') : BookOkR n0 w' b K S R :=
  h.keep (H := fun _ => False) (.of_below hb) (fun _ _ _ h => h)
theorem BookOkR.mono {n0 : Nat} {w : World} {b K : Nat} {S R S' R' : Nat → Prop} (h : BookOkR n0 w b K S R) (hS : ∀ g, n0 ≤ g → g < w.heap.size → S g → S' g) (hR : ∀ g, n0 ≤ g → g < w.heap.size → R g → R' g) : BookOkR n0 w b K S' R' := by
  obtain ⟨F, k, u, n, c, h1, h2, h3, h4, h5, h6⟩ := h
  have lt1 : ∀ g, SysR b F g → n0 ≤ g ∧ g < w.heap.size := by
    rintro g (h | ⟨j, hj, h⟩)
    · exact h1.lt (x := .book) h
    · exact h1.lt (x := .list j) ⟨hj, h⟩
  refine ⟨F, k, u, n, c, h1, h2, h3, h4, fun g hg => hS g (lt1 g hg).1 (lt1 g hg).2 (h5 g hg), fun j i g hj hi hg => ?_⟩
  have := h1.lt (x := .row j i) ⟨hj, hi, hg⟩
  exact hR g this.1 this.2 (h6 j i g hj hi hg)
theorem BookOkR.new (n0 : Nat) (w : World) (hn : n0 ≤ w.heap.size) : BookOkR n0 (w.alloc (.cells (lst (fun _ => nilV) 23).toArray 67)) w.heap.size 0 (fun g => g = w.heap.size) (fun _ => False) := by
  have hno : ∀ x g, Item.has w.heap.size (fun _ => nilV) (fun j => j = 0 ∨ j = 9) (fun _ => 0) (fun _ _ => nilV) x g → x = .book ∧ g = w.heap.size := by
    intro x g hx
    cases x with
    | book => exact ⟨rfl, hx⟩
    | list j => cases hx.2
    | row j i => exact absurd hx.2.1 (Nat.not_lt_zero _)
  refine ⟨fun _ => nilV, fun _ => 0, fun _ _ => nilV, fun _ _ => 0, fun _ _ => [], ⟨heap_alloc_new w _, hn, fun j hj => World.ownsRow_nil _ _ _ _, fun j i hj hi => absurd hi (Nat.not_lt_zero _), fun x y hxy g hx hy => hxy ((hno x g hx).1.trans (hno y g hy).1.symm)⟩, fun _ _ _ _ => rfl, fun _ => Nat.le_refl _, fun j i _ hi => absurd hi (Nat.not_lt_zero _), ?_, fun j i g _ hi => absurd hi (Nat.not_lt_zero _)⟩
  rintro g (h | ⟨j, _, h⟩)
  · exact h
  · cases h
def BookPutR (n0 : Nat) (w : World) (b K : Nat) (S R : Nat → Prop) (x : Value) (e : Ending) (w' : World) : Prop :=
  e = .returned (.tuple #[]) ∧ BookOkR n0 w' b (K + 1) (More S w.heap.size w'.heap.size) (Also R x) ∧ Chg S w w' ∧ Below n0 w w'
theorem book_putR {n0 : Nat} {w : World} {b K : Nat} {S R : Nat → Prop} {fn : FuncId} (j : Nat) (hj : j = 0 ∨ j = 9) (A : Option Addr) (n cp : Nat) (cx : List Value) (h : BookOkR n0 w b K S R) (hx : Rw n0 (ety j) w (.slice A n cp) n cx) (hG : ∀ g, blk (.slice A n cp) g → ¬ (S g ∨ R g)) (hn : n ≤ 1000000000000) (hn0 : n0 ≤ w.heap.size) (hK : K < 1000000000000)
    (hput : ∀ (F : Nat → Value) (k : Nat) (us : List Value), BookAt w b F → w.ownsRow n0 (sty j) 1 (F j) k us → ¬ blk (F j) b → k ≤ 1000000000000 →
      Calls Try.prog fn #[.pointer (some ⟨b, 0, none⟩), .slice A n cp] w fun e w' => e = .returned (.tuple #[]) ∧ ∃ L', BookAt w' b (turn F j L') ∧ w'.ownsRow n0 (sty j) 1 L' (k + 1) (us ++ [.slice A n cp]) ∧ Chg (fun g => g = b ∨ blk (F j) g) w w' ∧ ∀ g, blk L' g → blk (F j) g ∨ w.heap.size ≤ g) :
    Calls Try.prog fn #[.pointer (some ⟨b, 0, none⟩), .slice A n cp] w (BookPutR n0 w b K S R (.slice A n cp)) := by
  obtain ⟨F, k, u, nn, c, h1, h2, h3, h4, h5, h6⟩ := h
  have hsep : ¬ blk (F j) b := fun hb => h1.sep .book (.list j) (by simp) b rfl ⟨hj, hb⟩
  have hkj := h3 j
  refine (hput F (k j) (lst (u j) (k j)) h1.at_ (h1.list j hj) hsep (by omega)).mono ?_
  rintro e w' ⟨rfl, L', ha, hl, hc, hL⟩
  have hcS : Chg S w w' := hc.mono fun g _ hg => by
    rcases hg with rfl | hg
    · exact h5 _ (.inl rfl)
    · exact h5 _ (.inr ⟨j, hj, hg⟩)
  have hbl : Below n0 w w' := hc.below hn0 fun g hg => by
    rcases hg with rfl | hg
    · exact h1.base
    · exact (row_lt (h1.list j hj) hg).1
  have hx' : Rw n0 (ety j) w' (.slice A n cp) n cx := hx.chg hcS (fun g hg hs => hG g hg (.inl hs))
  have hb2 := h1.add (w' := w') j hj (.slice A n cp) n cx L' hx' (fun g hg => ⟨(hx.lt hg).2, fun hf => hG g hg (foot_orR h5 h6 hf)⟩) ha hl hc hL
  refine ⟨rfl, ⟨_, _, _, _, _, hb2, fun q hq h0 h2' => ?_, fun q => ?_, fun q i hq hi => ?_, fun g hg => ?_, fun q i g hq hi hg => ?_⟩, hcS, hbl⟩
  · rw [turn_other _ _ _ _ (by omega)]; exact h2 q hq h0 h2'
  · by_cases e : q = j
    · subst e; rw [turn_same]; omega
    · rw [turn_other _ _ _ _ e]; have := h3 q; omega
  · by_cases e : q = j
    · subst e
      rw [turn_same] at hi ⊢
      by_cases e2 : i = k q
      · subst e2; rw [turn_same]; exact hn
      · rw [turn_other _ _ _ _ e2]; exact h4 q i hq (by omega)
    · rw [turn_other _ _ _ _ e] at hi ⊢
      exact h4 q i hq hi
  · rcases hg with rfl | ⟨q, hq, hg⟩
    · exact .inl (h5 _ (.inl rfl))
    · by_cases e : q = j
      · subst e
        rw [turn_same] at hg
        rcases hL g hg with h | h
        · exact .inl (h5 _ (.inr ⟨q, hq, h⟩))
        · exact .inr ⟨h, (row_lt hl hg).2⟩
      · rw [turn_other _ _ _ _ e] at hg
        exact .inl (h5 _ (.inr ⟨q, hq, hg⟩))
  · by_cases e : q = j
    · subst e
      rw [turn_same] at hi hg
      by_cases e2 : i = k q
      · subst e2; rw [turn_same] at hg; exact .inr hg
      · rw [turn_other _ _ _ _ e2] at hg; exact .inl (h6 q i g hq (by omega) hg)
    · rw [turn_other _ _ _ _ e] at hi hg
      exact .inl (h6 q i g hq hi hg)
theorem bytes_putR {n0 : Nat} {w : World} {b K : Nat} {S R : Nat → Prop} (A : Option Addr) (n cp : Nat) (cx : List Value) (h : BookOkR n0 w b K S R) (hx : w.ownsRow n0 5 1 (.slice A n cp) n cx) (hG : ∀ g, blk (.slice A n cp) g → ¬ (S g ∨ R g)) (hn : n ≤ 1000000000000) (hn0 : n0 ≤ w.heap.size) (hK : K < 1000000000000) :
    Calls Try.prog 65 #[.pointer (some ⟨b, 0, none⟩), .slice A n cp] w (BookPutR n0 w b K S R (.slice A n cp)) :=
  book_putR 0 (.inl rfl) A n cp cx h (Rw.of hx) hG hn hn0 hK fun F k us h1 h2 h3 h4 => book_bytes n0 w b F k us A n cp h1 h2 h3 h4 hn0
theorem own_okR {n0 : Nat} {w : World} {b K : Nat} {S R : Nat → Prop} (h : BookOkR n0 w b K S R) (hn0 : n0 ≤ w.heap.size) (hK : K ≤ 1000000000000) :
    Calls Try.prog 44 #[.pointer (some ⟨b, 0, none⟩)] w fun e w' => e = .returned (.bool true) ∧ Chg (fun g => S g ∨ R g) w w' ∧ Below n0 w w' := by
  obtain ⟨F, k, u, nn, c, h1, h2, h3, h4, h5, h6⟩ := h
  refine (book_ownR n0 w b F k u nn c h1 h2 (fun j => Nat.le_trans (h3 j) hK) h4 hn0).mono ?_
  rintro e w' ⟨rfl, hc⟩
  exact ⟨rfl, hc.mono fun g _ hg => foot_orR h5 h6 hg, hc.below hn0 fun g hg => by obtain ⟨x, hx⟩ := hg; exact (h1.lt hx).1⟩
/-- what a list more on a shelf makes of the book -/
theorem okR_state {n0 : Nat} {w w' : World} {b K : Nat} {S R : Nat → Prop} {F : Nat → Value} {k : Nat → Nat} {u : Nat → Nat → Value} {nn : Nat → Nat → Nat} {c : Nat → Nat → List Value} (j : Nat) (hj : j = 0 ∨ j = 9) (A : Option Addr) (n cp : Nat) (cx : List Value) (L' : Value)
    (h1 : Books n0 w b F (fun j => j = 0 ∨ j = 9) k u nn c) (h2 : ∀ j, j < 23 → j ≠ 0 → j ≠ 9 → F j = .slice none 0 0) (h3 : ∀ j, k j ≤ K) (h4 : ∀ j i, (j = 0 ∨ j = 9) → i < k j → nn j i ≤ 1000000000000) (h5 : ∀ g, SysR b F g → S g) (h6 : ∀ j i g, (j = 0 ∨ j = 9) → i < k j → blk (u j i) g → R g)
    (hx : Rw n0 (ety j) w (.slice A n cp) n cx) (hG : ∀ g, blk (.slice A n cp) g → ¬ (S g ∨ R g)) (hn : n ≤ 1000000000000) (hn0 : n0 ≤ w.heap.size)
    (ha : BookAt w' b (turn F j L')) (hl : w'.ownsRow n0 (sty j) 1 L' (k j + 1) (lst (u j) (k j) ++ [.slice A n cp])) (hc : Chg (fun g => g = b ∨ blk (F j) g) w w') (hL : ∀ g, blk L' g → blk (F j) g ∨ w.heap.size ≤ g) :
    BookOkR n0 w' b (K + 1) (More S w.heap.size w'.heap.size) (Also R (.slice A n cp)) ∧ Chg S w w' ∧ Below n0 w w' := by
  have hkj := h3 j
  have hcS : Chg S w w' := hc.mono fun g _ hg => by
    rcases hg with rfl | hg
    · exact h5 _ (.inl rfl)
    · exact h5 _ (.inr ⟨j, hj, hg⟩)
  have hbl : Below n0 w w' := hc.below hn0 fun g hg => by
    rcases hg with rfl | hg
    · exact h1.base
    · exact (row_lt (h1.list j hj) hg).1
  have hx' : Rw n0 (ety j) w' (.slice A n cp) n cx := hx.chg hcS (fun g hg hs => hG g hg (.inl hs))
  have hb2 := h1.add (w' := w') j hj (.slice A n cp) n cx L' hx' (fun g hg => ⟨(hx.lt hg).2, fun hf => hG g hg (foot_orR h5 h6 hf)⟩) ha hl hc hL
  refine ⟨⟨_, _, _, _, _, hb2, fun q hq h0 h2' => ?_, fun q => ?_, fun q i hq hi => ?_, fun g hg => ?_, fun q i g hq hi hg => ?_⟩, hcS, hbl⟩
  · rw [turn_other _ _ _ _ (by omega)]; exact h2 q hq h0 h2'
  · by_cases e : q = j
    · subst e; rw [turn_same]; omega
    · rw [turn_other _ _ _ _ e]; have := h3 q; omega
  · by_cases e : q = j
    · subst e
      rw [turn_same] at hi ⊢
      by_cases e2 : i = k q
      · subst e2; rw [turn_same]; exact hn
      · rw [turn_other _ _ _ _ e2]; exact h4 q i hq (by omega)
    · rw [turn_other _ _ _ _ e] at hi ⊢
      exact h4 q i hq hi
  · rcases hg with rfl | ⟨q, hq, hg⟩
    · exact .inl (h5 _ (.inl rfl))
    · by_cases e : q = j
      · subst e
        rw [turn_same] at hg
        rcases hL g hg with h | h
        · exact .inl (h5 _ (.inr ⟨q, hq, h⟩))
        · exact .inr ⟨h, (row_lt hl hg).2⟩
      · rw [turn_other _ _ _ _ e] at hg
        exact .inl (h5 _ (.inr ⟨q, hq, hg⟩))
  · by_cases e : q = j
    · subst e
      rw [turn_same] at hi hg
      by_cases e2 : i = k q
      · subst e2; rw [turn_same] at hg; exact .inr hg
      · rw [turn_other _ _ _ _ e2] at hg; exact .inl (h6 q i g hq (by omega) hg)
    · rw [turn_other _ _ _ _ e] at hi hg
      exact .inl (h6 q i g hq hi hg)

set_option maxRecDepth 100000 in
set_option maxHeartbeats 4000000 in
theorem rows_putR {n0 : Nat} {w : World} {b K : Nat} {S R : Nat → Prop} (A : Option Addr) (N cp : Nat) (G : Nat → Value) (l : List (List Nat)) (h : BookOkR n0 w b K S R) (hx : w.ownsRow n0 23 1 (.slice A N cp) N (lst G N))
    (hbf : ∀ i, i < N → Buf n0 w (G i) (l.getD i [])) (hap : ∀ i j, i < N → j < N → i ≠ j → ∀ g, blk (G i) g → ¬ blk (G j) g) (hof : ∀ i g, i < N → blk (G i) g → ¬ blk (.slice A N cp) g)
    (hG : ∀ g, (blk (.slice A N cp) g ∨ ∃ i, i < N ∧ blk (G i) g) → ¬ (S g ∨ R g)) (hN : N ≤ 1000) (hle : ∀ i, i < N → (l.getD i []).length ≤ 1000000000000) (hS : ∀ g, S g → g < w.heap.size) (hn0 : n0 ≤ w.heap.size) (hK : K ≤ 1000000) :
    Calls Try.prog 39 #[.pointer (some ⟨b, 0, none⟩), .slice A N cp] w fun e w' => e = .returned (.tuple #[]) ∧ BookOkR n0 w' b (K + 1 + N) (More S w.heap.size w'.heap.size) (fun g => R g ∨ blk (.slice A N cp) g ∨ ∃ i, i < N ∧ blk (G i) g) ∧ Chg S w w' ∧ Below n0 w w' := by
  obtain ⟨F, k, u, nn, c, h1, h2, h3, h4, h5, h6⟩ := h
  have hsep : ¬ blk (F 9) b := fun hb => h1.sep .book (.list 9) (by simp) b rfl ⟨.inr rfl, hb⟩
  have hk9 := h3 9
  have hown := h1.list 9 (.inr rfl)
  have hB := h1.at_
  have c0 := hB.cell 9 (by omega)
  have hstate := fun (w' : World) (L' : Value) => okR_state (w' := w') 9 (.inr rfl) A N cp _ L' h1 h2 h3 h4 h5 h6 (Rw.of hx) (fun g hg => hG g (.inl hg)) (by omega) hn0
  obtain ⟨kk, hkk⟩ : ∃ kk, kk = k 9 := ⟨_, rfl⟩
  obtain ⟨us, hus⟩ : ∃ us, us = lst (u 9) (k 9) := ⟨_, rfl⟩
  rw [← hkk] at hk9 hown hstate
  rw [hkk, ← hus, ← hkk] at hown
  have hstate : ∀ (w' : World) (L' : Value), BookAt w' b (turn F 9 L') → w'.ownsRow n0 30 1 L' (kk + 1) (us ++ [.slice A N cp]) → Chg (fun g => g = b ∨ blk (F 9) g) w w' → (∀ g, blk L' g → blk (F 9) g ∨ w.heap.size ≤ g) → BookOkR n0 w' b (K + 1) (More S w.heap.size w'.heap.size) (Also R (.slice A N cp)) ∧ Chg S w w' ∧ Below n0 w w' := fun w' L' ha hl hc hL => hstate w' L' ha (by rw [hkk, hus] at hl; rw [hkk]; exact hl) hc hL
  have HST := Lib.hid hstate
  clear hstate h1 h2 h3 h4 h5 h6 hus hkk
  generalize hL : F 9 = L at *
  have HL := Lib.hid hL
  have HB := Lib.hid hB
  have HX := Lib.hid hx
  have HBF := Lib.hid hbf
  have HAP := Lib.hid hap
  have HOF := Lib.hid hof
  have HG := Lib.hid hG
  have HLE := Lib.hid hle
  have HS := Lib.hid hS
  clear hL hB hx hbf hap hof hG hle hS
  have h1 := own_below hown (below_alloc0 (Below.refl _ _) (.cells #[.slice A N cp] 30))
  have hAt : At (w.alloc (.cells #[.slice A N cp] 30)) (some ⟨w.heap.size, 0, none⟩) [.slice A N cp] := At.box w _ 30 w.heap.size rfl
  have hn1 : n0 ≤ (w.alloc (.cells #[.slice A N cp] 30)).heap.size := Nat.le_trans hn0 (by simp)
  have hsz : w.heap.size ≤ (w.alloc (.cells #[.slice A N cp] 30)).heap.size := by simp
  have hc1 : Chg (fun g => g = b ∨ blk L g) w (w.alloc (.cells #[.slice A N cp] 30)) := (Chg.refl _ w).alloc _
  go_enter Try.func39, Try.ntmps39
  go_wp2_with (at_builtin; go_loud (refine wp_append2 rfl (.tmp 9) (.tmp 11) 52 30 (.slice none 0 0) 1 24 rfl under52 info30r rfl (by decide) n0 L kk us rfl h1 (some ⟨w.heap.size, 0, none⟩) 1 1 _ rfl rfl hAt (by simp) (by simp [Value.oneCell']) (by omega) (by omega) hn1 ?_); intro v1 w1 ho1 hor1; obtain ⟨V1, cap1, rfl, _⟩ := own_cells ho1; have hch1 := push_chg hor1; have hbl1 := fun g (hg : blk (.slice V1 (kk + 1) cap1) g) => push_blk hor1 hg; have hB1 := (HB.out.keep (G := fun _ => False) (Chg.of_below (below_alloc0 (Below.refl _ _) (.cells #[.slice A N cp] 30))) (fun h => h)).keep hch1 hsep; have hcell1 := hB1.cell 9 (by omega); have hfr1 := hB1.frozen 9; have HB1 := Lib.hid hB1; clear hB1 hor1)
  have hs1 := own_chg ho1 (setCell_chg w1 b 9 (.slice V1 (kk + 1) cap1)) (fun g hg e => by
    subst e
    rcases hbl1 _ hg with h | h
    · exact hsep h
    · have := HB.out.lt; simp at h; omega)
  obtain ⟨hbk, hcS, hbl⟩ := HST.out _ _ (HB1.out.set 9 _) hs1 ((hc1.trans hch1 (fun g _ hg => .inr hg)).setCell _ _ (.inl (.inl rfl))) (fun g hg => by
    rcases hbl1 g hg with h | h
    · exact .inl h
    · exact .inr (Nat.le_trans hsz h))
  generalize (w1.setCell ⟨b, 9, none⟩ (.slice V1 (kk + 1) cap1)) = w2 at *
  clear hs1 hbl1 hc1 hch1 ho1 hAt h1 HB1 hcell1 hfr1 hown c0 hsz hn1 HST
  have hst : BookOkR n0 w2 b (K + 1 + 0) (More S w.heap.size w2.heap.size) (fun g => R g ∨ blk (.slice A N cp) g ∨ ∃ i, i < 0 ∧ blk (G i) g) := hbk.mono (fun _ _ _ h => h) (fun g _ _ hg => by
    rcases hg with hg | hg
    · exact .inl hg
    · exact .inr (.inl hg))
  clear hbk
  go_loopw [4] (fun i wr => ∃ q : Nat, q ≤ N ∧ i = .int .i64 q ∧ BookOkR n0 wr b (K + 1 + q) (More S w.heap.size wr.heap.size) (fun g => R g ∨ blk (.slice A N cp) g ∨ ∃ i, i < q ∧ blk (G i) g) ∧ Chg S w wr ∧ Below n0 w wr) (fun i _ => N - (intOf i).toNat)
  case atStart => exact ⟨0, by omega, rfl, hst, hcS, hbl⟩
  case round =>
    clear hst hcS hbl
    obtain ⟨q, hq, rfl, hbk, hcS, hbl⟩ := hrel
    by_cases hlt : q < N
    · have hxr := own_chg HX.out hcS (fun g hg hs => HG.out g (.inl hg) (.inl hs))
      obtain ⟨g, cpp, hform, _⟩ := own_form hxr (by omega)
      obtain ⟨rfl, rfl⟩ : A = some ⟨g, 0, none⟩ ∧ cp = cpp := by cases hform; exact ⟨rfl, rfl⟩
      have hcell := hxr.cellAt q (by omega)
      rw [lst_get _ _ _ hlt] at hcell
      have hbq := own_chg (HBF.out q hlt) hcS (fun g' hg hs => HG.out g' (.inr ⟨q, hlt, hg⟩) (.inl hs))
      obtain ⟨A2, c2, e2, _⟩ := At.own hbq
      have hput := bytes_putR A2 (l.getD q []).length c2 _ hbk (by rw [← e2]; exact hbq) (fun g' hg' => by
        rw [← e2] at hg'
        have hlt' := (row_lt (HBF.out q hlt) hg').2
        rintro ((h | h) | (h | h | ⟨i, hi, h⟩))
        · exact HG.out g' (.inr ⟨q, hlt, hg'⟩) (.inl h)
        · omega
        · exact HG.out g' (.inr ⟨q, hlt, hg'⟩) (.inr h)
        · exact HOF.out q g' hlt hg' h
        · exact HAP.out q i hlt (by omega) (by omega) g' hg' h) (HLE.out q hlt) (Nat.le_trans hn0 hcS.size) (by omega)
      rw [e2] at hcell
      have HPUT := Lib.hid hput
      have HCS := Lib.hid hcS
      have HBL := Lib.hid hbl
      have HE := Lib.hid e2
      clear hput hcS hbl hbk hxr hbq e2 hform
      go_wp2_with fail
      refine HPUT.out.mono ?_
      rintro e w3 ⟨rfl, hbk3, hc3, hb3⟩
      have hs3 := hc3.size
      have hs0 := HCS.out.size
      have hnew : BookOkR n0 w3 b (K + 1 + (q + 1)) (More S w.heap.size w3.heap.size) (fun g' => R g' ∨ blk (.slice (some ⟨g, 0, none⟩) N cp) g' ∨ ∃ i, i < q + 1 ∧ blk (G i) g') := hbk3.mono (fun g' _ _ hg' => by
          rcases hg' with (h | h) | h
          · exact .inl h
          · exact .inr ⟨h.1, by omega⟩
          · exact .inr ⟨by omega, h.2⟩) (fun g' _ _ hg' => by
          rcases hg' with (h | h | ⟨i, hi, h⟩) | h
          · exact .inl h
          · exact .inr (.inl h)
          · exact .inr (.inr ⟨i, by omega, h⟩)
          · exact .inr (.inr ⟨q, by omega, by rw [HE.out]; exact h⟩))
      have hcn : Chg S w w3 := HCS.out.trans hc3 (fun j hj hm => by
        rcases hm with hm | hm
        · exact hm
        · omega)
      have hbn : Below n0 w w3 := HBL.out.trans hb3
      clear hbk3 hc3 hb3
      go_wp2_with fail
      go_roundw
      case rel => exact ⟨q + 1, by omega, by go_num, hnew, hcn, hbn⟩
      case measure => simp only [intOf]; omega
    · obtain rfl : q = N := by omega
      go_wp2
      go_end0
      exact ⟨rfl, hbk, hcS, hbl⟩
end Go.Proofs.Ytfbjjblgcgjndaa

/- Contracts of the small helpers on lists of words: SameWords, LentWords, WholeWords, SpoilWords. -/
namespace Go.Proofs.Ytfbjjblgcgjndaa
open Go.RowKit

theorem info22w : (Try.prog.info? 22).map (fun i => (i.zero, i.size, i.bytes)) = some (some (.int .u32 0), 1, 4) := by kernel_rfl
theorem under34w : Try.prog.underlying 34 = some (.slice 22) := by kernel_rfl
set_option maxRecDepth 100000 in
set_option maxHeartbeats 400000 in
theorem samew_any (A B : Option Addr) (c d : Nat) (l m : List Nat) (w : World) (hl : l.length ≤ 140737488355328) (hm : m.length ≤ 140737488355328) (hA : At w A (ns .u32 l)) (hB : At w B (ns .u32 m)) :
    Calls Try.prog 88 #[.slice A l.length c, .slice B m.length d] w fun e w' => e = .returned (.bool (decide (l = m))) ∧ Below w.heap.size w w' := by
  by_cases hlen : l.length = m.length
  · have h0 : ((l.length : Int) != (m.length : Int)) = false := by simp [hlen]
    have h0' : (l.length == m.length) = true := by simp [hlen]
    have HL := Lib.hid hlen
    clear hlen
    go_enter Try.func88, Try.ntmps88
    go_wp2
    go_loopw [5] (fun i wr => ∃ k : Nat, k ≤ l.length ∧ i = .int .i64 k ∧ Agree l m k ∧ Below w.heap.size w wr) (fun i _ => l.length - (intOf i).toNat)
    case atStart => exact ⟨0, by omega, rfl, Agree.zero l m, Below.refl _ _⟩
    case round =>
      clear h0 h0'
      obtain ⟨k, hk, rfl, hag, hb⟩ := hrel
      by_cases hlt : k < l.length
      · obtain ⟨b1, o1, rfl, hc1⟩ := (hA.below hb).num k hlt
        have hlt' : k < m.length := by have := HL.out; omega
        obtain ⟨b2, o2, rfl, hc2⟩ := (hB.below hb).num k hlt'
        by_cases he : nth l k = nth m k
        · have hne : (((nth l k : Nat) : Int) != ((nth m k : Nat) : Int)) = false := by simp [he]
          have HE := Lib.hid he
          clear he
          go_wp2
          go_quiet (fail)
          go_wp2
          go_roundw
          case rel => exact ⟨k + 1, by omega, by go_num, hag.succ HE.out, below_drewN hb _⟩
          case measure => simp [intOf]; omega
        · have hne : (((nth l k : Nat) : Int) != ((nth m k : Nat) : Int)) = true := by simp; omega
          have hfin : decide (l = m) = false := by
            rw [decide_eq_false_iff_not]; intro e; exact he (by rw [e])
          have HF := Lib.hid hfin
          clear he hfin
          go_wp2
          go_quiet (fail)
          go_wp2
          go_ret
          exact ⟨by rw [HF.out]; rfl, below_drewN hb _⟩
      · obtain rfl : k = l.length := by omega
        have hfin : decide (l = m) = true := by
          rw [decide_eq_true_eq]; exact list_ext_nth HL.out hag
        have HF := Lib.hid hfin
        clear hfin
        go_wp2
        go_ret
        exact ⟨by rw [HF.out]; rfl, hb⟩
  · have h0 : ((l.length : Int) != (m.length : Int)) = true := by simp; omega
    have h0' : (l.length == m.length) = false := by simp; omega
    have hfin : decide (l = m) = false := by
      rw [decide_eq_false_iff_not]; intro e; exact hlen (by rw [e])
    have HF := Lib.hid hfin
    clear hlen hfin
    go_enter Try.func88, Try.ntmps88
    go_wp2
    go_ret
    exact ⟨by rw [HF.out]; rfl, Below.refl _ _⟩

/-- the block of a lent list: it, and two marks behind -/
def LentW (w : World) (b : Nat) (l : List Nat) : Prop := w.heap[b]? = some (.cells (ns .u32 (l ++ [771, 772])).toArray 22 (0, 0))
theorem LentW.below {w w' : World} {b : Nat} {l : List Nat} (h : LentW w b l) (hb : Below w.heap.size w w') : LentW w' b l := by
  have : b < w.heap.size := (Array.getElem?_eq_some_iff.1 h).1
  unfold LentW; rw [hb.block b this]; exact h
theorem LentW.at {w : World} {b : Nat} {l : List Nat} (h : LentW w b l) : At w (some ⟨b, 0, none⟩) (ns .u32 l) := by
  have h1 : At w (some ⟨b, 0, none⟩) (ns .u32 l ++ ns .u32 [771, 772]) := by rw [← ns_append]; exact At.whole h
  exact h1.pre

set_option maxRecDepth 100000 in
set_option maxHeartbeats 400000 in
theorem lentw_any (A : Option Addr) (c : Nat) (l : List Nat) (w : World) (hl : l.length ≤ 1000000000) (hA : At w A (ns .u32 l)) (hnil : A = none → c = 0) :
    Calls Try.prog 33 #[.slice A l.length c] w fun e w' => e = .returned (.slice (some ⟨w.heap.size, 0, none⟩) l.length (l.length + 2)) ∧ LentW w' w.heap.size l ∧ Below w.heap.size w w' := by
  go_enter Try.func33, Try.ntmps33
  go_wp2_with (first
    | (with_reducible refine wp_make0 rfl _ _ 34 22 (.int .u32 0) 1 4 rfl under34w info22w w.heap.size .i64 .i64 _ (l.length + 2) rfl rfl (by omega) (by omega) (by omega) (Nat.le_refl _) ?_; intro w1 ho1 hg1; have hb1 := below_of_grown hg1)
    | (at_builtin; (refine wp_append_fits rfl (.tmp 8) (.tmp 9) 34 22 (.int .u32 0) 1 4 rfl under34w info22w (by decide) w.heap.size w.heap.size 0 (l.length + 2) [] rfl ho1 A l.length c (ns .u32 l) rfl (by simp [ns]) (hA.below hb1) hnil (ns_one .u32 l) (by omega) ?_); intro w2 ho2 hg2; simp only [Nat.zero_add, List.nil_append] at ho2 ⊢)
    | (at_builtin; (refine wp_append_fits rfl (.tmp 11) (.tmp 12) 34 22 (.int .u32 0) 1 4 rfl under34w info22w (by decide) w.heap.size w.heap.size l.length (l.length + 2) (ns .u32 l) rfl (ho2.alloc _) (some ⟨w2.heap.size, 0, none⟩) 2 2 [.int .u32 771, .int .u32 772] rfl (by simp) (At.whole (heap_alloc_new w2 _)) (by simp) (ns_one .u32 [771, 772]) (by omega) ?_); intro w3 ho3 hg3))
  go_ret
  refine ⟨rfl, ?_, ?_⟩
  · have := own_full ho3
    unfold LentW
    rw [this, ns_append]; rfl
  · exact below_grown (below_alloc0 (below_grown hb1 hg2 hb1.size (by simp)) _) hg3 (by have := hg2.size; have := hg1.size; simp; omega) (by simp)

set_option maxRecDepth 100000 in
set_option maxHeartbeats 400000 in
theorem wholew_any (b : Nat) (B : Option Addr) (d : Nat) (l : List Nat) (w : World) (hl : l.length ≤ 1000000000) (hb : LentW w b l) (hB : At w B (ns .u32 l)) :
    Calls Try.prog 35 #[.slice (some ⟨b, 0, none⟩) l.length (l.length + 2), .slice B l.length d] w fun e w' => e = .returned (.bool true) ∧ Below w.heap.size w w' := by
  have hlen : (ns .u32 (l ++ [771, 772])).length = l.length + 2 := by simp [ns]
  have h1 : w.cell? ⟨b, l.length, none⟩ = some (.int .u32 771) := by
    rw [cell_of_row w b l.length _ 22 (0, 0) hb]; simp [ns]
  have h2 : w.cell? ⟨b, l.length + 1, none⟩ = some (.int .u32 772) := by
    rw [cell_of_row w b (l.length + 1) _ 22 (0, 0) hb]; simp [ns]
  clear hlen
  have HA := hb.at
  have hs := Lib.hid (samew_any (some ⟨b, 0, none⟩) B (l.length + 2) d l l w (by omega) (by omega) HA hB)
  go_enter Try.func35, Try.ntmps35
  go_wp2_with (go_at_call 88; refine hs.out.mono ?_; rintro e w1 ⟨rfl, hbel⟩)
  go_ret
  exact ⟨by simp, hbel⟩

set_option maxRecDepth 100000 in
set_option maxHeartbeats 400000 in
theorem spoilw_any (b n : Nat) (cs : Array Value) (w : World) (hn : n ≤ 1000000000) (hb : w.heap[b]? = some (.cells cs 22 (0, 0))) (hc : cs.size = n + 2) :
    Calls Try.prog 37 #[.slice (some ⟨b, 0, none⟩) n (n + 2)] w fun e w' => e = .returned (.tuple #[]) ∧ w.grownBy w' (some b) := by
  go_enter Try.func37, Try.ntmps37
  go_wp2
  go_loopw [3] (fun i wr => ∃ k : Nat, k ≤ n + 2 ∧ i = .int .i64 k ∧ (∃ cs : Array Value, wr.heap[b]? = some (.cells cs 22 (0, 0)) ∧ cs.size = n + 2) ∧ w.grownBy wr (some b)) (fun i _ => n + 2 - (intOf i).toNat)
  case atStart => exact ⟨0, by omega, rfl, ⟨cs, hb, hc⟩, World.grownBy.refl _ _⟩
  case round =>
    clear hb hc
    obtain ⟨k, hk, rfl, ⟨cs, hb, hc⟩, hg⟩ := hrel
    by_cases hlt : k < n + 2
    · obtain ⟨u, hcell⟩ : ∃ u, wr.cell? ⟨b, k, none⟩ = some u := ⟨cs[k], by rw [cell_of_row wr b k _ 22 (0, 0) hb]; exact Array.getElem?_eq_getElem (by omega)⟩
      have hfr := frozen_of_row wr b k cs 22 hb
      have HB := Lib.hid hb
      have HC := Lib.hid hc
      clear hb hc
      go_wp2
      go_roundw
      case rel =>
        refine ⟨k + 1, by omega, by go_num, ⟨_, heap_setCell_same wr b k cs 22 _ HB.out, by rw [Array.size_setIfInBounds]; exact HC.out⟩, ?_⟩
        exact ⟨hg.os, hg.tape, hg.output, by simp [World.setCell]; exact hg.size, fun i hi hne => by
          rw [Below.heap_setCell _ _ _ _ (by intro e; exact hne (by rw [e]))]; exact hg.block i hi hne⟩
      case measure => simp [intOf]; omega
    · obtain rfl : k = n + 2 := by omega
      go_wp2
      go_end0
      exact ⟨rfl, hg⟩
end Go.Proofs.Ytfbjjblgcgjndaa

/- What a statement's arguments are, as the walks ask it. -/
namespace Go.Proofs.Ytfbjjblgcgjndaa
open Go.ChangeShapes Go.WideShapes Go.ChangeAt Go.RowKit

theorem Try.own : ownKnob Try.prog.godebug = none := by kernel_rfl
theorem Try.laidOut : laidOutB Try.prog = true := by kernel_rfl

/-- A slice of integers that came in: it is nil; or it leads to a row of 'cap' cells, the numbers 'zs', each fitting its kind. -/
def IsRow (k : IntKind) (w : World) (a : Option Addr) (len cap : Nat) (zs : List Int) : Prop :=
  (a = none ∧ len = 0 ∧ cap = 0 ∧ zs = []) ∨
  ∃ x, a = some x ∧ len ≤ cap ∧ cap ≤ maxLen ∧ zs.length = cap ∧ (∀ i, i < zs.length → w.cell? (x.add i) = some (.int k (zs.getD i 0))) ∧ ∀ n ∈ zs, (Lit.int k n).wf = true

theorem wf_u8 {n : Int} (h : (Lit.int .u8 n).wf = true) : 0 ≤ n ∧ n < 256 := by
  simp [Lit.wf, IntKind.min, IntKind.max, IntKind.bits, IntKind.signed] at h; omega
theorem wf_u16 {n : Int} (h : (Lit.int .u16 n).wf = true) : 0 ≤ n ∧ n < 65536 := by
  simp [Lit.wf, IntKind.min, IntKind.max, IntKind.bits, IntKind.signed] at h; omega
theorem wf_u32 {n : Int} (h : (Lit.int .u32 n).wf = true) : 0 ≤ n ∧ n < 4294967296 := by
  simp [Lit.wf, IntKind.min, IntKind.max, IntKind.bits, IntKind.signed] at h; omega
theorem wf_u64 {n : Int} (h : (Lit.int .u64 n).wf = true) : 0 ≤ n ∧ n < 18446744073709551616 := by
  simp [Lit.wf, IntKind.min, IntKind.max, IntKind.bits, IntKind.signed] at h; omega
theorem wf_i64 {n : Int} (h : (Lit.int .i64 n).wf = true) : -9223372036854775808 ≤ n ∧ n ≤ 9223372036854775807 := by
  simp [Lit.wf, IntKind.min, IntKind.max, IntKind.bits, IntKind.signed] at h; omega

theorem nat_of {n : Int} {k : IntKind} (h : 0 ≤ n) : Value.int k n = .int k ((n.toNat : Nat) : Int) := by rw [Int.toNat_of_nonneg h]

theorem row_nat (k : IntKind) (M : Nat) (hk : ∀ n, (Lit.int k n).wf = true → 0 ≤ n ∧ n < M) {w : World} {a : Option Addr} {len cap : Nat} {zs : List Int} (h : IsRow k w a len cap zs) :
    ∃ l : List Nat, l.length = len ∧ At w a (ns k l) ∧ (a = none → cap = 0) ∧ len ≤ cap ∧ cap ≤ maxLen ∧ ∀ c ∈ l, c < M := by
  rcases h with ⟨rfl, rfl, rfl, rfl⟩ | ⟨x, rfl, h1, h2, h3, h4, h5⟩
  · exact ⟨[], rfl, At.nil _ _, fun _ => rfl, Nat.le_refl _, Nat.zero_le _, fun c hc => by simp at hc⟩
  · refine ⟨(zs.take len).map Int.toNat, by simp; omega, ?_, fun e => (by cases e), h1, h2, ?_⟩
    · intro hn
      have h0 : 0 < len := by
        rcases Nat.eq_zero_or_pos len with h | h
        · subst h; simp [ns] at hn
        · exact h
      have hc0 := h4 0 (by omega)
      obtain ⟨b, o, sp⟩ := x
      have hsp : sp = none := by
        cases sp with
        | none => rfl
        | some s => simp [Addr.add, World.cell?] at hc0; split at hc0 <;> simp at hc0
      subst hsp
      refine ⟨b, o, rfl, fun j v hv => ?_⟩
      have hj : j < len := by
        have := (List.getElem?_eq_some_iff.1 hv).1
        simp [ns] at this; omega
      have hc := h4 j (by omega)
      rw [Addr.add_mid] at hc
      rw [hc]
      have hz : zs[j]? = some (zs.getD j 0) := by simp [List.getElem?_eq_getElem (show j < zs.length by omega)]
      have hm : zs.getD j 0 ∈ zs := List.mem_of_getElem? hz
      have hb := hk _ (h5 _ hm)
      simp only [ns, List.map_map, List.getElem?_map, List.getElem?_take, if_pos hj, hz] at hv
      simp only [Option.map_some, Function.comp, Int.toNat_of_nonneg hb.1] at hv
      exact hv
    · intro c hc
      simp only [List.mem_map] at hc
      obtain ⟨n, hn, rfl⟩ := hc
      have := hk _ (h5 _ (List.mem_of_mem_take hn))
      omega
theorem row_bytes {w : World} {a : Option Addr} {len cap : Nat} {zs : List Int} (h : IsRow .u8 w a len cap zs) :
    ∃ l : List Nat, l.length = len ∧ At w a (ns .u8 l) ∧ (a = none → cap = 0) ∧ len ≤ cap ∧ cap ≤ maxLen ∧ Bytes l := row_nat .u8 256 (fun _ h => wf_u8 h) h
end Go.Proofs.Ytfbjjblgcgjndaa

/- One frame for all statements 'for every input the law returns true, and its arguments read as they did', and openings of nested arguments. -/
namespace Go.Proofs.Ytfbjjblgcgjndaa
open Go.ChangeShapes Go.WideShapes Go.ChangeAt Go.RowKit

section
variable {H : Type} {enc : TypeId × Value → H}
theorem trodAll_below {W W' : World} (hb : Below W.heap.size W W') : ∀ (ts : List TypeId) (vs : List Value) (ds : List (DataW H)) (ps : List MemPlace),
    DataW.TrodAll enc Try.prog W 0 (fun _ => true) true ts vs ds ps → (∀ t ∈ ts, Try.prog.readableRec t = true ∧ t < Try.prog.types.size) → (∀ x ∈ ps, x.block < W.heap.size) →
    DataW.TrodAll enc Try.prog W' 0 (fun b => decide (b < W.heap.size)) true ts vs ds ps := by
  intro ts
  induction ts with
  | nil =>
    intro vs ds ps h _ _
    cases vs <;> cases ds <;> first | exact h | exact h.elim
  | cons t ts ih =>
    intro vs ds ps h ht hlt
    cases vs with
    | nil => cases ds <;> exact h.elim
    | cons v vs =>
      cases ds with
      | nil => exact h.elim
      | cons d ds =>
        obtain ⟨p, q, h1, h2, rfl⟩ := h
        have hr := ht t (by simp)
        exact ⟨p, q, Below.trod Try.laidOut hr.1 hr.2 h1 hb (fun x hx => hlt x (by simp [hx])), ih vs ds q h2 (fun u hu => ht u (by simp [hu])) (fun x hx => hlt x (by simp [hx])), rfl⟩

set_option maxRecDepth 100000 in
theorem law_lifted (f : FuncId) (fn : Func) (s : ChangeSpec) (os : Os) (started : os.Started) (noInit : Try.prog.inits.idxOf? f = none) (hfn : Try.prog.funcs[f]? = some fn)
    (hvars : s.vars = []) (hspec : ∀ ds : List (DataW H), ds.length = fn.params.size → s.fn H (ds ++ []) = { results := [.lit (.bool true)], args := ds })
    (hres : fn.resultTypes = #[4]) (hty : ∀ t ∈ fn.params.toList, Try.prog.readableRec t = true ∧ t < Try.prog.types.size)
    (witness : ∃ (w : World) (tape : Tape) (i : Input), w.os = os ∧ (w.forCall tape i).Shaped Try.checked.prog ∧ i.vars = [] ∧ Input.okWide Try.checked.prog (w.forCall tape i) .any w.heap.size f i ∧
      s.pre6 enc Try.checked.prog fn [] false (w.forCall tape i).memory i.args ∧ ({} : Assume).holds Try.checked.prog (lone (Frame.enter Try.checked.prog f i.args .normal) [] (w.forCall tape i)))
    (contract : ∀ (W : World) (base : Nat) (args : Array Value) (ds : List (DataW H)) (p : List MemPlace),
      (∀ (j : Nat) t v, fn.params[j]? = some t → args[j]? = some v → Value.okWide Try.prog W .any base t v) →
      DataW.TrodAll enc Try.prog W 0 (fun _ => true) true fn.params.toList args.toList ds p →
      (DataW.weightsEach Try.prog fn.params.toList ds).all (· ≤ reachBytes) = true →
      Calls Try.prog f args W fun e W' => e = .returned (.bool true) ∧ Below W.heap.size W W') :
    ReturnsInHanded {} Try.checked os f .any (s.pre6 enc Try.prog fn [] false) (s.post enc Try.prog fn false true false false) := by
  refine returnsInHanded_of_change_sized (C := Try.checked) Try.own started noInit hfn witness ?_
  intro W base args ds gs before hval0 hW _ hsz0 _
  have hW' := hW
  obtain ⟨p, q, hA0, hV, rfl, hfz, hnd⟩ := hW
  have hA : DataW.TrodAll enc Try.prog W 0 (fun _ => true) true fn.params.toList args.toList ds p := hA0
  have hgs : gs = [] ∧ q = [] := by
    rw [hvars] at hV
    exact trodVars_none hV
  obtain ⟨rfl, rfl⟩ := hgs
  have hvt : s.plain.varTypes Try.checked.prog = [] := by
    unfold DataSpec.varTypes ChangeSpec.plain
    simp only [hvars, List.map_nil, List.filterMap_nil]
  have hsz : (DataW.weightsEach Try.prog fn.params.toList ds).all (· ≤ reachBytes) = true := by
    rw [hvt, List.append_nil, List.append_nil] at hsz0; exact hsz0
  have hlen : ds.length = fn.params.size := by
    have : ∀ (ts : List TypeId) (vs : List Value) (ds : List (DataW H)) (ps : List MemPlace), DataW.TrodAll enc Try.prog W 0 (fun _ => true) true ts vs ds ps → ds.length = ts.length := by
      intro ts
      induction ts with
      | nil => intro vs ds ps h; cases vs <;> cases ds <;> first | rfl | exact h.elim
      | cons t ts ih =>
        intro vs ds ps h
        cases vs with
        | nil => cases ds <;> exact h.elim
        | cons v vs => cases ds with
          | nil => exact h.elim
          | cons d ds => obtain ⟨p, q, h1, h2, rfl⟩ := h; simp [ih vs ds q h2]
    simpa using this _ _ _ _ hA
  have hlt : ∀ x ∈ p, x.block < W.heap.size := fun x hx => DataW.TrodAll.lt hA x hx
  refine (contract W base args ds p hval0 hA hsz).mono fun e W' ⟨he, bel⟩ => ?_
  subst he
  have hsp := hspec ds hlen
  refine ⟨_, rfl, ds, [], p ++ [], [], p, [], hW', ?_, ?_, ?_, bel.frame _, fun h => by cases h⟩
  · rw [hsp, hres]
    exact trodAll_mk1 (shut_bool Try.underlying4 _)
  · rw [hsp]
    exact trodAll_below bel _ _ _ _ hA hty hlt
  · rw [hsp, hvars]; rfl

theorem Try.cells5 : Try.prog.cellsOf 5 = 1 := by kernel_rfl
theorem Try.cells23 : Try.prog.cellsOf 23 = 1 := by kernel_rfl
theorem Try.bytes5 : Try.prog.bytesOf 5 = 1 := by kernel_rfl
theorem Try.bytes23 : Try.prog.bytesOf 23 = 24 := by kernel_rfl
theorem reach_num : reachBytes = 140737488351232 := by decide

theorem open_inner {W : World} {n : Nat} {v : Value} {d : DataW H} {pl : List MemPlace} (h : DataW.trod enc Try.prog W 0 (fun _ => true) true n 23 [v] = some (d, pl)) (hw : ∀ x ∈ d.weights Try.prog 23, x ≤ reachBytes) :
    ∃ r : Inner, v = r.val ∧ r.Ok W := by
  rcases open_ints Try.underlying23 Try.underlying5 Try.cells5 h with ⟨hcs, _⟩ | ⟨x, len, cap, zs, hcs, _, hl, hm, hz, hx, hcell, hwz⟩
  · injection hcs with hv
    subst hv
    exact ⟨⟨none, [], 0⟩, rfl, ⟨At.nil _ _, fun _ => rfl, Nat.le_refl _, by simp, Bytes.nil⟩⟩
  · injection hcs with hv
    subst hv
    injection hx with hd _
    subst hd
    have hz' : zs.length = cap := by simpa using hz
    have hrow : IsRow .u8 W (some x) len cap zs := .inr ⟨x, rfl, hl, hm, hz', hcell, hwz⟩
    obtain ⟨l, rfl, hA, hnil, hc, hcm, hb⟩ := row_bytes hrow
    refine ⟨⟨some x, l, cap⟩, rfl, ⟨hA, fun e => (by cases e), hc, ?_, hb⟩⟩
    have := hw cap (by
      simp only [DataW.weights, Try.underlying23, Try.bytes5, lits, List.length_map, List.length_take, List.length_drop]
      refine List.mem_cons.2 (.inl ?_)
      omega)
    rw [reach_num] at this
    exact Nat.le_trans hc this

theorem weights_elem {P : Program} {t e : TypeId} (hu : P.underlying t = some (.slice e)) {elems spare : List (DataW H)} {d : DataW H} (hd : d ∈ elems ∨ d ∈ spare) : ∀ x ∈ d.weights P e, x ∈ (DataW.slice elems spare).weights P t := by
  have key : ∀ (l : List (DataW H)), d ∈ l → ∀ x ∈ d.weights P e, x ∈ DataW.weightsAll P e l := by
    intro l
    induction l with
    | nil => intro h; simp at h
    | cons a l ih =>
      intro h x hx
      simp only [DataW.weightsAll, List.mem_append]
      rcases List.mem_cons.1 h with rfl | h
      · exact .inl hx
      · exact .inr (ih h x hx)
  intro x hx
  simp only [DataW.weights, hu, List.mem_cons, List.mem_append]
  rcases hd with hd | hd
  · exact .inr (.inl (key _ hd x hx))
  · exact .inr (.inr (key _ hd x hx))

theorem addr_plain {w : World} {x : Addr} {v : Value} (h : w.cell? x = some v) : x = ⟨x.block, x.off, none⟩ := by
  obtain ⟨b, o, sp⟩ := x
  cases sp with
  | none => rfl
  | some s => simp [World.cell?] at h; split at h <;> simp at h

/-- a slice whose elements are one cell each: its cells, each with its own reading -/
theorem open_one {W : World} {t e : TypeId} {v : Value} {d : DataW H} {pl : List MemPlace} (ht : Try.prog.underlying t = some (.slice e)) (hc : Try.prog.cellsOf e = 1) (h : DataW.Trod enc Try.prog W 0 (fun _ => true) true t v d pl) (hv : v.cells.toList = [v])
    (hw : ∀ x ∈ d.weights Try.prog t, x ≤ reachBytes) (R : Value → Prop) (hR : ∀ n v d pl, DataW.trod enc Try.prog W 0 (fun _ => true) true n e [v] = some (d, pl) → (∀ x ∈ d.weights Try.prog e, x ≤ reachBytes) → R v) :
    ∃ (A : Option Addr) (c : Nat) (vs : List Value), v = .slice A vs.length c ∧ At W A vs ∧ (∀ u ∈ vs, R u) ∧ (A = none → c = 0) ∧ vs.length ≤ c ∧ c * Try.prog.bytesOf e ≤ reachBytes := by
  obtain ⟨fuel, hf⟩ := h
  rw [hv] at hf
  rcases Deep.open_slice1 ht hc hf with ⟨hcs, _⟩ | ⟨a, len, cap, m, n, V, D, Pl, hcs, _, hl, hm, hmm, hx, hcell⟩
  · injection hcs with hv'
    subst hv'
    exact ⟨none, 0, [], rfl, At.nil _ _, fun u hu => by simp at hu, fun _ => rfl, Nat.le_refl _, by simp⟩
  · injection hcs with hv'
    subst hv'
    have hmm' : m = cap := by simpa using hmm
    subst hmm'
    injection hx with hd _
    refine ⟨some a, m, (List.range len).map V, by simp, ?_, ?_, fun e => (by cases e), by simpa using hl, ?_⟩
    · intro hn
      have h0 : 0 < len := by
        rcases Nat.eq_zero_or_pos len with h | h
        · subst h; simp at hn
        · exact h
      have hc0 := (hcell 0 (by omega)).1
      have ha : a = ⟨a.block, a.off, none⟩ := by
        refine addr_plain (w := W) (v := V 0) ?_
        simpa [Addr.add] using hc0
      refine ⟨a.block, a.off, by rw [← ha], fun j u hu => ?_⟩
      have hj : j < len := by simpa using (List.getElem?_eq_some_iff.1 hu).1
      have := (hcell j (by omega)).1
      rw [ha, Addr.add_mid] at this
      rw [this]
      simpa [hj] using hu
    · intro u hu
      simp only [List.mem_map, List.mem_range] at hu
      obtain ⟨i, hi, rfl⟩ := hu
      have hc := hcell i (by omega)
      refine hR n (V i) (D i) (Pl i) hc.2 fun x hx => hw x ?_
      rw [hd]
      exact weights_elem ht (.inl (List.mem_map.2 ⟨i, List.mem_range.2 hi, rfl⟩)) x hx
    · have := hw (m * Try.prog.bytesOf e) (by
        rw [hd]
        simp only [DataW.weights, ht, List.length_map, List.length_range]
        refine List.mem_cons.2 (.inl ?_)
        rw [show len + (m - len) = m from by omega])
      exact this
theorem open_rows {W : World} {v : Value} {d : DataW H} {pl : List MemPlace} (h : DataW.Trod enc Try.prog W 0 (fun _ => true) true 30 v d pl) (hv : v.cells.toList = [v]) (hw : ∀ x ∈ d.weights Try.prog 30, x ≤ reachBytes) :
    ∃ (A : Option Addr) (c : Nat) (rs : List Inner), v = .slice A rs.length c ∧ At W A (rs.map Inner.val) ∧ (∀ r ∈ rs, r.Ok W) ∧ (A = none → c = 0) ∧ rs.length ≤ c ∧ c * 24 ≤ reachBytes := by
  obtain ⟨A, c, vs, rfl, hA, hR, hn, hl, hb⟩ := open_one Try.underlying30 Try.cells23 h hv hw (fun v => ∃ r : Inner, v = r.val ∧ r.Ok W) (fun n v d pl h hw => open_inner h hw)
  obtain ⟨rs, hrs⟩ : ∃ rs : List Inner, vs = rs.map Inner.val ∧ ∀ r ∈ rs, r.Ok W := by
    clear hA hl hb h hv hw
    induction vs with
    | nil => exact ⟨[], rfl, fun r hr => by simp at hr⟩
    | cons v vs ih =>
      obtain ⟨r, rfl, hr⟩ := hR v (by simp)
      obtain ⟨rs, rfl, h⟩ := ih (fun u hu => hR u (by simp [hu]))
      exact ⟨r :: rs, rfl, fun q hq => by
        rcases List.mem_cons.1 hq with rfl | hq
        · exact hr
        · exact h q hq⟩
  obtain ⟨rfl, hok⟩ := hrs
  rw [Try.bytes23] at hb
  refine ⟨A, c, rs, by simp, hA, hok, hn, by simpa using hl, hb⟩
end
end Go.Proofs.Ytfbjjblgcgjndaa

/- Openings of arguments, one law a type: numbers, bytes. -/
namespace Go.Proofs.Ytfbjjblgcgjndaa
open Go.ChangeShapes Go.WideShapes Go.ChangeAt Go.RowKit Go.Deep

section
variable {H : Type} {enc : TypeId × Value → H} {W : World} {r : Reach} {b0 : Nat} {v : Value} {d : DataW H} {p : List MemPlace}
set_option maxRecDepth 100000 in
theorem open_u8 (hv : Value.okWide Try.prog W r b0 5 v) (h : DataW.Trod enc Try.prog W 0 (fun _ => true) true 5 v d p) : ∃ n : Nat, v = .int .u8 (n : Int) ∧ n < 256 := by
  obtain ⟨a, rfl, _, _, w⟩ := open_int Try.underlying5 hv h
  obtain ⟨h1, h2⟩ := wf_u8 w
  obtain ⟨n, rfl⟩ := Int.eq_ofNat_of_zero_le h1
  exact ⟨n, rfl, by omega⟩
set_option maxRecDepth 100000 in
theorem open_u16 (hv : Value.okWide Try.prog W r b0 36 v) (h : DataW.Trod enc Try.prog W 0 (fun _ => true) true 36 v d p) : ∃ n : Nat, v = .int .u16 (n : Int) ∧ n < 65536 := by
  obtain ⟨a, rfl, _, _, w⟩ := open_int Try.underlying36 hv h
  obtain ⟨h1, h2⟩ := wf_u16 w
  obtain ⟨n, rfl⟩ := Int.eq_ofNat_of_zero_le h1
  exact ⟨n, rfl, by omega⟩
set_option maxRecDepth 100000 in
theorem open_u32 (hv : Value.okWide Try.prog W r b0 22 v) (h : DataW.Trod enc Try.prog W 0 (fun _ => true) true 22 v d p) : ∃ n : Nat, v = .int .u32 (n : Int) ∧ n < 4294967296 := by
  obtain ⟨a, rfl, _, _, w⟩ := open_int Try.underlying22 hv h
  obtain ⟨h1, h2⟩ := wf_u32 w
  obtain ⟨n, rfl⟩ := Int.eq_ofNat_of_zero_le h1
  exact ⟨n, rfl, by omega⟩
set_option maxRecDepth 100000 in
theorem open_i64 (hv : Value.okWide Try.prog W r b0 3 v) (h : DataW.Trod enc Try.prog W 0 (fun _ => true) true 3 v d p) : ∃ n : Int, v = .int .i64 n ∧ -9223372036854775808 ≤ n ∧ n ≤ 9223372036854775807 := by
  obtain ⟨a, rfl, _, _, w⟩ := open_int Try.underlying3 hv h
  exact ⟨a, rfl, wf_i64 w⟩
set_option maxRecDepth 100000 in
theorem open_bytes (hv : Value.okWide Try.prog W r b0 23 v) (h : DataW.Trod enc Try.prog W 0 (fun _ => true) true 23 v d p) (hw : ∀ x ∈ d.weights Try.prog 23, x ≤ reachBytes) : ∃ r : Inner, v = r.val ∧ r.Ok W := by
  obtain ⟨a, n, c, rfl⟩ := okWide_slice Try.underlying23 hv
  obtain ⟨fuel, hf⟩ := h
  exact open_inner hf hw
end
end Go.Proofs.Ytfbjjblgcgjndaa

/- Openings of arguments: lists of bools, of words, of shorts. -/
namespace Go.Proofs.Ytfbjjblgcgjndaa
open Go.ChangeShapes Go.WideShapes Go.ChangeAt Go.RowKit Go.Deep

/-- a list that lies in memory, one cell an element -/
structure Lies (α : Type) where
  A : Option Addr
  l : List α
  c : Nat
def Lies.val {α : Type} (r : Lies α) : Value := .slice r.A r.l.length r.c
structure Lies.Ok {α : Type} (f : α → Value) (p : α → Prop) (W : World) (r : Lies α) : Prop where
  lies : At W r.A (r.l.map f)
  nil : r.A = none → r.c = 0
  le : r.l.length ≤ r.c
  small : r.l.length ≤ 140737488351232
  all : ∀ x ∈ r.l, p x
theorem Lies.Ok.below {α : Type} {f : α → Value} {p : α → Prop} {w w' : World} {r : Lies α} (h : r.Ok f p w) (hb : Below w.heap.size w w') : r.Ok f p w' := ⟨h.lies.below hb, h.nil, h.le, h.small, h.all⟩
theorem map_all {α : Type} {f : α → Value} {p : α → Prop} : ∀ (vs : List Value), (∀ u ∈ vs, ∃ a, u = f a ∧ p a) → ∃ l : List α, vs = l.map f ∧ ∀ x ∈ l, p x
  | [], _ => ⟨[], rfl, fun x hx => by simp at hx⟩
  | v :: vs, h => by
    obtain ⟨a, rfl, ha⟩ := h v (by simp)
    obtain ⟨l, rfl, hl⟩ := map_all vs (fun u hu => h u (by simp [hu]))
    exact ⟨a :: l, rfl, fun x hx => by
      rcases List.mem_cons.1 hx with rfl | hx
      · exact ha
      · exact hl x hx⟩
section
variable {H : Type} {enc : TypeId × Value → H} {W : World} {r : Reach} {b0 : Nat} {v : Value} {d : DataW H} {p : List MemPlace}
set_option maxRecDepth 100000 in
theorem open_lies {α : Type} {t e : TypeId} (f : α → Value) (q : α → Prop) (ht : Try.prog.underlying t = some (.slice e)) (hc : Try.prog.cellsOf e = 1) (hb1 : 1 ≤ Try.prog.bytesOf e)
    (hR : ∀ n v (d : DataW H) pl, DataW.trod enc Try.prog W 0 (fun _ => true) true n e [v] = some (d, pl) → ∃ a, v = f a ∧ q a)
    (hv : Value.okWide Try.prog W r b0 t v) (h : DataW.Trod enc Try.prog W 0 (fun _ => true) true t v d p) (hw : ∀ x ∈ d.weights Try.prog t, x ≤ reachBytes) :
    ∃ s : Lies α, v = s.val ∧ s.Ok f q W := by
  obtain ⟨a, n, c, rfl⟩ := okWide_slice ht hv
  obtain ⟨A, c, vs, hvs, hA, hR', hn, hl, hb⟩ := open_one ht hc h rfl hw (fun v => ∃ a, v = f a ∧ q a) (fun n v d pl h _ => hR n v d pl h)
  obtain ⟨l, rfl, hq⟩ := map_all vs hR'
  injection hvs with e1 e2 e3
  subst e1 e2 e3
  rw [List.length_map] at hl
  refine ⟨⟨a, l, c⟩, by simp [Lies.val], hA, hn, hl, ?_, hq⟩
  have := Nat.le_trans (Nat.le_mul_of_pos_right c hb1) hb
  rw [reach_num] at this
  exact Nat.le_trans hl this
theorem Try.cells4' : Try.prog.cellsOf 4 = 1 := by kernel_rfl
theorem Try.cells36' : Try.prog.cellsOf 36 = 1 := by kernel_rfl
theorem Try.cells22' : Try.prog.cellsOf 22 = 1 := by kernel_rfl
theorem Try.bytes4' : Try.prog.bytesOf 4 = 1 := by kernel_rfl
theorem Try.bytes36' : Try.prog.bytesOf 36 = 2 := by kernel_rfl
theorem Try.bytes22' : Try.prog.bytesOf 22 = 4 := by kernel_rfl
abbrev BoolsOk (W : World) (s : Lies Bool) : Prop := s.Ok Value.bool (fun _ => True) W
abbrev ShortsOk (W : World) (s : Lies Nat) : Prop := s.Ok (fun n : Nat => .int .u16 (n : Int)) (fun n : Nat => n < 65536) W
abbrev WordsOk (W : World) (s : Lies Nat) : Prop := s.Ok (fun n : Nat => .int .u32 (n : Int)) (fun n : Nat => n < 4294967296) W
set_option maxRecDepth 100000 in
theorem open_bools (hv : Value.okWide Try.prog W r b0 73 v) (h : DataW.Trod enc Try.prog W 0 (fun _ => true) true 73 v d p) (hw : ∀ x ∈ d.weights Try.prog 73, x ≤ reachBytes) : ∃ s : Lies Bool, v = s.val ∧ BoolsOk W s := by
  refine open_lies Value.bool (fun _ => True) Try.underlying73 Try.cells4' (by rw [Try.bytes4']; omega) ?_ hv h hw
  intro n u y pl hu
  obtain ⟨b, h1, h2⟩ := DataW.trod_bool Try.underlying4 hu
  exact ⟨b, by simpa using h1, trivial⟩
set_option maxRecDepth 100000 in
theorem open_shorts (hv : Value.okWide Try.prog W r b0 84 v) (h : DataW.Trod enc Try.prog W 0 (fun _ => true) true 84 v d p) (hw : ∀ x ∈ d.weights Try.prog 84, x ≤ reachBytes) : ∃ s : Lies Nat, v = s.val ∧ ShortsOk W s := by
  refine open_lies (fun n : Nat => .int .u16 (n : Int)) (fun n => n < 65536) Try.underlying84 Try.cells36' (by rw [Try.bytes36']; omega) ?_ hv h hw
  intro n u y pl hu
  obtain ⟨a, h1, _, w⟩ := DataW.trod_int Try.underlying36 hu
  injection h1 with h1
  obtain ⟨l1, l2⟩ := wf_u16 w
  obtain ⟨m, rfl⟩ := Int.eq_ofNat_of_zero_le l1
  exact ⟨m, h1, by omega⟩
set_option maxRecDepth 100000 in
theorem open_words (hv : Value.okWide Try.prog W r b0 34 v) (h : DataW.Trod enc Try.prog W 0 (fun _ => true) true 34 v d p) (hw : ∀ x ∈ d.weights Try.prog 34, x ≤ reachBytes) : ∃ s : Lies Nat, v = s.val ∧ WordsOk W s := by
  refine open_lies (fun n : Nat => .int .u32 (n : Int)) (fun n => n < 4294967296) Try.underlying34 Try.cells22' (by rw [Try.bytes22']; omega) ?_ hv h hw
  intro n u y pl hu
  obtain ⟨a, h1, _, w⟩ := DataW.trod_int Try.underlying22 hu
  injection h1 with h1
  obtain ⟨l1, l2⟩ := wf_u32 w
  obtain ⟨m, rfl⟩ := Int.eq_ofNat_of_zero_le l1
  exact ⟨m, h1, by omega⟩
end
end Go.Proofs.Ytfbjjblgcgjndaa

/- OverWrites: Encode's answer in one contract; the walk. -/
namespace Go.Proofs.Ytfbjjblgcgjndaa
open Go.RowKit

/-- what Encode answers: rows, or none and an error -/
def encAns (l u : List Nat) (L : List (List Nat)) (er : Int) : Prop := (encOk l u ∧ L = encRows l u ∧ er = 0) ∨ (¬ encOk l u ∧ L = [] ∧ er = 120)
theorem encAns_some (l u : List Nat) : ∃ L er, encAns l u L er := by
  by_cases h : encOk l u
  · exact ⟨_, _, .inl ⟨h, rfl, rfl⟩⟩
  · exact ⟨_, _, .inr ⟨h, rfl, rfl⟩⟩
theorem encAns.len {l u : List Nat} {L : List (List Nat)} {er : Int} (h : encAns l u L er) : L.length ≤ 9 := by
  rcases h with ⟨_, rfl, _⟩ | ⟨_, rfl, _⟩
  · rw [encRows_length]; exact need_le _
  · simp
theorem encAns.row {l u : List Nat} {L : List (List Nat)} {er : Int} (h : encAns l u L er) (i : Nat) : (L.getD i []).length ≤ 1008 := by
  rcases h with ⟨_, rfl, _⟩ | ⟨_, rfl, _⟩
  · by_cases hi : i < need l.length
    · rw [encRows_get l u i hi, encRow_length]; omega
    · rw [List.getD_eq_getElem?_getD, List.getElem?_eq_none (by rw [encRows_length]; omega)]; simp
  · simp
/-- rows that came out, all memory apart -/
structure G12 (n0 : Nat) (w : World) (v : Value) (L : List (List Nat)) (F : Nat → Value) : Prop where
  own : w.ownsRow n0 23 1 v L.length (lst F L.length)
  bufs : ∀ i, i < L.length → Buf n0 w (F i) (L.getD i [])
  apart : ∀ i j, i < L.length → j < L.length → i ≠ j → ∀ g, blk (F i) g → ¬ blk (F j) g
  off : ∀ i g, i < L.length → blk (F i) g → ¬ blk v g
theorem G12.has {n0 : Nat} {w : World} {v : Value} {L : List (List Nat)} {F : Nat → Value} (h : G12 n0 w v L F) {g : Nat} (hg : blk v g ∨ ∃ i, i < L.length ∧ blk (F i) g) : n0 ≤ g ∧ g < w.heap.size := by
  rcases hg with hg | ⟨i, hi, hg⟩
  · exact row_lt h.own hg
  · exact row_lt (h.bufs i hi) hg
theorem G12.chg {n0 : Nat} {w w' : World} {v : Value} {L : List (List Nat)} {F : Nat → Value} {G : Nat → Prop} (h : G12 n0 w v L F) (hc : Chg G w w') (hG : ∀ g, n0 ≤ g → g < w.heap.size → ¬ G g) : G12 n0 w' v L F :=
  ⟨own_chg h.own hc (fun g hg => hG g (row_lt h.own hg).1 (row_lt h.own hg).2), fun i hi => own_chg (h.bufs i hi) hc (fun g hg => hG g (row_lt (h.bufs i hi) hg).1 (row_lt (h.bufs i hi) hg).2), h.apart, h.off⟩
theorem G12.below {n0 : Nat} {w w' : World} {v : Value} {L : List (List Nat)} {F : Nat → Value} (h : G12 n0 w v L F) (hb : Below w.heap.size w w') : G12 n0 w' v L F :=
  h.chg (G := fun _ => False) (.of_below hb) (fun _ _ _ h => h)
theorem G12.rowIn {n0 : Nat} {w : World} {v : Value} {L : List (List Nat)} {F : Nat → Value} (h : G12 n0 w v L F) (i : Nat) (hi : i < L.length) : RowIn w (fun _ => True) (F i) (L.getD i []) := by
  obtain ⟨A, c, e, hA, hn, _⟩ := At.own (h.bufs i hi)
  exact ⟨A, c, e, hA, hn, fun _ _ => trivial⟩
theorem encode_any (A B : Option Addr) (c cc : Nat) (l u : List Nat) (L : List (List Nat)) (er : Int) (w : World) (hA : At w A (ns .u8 l)) (hB : At w B (ns .u32 u)) (hcap : l.length ≤ c) (hu : ∀ x, x ∈ u → x < 4294967296) (hl : l.length ≤ 140737488351232) (hul : u.length ≤ 140737488351232) (h : encAns l u L er) :
    Calls Try.prog 34 #[.slice A l.length c, .slice B u.length cc] w fun e w' => ∃ A' c' F, e = .returned (.tuple #[.slice A' L.length c', .int .u16 er]) ∧ G12 w.heap.size w' (.slice A' L.length c') L F ∧ Below w.heap.size w w' := by
  rcases h with ⟨hok, rfl, rfl⟩ | ⟨hok, rfl, rfl⟩
  · refine (encode_full A B c cc l u w hA hB hcap hu hok).mono ?_
    rintro e w' ⟨v, F, Y, rfl, hr, hb, _, ha⟩
    obtain ⟨A', c', rfl, _⟩ := At.own hr.own
    exact ⟨A', c', F, rfl, ⟨hr.own, fun i hi => ha.bufs i (by rwa [encRows_length] at hi), fun i j hi hj => ha.apart i j (by rwa [encRows_length] at hi) (by rwa [encRows_length] at hj), fun i g hi hg => hr.off g (ha.sub i g (by rwa [encRows_length] at hi) hg)⟩, hb⟩
  · refine (encode_no A B c cc l u w hB hu hok (by omega) hul).mono ?_
    rintro e w' ⟨rfl, hb⟩
    exact ⟨none, 0, fun _ => .slice none 0 0, rfl, ⟨World.ownsRow_nil _ _ _ _, fun i hi => by simp at hi, fun i j hi => by simp at hi, fun i g hi => by simp at hi⟩, hb⟩
theorem refenc_any (A B : Option Addr) (c cc : Nat) (l u : List Nat) (L : List (List Nat)) (er : Int) (w : World) (hA : At w A (ns .u8 l)) (hB : At w B (ns .u32 u)) (hcap : l.length ≤ c) (hu : ∀ x, x ∈ u → x < 4294967296) (hl : l.length ≤ 140737488351232) (hul : u.length ≤ 140737488351232) (h : encAns l u L er) :
    Calls Try.prog 38 #[.slice A l.length c, .slice B u.length cc] w fun e w' => ∃ A' c' F Y, e = .returned (.tuple #[.slice A' L.length c', .int .u16 er]) ∧ Rows23 w.heap.size w' (.slice A' L.length c') L F Y ∧ Below w.heap.size w w' := by
  rcases h with ⟨hok, rfl, rfl⟩ | ⟨hok, rfl, rfl⟩
  · refine (refenc_yes A B c cc l u w hA hB hcap hu hok).mono ?_
    rintro e w' ⟨v, F, Y, rfl, hr, hb⟩
    obtain ⟨A', c', rfl, _⟩ := At.own hr.own
    exact ⟨A', c', F, Y, rfl, hr, hb⟩
  · refine (refenc_no A B c cc l u w hB hu hok (by omega) (by omega)).mono ?_
    rintro e w' ⟨rfl, hb⟩
    exact ⟨none, 0, fun _ => .slice none 0 0, fun _ => False, rfl, Rows23.nil _ _, hb⟩
theorem grown_chg {w w' : World} {b : Nat} (hg : w.grownBy w' (some b)) : Chg (fun g => g = b) w w' := .of_grown hg (fun g e => by cases e; rfl)
set_option maxRecDepth 100000 in
set_option maxHeartbeats 8000000 in
theorem overWrites_any (r : Inner) (s : Lies Nat) (z : Int) (w : World) (hr : r.Ok w) (hs : WordsOk w s) :
    Calls Try.prog 7 #[r.val, s.val, .int .i64 z] w fun e w' => e = .returned (.bool true) ∧ Below w.heap.size w w' := by
  obtain ⟨A, l, c⟩ := r
  obtain ⟨B, u, cc⟩ := s
  have hlb := hr.small
  have hub := hs.small
  unfold Inner.val Lies.val
  simp only at hlb hub ⊢
  have HR := Lib.hid hr
  have HS := Lib.hid hs
  clear hr hs
  by_cases hbig : 40000 < l.length
  · have hb1 : (40000 : Int) < (l.length : Int) := by omega
    go_enter Try.func7, Try.ntmps7
    go_wp2_with fail
    go_ret
    exact ⟨rfl, Below.refl _ _⟩
  have hb1 : ¬ (40000 : Int) < (l.length : Int) := by omega
  by_cases hbig2 : 40000 < u.length
  · have hb2 : (40000 : Int) < (u.length : Int) := by omega
    go_enter Try.func7, Try.ntmps7
    go_wp2_with fail
    go_ret
    exact ⟨rfl, Below.refl _ _⟩
  have hb2 : ¬ (40000 : Int) < (u.length : Int) := by omega
  obtain ⟨L, er, hans⟩ := encAns_some l u
  have HANS := Lib.hid hans
  have hL9 := hans.len
  clear hans
  go_enter Try.func7, Try.ntmps7
  go_wp2_with fail
  refine (lent_any A c l w (by omega) HR.out.lies HR.out.nil).mono ?_
  rintro e w1 ⟨rfl, hl1, hb1'⟩
  have HL1 := Lib.hid hl1
  have HB1 := Lib.hid hb1'
  clear hl1 hb1'
  go_wp2_with fail
  refine (lentw_any B cc u w1 (by omega) (HS.out.lies.below HB1.out) HS.out.nil).mono ?_
  rintro e w2 ⟨rfl, hw2, hb2'⟩
  have HW2 := Lib.hid hw2
  have HB2 := Lib.hid hb2'
  clear hw2 hb2'
  go_wp2_with fail
  refine (encode_any (some ⟨w.heap.size, 0, none⟩) (some ⟨w1.heap.size, 0, none⟩) (l.length + 2) (u.length + 2) l u L er w2 (HL1.out.below HB2.out).at HW2.out.at (by omega) HS.out.all (by omega) (by omega) HANS.out).mono ?_
  rintro e w3 ⟨A3, c3, F3, rfl, hg3, hb3⟩
  have HG3 := Lib.hid hg3
  have HB3 := Lib.hid hb3
  clear hg3 hb3
  go_wp2_with fail
  refine (encode_any (some ⟨w.heap.size, 0, none⟩) (some ⟨w1.heap.size, 0, none⟩) (l.length + 2) (u.length + 2) l u L er w3 ((HL1.out.below HB2.out).below HB3.out).at (HW2.out.below HB3.out).at (by omega) HS.out.all (by omega) (by omega) HANS.out).mono ?_
  rintro e w4 ⟨A4, c4, F4, rfl, hg4, hb4⟩
  have HG4 := Lib.hid hg4
  have HB4 := Lib.hid hb4
  clear hg4 hb4
  have hb04 : Below w.heap.size w w4 := below_next0 (below_next0 (below_next0 HB1.out HB2.out) HB3.out) HB4.out
  have HB04 := Lib.hid hb04
  clear hb04
  go_wp2_with fail
  refine (whole_any w.heap.size A c l w4 (by omega) (((HL1.out.below HB2.out).below HB3.out).below HB4.out) (HR.out.lies.below HB04.out)).mono ?_
  rintro e w5 ⟨rfl, hb5⟩
  have HB5 := Lib.hid hb5
  clear hb5
  go_wp2_with fail
  refine (wholew_any w1.heap.size B cc u w5 (by omega) (((HW2.out.below HB3.out).below HB4.out).below HB5.out) (HS.out.lies.below (below_next0 HB04.out HB5.out))).mono ?_
  rintro e w6 ⟨rfl, hb6⟩
  have HB6 := Lib.hid hb6
  clear hb6
  have hb16 : Below w1.heap.size w1 w6 := below_next0 (below_next0 (below_next0 (below_next0 HB2.out HB3.out) HB4.out) HB5.out) HB6.out
  have hb26 : Below w2.heap.size w2 w6 := below_next0 (below_next0 (below_next0 HB3.out HB4.out) HB5.out) HB6.out
  have hlb6 : LentB w6 w.heap.size l := HL1.out.below hb16
  have hlw6 : LentW w6 w1.heap.size u := HW2.out.below hb26
  have s1 := HB1.out.size
  have s2 := HB2.out.size
  have s3 := HB3.out.size
  have s4 := HB4.out.size
  have s16 := hb16.size
  have lt1 : w.heap.size < w1.heap.size := (Array.getElem?_eq_some_iff.1 HL1.out).1
  have lt2 : w1.heap.size < w2.heap.size := (Array.getElem?_eq_some_iff.1 HW2.out).1
  have s36 : w3.heap.size ≤ w6.heap.size := Nat.le_trans s4 (Nat.le_trans HB5.out.size HB6.out.size)
  have s46 : w4.heap.size ≤ w6.heap.size := Nat.le_trans HB5.out.size HB6.out.size
  have HS16 := Lib.hid (And.intro s1 (And.intro s2 (And.intro s3 (And.intro s4 (And.intro s16 (And.intro lt1 (And.intro lt2 (And.intro s36 s46))))))))
  have HLB6 := Lib.hid hlb6
  have HLW6 := Lib.hid hlw6
  have hg36 := HG3.out.below (below_next0 HB4.out (below_next0 HB5.out HB6.out))
  have hg46 := HG4.out.below (below_next0 HB5.out HB6.out)
  have HG36 := Lib.hid hg36
  have HG46 := Lib.hid hg46
  clear hb16 hb26 hlb6 hlw6 s1 s2 s3 s4 s16 lt1 lt2 s36 s46 hg36 hg46
  go_wp2_with fail
  refine (spoil_any w.heap.size l.length _ w6 (by omega) HLB6.out (by simp [ns])).mono ?_
  rintro e w7 ⟨rfl, hg7⟩
  have hc7 := grown_chg hg7
  have HC7 := Lib.hid hc7
  have hlw7 : LentW w7 w1.heap.size u := by
    unfold LentW
    rw [hc7.block _ (Array.getElem?_eq_some_iff.1 HLW6.out).1 (by have := HS16.out; omega)]
    exact HLW6.out
  have HLW7 := Lib.hid hlw7
  clear hg7 hc7 hlw7
  go_wp2_with fail
  refine (spoilw_any w1.heap.size u.length _ w7 (by omega) HLW7.out (by simp [ns])).mono ?_
  rintro e w8 ⟨rfl, hg8⟩
  have hc8 := grown_chg hg8
  have hc68 : Chg (fun g => g = w.heap.size ∨ g = w1.heap.size) w6 w8 := (HC7.out.mono fun g _ h => .inl h).trans hc8 (fun g _ h => .inr h)
  have hs := HS16.out
  have hb06 := below_next0 (below_next0 HB04.out HB5.out) HB6.out
  have hb08 : Below w.heap.size w w8 := hb06.trans (hc68.below hb06.size (fun g h => by rcases h with rfl | rfl <;> omega))
  have hg38 := HG36.out.chg hc68 (fun g h _ => by omega)
  have hg48 := HG46.out.chg hc68 (fun g h _ => by omega)
  have HC68 := Lib.hid hc68
  have HB08 := Lib.hid hb08
  have HG38 := Lib.hid hg38
  have HG48 := Lib.hid hg48
  clear hg8 hc8 hc68 hs hb06 hb08 hg38 hg48
  go_wp2_with fail
  refine (refenc_any A B c cc l u L er w8 (HR.out.lies.below HB08.out) (HS.out.lies.below HB08.out) HR.out.le HS.out.all hlb hub HANS.out).mono ?_
  rintro e w9 ⟨A9, c9, F9, Y9, rfl, hr9, hb9⟩
  have hg39 := HG38.out.below hb9
  have hg49 := HG48.out.below hb9
  have hb09 := below_next0 HB08.out hb9
  have HG39 := Lib.hid hg39
  have HG49 := Lib.hid hg49
  have HB09 := Lib.hid hb09
  have HR9 := Lib.hid hr9
  have h99 := hb9.size
  have h88 := HC68.out.size
  have hs := HS16.out
  have h389 : w2.heap.size ≤ w3.heap.size ∧ w3.heap.size ≤ w4.heap.size ∧ w4.heap.size ≤ w9.heap.size ∧ w.heap.size ≤ w2.heap.size := by omega
  have HSZ := Lib.hid h389
  -- what came out first lies below what came out then
  have hlt3 : ∀ g, (blk (.slice A3 L.length c3) g ∨ ∃ i, i < L.length ∧ blk (F3 i) g) → w2.heap.size ≤ g ∧ g < w3.heap.size := fun g hg => HG3.out.has hg
  have hlt4 : ∀ g, (blk (.slice A4 L.length c4) g ∨ ∃ i, i < L.length ∧ blk (F4 i) g) → w3.heap.size ≤ g ∧ g < w4.heap.size := fun g hg => HG4.out.has hg
  have HLT3 := Lib.hid hlt3
  have HLT4 := Lib.hid hlt4
  clear hr9 hg39 hg49 hb09 hb9 h99 h88 hs h389 hlt3 hlt4
  go_wp2_with fail
  rw [← lst_nil_book]
  obtain ⟨w10, hw10⟩ : ∃ w10, w10 = w9.alloc (.cells (lst (fun _ => nilV) 23).toArray 67) := ⟨_, rfl⟩
  rw [← hw10]
  have hs10 : w10.heap.size = w9.heap.size + 1 := by rw [hw10]; simp
  have hb10 : Below w9.heap.size w9 w10 := by rw [hw10]; exact below_alloc0 (Below.refl _ _) _
  have hbk := BookOkR.new w.heap.size w9 HB09.out.size
  rw [← hw10] at hbk
  have HBK := Lib.hid hbk
  have HB10 := Lib.hid hb10
  have HS10 := Lib.hid hs10
  clear hw10 hbk hb10 hs10
  have hg10 := HG39.out.below HB10.out
  have hsz := HSZ.out
  have hput := rows_putR A3 L.length c3 F3 L HBK.out (own_down hg10.own (by omega)) (fun i hi => own_down (hg10.bufs i hi) (by omega)) hg10.apart hg10.off (fun g hg h => by
    have := HLT3.out g hg
    rcases h with h | h
    · omega
    · exact h) (by omega) (fun i hi => by have := HANS.out.row i; omega) (fun g hg => by have := HS10.out; omega) (by have := HS10.out; omega) (by omega)
  refine hput.mono ?_
  clear hput hg10
  rintro e w11 ⟨rfl, hbk, hc11, _⟩
  have hb11 : Below w9.heap.size w10 w11 := hc11.below (by have := HS10.out; omega) (fun g hg => by omega)
  have hb911 : Below w9.heap.size w9 w11 := (HB10.out).trans hb11
  have hs11 := hc11.size
  have HBK1 := Lib.hid hbk
  have HB11 := Lib.hid hb911
  have HS11 := Lib.hid (And.intro hs11 (show w9.heap.size ≤ w11.heap.size from hb911.size))
  clear hbk hc11 hb11 hb911 hs11 hsz
  go_wp2_with fail
  have hg11 := HG49.out.below HB11.out
  have hsz := HSZ.out
  have hs11 := HS11.out
  have hs10 := HS10.out
  have hput := rows_putR A4 L.length c4 F4 L HBK1.out (own_down hg11.own (by omega)) (fun i hi => own_down (hg11.bufs i hi) (by omega)) hg11.apart hg11.off (fun g hg h => by
    have h4 := HLT4.out g hg
    rcases h with (h | h) | (h | h)
    · omega
    · omega
    · exact h
    · have := HLT3.out g h; omega) (by omega) (fun i hi => by have := HANS.out.row i; omega) (fun g hg => by
    rcases hg with hg | hg
    · omega
    · exact hg.2) (by omega) (by omega)
  refine hput.mono ?_
  clear hput hg11 hsz hs11 hs10
  rintro e w12 ⟨rfl, hbk, hc12, _⟩
  have hb12 : Below w9.heap.size w11 w12 := hc12.below HS11.out.2 (fun g hg => by
    rcases hg with hg | hg
    · omega
    · have := HS10.out; omega)
  have hb912 : Below w9.heap.size w9 w12 := HB11.out.trans hb12
  have HBK2 := Lib.hid hbk
  have HB12 := Lib.hid hb912
  clear hbk hc12 hb12 hb912
  go_wp2_with fail
  refine (known12_any w12).mono ?_
  rintro e w13 ⟨rfl, hb13⟩
  have hbk := HBK2.out.below hb13
  have hb913 := HB12.out.trans (hb13.mono HB12.out.size)
  have HBK3 := Lib.hid hbk
  have HB13 := Lib.hid hb913
  clear hbk hb913 hb13
  have herr : ((er : Int) == er) = true := by simp
  go_wp2_with fail
  have hg3 := HG39.out.below HB13.out
  have hg4 := HG49.out.below HB13.out
  have hr9 := HR9.out.below HB13.out
  have hs1 := samerows_yes A3 A9 L.length c3 c9 F3 F9 _ _ L w13 (by omega) (by obtain ⟨_, _, e, h, _⟩ := At.own hg3.own; cases e; exact h) (by obtain ⟨_, _, e, h, _⟩ := At.own hr9.own; cases e; exact h) (fun i hi => hg3.rowIn i hi) (fun i hi => hr9.rows i hi) (fun i hi => by have := HANS.out.row i; omega)
  refine hs1.mono ?_
  clear hs1 hg3 hg4 hr9
  rintro e w14 ⟨rfl, hb14⟩
  have hbk := HBK3.out.below hb14
  have hb914 := HB13.out.trans (hb14.mono HB13.out.size)
  have HBK4 := Lib.hid hbk
  have HB14 := Lib.hid hb914
  clear hbk hb914 hb14
  go_wp2_with fail
  have hg4 := HG49.out.below HB14.out
  have hr9 := HR9.out.below HB14.out
  have hs1 := samerows_yes A4 A9 L.length c4 c9 F4 F9 _ _ L w14 (by omega) (by obtain ⟨_, _, e, h, _⟩ := At.own hg4.own; cases e; exact h) (by obtain ⟨_, _, e, h, _⟩ := At.own hr9.own; cases e; exact h) (fun i hi => hg4.rowIn i hi) (fun i hi => hr9.rows i hi) (fun i hi => by have := HANS.out.row i; omega)
  refine hs1.mono ?_
  clear hs1 hg4 hr9
  rintro e w15 ⟨rfl, hb15⟩
  have hbk := HBK4.out.below hb15
  have hb915 := HB14.out.trans (hb15.mono HB14.out.size)
  have HBK5 := Lib.hid hbk
  have HB15 := Lib.hid hb915
  clear hbk hb915 hb15
  have hn1 := fun w => need_int z w
  have hn2 := fun w => refneed_int z w
  have HN1 := Lib.hid hn1
  have HN2 := Lib.hid hn2
  clear hn1 hn2
  generalize needI z = y at *
  have hyy : ((y : Int) == y) = true := by simp
  go_wp2_with fail
  refine (HN1.out w15).mono ?_
  rintro e w16 ⟨rfl, rfl⟩
  go_wp2_with fail
  refine (HN2.out w15).mono ?_
  rintro e w16 ⟨rfl, rfl⟩
  go_wp2_with fail
  refine (own_okR HBK5.out (Nat.le_trans HB09.out.size HB15.out.size) (by omega)).mono ?_
  rintro e w16 ⟨rfl, _, hb16⟩
  have hfin : Below w.heap.size w w16 := ((HB09.out).trans (HB15.out.mono HB09.out.size)).trans hb16
  have HFIN := Lib.hid hfin
  clear hfin hb16
  go_wp2_with fail
  go_ret
  exact ⟨rfl, HFIN.out⟩
end Go.Proofs.Ytfbjjblgcgjndaa

/- Closed facts on the program: its head's words out of their numbers (cheaply), and what all rows ask of it. -/
namespace Go.Proofs.Ytfbjjblgcgjndaa
open Go

def joinW : List (List Char) → List Char
  | [] => []
  | [w] => w
  | w :: v :: r => w ++ Char.ofNat 32 :: joinW (v :: r)

theorem words_none (w : List Char) (h : w.all (fun c => c != Char.ofNat 32) = true) : wordsSigns w = [w] := by
  induction w with
  | nil => rfl
  | cons c w ih =>
    simp only [List.all_cons, Bool.and_eq_true] at h
    have ih' := ih h.2
    have hc : c ≠ Char.ofNat 32 := by simpa using h.1
    unfold wordsSigns
    split
    · contradiction
    · rename_i heq; injection heq with h1 h2; exact absurd h1 hc
    · rename_i heq; injection heq with h1 h2; subst h1 h2; rw [ih']
theorem words_one (w r : List Char) (h : w.all (fun c => c != Char.ofNat 32) = true) : wordsSigns (w ++ Char.ofNat 32 :: r) = w :: wordsSigns r := by
  induction w with
  | nil => rfl
  | cons c w ih =>
    simp only [List.all_cons, Bool.and_eq_true] at h
    have ih' := ih h.2
    have hc : c ≠ Char.ofNat 32 := by simpa using h.1
    rw [List.cons_append]
    conv => lhs; unfold wordsSigns
    split
    · contradiction
    · rename_i heq; injection heq with h1 h2; exact absurd h1 hc
    · rename_i heq; injection heq with h1 h2; subst h1 h2; rw [ih']
theorem words_join (l : List (List Char)) (hne : l ≠ []) (h : l.all (fun w => w.all (fun c => c != Char.ofNat 32)) = true) : wordsSigns (joinW l) = l := by
  induction l with
  | nil => contradiction
  | cons w l ih =>
    simp only [List.all_cons, Bool.and_eq_true] at h
    cases l with
    | nil => exact words_none w h.1
    | cons v r =>
      show wordsSigns (w ++ Char.ofNat 32 :: joinW (v :: r)) = _
      rw [words_one w _ h.1, ih (by simp) h.2]

def headN : List (List Nat) := [
  [104, 97, 114, 110, 101, 115, 115],
  [56, 53, 100, 48, 97, 57, 102, 57, 101, 52, 51, 55, 53, 97, 100, 51, 97, 53, 99, 97, 101, 101, 48, 97, 57, 102, 57, 50, 99, 52, 48, 48, 100, 97, 57, 51, 97, 50, 50, 55, 97, 100, 100, 51, 48, 100, 53, 56, 99, 101, 99, 56, 99, 52, 57, 101, 101, 100, 48, 97, 99, 99, 97, 57],
  [99, 117, 116],
  [97, 116],
  [99, 111, 100, 105, 99, 105, 108, 47, 99, 111, 100, 105, 99, 105, 108, 108, 97, 119, 48, 49, 46, 67, 114, 99, 83, 117, 109, 115],
  [99, 111, 100, 105, 99, 105, 108, 47, 99, 111, 100, 105, 99, 105, 108, 108, 97, 119, 48, 49, 46, 67, 114, 99, 80, 105, 101, 99, 101, 115],
  [99, 111, 100, 105, 99, 105, 108, 47, 99, 111, 100, 105, 99, 105, 108, 108, 97, 119, 48, 49, 46, 67, 114, 99, 76, 105, 110, 101, 97, 114],
  [99, 111, 100, 105, 99, 105, 108, 47, 99, 111, 100, 105, 99, 105, 108, 108, 97, 119, 48, 49, 46, 67, 114, 99, 66, 117, 114, 115, 116, 115],
  [99, 111, 100, 105, 99, 105, 108, 47, 99, 111, 100, 105, 99, 105, 108, 108, 97, 119, 49, 50, 46, 79, 118, 101, 114, 87, 114, 105, 116, 101, 115],
  [99, 111, 100, 105, 99, 105, 108, 47, 99, 111, 100, 105, 99, 105, 108, 108, 97, 119, 49, 50, 46, 79, 118, 101, 114, 80, 97, 114, 116, 115],
  [99, 111, 100, 105, 99, 105, 108, 47, 99, 111, 100, 105, 99, 105, 108, 108, 97, 119, 48, 55, 46, 68, 105, 115, 107, 84, 111, 114, 110],
  [99, 111, 100, 105, 99, 105, 108, 47, 99, 111, 100, 105, 99, 105, 108, 108, 97, 119, 48, 55, 46, 68, 105, 115, 107, 84, 114, 105, 112, 115],
  [99, 111, 100, 105, 99, 105, 108, 47, 99, 111, 100, 105, 99, 105, 108, 108, 97, 119, 48, 55, 46, 68, 105, 115, 107, 75, 101, 101, 112, 115],
  [99, 111, 100, 105, 99, 105, 108, 47, 99, 111, 100, 105, 99, 105, 108, 108, 97, 119, 48, 55, 46, 68, 105, 115, 107, 70, 97, 105, 108, 115],
  [99, 111, 100, 105, 99, 105, 108, 47, 99, 111, 100, 105, 99, 105, 108, 108, 97, 119, 48, 55, 46, 68, 105, 115, 107, 68, 111, 101, 115],
  [99, 111, 100, 105, 99, 105, 108, 47, 99, 111, 100, 105, 99, 105, 108, 108, 97, 119, 48, 55, 46, 68, 105, 115, 107, 76, 111, 97, 100, 115],
  [99, 111, 100, 105, 99, 105, 108, 47, 99, 111, 100, 105, 99, 105, 108, 108, 97, 119, 48, 55, 46, 68, 105, 115, 107, 65, 108, 111, 110, 101],
  [99, 111, 100, 105, 99, 105, 108, 47, 99, 111, 100, 105, 99, 105, 108, 108, 97, 119, 48, 56, 46, 80, 97, 103, 101, 83, 101, 97, 108, 115],
  [99, 111, 100, 105, 99, 105, 108, 47, 99, 111, 100, 105, 99, 105, 108, 108, 97, 119, 48, 56, 46, 80, 97, 103, 101, 79, 112, 101, 110, 115],
  [99, 111, 100, 105, 99, 105, 108, 47, 99, 111, 100, 105, 99, 105, 108, 108, 97, 119, 48, 56, 46, 80, 97, 103, 101, 83, 116, 97, 116, 101, 115],
  [99, 111, 100, 105, 99, 105, 108, 47, 99, 111, 100, 105, 99, 105, 108, 108, 97, 119, 48, 56, 46, 80, 97, 103, 101, 84, 117, 114, 110, 101, 100],
  [99, 111, 100, 105, 99, 105, 108, 47, 99, 111, 100, 105, 99, 105, 108, 108, 97, 119, 48, 56, 46, 80, 97, 103, 101, 78, 101, 119, 101, 115, 116],
  [99, 111, 100, 105, 99, 105, 108, 47, 99, 111, 100, 105, 99, 105, 108, 108, 97, 119, 48, 56, 46, 80, 97, 103, 101, 78, 117, 109, 98, 101, 114, 115],
  [99, 111, 100, 105, 99, 105, 108, 47, 99, 111, 100, 105, 99, 105, 108, 108, 97, 119, 49, 48, 46, 80, 111, 111, 108, 75, 101, 101, 112, 115],
  [99, 111, 100, 105, 99, 105, 108, 47, 99, 111, 100, 105, 99, 105, 108, 108, 97, 119, 49, 48, 46, 80, 111, 111, 108, 83, 105, 122, 101, 115],
  [99, 111, 100, 105, 99, 105, 108, 47, 99, 111, 100, 105, 99, 105, 108, 108, 97, 119, 49, 48, 46, 80, 111, 111, 108, 76, 97, 115, 116],
  [99, 111, 100, 105, 99, 105, 108, 47, 99, 111, 100, 105, 99, 105, 108, 108, 97, 119, 49, 50, 46, 79, 118, 101, 114, 66, 97, 99, 107]]
def headW : List (List Char) := headN.map fun w => w.map Char.ofNat
theorem head_eq : Try.prog.initOrder = String.ofList (joinW headW) := by kernel_rfl
theorem head_list : Try.prog.initOrder.toList = joinW headW := by rw [head_eq, String.toList_ofList]
theorem head_clean : headW.all (fun w => w.all (fun c => c != Char.ofNat 32)) = true := by kernel_rfl
theorem head_words : wordsSigns Try.prog.initOrder.toList = headW := by
  rw [head_list]
  exact words_join headW (by simp [headW, headN]) head_clean
theorem t_harness : "harness".toList = [Char.ofNat 104, Char.ofNat 97, Char.ofNat 114, Char.ofNat 110, Char.ofNat 101, Char.ofNat 115, Char.ofNat 115] := by
  rw [show "harness" = String.ofList [Char.ofNat 104, Char.ofNat 97, Char.ofNat 114, Char.ofNat 110, Char.ofNat 101, Char.ofNat 115, Char.ofNat 115] from by kernel_rfl, String.toList_ofList]
theorem t_ownmain : "ownmain".toList = [Char.ofNat 111, Char.ofNat 119, Char.ofNat 110, Char.ofNat 109, Char.ofNat 97, Char.ofNat 105, Char.ofNat 110] := by
  rw [show "ownmain" = String.ofList [Char.ofNat 111, Char.ofNat 119, Char.ofNat 110, Char.ofNat 109, Char.ofNat 97, Char.ofNat 105, Char.ofNat 110] from by kernel_rfl, String.toList_ofList]
theorem t_gc : "gc".toList = [Char.ofNat 103, Char.ofNat 99] := by
  rw [show "gc" = String.ofList [Char.ofNat 103, Char.ofNat 99] from by kernel_rfl, String.toList_ofList]
theorem t_spec : "spec".toList = [Char.ofNat 115, Char.ofNat 112, Char.ofNat 101, Char.ofNat 99] := by
  rw [show "spec" = String.ofList [Char.ofNat 115, Char.ofNat 112, Char.ofNat 101, Char.ofNat 99] from by kernel_rfl, String.toList_ofList]
theorem t_stop : "stop".toList = [Char.ofNat 115, Char.ofNat 116, Char.ofNat 111, Char.ofNat 112] := by
  rw [show "stop" = String.ofList [Char.ofNat 115, Char.ofNat 116, Char.ofNat 111, Char.ofNat 112] from by kernel_rfl, String.toList_ofList]
theorem t_carried : "carried".toList = [Char.ofNat 99, Char.ofNat 97, Char.ofNat 114, Char.ofNat 114, Char.ofNat 105, Char.ofNat 101, Char.ofNat 100] := by
  rw [show "carried" = String.ofList [Char.ofNat 99, Char.ofNat 97, Char.ofNat 114, Char.ofNat 114, Char.ofNat 105, Char.ofNat 101, Char.ofNat 100] from by kernel_rfl, String.toList_ofList]
theorem t_cut : "cut".toList = [Char.ofNat 99, Char.ofNat 117, Char.ofNat 116] := by
  rw [show "cut" = String.ofList [Char.ofNat 99, Char.ofNat 117, Char.ofNat 116] from by kernel_rfl, String.toList_ofList]
theorem t_finals : "finals".toList = [Char.ofNat 102, Char.ofNat 105, Char.ofNat 110, Char.ofNat 97, Char.ofNat 108, Char.ofNat 115] := by
  rw [show "finals" = String.ofList [Char.ofNat 102, Char.ofNat 105, Char.ofNat 110, Char.ofNat 97, Char.ofNat 108, Char.ofNat 115] from by kernel_rfl, String.toList_ofList]
theorem t_reflectrows : "reflectrows".toList = [Char.ofNat 114, Char.ofNat 101, Char.ofNat 102, Char.ofNat 108, Char.ofNat 101, Char.ofNat 99, Char.ofNat 116, Char.ofNat 114, Char.ofNat 111, Char.ofNat 119, Char.ofNat 115] := by
  rw [show "reflectrows" = String.ofList [Char.ofNat 114, Char.ofNat 101, Char.ofNat 102, Char.ofNat 108, Char.ofNat 101, Char.ofNat 99, Char.ofNat 116, Char.ofNat 114, Char.ofNat 111, Char.ofNat 119, Char.ofNat 115] from by kernel_rfl, String.toList_ofList]
theorem t_leanrows : "leanrows".toList = [Char.ofNat 108, Char.ofNat 101, Char.ofNat 97, Char.ofNat 110, Char.ofNat 114, Char.ofNat 111, Char.ofNat 119, Char.ofNat 115] := by
  rw [show "leanrows" = String.ofList [Char.ofNat 108, Char.ofNat 101, Char.ofNat 97, Char.ofNat 110, Char.ofNat 114, Char.ofNat 111, Char.ofNat 119, Char.ofNat 115] from by kernel_rfl, String.toList_ofList]
theorem t_onebuild : "onebuild".toList = [Char.ofNat 111, Char.ofNat 110, Char.ofNat 101, Char.ofNat 98, Char.ofNat 117, Char.ofNat 105, Char.ofNat 108, Char.ofNat 100] := by
  rw [show "onebuild" = String.ofList [Char.ofNat 111, Char.ofNat 110, Char.ofNat 101, Char.ofNat 98, Char.ofNat 117, Char.ofNat 105, Char.ofNat 108, Char.ofNat 100] from by kernel_rfl, String.toList_ofList]
theorem t_publicsums : "publicsums".toList = [Char.ofNat 112, Char.ofNat 117, Char.ofNat 98, Char.ofNat 108, Char.ofNat 105, Char.ofNat 99, Char.ofNat 115, Char.ofNat 117, Char.ofNat 109, Char.ofNat 115] := by
  rw [show "publicsums" = String.ofList [Char.ofNat 112, Char.ofNat 117, Char.ofNat 98, Char.ofNat 108, Char.ofNat 105, Char.ofNat 99, Char.ofNat 115, Char.ofNat 117, Char.ofNat 109, Char.ofNat 115] from by kernel_rfl, String.toList_ofList]
theorem t_eqguard : "eqguard".toList = [Char.ofNat 101, Char.ofNat 113, Char.ofNat 103, Char.ofNat 117, Char.ofNat 97, Char.ofNat 114, Char.ofNat 100] := by
  rw [show "eqguard" = String.ofList [Char.ofNat 101, Char.ofNat 113, Char.ofNat 103, Char.ofNat 117, Char.ofNat 97, Char.ofNat 114, Char.ofNat 100] from by kernel_rfl, String.toList_ofList]
theorem t_ownunsafe : "ownunsafe".toList = [Char.ofNat 111, Char.ofNat 119, Char.ofNat 110, Char.ofNat 117, Char.ofNat 110, Char.ofNat 115, Char.ofNat 97, Char.ofNat 102, Char.ofNat 101] := by
  rw [show "ownunsafe" = String.ofList [Char.ofNat 111, Char.ofNat 119, Char.ofNat 110, Char.ofNat 117, Char.ofNat 110, Char.ofNat 115, Char.ofNat 97, Char.ofNat 102, Char.ofNat 101] from by kernel_rfl, String.toList_ofList]
theorem t_libbeside : "libbeside".toList = [Char.ofNat 108, Char.ofNat 105, Char.ofNat 98, Char.ofNat 98, Char.ofNat 101, Char.ofNat 115, Char.ofNat 105, Char.ofNat 100, Char.ofNat 101] := by
  rw [show "libbeside" = String.ofList [Char.ofNat 108, Char.ofNat 105, Char.ofNat 98, Char.ofNat 98, Char.ofNat 101, Char.ofNat 115, Char.ofNat 105, Char.ofNat 100, Char.ofNat 101] from by kernel_rfl, String.toList_ofList]
theorem t_ownbeside : "ownbeside".toList = [Char.ofNat 111, Char.ofNat 119, Char.ofNat 110, Char.ofNat 98, Char.ofNat 101, Char.ofNat 115, Char.ofNat 105, Char.ofNat 100, Char.ofNat 101] := by
  rw [show "ownbeside" = String.ofList [Char.ofNat 111, Char.ofNat 119, Char.ofNat 110, Char.ofNat 98, Char.ofNat 101, Char.ofNat 115, Char.ofNat 105, Char.ofNat 100, Char.ofNat 101] from by kernel_rfl, String.toList_ofList]
theorem t_reflbeside : "reflbeside".toList = [Char.ofNat 114, Char.ofNat 101, Char.ofNat 102, Char.ofNat 108, Char.ofNat 98, Char.ofNat 101, Char.ofNat 115, Char.ofNat 105, Char.ofNat 100, Char.ofNat 101] := by
  rw [show "reflbeside" = String.ofList [Char.ofNat 114, Char.ofNat 101, Char.ofNat 102, Char.ofNat 108, Char.ofNat 98, Char.ofNat 101, Char.ofNat 115, Char.ofNat 105, Char.ofNat 100, Char.ofNat 101] from by kernel_rfl, String.toList_ofList]
theorem t_aliases : "aliases".toList = [Char.ofNat 97, Char.ofNat 108, Char.ofNat 105, Char.ofNat 97, Char.ofNat 115, Char.ofNat 101, Char.ofNat 115] := by
  rw [show "aliases" = String.ofList [Char.ofNat 97, Char.ofNat 108, Char.ofNat 105, Char.ofNat 97, Char.ofNat 115, Char.ofNat 101, Char.ofNat 115] from by kernel_rfl, String.toList_ofList]
theorem t_afterinit : "afterinit".toList = [Char.ofNat 97, Char.ofNat 102, Char.ofNat 116, Char.ofNat 101, Char.ofNat 114, Char.ofNat 105, Char.ofNat 110, Char.ofNat 105, Char.ofNat 116] := by
  rw [show "afterinit" = String.ofList [Char.ofNat 97, Char.ofNat 102, Char.ofNat 116, Char.ofNat 101, Char.ofNat 114, Char.ofNat 105, Char.ofNat 110, Char.ofNat 105, Char.ofNat 116] from by kernel_rfl, String.toList_ofList]
theorem t_crcplain : "crcplain".toList = [Char.ofNat 99, Char.ofNat 114, Char.ofNat 99, Char.ofNat 112, Char.ofNat 108, Char.ofNat 97, Char.ofNat 105, Char.ofNat 110] := by
  rw [show "crcplain" = String.ofList [Char.ofNat 99, Char.ofNat 114, Char.ofNat 99, Char.ofNat 112, Char.ofNat 108, Char.ofNat 97, Char.ofNat 105, Char.ofNat 110] from by kernel_rfl, String.toList_ofList]
theorem t_roadunsafe : "roadunsafe".toList = [Char.ofNat 114, Char.ofNat 111, Char.ofNat 97, Char.ofNat 100, Char.ofNat 117, Char.ofNat 110, Char.ofNat 115, Char.ofNat 97, Char.ofNat 102, Char.ofNat 101] := by
  rw [show "roadunsafe" = String.ofList [Char.ofNat 114, Char.ofNat 111, Char.ofNat 97, Char.ofNat 100, Char.ofNat 117, Char.ofNat 110, Char.ofNat 115, Char.ofNat 97, Char.ofNat 102, Char.ofNat 101] from by kernel_rfl, String.toList_ofList]
theorem t_fmthandon : "fmthandon".toList = [Char.ofNat 102, Char.ofNat 109, Char.ofNat 116, Char.ofNat 104, Char.ofNat 97, Char.ofNat 110, Char.ofNat 100, Char.ofNat 111, Char.ofNat 110] := by
  rw [show "fmthandon" = String.ofList [Char.ofNat 102, Char.ofNat 109, Char.ofNat 116, Char.ofNat 104, Char.ofNat 97, Char.ofNat 110, Char.ofNat 100, Char.ofNat 111, Char.ofNat 110] from by kernel_rfl, String.toList_ofList]
theorem main_word (h s : List Char) (r : List (List Char)) (h1 : (h == [Char.ofNat 104, Char.ofNat 97, Char.ofNat 114, Char.ofNat 110, Char.ofNat 101, Char.ofNat 115, Char.ofNat 115]) = true) (h2 : isSumSigns s = true) :
    behindMainWord (h :: s :: r) = r := by
  unfold behindMainWord
  simp only [t_harness, h1, h2, Bool.true_or, Bool.and_self, if_true]
def restW : List (List Char) := headW.drop 2
theorem rest_words : behindMainWord headW = restW := main_word _ _ _ (by kernel_rfl) (by kernel_rfl)
def restT : List (List Char) := headW.drop 3
theorem restW_eq : restW = [Char.ofNat 99, Char.ofNat 117, Char.ofNat 116] :: restT := by kernel_rfl
theorem cut_words : behindMainWord (wordsSigns Try.prog.initOrder.toList) = [Char.ofNat 99, Char.ofNat 117, Char.ofNat 116] :: restT := by
  rw [head_words, rest_words, restW_eq]
theorem not_gc : (([Char.ofNat 99, Char.ofNat 117, Char.ofNat 116] : List Char) == "gc".toList) = false := by rw [t_gc]; kernel_rfl
theorem not_spec : (([Char.ofNat 99, Char.ofNat 117, Char.ofNat 116] : List Char) == "spec".toList) = false := by rw [t_spec]; kernel_rfl
theorem not_carried : (([Char.ofNat 99, Char.ofNat 117, Char.ofNat 116] : List Char) == "carried".toList) = false := by rw [t_carried]; kernel_rfl
theorem is_cut : (([Char.ofNat 99, Char.ofNat 117, Char.ofNat 116] : List Char) == "cut".toList) = true := by rw [t_cut]; kernel_rfl
theorem not_lift : ∀ o ∈ liftWords, (([Char.ofNat 99, Char.ofNat 117, Char.ofNat 116] : List Char) == o.toList) = false := by
  simp only [liftWords, List.forall_mem_cons, t_finals, t_reflectrows, t_leanrows, t_onebuild, t_publicsums, t_eqguard, t_ownunsafe, t_libbeside, t_ownbeside, t_reflbeside, t_aliases, t_afterinit, t_crcplain, t_roadunsafe, t_fmthandon]
  refine ⟨?_, ?_, ?_, ?_, ?_, ?_, ?_, ?_, ?_, ?_, ?_, ?_, ?_, ?_, ?_, ?_⟩ <;> first | (kernel_rfl; done) | (intro o ho; cases ho)
theorem strip_nothing (w : List Char) (ws : List (List Char)) : ∀ os : List String, (∀ o ∈ os, (w == o.toList) = false) → stripLifts os (w :: ws) = ([], w :: ws)
  | [], _ => rfl
  | o :: os, h => by
    unfold stripLifts
    rw [h o (by simp)]
    exact strip_nothing w ws os (fun o ho => h o (by simp [ho]))
theorem make_of (P : Program) (c : List Char) (r : List (List Char)) (h : behindMainWord (wordsSigns P.initOrder.toList) = c :: r) (h1 : (c == "gc".toList) = false) (h2 : (c == "spec".toList) = false) (h3 : (c == "cut".toList) = true) : P.make = some .cut := by
  unfold Program.make
  rw [h]
  simp only [h1, h2, h3, Bool.or_self, Bool.true_or, Bool.false_eq_true, if_true, if_false]
theorem lifts_of (P : Program) (c : List Char) (r : List (List Char)) (h : behindMainWord (wordsSigns P.initOrder.toList) = c :: r) (h1 : (c == "carried".toList) = false) (h2 : stripLifts liftWords (c :: r) = ([], c :: r)) : P.liftsFinal = false := by
  unfold Program.liftsFinal Program.headLifts
  rw [h, h2]
  have e : (List.head? (c :: r) == some "carried".toList) = false := h1
  simp only [e, Bool.false_and, Bool.false_or, ite_self, List.contains_nil]
theorem enter_of (P : Program) (c : List Char) (r : List (List Char)) (h : behindMainWord (wordsSigns P.initOrder.toList) = c :: r) (h3 : (c == "cut".toList) = true) (h2 : stripLifts liftWords (c :: r) = ([], c :: r))
    (h4 : P.laysLater = false) (h5 : P.bearsReflect = false) (h6 : P.doorFits [] = true) : P.mayEnter = true := by
  unfold Program.mayEnter
  rw [h]
  simp only []
  rw [h2]
  have e : (List.head? (c :: r) == some "cut".toList) = true := h3
  simp only [e, h4, h5, h6, List.contains_nil, Bool.not_false, Bool.and_true, Bool.or_true, Bool.true_and, Bool.false_or]
theorem P_later : Try.prog.laysLater = false := by kernel_rfl
theorem P_reflect : Try.prog.bearsReflect = false := by kernel_rfl
theorem P_door : Try.prog.doorFits [] = true := by kernel_rfl
theorem P_make : Try.prog.make = some .cut := make_of Try.prog _ _ cut_words not_gc not_spec is_cut
theorem P_lifts : Try.prog.liftsFinal = false := lifts_of Try.prog _ _ cut_words not_carried (strip_nothing _ _ _ not_lift)
theorem P_enter : Try.prog.mayEnter = true := enter_of Try.prog _ _ cut_words is_cut (strip_nothing _ _ _ not_lift) P_later P_reflect P_door

theorem P_laid : laidOutB Try.prog = true := by kernel_rfl
theorem P_rowed : mapsRowed Try.prog = true := by kernel_rfl
theorem P_stops : (Try.prog.stops == []) = true := by kernel_rfl
theorem P_knobs : (Try.prog.stopKnobs == []) = true := by kernel_rfl
theorem P_plain : Try.prog.plainKeys = true := by kernel_rfl
theorem P_heard : Try.prog.stopsHeard = true := by kernel_rfl

theorem joined_of (P : Program) (f : FuncId) (fn : Func) (s : ChangeSpec) (c : OpenClaim)
    (k1 : (c.wf (OpenSpec.ofChange s)) = true)
    (k2 : (laidOutB P) = true)
    (k3 : (mapsRowed P) = true)
    (k4 : (fn.params.all (P.readableRec ·)) = true)
    (k5 : (namedTie P c.named s.vars) = true)
    (k6 : (c.stops == []) = true)
    (k7 : (P.stops == []) = true)
    (k8 : (c.knobs == []) = true)
    (k9 : (P.stopKnobs == []) = true)
    (k10 : (c.inPlace == P.inPlace f) = true)
    (k11 : (c.unfollowed == P.unfollowed f) = true)
    (k12 : (c.recurses == P.recurses f) = true)
    (k13 : (c.named == P.varsNamed f) = true)
    (k14 : (c.maps == (fn.params.toList ++ s.plain.varTypes P).any (P.mapsRec ·)) = true)
    (k15 : (c.ifaces == (fn.params.toList ++ s.plain.varTypes P).any (P.ifacesRec ·)) = true)
    (k16 : (c.mapsOut == P.mapsAmong fn.resultTypes.toList) = true)
    (k17 : (c.loops == (fn.params.toList ++ s.plain.varTypes P).any (P.loopsFrom ·)) = true)
    (k18 : (c.wideKeys == (fn.params.toList ++ s.plain.varTypes P ++ fn.resultTypes.toList).any (P.wideKeysFrom ·)) = true)
    (k19 : (s.vars.all (P.varReadable ·)) = true)
    (k20 : (fn.resultTypes.all (fun t => P.readableRec t && decide (t < P.types.size))) = true)
    (k21 : (c.ifacesOut == fn.resultTypes.toList.any (P.ifacesRec ·)) = true)
    (k22 : (c.loopsOut == fn.resultTypes.toList.any (P.loopsFrom ·)) = true)
    (k23 : (c.plainKeys == P.plainKeys) = true)
    (k24 : (c.shortTexts.isNone) = true)
    (k25 : (P.stopsHeard) = true)
    (k26 : (P.mayEnter) = true)
    (k27 : (c.lifted == P.liftsFinal) = true)
    (k28 : (P.make == some c.make) = true)
    (k29 : (c.kinds == (if c.domain.isEmpty then [] else fn.params.toList.map fun t => match P.underlying t with | some (.int k) => some k | _ => none)) = true)
    (k30 : (c.pinned == c.pinnedBy) = true)
    (k31 : (c.veiled == (fn.params.toList ++ s.plain.varTypes P ++ fn.resultTypes.toList).any (P.veiledRec ·)) = true)
    (k32 : (c.veiledFits P fn.params.toList (fn.params.toList ++ s.plain.varTypes P ++ fn.resultTypes.toList)) = true) : joinedFacts P f fn s c = true := by
  unfold joinedFacts
  rw [k1, k2, k3, k4, k5, k6, k7, k8, k9, k10, k11, k12, k13, k14, k15, k16, k17, k18, k19, k20, k21, k22, k23, k24, k25, k26, k27, k28]
  exact Bool.and_eq_true_iff.2 ⟨Bool.and_eq_true_iff.2 ⟨Bool.and_eq_true_iff.2 ⟨Bool.and_eq_true_iff.2 ⟨rfl, k29⟩, k30⟩, k31⟩, k32⟩

/-- The closed facts of a row: those that go by the program alone are laid already. -/
theorem joined_try (f : FuncId) (fn : Func) (s : ChangeSpec) (c : OpenClaim)
    (k1 : c.wf (OpenSpec.ofChange s) = true) (k4 : fn.params.all (Try.prog.readableRec ·) = true) (k5 : namedTie Try.prog c.named s.vars = true) (k6 : (c.stops == []) = true) (k8 : (c.knobs == []) = true)
    (k10 : (c.inPlace == Try.prog.inPlace f) = true) (k11 : (c.unfollowed == Try.prog.unfollowed f) = true) (k12 : (c.recurses == Try.prog.recurses f) = true) (k13 : (c.named == Try.prog.varsNamed f) = true)
    (k14 : (c.maps == (fn.params.toList ++ s.plain.varTypes Try.prog).any (Try.prog.mapsRec ·)) = true) (k15 : (c.ifaces == (fn.params.toList ++ s.plain.varTypes Try.prog).any (Try.prog.ifacesRec ·)) = true) (k16 : (c.mapsOut == Try.prog.mapsAmong fn.resultTypes.toList) = true)
    (k17 : (c.loops == (fn.params.toList ++ s.plain.varTypes Try.prog).any (Try.prog.loopsFrom ·)) = true) (k18 : (c.wideKeys == (fn.params.toList ++ s.plain.varTypes Try.prog ++ fn.resultTypes.toList).any (Try.prog.wideKeysFrom ·)) = true)
    (k19 : s.vars.all (Try.prog.varReadable ·) = true) (k20 : fn.resultTypes.all (fun t => Try.prog.readableRec t && decide (t < Try.prog.types.size)) = true) (k21 : (c.ifacesOut == fn.resultTypes.toList.any (Try.prog.ifacesRec ·)) = true) (k22 : (c.loopsOut == fn.resultTypes.toList.any (Try.prog.loopsFrom ·)) = true)
    (k23 : c.plainKeys = true) (k24 : c.shortTexts.isNone = true) (k27 : c.lifted = false) (k28 : c.make = .cut)
    (k29 : (c.kinds == (if c.domain.isEmpty then [] else fn.params.toList.map fun t => match Try.prog.underlying t with | some (.int k) => some k | _ => none)) = true) (k30 : (c.pinned == c.pinnedBy) = true)
    (k31 : (c.veiled == (fn.params.toList ++ s.plain.varTypes Try.prog ++ fn.resultTypes.toList).any (Try.prog.veiledRec ·)) = true) (k32 : c.veiledFits Try.prog fn.params.toList (fn.params.toList ++ s.plain.varTypes Try.prog ++ fn.resultTypes.toList) = true) :
    joinedFacts Try.prog f fn s c = true :=
  joined_of Try.prog f fn s c k1 P_laid P_rowed k4 k5 k6 P_stops k8 P_knobs k10 k11 k12 k13 k14 k15 k16 k17 k18 k19 k20 k21 k22 (by rw [k23, P_plain]; rfl) k24 P_heard P_enter (by rw [k27, P_lifts]; rfl) (by rw [k28, P_make]; rfl) k29 k30 k31 k32
end Go.Proofs.Ytfbjjblgcgjndaa
