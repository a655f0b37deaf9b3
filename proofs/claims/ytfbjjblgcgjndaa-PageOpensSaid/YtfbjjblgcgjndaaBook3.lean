/- The book, its inside out of sight. -/
import Derived.Test.YtfbjjblgcgjndaaBook2
set_option linter.unusedVariables false
set_option linter.unusedSimpArgs false
namespace Go.Proofs.Ytfbjjblgcgjndaa
open Go.RowKit

def lives (j : Nat) : Prop := j = 0 ∨ j = 2
/-- the book's own block and its lists' -/
def Sys (b : Nat) (F : Nat → Value) (g : Nat) : Prop := g = b ∨ ∃ j, (j = 0 ∨ j = 2) ∧ blk (F j) g
/-- a book at b of at most K lists a shelf; its own blocks are among S, those of what it bears among R -/
def BookOk (n0 : Nat) (w : World) (b K : Nat) (S R : Nat → Prop) : Prop :=
  ∃ F k u n c, Books n0 w b F (fun j => j = 0 ∨ j = 2) k u n c ∧ (∀ j, j < 23 → j ≠ 0 → j ≠ 2 → F j = .slice none 0 0) ∧ (∀ j, k j ≤ K) ∧ (∀ j i, (j = 0 ∨ j = 2) → i < k j → n j i ≤ 1000000000000) ∧ (∀ g, Sys b F g → S g) ∧ ∀ j i g, (j = 0 ∨ j = 2) → i < k j → blk (u j i) g → R g
theorem foot_or {b : Nat} {F : Nat → Value} {k : Nat → Nat} {u : Nat → Nat → Value} {S R : Nat → Prop} (hS : ∀ g, Sys b F g → S g) (hR : ∀ j i g, (j = 0 ∨ j = 2) → i < k j → blk (u j i) g → R g) {g : Nat} (h : foot b F (fun j => j = 0 ∨ j = 2) k u g) : S g ∨ R g := by
  obtain ⟨x, hx⟩ := h
  cases x with
  | book => exact .inl (hS g (.inl hx))
  | list j => exact .inl (hS g (.inr ⟨j, hx.1, hx.2⟩))
  | row j i => exact .inr (hR j i g hx.1 hx.2.1 hx.2.2)
theorem BookOk.keep {n0 : Nat} {w w' : World} {b K : Nat} {S R H : Nat → Prop} (h : BookOk n0 w b K S R) (hc : Chg H w w') (hG : ∀ g, g < w.heap.size → S g ∨ R g → ¬ H g) : BookOk n0 w' b K S R := by
  obtain ⟨F, k, u, n, c, h1, h2, h3, h4, h5, h6⟩ := h
  exact ⟨F, k, u, n, c, h1.keep hc (fun g hg => by have hg' := hg; obtain ⟨x, hx⟩ := hg; exact hG g (h1.lt hx).2 (foot_or h5 h6 hg')), h2, h3, h4, h5, h6⟩
theorem BookOk.below {n0 : Nat} {w w' : World} {b K : Nat} {S R : Nat → Prop} (h : BookOk n0 w b K S R) (hb : Below w.heap.size w w') : BookOk n0 w' b K S R :=
  h.keep (H := fun _ => False) (.of_below hb) (fun _ _ _ h => h)
theorem BookOk.mono {n0 : Nat} {w : World} {b K : Nat} {S R S' R' : Nat → Prop} (h : BookOk n0 w b K S R) (hS : ∀ g, n0 ≤ g → g < w.heap.size → S g → S' g) (hR : ∀ g, n0 ≤ g → g < w.heap.size → R g → R' g) : BookOk n0 w b K S' R' := by
  obtain ⟨F, k, u, n, c, h1, h2, h3, h4, h5, h6⟩ := h
  have lt1 : ∀ g, Sys b F g → n0 ≤ g ∧ g < w.heap.size := by
    rintro g (h | ⟨j, hj, h⟩)
    · exact h1.lt (x := .book) h
    · exact h1.lt (x := .list j) ⟨hj, h⟩
  refine ⟨F, k, u, n, c, h1, h2, h3, h4, fun g hg => hS g (lt1 g hg).1 (lt1 g hg).2 (h5 g hg), fun j i g hj hi hg => ?_⟩
  have := h1.lt (x := .row j i) ⟨hj, hi, hg⟩
  exact hR g this.1 this.2 (h6 j i g hj hi hg)
theorem lst_nil_book : (lst (fun _ => nilV) 23).toArray = #[.slice none 0 0, .slice none 0 0, .slice none 0 0, .slice none 0 0, .slice none 0 0, .slice none 0 0, .slice none 0 0, .slice none 0 0, .slice none 0 0, .slice none 0 0, .slice none 0 0, .slice none 0 0, .slice none 0 0, .slice none 0 0, .slice none 0 0, .slice none 0 0, .slice none 0 0, .slice none 0 0, .slice none 0 0, .slice none 0 0, .slice none 0 0, .slice none 0 0, .slice none 0 0] := rfl
theorem BookOk.new (n0 : Nat) (w : World) (hn : n0 ≤ w.heap.size) : BookOk n0 (w.alloc (.cells (lst (fun _ => nilV) 23).toArray 67)) w.heap.size 0 (fun g => g = w.heap.size) (fun _ => False) := by
  have hno : ∀ x g, Item.has w.heap.size (fun _ => nilV) (fun j => j = 0 ∨ j = 2) (fun _ => 0) (fun _ _ => nilV) x g → x = .book ∧ g = w.heap.size := by
    intro x g hx
    cases x with
    | book => exact ⟨rfl, hx⟩
    | list j => cases hx.2
    | row j i => exact absurd hx.2.1 (Nat.not_lt_zero _)
  refine ⟨fun _ => nilV, fun _ => 0, fun _ _ => nilV, fun _ _ => 0, fun _ _ => [], ⟨heap_alloc_new w _, hn, fun j hj => World.ownsRow_nil _ _ _ _, fun j i hj hi => absurd hi (Nat.not_lt_zero _), fun x y hxy g hx hy => hxy ((hno x g hx).1.trans (hno y g hy).1.symm)⟩, fun _ _ _ _ => rfl, fun _ => Nat.le_refl _, fun j i _ hi => absurd hi (Nat.not_lt_zero _), ?_, fun j i g _ hi => absurd hi (Nat.not_lt_zero _)⟩
  rintro g (h | ⟨j, _, h⟩)
  · exact h
  · cases h
def More (S : Nat → Prop) (s s' : Nat) (g : Nat) : Prop := S g ∨ (s ≤ g ∧ g < s')
def Also (R : Nat → Prop) (x : Value) (g : Nat) : Prop := R g ∨ blk x g
def BookPut (n0 : Nat) (w : World) (b K : Nat) (S R : Nat → Prop) (x : Value) (e : Ending) (w' : World) : Prop :=
  e = .returned (.tuple #[]) ∧ BookOk n0 w' b (K + 1) (More S w.heap.size w'.heap.size) (Also R x) ∧ Chg S w w' ∧ Below n0 w w'
theorem book_put {n0 : Nat} {w : World} {b K : Nat} {S R : Nat → Prop} {fn : FuncId} (j : Nat) (hj : j = 0 ∨ j = 2) (A : Option Addr) (n cp : Nat) (cx : List Value) (h : BookOk n0 w b K S R) (hx : w.ownsRow n0 (ety j) 1 (.slice A n cp) n cx) (hG : ∀ g, blk (.slice A n cp) g → ¬ (S g ∨ R g)) (hn : n ≤ 1000000000000) (hn0 : n0 ≤ w.heap.size) (hK : K < 1000000000000)
    (hput : ∀ (F : Nat → Value) (k : Nat) (us : List Value), BookAt w b F → w.ownsRow n0 (sty j) 1 (F j) k us → ¬ blk (F j) b → k ≤ 1000000000000 →
      Calls Try.prog fn #[.pointer (some ⟨b, 0, none⟩), .slice A n cp] w fun e w' => e = .returned (.tuple #[]) ∧ ∃ L', BookAt w' b (turn F j L') ∧ w'.ownsRow n0 (sty j) 1 L' (k + 1) (us ++ [.slice A n cp]) ∧ Chg (fun g => g = b ∨ blk (F j) g) w w' ∧ ∀ g, blk L' g → blk (F j) g ∨ w.heap.size ≤ g) :
    Calls Try.prog fn #[.pointer (some ⟨b, 0, none⟩), .slice A n cp] w (BookPut n0 w b K S R (.slice A n cp)) := by
  obtain ⟨F, k, u, nn, c, h1, h2, h3, h4, h5, h6⟩ := h
  have hsep : ¬ blk (F j) b := fun hb => h1.sep .book (.list j) (by simp) b rfl ⟨hj, hb⟩
  have hkj := h3 j
  refine (hput F (k j) (lst (u j) (k j)) h1.at_ (h1.list j hj) hsep (by omega)).mono ?_
  rintro e w' ⟨rfl, L', ha, hl, hc, hL⟩
  have hcS : Chg S w w' := hc.mono fun g _ hg => by
    rcases hg with rfl | hg
    · exact h5 _ (.inl rfl)
    · exact h5 _ (.inr ⟨j, hj, hg⟩)
  have hbl : Below n0 w w' := hc.below hn0 fun g hg => by
    rcases hg with rfl | hg
    · exact h1.base
    · exact (row_lt (h1.list j hj) hg).1
  have hx' : w'.ownsRow n0 (ety j) 1 (.slice A n cp) n cx := own_chg hx hcS (fun g hg hs => hG g hg (.inl hs))
  have hb2 := h1.add (w' := w') j hj (.slice A n cp) n cx L' hx' (fun g hg => ⟨(row_lt hx hg).2, fun hf => hG g hg (foot_or h5 h6 hf)⟩) ha hl hc hL
  refine ⟨rfl, ⟨_, _, _, _, _, hb2, fun q hq h0 h2' => ?_, fun q => ?_, fun q i hq hi => ?_, fun g hg => ?_, fun q i g hq hi hg => ?_⟩, hcS, hbl⟩
  · rw [turn_other _ _ _ _ (by omega)]; exact h2 q hq h0 h2'
  · by_cases e : q = j
    · subst e; rw [turn_same]; omega
    · rw [turn_other _ _ _ _ e]; have := h3 q; omega
  · by_cases e : q = j
    · subst e
      rw [turn_same] at hi ⊢
      by_cases e2 : i = k q
      · subst e2; rw [turn_same]; exact hn
      · rw [turn_other _ _ _ _ e2]; exact h4 q i hq (by omega)
    · rw [turn_other _ _ _ _ e] at hi ⊢
      exact h4 q i hq hi
  · rcases hg with rfl | ⟨q, hq, hg⟩
    · exact .inl (h5 _ (.inl rfl))
    · by_cases e : q = j
      · subst e
        rw [turn_same] at hg
        rcases hL g hg with h | h
        · exact .inl (h5 _ (.inr ⟨q, hq, h⟩))
        · exact .inr ⟨h, (row_lt hl hg).2⟩
      · rw [turn_other _ _ _ _ e] at hg
        exact .inl (h5 _ (.inr ⟨q, hq, hg⟩))
  · by_cases e : q = j
    · subst e
      rw [turn_same] at hi hg
      by_cases e2 : i = k q
      · subst e2; rw [turn_same] at hg; exact .inr hg
      · rw [turn_other _ _ _ _ e2] at hg; exact .inl (h6 q i g hq (by omega) hg)
    · rw [turn_other _ _ _ _ e] at hi hg
      exact .inl (h6 q i g hq hi hg)
theorem bytes_put {n0 : Nat} {w : World} {b K : Nat} {S R : Nat → Prop} (A : Option Addr) (n cp : Nat) (cx : List Value) (h : BookOk n0 w b K S R) (hx : w.ownsRow n0 5 1 (.slice A n cp) n cx) (hG : ∀ g, blk (.slice A n cp) g → ¬ (S g ∨ R g)) (hn : n ≤ 1000000000000) (hn0 : n0 ≤ w.heap.size) (hK : K < 1000000000000) :
    Calls Try.prog 65 #[.pointer (some ⟨b, 0, none⟩), .slice A n cp] w (BookPut n0 w b K S R (.slice A n cp)) :=
  book_put 0 (.inl rfl) A n cp cx h hx hG hn hn0 hK fun F k us h1 h2 h3 h4 => book_bytes n0 w b F k us A n cp h1 h2 h3 h4 hn0
theorem ints_put {n0 : Nat} {w : World} {b K : Nat} {S R : Nat → Prop} (A : Option Addr) (n cp : Nat) (cx : List Value) (h : BookOk n0 w b K S R) (hx : w.ownsRow n0 3 1 (.slice A n cp) n cx) (hG : ∀ g, blk (.slice A n cp) g → ¬ (S g ∨ R g)) (hn : n ≤ 1000000000000) (hn0 : n0 ≤ w.heap.size) (hK : K < 1000000000000) :
    Calls Try.prog 158 #[.pointer (some ⟨b, 0, none⟩), .slice A n cp] w (BookPut n0 w b K S R (.slice A n cp)) :=
  book_put 2 (.inr rfl) A n cp cx h hx hG hn hn0 hK fun F k us h1 h2 h3 h4 => book_ints n0 w b F k us A n cp h1 h2 h3 h4 hn0
theorem own_ok {n0 : Nat} {w : World} {b K : Nat} {S R : Nat → Prop} (h : BookOk n0 w b K S R) (hn0 : n0 ≤ w.heap.size) (hK : K ≤ 1000000000000) :
    Calls Try.prog 44 #[.pointer (some ⟨b, 0, none⟩)] w fun e w' => e = .returned (.bool true) ∧ Chg (fun g => S g ∨ R g) w w' ∧ Below n0 w w' := by
  obtain ⟨F, k, u, nn, c, h1, h2, h3, h4, h5, h6⟩ := h
  refine (book_own n0 w b F k u nn c h1 h2 (fun j => Nat.le_trans (h3 j) hK) h4 hn0).mono ?_
  rintro e w' ⟨rfl, hc⟩
  exact ⟨rfl, hc.mono fun g _ hg => foot_or h5 h6 hg, hc.below hn0 fun g hg => by obtain ⟨x, hx⟩ := hg; exact (h1.lt hx).1⟩
end Go.Proofs.Ytfbjjblgcgjndaa
