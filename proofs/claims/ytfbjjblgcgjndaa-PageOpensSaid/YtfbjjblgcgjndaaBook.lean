/- The book: lists that came out, each with memory of its own; it passes. -/
import Derived.Test.YtfbjjblgcgjndaaOwnB
import Derived.Test.YtfbjjblgcgjndaaOwnNil
import Derived.Test.YtfbjjblgcgjndaaOwnBools
set_option linter.unusedVariables false
set_option linter.unusedSimpArgs false
namespace Go.Proofs.Ytfbjjblgcgjndaa
open Go.RowKit

def nilV : Value := .slice none 0 0
/-- the book's block: a slice a field -/
def BookAt (w : World) (b : Nat) (F : Nat → Value) : Prop := w.heap[b]? = some (.cells (lst F 23).toArray 67 (0, 0))
theorem BookAt.cell {w : World} {b : Nat} {F : Nat → Value} (h : BookAt w b F) (i : Nat) (hi : i < 23) : w.cell? ⟨b, i, none⟩ = some (F i) := by
  rw [cell_of_row w b i _ 67 (0, 0) h]
  have := lst_get F 23 i hi
  simpa using this
theorem BookAt.frozen {w : World} {b : Nat} {F : Nat → Value} (h : BookAt w b F) (i : Nat) : w.frozen? ⟨b, i, none⟩ = false := frozen_of_row w b i _ 67 h
theorem BookAt.lt {w : World} {b : Nat} {F : Nat → Value} (h : BookAt w b F) : b < w.heap.size := (Array.getElem?_eq_some_iff.1 h).1
theorem lst_set (F : Nat → Value) (k i : Nat) (x : Value) : (lst F k).set i x = lst (turn F i x) k := by
  apply List.ext_getElem?
  intro q
  by_cases hq : q < k
  · rw [lst_get _ _ _ hq]
    by_cases e : q = i
    · subst e; rw [turn_same, List.getElem?_set_self (by rw [lst_length]; exact hq)]
    · rw [turn_other _ _ _ _ e, List.getElem?_set_ne (by omega), lst_get _ _ _ hq]
  · rw [List.getElem?_eq_none (by rw [List.length_set, lst_length]; omega), List.getElem?_eq_none (by rw [lst_length]; omega)]
theorem BookAt.set {w : World} {b : Nat} {F : Nat → Value} (h : BookAt w b F) (i : Nat) (x : Value) : BookAt (w.setCell ⟨b, i, none⟩ x) b (turn F i x) := by
  have := heap_setCell_same w b i _ 67 x h
  unfold BookAt
  rw [this, ← lst_set]
  simp
theorem BookAt.keep {w w' : World} {b : Nat} {F : Nat → Value} {G : Nat → Prop} (h : BookAt w b F) (hc : Chg G w w') (hG : ¬ G b) : BookAt w' b F := by
  unfold BookAt; rw [hc.block b h.lt hG]; exact h

/-- what a shelf's rows are made of, and the rows' own type -/
def ety : Nat → TypeId
  | 0 => 5
  | 2 => 3
  | 9 => 23
  | _ => 0
def sty : Nat → TypeId
  | 0 => 23
  | 2 => 86
  | 9 => 30
  | _ => 0
inductive Item where
  | book
  | list (j : Nat)
  | row (j i : Nat)
deriving DecidableEq
def Item.has (b : Nat) (F : Nat → Value) (live : Nat → Prop) (k : Nat → Nat) (u : Nat → Nat → Value) : Item → Nat → Prop
  | .book, g => g = b
  | .list j, g => live j ∧ blk (F j) g
  | .row j i, g => live j ∧ i < k j ∧ blk (u j i) g
structure Books (n0 : Nat) (w : World) (b : Nat) (F : Nat → Value) (live : Nat → Prop) (k : Nat → Nat) (u : Nat → Nat → Value) (n : Nat → Nat → Nat) (c : Nat → Nat → List Value) : Prop where
  at_ : BookAt w b F
  base : n0 ≤ b
  list : ∀ j, live j → w.ownsRow n0 (sty j) 1 (F j) (k j) (lst (u j) (k j))
  row : ∀ j i, live j → i < k j → w.ownsRow n0 (ety j) 1 (u j i) (n j i) (c j i)
  sep : ∀ x y, x ≠ y → ∀ g, Item.has b F live k u x g → ¬ Item.has b F live k u y g
def foot (b : Nat) (F : Nat → Value) (live : Nat → Prop) (k : Nat → Nat) (u : Nat → Nat → Value) (g : Nat) : Prop := ∃ x, Item.has b F live k u x g

section
variable {n0 : Nat} {w w' : World} {b : Nat} {F : Nat → Value} {live : Nat → Prop} {k : Nat → Nat} {u : Nat → Nat → Value} {n : Nat → Nat → Nat} {c : Nat → Nat → List Value}
theorem Books.lt (h : Books n0 w b F live k u n c) {x : Item} {g : Nat} (hx : Item.has b F live k u x g) : n0 ≤ g ∧ g < w.heap.size := by
  cases x with
  | book => obtain rfl : g = b := hx; exact ⟨h.base, h.at_.lt⟩
  | list j => exact row_lt (h.list j hx.1) hx.2
  | row j i => exact row_lt (h.row j i hx.1 hx.2.1) hx.2.2
theorem Books.keep {G : Nat → Prop} (h : Books n0 w b F live k u n c) (hc : Chg G w w') (hG : ∀ g, foot b F live k u g → ¬ G g) : Books n0 w' b F live k u n c :=
  ⟨h.at_.keep hc (hG b ⟨.book, rfl⟩), h.base, fun j hj => own_chg (h.list j hj) hc (fun g hg => hG g ⟨.list j, hj, hg⟩), fun j i hj hi => own_chg (h.row j i hj hi) hc (fun g hg => hG g ⟨.row j i, hj, hi, hg⟩), h.sep⟩
theorem Books.below (h : Books n0 w b F live k u n c) (hb : Below w.heap.size w w') : Books n0 w' b F live k u n c :=
  h.keep (G := fun _ => False) (.of_below hb) (fun _ _ h => h)
/-- a shelf is looked at no more -/
theorem Books.drop (h : Books n0 w b F live k u n c) {live' : Nat → Prop} (hl : ∀ j, live' j → live j) : Books n0 w b F live' k u n c :=
  have up : ∀ x g, Item.has b F live' k u x g → Item.has b F live k u x g := fun x g hx => by
    cases x with
    | book => exact hx
    | list j => exact ⟨hl j hx.1, hx.2⟩
    | row j i => exact ⟨hl j hx.1, hx.2⟩
  ⟨h.at_, h.base, fun j hj => h.list j (hl j hj), fun j i hj hi => h.row j i (hl j hj) hi, fun x y hxy g hx hy => h.sep x y hxy g (up x g hx) (up y g hy)⟩
/-- a list more on a shelf -/
theorem Books.add (h : Books n0 w b F live k u n c) (j : Nat) (hj : live j) (x : Value) (nx : Nat) (cx : List Value) (L' : Value) (hx : w'.ownsRow n0 (ety j) 1 x nx cx) (hfx : ∀ g, blk x g → g < w.heap.size ∧ ¬ foot b F live k u g)
    (ha : BookAt w' b (turn F j L')) (hl : w'.ownsRow n0 (sty j) 1 L' (k j + 1) (lst (u j) (k j) ++ [x])) (hc : Chg (fun g => g = b ∨ blk (F j) g) w w') (hL : ∀ g, blk L' g → blk (F j) g ∨ w.heap.size ≤ g) :
    Books n0 w' b (turn F j L') live (turn k j (k j + 1)) (turn u j (turn (u j) (k j) x)) (turn n j (turn (n j) (k j) nx)) (turn c j (turn (c j) (k j) cx)) := by
  have hlst : lst (turn (u j) (k j) x) (k j + 1) = lst (u j) (k j) ++ [x] := by
    rw [lst_succ, turn_same]
    congr 1
    exact lst_congr fun i hi => turn_other _ _ _ _ (by omega)
  have isRow : ∀ q i, live q → i < k q → ∀ g, blk (u q i) g → ¬ (g = b ∨ blk (F j) g) := by
    intro q i hq hi g hg h2
    rcases h2 with rfl | h2
    · exact h.sep (.row q i) .book (by simp) g ⟨hq, hi, hg⟩ rfl
    · exact h.sep (.row q i) (.list j) (by simp) g ⟨hq, hi, hg⟩ ⟨hj, h2⟩
  have isList : ∀ q, live q → q ≠ j → ∀ g, blk (F q) g → ¬ (g = b ∨ blk (F j) g) := by
    intro q hq hqj g hg h2
    rcases h2 with rfl | h2
    · exact h.sep (.list q) .book (by simp) g ⟨hq, hg⟩ rfl
    · exact h.sep (.list q) (.list j) (by simpa using hqj) g ⟨hq, hg⟩ ⟨hj, h2⟩
  -- what holds now, held before, or is the new list, or the list's new block
  have key : ∀ y g, Item.has b (turn F j L') live (turn k j (k j + 1)) (turn u j (turn (u j) (k j) x)) y g → (Item.has b F live k u y g) ∨ (y = .row j (k j) ∧ blk x g) ∨ (y = .list j ∧ w.heap.size ≤ g) := by
    intro y g hy
    cases y with
    | book => exact .inl hy
    | list q =>
      obtain ⟨h1, h2⟩ := hy
      by_cases e : q = j
      · subst e
        rw [turn_same] at h2
        rcases hL g h2 with h3 | h3
        · exact .inl ⟨h1, h3⟩
        · exact .inr (.inr ⟨rfl, h3⟩)
      · rw [turn_other _ _ _ _ e] at h2
        exact .inl ⟨h1, h2⟩
    | row q i =>
      obtain ⟨h1, h2, h3⟩ := hy
      by_cases e : q = j
      · subst e
        rw [turn_same] at h2 h3
        by_cases e2 : i = k q
        · subst e2
          rw [turn_same] at h3
          exact .inr (.inl ⟨rfl, h3⟩)
        · rw [turn_other _ _ _ _ e2] at h3
          exact .inl ⟨h1, by omega, h3⟩
      · rw [turn_other _ _ _ _ e] at h2 h3
        exact .inl ⟨h1, h2, h3⟩
  refine ⟨ha, h.base, fun q hq => ?_, fun q i hq hi => ?_, fun y z hyz g hy hz => ?_⟩
  · by_cases e : q = j
    · subst e
      rw [turn_same, turn_same, turn_same, hlst]; exact hl
    · rw [turn_other _ _ _ _ e, turn_other _ _ _ _ e, turn_other _ _ _ _ e]
      exact own_chg (h.list q hq) hc (isList q hq e)
  · by_cases e : q = j
    · subst e
      rw [turn_same] at hi
      rw [turn_same, turn_same, turn_same]
      by_cases e2 : i = k q
      · subst e2
        rw [turn_same, turn_same, turn_same]; exact hx
      · rw [turn_other _ _ _ _ e2, turn_other _ _ _ _ e2, turn_other _ _ _ _ e2]
        exact own_chg (h.row q i hq (by omega)) hc (isRow q i hq (by omega))
    · rw [turn_other _ _ _ _ e] at hi
      rw [turn_other _ _ _ _ e, turn_other _ _ _ _ e, turn_other _ _ _ _ e]
      exact own_chg (h.row q i hq hi) hc (isRow q i hq hi)
  · rcases key y g hy with h1 | ⟨rfl, h1⟩ | ⟨rfl, h1⟩ <;> rcases key z g hz with h2 | ⟨rfl, h2⟩ | ⟨rfl, h2⟩
    · exact h.sep y z hyz g h1 h2
    · exact (hfx g h2).2 ⟨y, h1⟩
    · have := (h.lt h1).2; omega
    · exact (hfx g h1).2 ⟨z, h2⟩
    · exact hyz rfl
    · have := (hfx g h1).1; omega
    · have := (h.lt h2).2; omega
    · have := (hfx g h2).1; omega
    · exact hyz rfl
/-- the shelf's rows, as own.. asks them -/
theorem Books.apart (h : Books n0 w b F live k u n c) (j : Nat) (hj : live j) (X : Nat → Prop) (hX : ∀ g, X g → g = b ∨ blk (F j) g) : Apart n0 (ety j) w (k j) (u j) (n j) (c j) X :=
  ⟨fun i hi => h.row j i hj hi, fun p q hp hq hpq g hg hg' => h.sep (.row j p) (.row j q) (by simpa using hpq) g ⟨hj, hp, hg⟩ ⟨hj, hq, hg'⟩, fun i hi g hg hx => by
    rcases hX g hx with rfl | h2
    · exact h.sep (.row j i) .book (by simp) g ⟨hj, hi, hg⟩ rfl
    · exact h.sep (.row j i) (.list j) (by simp) g ⟨hj, hi, hg⟩ ⟨hj, h2⟩⟩
end
end Go.Proofs.Ytfbjjblgcgjndaa
