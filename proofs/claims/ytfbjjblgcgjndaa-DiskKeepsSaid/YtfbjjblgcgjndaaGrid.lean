/- A list of byte lists that a law keeps beside a disk; what is set in it step by step. -/
import Derived.Test.YtfbjjblgcgjndaaDiskH
import Derived.Test.YtfbjjblgcgjndaaDiskPlain3
set_option linter.unusedVariables false
set_option linter.unusedSimpArgs false
namespace Go.Proofs.Ytfbjjblgcgjndaa
open Go.RowKit

theorem getD_set7 {α : Type} (l : List α) (i j : Nat) (x d : α) : (l.set i x).getD j d = if j = i ∧ i < l.length then x else l.getD j d := by
  rw [List.getD_eq_getElem?_getD, List.getD_eq_getElem?_getD, List.getElem?_set]
  by_cases h : i = j
  · subst h
    by_cases h2 : i < l.length
    · simp [h2]
    · simp [h2]
  · rw [if_neg h, if_neg (fun e => h e.1.symm)]
theorem keeps_step (Z : List (List Nat)) (c : List (Nat × List Nat)) (a : Nat) (b : List Nat) (K : Nat → Bool) (k : Nat) :
    settled Z (c ++ puts a b (k + 1)) K (c.length + (k + 1)) = if K (c.length + k) = true then (settled Z (c ++ puts a b k) K (c.length + k)).set (a + k) ((b.drop (128 * k)).take 128) else settled Z (c ++ puts a b k) K (c.length + k) := by
  have hl : (c ++ puts a b k).length = c.length + k := by rw [List.length_append, puts_length]
  have := settled_snoc Z (c ++ puts a b k) (a + k, (b.drop (128 * k)).take 128) K
  rw [hl] at this
  rw [puts, ← List.append_assoc, show c.length + (k + 1) = c.length + k + 1 by omega, this]
theorem part_rep (y n k : Nat) (h : 128 * (k + 1) ≤ n) : ((List.replicate n y).drop (128 * k)).take 128 = List.replicate 128 y := by
  rw [List.drop_replicate, List.take_replicate, show min 128 (n - 128 * k) = 128 by omega]

/-- rows of bytes behind a block of slices; all of it lies in X -/
structure Grid (n0 : Nat) (w : World) (g : Nat) (L : List (List Nat)) (X : Nat → Prop) : Prop where
  rows : ∃ F, RecAt w g 23 L.length F ∧ ∀ i, i < L.length → ∃ A c, F i = .slice A (L.getD i []).length c ∧ At w A (ns .u8 (L.getD i [])) ∧ ∀ a, A = some a → X a.block ∧ a.block ≠ g
  here : X g
  lt : ∀ x, X x → n0 ≤ x ∧ x < w.heap.size
theorem Grid.keep {n0 : Nat} {w w' : World} {g : Nat} {L : List (List Nat)} {X G : Nat → Prop} (h : Grid n0 w g L X) (hc : Chg G w w') (hG : ∀ x, X x → ¬ G x) : Grid n0 w' g L X := by
  obtain ⟨F, h1, h2⟩ := h.rows
  exact ⟨⟨F, h1.keep hc (hG g h.here), fun i hi => by
    obtain ⟨A, c, e, hA, hx⟩ := h2 i hi
    exact ⟨A, c, e, hA.chg hc (fun a ha => hG _ (hx a ha).1), hx⟩⟩, h.here, fun x hx => ⟨(h.lt x hx).1, Nat.lt_of_lt_of_le (h.lt x hx).2 hc.size⟩⟩
theorem Grid.below {n0 : Nat} {w w' : World} {g : Nat} {L : List (List Nat)} {X : Nat → Prop} (h : Grid n0 w g L X) (hb : Below w.heap.size w w') : Grid n0 w' g L X :=
  h.keep (G := fun _ => False) (.of_below hb) (fun _ _ h => h)
theorem Grid.cell {n0 : Nat} {w : World} {g : Nat} {L : List (List Nat)} {X : Nat → Prop} (h : Grid n0 w g L X) (i : Nat) (hi : i < L.length) : ∃ A c, w.cell? ⟨g, i, none⟩ = some (.slice A (L.getD i []).length c) ∧ At w A (ns .u8 (L.getD i [])) := by
  obtain ⟨F, h1, h2⟩ := h.rows
  obtain ⟨A, c, e, hA, _⟩ := h2 i hi
  exact ⟨A, c, by rw [← e]; exact h1.cell i hi, hA⟩
theorem Grid.frozen {n0 : Nat} {w : World} {g : Nat} {L : List (List Nat)} {X : Nat → Prop} (h : Grid n0 w g L X) (i : Nat) : w.frozen? ⟨g, i, none⟩ = false := by
  obtain ⟨F, h1, h2⟩ := h.rows
  exact h1.frozen i
/-- what a row adds -/
def With (X : Nat → Prop) (v : Value) (x : Nat) : Prop := X x ∨ blk v x
theorem Grid.set {n0 n : Nat} {w : World} {g : Nat} {L : List (List Nat)} {X : Nat → Prop} {A : Option Addr} {c : Nat} {s : List Nat} (h : Grid n0 w g L X) (i : Nat) (hi : i < L.length) (hv : Buf n0 w (.slice A n c) s) (hg : ∀ x, blk (.slice A n c) x → x ≠ g) :
    Grid n0 (w.setCell ⟨g, i, none⟩ (.slice A n c)) g (L.set i s) (With X (.slice A n c)) ∧ Chg (fun x => x = g) w (w.setCell ⟨g, i, none⟩ (.slice A n c)) := by
  have hc := setCell_chg w g i (.slice A n c)
  obtain ⟨F, h1, h2⟩ := h.rows
  obtain ⟨hn, hA⟩ := buf_at hv
  refine ⟨⟨⟨turn F i (.slice A n c), ?_, fun j hj => ?_⟩, .inl h.here, fun x hx => ?_⟩, hc⟩
  · rw [List.length_set]; exact h1.set i _
  · rw [List.length_set] at hj
    rw [getD_set7]
    by_cases e : j = i
    · subst e
      rw [turn_same, if_pos ⟨rfl, hi⟩, ← hn]
      refine ⟨A, c, rfl, hA.chg hc (fun a ha e => hg a.block (by rw [ha]; rfl) e), fun a ha => ⟨.inr (by rw [ha]; rfl), hg a.block (by rw [ha]; rfl)⟩⟩
    · rw [turn_other _ _ _ _ e, if_neg (fun h => e h.1)]
      obtain ⟨B, d, e1, hB, hx⟩ := h2 j hj
      exact ⟨B, d, e1, hB.chg hc (fun a ha e => (hx a ha).2 e), fun a ha => ⟨.inl (hx a ha).1, (hx a ha).2⟩⟩
  · rcases hx with hx | hx
    · exact ⟨(h.lt x hx).1, Nat.lt_of_lt_of_le (h.lt x hx).2 hc.size⟩
    · exact ⟨(row_lt hv hx).1, Nat.lt_of_lt_of_le (row_lt hv hx).2 hc.size⟩
theorem Grid.made {n0 N : Nat} {w w' : World} (hn : n0 ≤ w.heap.size) (ho : w'.ownsRow w.heap.size 23 1 (.slice (some ⟨w.heap.size, 0, none⟩) N N) N (madeCells (Value.slice none 0 0).cells (N * 1)).toList) : Grid n0 w' w.heap.size (List.replicate N []) (fun x => x = w.heap.size) := by
  have h1 := own_full ho
  have hc : (madeCells (Value.slice none 0 0).cells (N * 1)).toList.toArray = (lst (fun _ => .slice none 0 0) N).toArray := by
    apply Array.ext
    · simp [lst_length, size_madeCells]
    · intro i hi1 hi2
      have hi : i < N := by simpa [size_madeCells] using hi1
      simp [madeCells, lst, Value.cells, Nat.mod_one]
  refine ⟨⟨fun _ => .slice none 0 0, RecAt.of (by rw [h1, hc]) (by rw [List.length_replicate]), fun i hi => ⟨none, 0, ?_, ?_, fun a ha => by cases ha⟩⟩, rfl, fun x hx => ?_⟩
  · simp [List.getD_eq_getElem?_getD, List.getElem?_replicate]
    split <;> simp
  · have : (List.replicate N ([] : List Nat)).getD i [] = [] := by
      simp [List.getD_eq_getElem?_getD, List.getElem?_replicate]
      split <;> simp
    rw [this]; exact At.nil _ _
  · rw [show x = w.heap.size from hx]
    exact ⟨hn, (Array.getElem?_eq_some_iff.1 h1).1⟩
theorem grid_all {L : List (List Nat)} {n : Nat} {s : List Nat} (hL : L.length = n) (h : ∀ j, j < n → L.getD j [] = s) : L = List.replicate n s := by
  apply List.ext_getElem
  · rw [hL, List.length_replicate]
  · intro i h1 h2
    have := h i (by omega)
    rw [List.getD_eq_getElem?_getD, List.getElem?_eq_getElem h1] at this
    simpa using this
end Go.Proofs.Ytfbjjblgcgjndaa
