/- Lists that came out, each with memory of its own: what writing and appending leaves of them. -/
import Derived.Test.YtfbjjblgcgjndaaFrame
set_option linter.unusedVariables false
set_option linter.unusedSimpArgs false
namespace Go.Proofs.Ytfbjjblgcgjndaa
open Go.RowKit

/-- a list by its places -/
def lst (f : Nat → Value) (n : Nat) : List Value := (List.range n).map f
theorem lst_length (f : Nat → Value) (n : Nat) : (lst f n).length = n := by simp [lst]
theorem lst_get (f : Nat → Value) (n k : Nat) (h : k < n) : (lst f n)[k]? = some (f k) := by simp [lst, h]
theorem lst_succ (f : Nat → Value) (n : Nat) : lst f (n + 1) = lst f n ++ [f n] := by simp [lst, List.range_succ]
theorem lst_congr {f g : Nat → Value} {n : Nat} (h : ∀ j, j < n → f j = g j) : lst f n = lst g n := List.map_congr_left fun j hj => h j (List.mem_range.1 hj)

/-- a list u that came out, and what it became, v: v's row is the call's own and holds c; u still reads c's first n -/
structure Held (n0 : Nat) (e : TypeId) (w : World) (u v : Value) (n m : Nat) (c : List Value) : Prop where
  own : w.ownsRow n0 e 1 v m c
  old : (u = .slice none 0 0 ∧ n = 0) ∨ ∃ g cap, u = .slice (some ⟨g, 0, none⟩) n cap ∧ n0 ≤ g ∧ g < w.heap.size ∧ w.rangeAt g 0 (c.take n)
  len : n ≤ m
def blk (v : Value) (g : Nat) : Prop := v.ownBlock = some g

theorem Held.start {n0 : Nat} {e : TypeId} {w : World} {u : Value} {n : Nat} {c : List Value} (h : w.ownsRow n0 e 1 u n c) : Held n0 e w u u n n c := by
  refine ⟨h, ?_, Nat.le_refl _⟩
  rcases h.2 with ⟨h1, h2⟩ | ⟨g, cap, cur, rfl, h1, h2, h3, h4, h5, h6⟩
  · exact .inl ⟨h1, h2⟩
  · refine .inr ⟨g, cap, rfl, h1, (Array.getElem?_eq_some_iff.1 h2).1, fun j x hx => ?_⟩
    rw [Nat.zero_add, cell_of_row w g j cur e (0, 0) h2]
    rw [← h6, List.getElem?_take] at hx
    split at hx
    · rw [List.getElem?_take] at hx
      split at hx
      · simpa using hx
      · cases hx
    · cases hx
theorem Held.keep {n0 : Nat} {e : TypeId} {w w' : World} {u v : Value} {n m : Nat} {c : List Value} {F : Nat → Prop} (h : Held n0 e w u v n m c) (hc : Chg F w w') (hF : ∀ g, blk u g ∨ blk v g → ¬ F g) : Held n0 e w' u v n m c := by
  refine ⟨own_chg h.own hc (fun g hg => hF g (.inr hg)), ?_, h.len⟩
  rcases h.old with h1 | ⟨g, cap, rfl, h1, h2, h3⟩
  · exact .inl h1
  · refine .inr ⟨g, cap, rfl, h1, Nat.lt_of_lt_of_le h2 hc.size, fun j x hx => ?_⟩
    exact hc.cell (h3 j x hx) (hF g (.inl rfl))
theorem Held.lt {n0 : Nat} {e : TypeId} {w : World} {u v : Value} {n m : Nat} {c : List Value} (h : Held n0 e w u v n m c) {g : Nat} (hg : blk u g ∨ blk v g) : n0 ≤ g ∧ g < w.heap.size := by
  rcases hg with hg | hg
  · rcases h.old with ⟨rfl, _⟩ | ⟨g', cap, rfl, h1, h2, _⟩
    · cases hg
    · cases hg; exact ⟨h1, h2⟩
  · exact row_lt h.own hg
theorem own_range {n0 : Nat} {e : TypeId} {w : World} {v : Value} {m g : Nat} {c : List Value} (h : w.ownsRow n0 e 1 v m c) (hg : blk v g) : w.rangeAt g 0 c := by
  intro j x hx
  rcases h.2 with ⟨rfl, _⟩ | ⟨g', cap, cur, rfl, h1, h2, h3, h4, h5, h6⟩
  · cases hg
  · cases hg
    rw [Nat.zero_add, cell_of_row w g' j cur e (0, 0) h2]
    rw [← h6, List.getElem?_take] at hx
    split at hx
    · simpa using hx
    · cases hx
/-- one more behind v -/
theorem Held.push {n0 : Nat} {e : TypeId} {w w' : World} {u v v' : Value} {n m k : Nat} {c xs : List Value} (h : Held n0 e w u v n m c) (ho : w'.ownsRow n0 e 1 v' (m + k) (c ++ xs))
    (hor : (w.grownBy w' v.ownBlock ∧ v'.ownBlock = v.ownBlock) ∨ (w.grownBy w' none ∧ ∃ g, v'.ownBlock = some g ∧ w.heap.size ≤ g)) : Held n0 e w' u v' n (m + k) (c ++ xs) := by
  have hcl : c.length = m := by simpa using h.own.1
  have htk : (c ++ xs).take n = c.take n := by rw [List.take_append_of_le_length (by have := h.len; omega)]
  refine ⟨ho, ?_, by have := h.len; omega⟩
  rcases h.old with h1 | ⟨g, cap, rfl, h1, h2, h3⟩
  · exact .inl h1
  · refine .inr ⟨g, cap, rfl, h1, ?_, ?_⟩
    · rcases hor with ⟨a, _⟩ | ⟨a, _⟩
      · exact Nat.lt_of_lt_of_le h2 a.size
      · exact Nat.lt_of_lt_of_le h2 a.size
    · by_cases hs : blk v g ∧ blk v' g
      · have := own_range ho hs.2
        intro j x hx
        refine this j x ?_
        rw [List.getElem?_take] at hx
        split at hx
        · exact hx
        · cases hx
      · rw [htk]
        intro j x hx
        rcases hor with ⟨a, b⟩ | ⟨a, _⟩
        · have hne : ¬ blk v g := fun hv => hs ⟨hv, by unfold blk; rw [b]; exact hv⟩
          exact a.cell (h3 j x hx) (fun e => hne e.symm)
        · exact a.cell (h3 j x hx) (by simp)
theorem push_chg {w w' : World} {v v' : Value} (hor : (w.grownBy w' v.ownBlock ∧ v'.ownBlock = v.ownBlock) ∨ (w.grownBy w' none ∧ ∃ g, v'.ownBlock = some g ∧ w.heap.size ≤ g)) : Chg (blk v) w w' := by
  rcases hor with ⟨a, _⟩ | ⟨a, _⟩
  · exact .of_grown a (fun g hg => hg)
  · exact .of_grown a (fun g hg => by cases hg)
theorem push_blk {w w' : World} {v v' : Value} (hor : (w.grownBy w' v.ownBlock ∧ v'.ownBlock = v.ownBlock) ∨ (w.grownBy w' none ∧ ∃ g, v'.ownBlock = some g ∧ w.heap.size ≤ g)) {g : Nat} (hg : blk v' g) : blk v g ∨ w.heap.size ≤ g := by
  rcases hor with ⟨_, b⟩ | ⟨_, g', b, hb⟩
  · exact .inl (by unfold blk at hg ⊢; rw [← b]; exact hg)
  · unfold blk at hg; rw [b] at hg; cases hg; exact .inr hb

/-- many of them, apart from each other and from what is shut out -/
structure Many (n0 B : Nat) (e : TypeId) (w : World) (M : Nat) (u v : Nat → Value) (n m : Nat → Nat) (c : Nat → List Value) (X : Nat → Prop) : Prop where
  held : ∀ i, i < M → Held n0 e w (u i) (v i) (n i) (m i) (c i)
  apart : ∀ i j, i < M → j < M → i ≠ j → ∀ g, blk (u i) g ∨ blk (v i) g → ¬ (blk (u j) g ∨ blk (v j) g)
  out : ∀ i, i < M → ∀ g, blk (u i) g ∨ blk (v i) g → ¬ X g
  new : ∀ i, i < M → ∀ g, blk (v i) g → blk (u i) g ∨ B ≤ g
/-- a function with one place turned -/
def turn {α : Type} (f : Nat → α) (i : Nat) (x : α) : Nat → α := fun j => if j = i then x else f j
theorem turn_same {α : Type} (f : Nat → α) (i : Nat) (x : α) : turn f i x i = x := by simp [turn]
theorem turn_other {α : Type} (f : Nat → α) (i j : Nat) (x : α) (h : j ≠ i) : turn f i x j = f j := by simp [turn, h]

theorem Many.keep {n0 B : Nat} {e : TypeId} {w w' : World} {M : Nat} {u v : Nat → Value} {n m : Nat → Nat} {c : Nat → List Value} {X F : Nat → Prop} (h : Many n0 B e w M u v n m c X) (hc : Chg F w w') (hF : ∀ g, g < w.heap.size → F g → X g) : Many n0 B e w' M u v n m c X :=
  ⟨fun i hi => (h.held i hi).keep hc (fun g hg hg' => h.out i hi g hg (hF g ((h.held i hi).lt hg).2 hg')), h.apart, h.out, h.new⟩
theorem Many.shut {n0 B : Nat} {e : TypeId} {w : World} {M : Nat} {u v : Nat → Value} {n m : Nat → Nat} {c : Nat → List Value} {X Y : Nat → Prop} (h : Many n0 B e w M u v n m c X) (hY : ∀ g, g < w.heap.size → Y g → X g) : Many n0 B e w M u v n m c Y :=
  ⟨h.held, h.apart, fun i hi g hg hY' => h.out i hi g hg (hY g ((h.held i hi).lt hg).2 hY'), h.new⟩
/-- one of them grows -/
theorem Many.push {n0 B : Nat} {e : TypeId} {w w' : World} {M : Nat} {u v : Nat → Value} {n m : Nat → Nat} {c : Nat → List Value} {X : Nat → Prop} (h : Many n0 B e w M u v n m c X) (hX : ∀ g, X g → g < w.heap.size) (hB : B ≤ w.heap.size) (i : Nat) (hi : i < M) {v' : Value} {k : Nat} {xs : List Value} (ho : w'.ownsRow n0 e 1 v' (m i + k) (c i ++ xs))
    (hor : (w.grownBy w' (v i).ownBlock ∧ v'.ownBlock = (v i).ownBlock) ∨ (w.grownBy w' none ∧ ∃ g, v'.ownBlock = some g ∧ w.heap.size ≤ g)) :
    Many n0 B e w' M u (turn v i v') n (turn m i (m i + k)) (turn c i (c i ++ xs)) X := by
  have hch := push_chg hor
  refine ⟨fun j hj => ?_, fun j l hj hl hjl g hg => ?_, fun j hj g hg => ?_, fun j hj g hg => ?_⟩
  · by_cases e1 : j = i
    · subst e1
      rw [turn_same, turn_same, turn_same]
      exact (h.held j hj).push ho hor
    · rw [turn_other _ _ _ _ e1, turn_other _ _ _ _ e1, turn_other _ _ _ _ e1]
      exact (h.held j hj).keep hch (fun g hg hg' => h.apart j i hj hi e1 g hg (.inr hg'))
  · have key : ∀ p, p < M → p ≠ i → ∀ g, blk (u p) g ∨ blk (v p) g → ¬ (blk (u i) g ∨ blk v' g) := by
      intro p hp hpi g hg hg'
      rcases hg' with hg' | hg'
      · exact h.apart p i hp hi hpi g hg (.inl hg')
      · rcases push_blk hor hg' with h1 | h1
        · exact h.apart p i hp hi hpi g hg (.inr h1)
        · have := ((h.held p hp).lt hg).2; omega
    by_cases e1 : j = i
    · subst e1
      rw [turn_same] at hg
      rw [turn_other _ _ _ _ (Ne.symm hjl)]
      exact fun hg' => key l hl (Ne.symm hjl) g hg' hg
    · rw [turn_other _ _ _ _ e1] at hg
      by_cases e2 : l = i
      · subst e2
        rw [turn_same]
        exact key j hj e1 g hg
      · rw [turn_other _ _ _ _ e2]
        exact h.apart j l hj hl hjl g hg
  · by_cases e1 : j = i
    · subst e1
      rw [turn_same] at hg
      rcases hg with hg | hg
      · exact h.out j hj g (.inl hg)
      · rcases push_blk hor hg with h1 | h1
        · exact h.out j hj g (.inr h1)
        · exact fun hx => by have := hX g hx; omega
    · rw [turn_other _ _ _ _ e1] at hg
      exact h.out j hj g hg
  · by_cases e1 : j = i
    · subst e1
      rw [turn_same] at hg
      rcases push_blk hor hg with h1 | h1
      · exact h.new j hj g h1
      · exact .inr (Nat.le_trans hB h1)
    · rw [turn_other _ _ _ _ e1] at hg
      exact h.new j hj g hg

/-- before any grew: all are as they came out -/
structure Apart (n0 : Nat) (e : TypeId) (w : World) (M : Nat) (u : Nat → Value) (n : Nat → Nat) (c : Nat → List Value) (X : Nat → Prop) : Prop where
  own : ∀ i, i < M → w.ownsRow n0 e 1 (u i) (n i) (c i)
  apart : ∀ i j, i < M → j < M → i ≠ j → ∀ g, blk (u i) g → ¬ blk (u j) g
  out : ∀ i, i < M → ∀ g, blk (u i) g → ¬ X g
theorem Apart.many {n0 B : Nat} {e : TypeId} {w : World} {M : Nat} {u : Nat → Value} {n : Nat → Nat} {c : Nat → List Value} {X : Nat → Prop} (h : Apart n0 e w M u n c X) : Many n0 B e w M u u n n c X :=
  ⟨fun i hi => .start (h.own i hi), fun i j hi hj hij g hg hg' => by simp only [or_self] at hg hg'; exact h.apart i j hi hj hij g hg hg', fun i hi g hg => by simp only [or_self] at hg; exact h.out i hi g hg, fun i hi g hg => .inl hg⟩
theorem Apart.keep {n0 : Nat} {e : TypeId} {w w' : World} {M : Nat} {u : Nat → Value} {n : Nat → Nat} {c : Nat → List Value} {X F : Nat → Prop} (h : Apart n0 e w M u n c X) (hc : Chg F w w') (hF : ∀ g, g < w.heap.size → F g → X g) : Apart n0 e w' M u n c X :=
  ⟨fun i hi => own_chg (h.own i hi) hc (fun g hg hg' => h.out i hi g hg (hF g (row_lt (h.own i hi) hg).2 hg')), h.apart, h.out⟩
theorem setCell_chg (w : World) (g k : Nat) (v : Value) : Chg (fun x => x = g) w (w.setCell ⟨g, k, none⟩ v) := (Chg.refl _ w).setCell _ _ (.inl rfl)
/-- one is written -/
theorem Apart.store {n0 : Nat} {e : TypeId} {w : World} {M : Nat} {u : Nat → Value} {n : Nat → Nat} {c : Nat → List Value} {X : Nat → Prop} (h : Apart n0 e w M u n c X) (i : Nat) (hi : i < M) {g cap : Nat} (hu : u i = .slice (some ⟨g, 0, none⟩) (n i) cap) (k : Nat) (x : Value) :
    Apart n0 e (w.setCell ⟨g, k, none⟩ x) M u n (turn c i ((c i).set k x)) X := by
  refine ⟨fun j hj => ?_, h.apart, h.out⟩
  by_cases e1 : j = i
  · subst e1
    rw [turn_same]
    have := h.own j hj
    rw [hu] at this ⊢
    exact (this.stored k x).1
  · rw [turn_other _ _ _ _ e1]
    exact own_chg (h.own j hj) (setCell_chg w g k x) (fun g' hg' e => h.apart j i hj hi e1 g' hg' (by rw [hu]; subst e; rfl))

theorem own_unique {w : World} {b b' : Nat} {e : TypeId} {size n : Nat} {v : Value} {xs ys : List Value} (h : w.ownsRow b e size v n xs) (k : w.ownsRow b' e size v n ys) : xs = ys := by
  rcases h.2 with ⟨rfl, rfl⟩ | ⟨g, cap, cur, rfl, h1, h2, h3, h4, h5, h6⟩
  · have e1 : xs = [] := List.eq_nil_of_length_eq_zero (by simpa using h.1)
    have e2 : ys = [] := List.eq_nil_of_length_eq_zero (by simpa using k.1)
    rw [e1, e2]
  · rcases k.2 with ⟨e, _⟩ | ⟨g', cap', cur', e, k1, k2, k3, k4, k5, k6⟩
    · cases e
    · cases e
      rw [h2] at k2
      cases k2
      rw [← h6, ← k6]
/-- the values' forms, and their cells -/
theorem Held.form {n0 : Nat} {e : TypeId} {w : World} {u v : Value} {n m : Nat} {c : List Value} (h : Held n0 e w u v n m c) : ∃ U cap, u = .slice U n cap ∧ ∀ k, k < n → ∃ g, U = some ⟨g, 0, none⟩ ∧ w.cell? ⟨g, k, none⟩ = c[k]? := by
  have hcl : c.length = m := by simpa using h.own.1
  rcases h.old with ⟨rfl, rfl⟩ | ⟨g, cap, rfl, h1, h2, h3⟩
  · exact ⟨none, 0, rfl, fun k hk => by omega⟩
  · refine ⟨_, cap, rfl, fun k hk => ⟨g, rfl, ?_⟩⟩
    have hk2 : k < c.length := by have := h.len; omega
    have h4 : (c.take n)[k]? = some c[k] := by rw [List.getElem?_take, if_pos hk, List.getElem?_eq_getElem hk2]
    have := h3 k _ h4
    rw [Nat.zero_add] at this
    rw [this, List.getElem?_eq_getElem hk2]
theorem own_cells {n0 : Nat} {e : TypeId} {w : World} {v : Value} {m : Nat} {c : List Value} (h : w.ownsRow n0 e 1 v m c) : ∃ V cap, v = .slice V m cap ∧ ∀ k, k < m → ∃ g, V = some ⟨g, 0, none⟩ ∧ w.cell? ⟨g, k, none⟩ = c[k]? ∧ w.frozen? ⟨g, k, none⟩ = false := by
  have hcl : c.length = m := by simpa using h.1
  rcases h.2 with ⟨rfl, rfl⟩ | ⟨g, cap, cur, rfl, h1, h2, h3, h4, h5, h6⟩
  · exact ⟨none, 0, rfl, fun k hk => by omega⟩
  · refine ⟨_, cap, rfl, fun k hk => ⟨g, rfl, ?_, frozen_of_row w g k cur e h2⟩⟩
    rw [cell_of_row w g k cur e (0, 0) h2]
    rw [← h6, List.getElem?_take, if_pos (by omega)]
    simp
end Go.Proofs.Ytfbjjblgcgjndaa
