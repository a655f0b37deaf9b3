/- Joined texts: RDisk7, Grid, RDisk9, RDisk10, RDisk12, RDisk8, RDisk12b, RDisk13, RDisk14, Str, Pool3, Pool4, Step, Pool5. -/
import Derived.Laws.BytesArg
import Derived.Lib.LazyBuf
import Derived.Deep.QuietTactic
import Derived.BigQuiet
import Derived.Test.YtfbjjblgcgjndaaGreatPz1
import Derived.Test.YtfbjjblgcgjndaaGreatPz2
import Derived.Test.YtfbjjblgcgjndaaGreatPz3
import Derived.Test.YtfbjjblgcgjndaaGreatPz4
set_option linter.unusedVariables false
set_option linter.unusedSimpArgs false

/- Contracts of the reference disk's Sync and Cut. -/
namespace Go.Proofs.YtfbjjblgcgjndaaGreat
open Go.RowKit

/-- a write is laid -/
theorem RDiskIn.lay {n0 : Nat} {w : World} {p : Nat} {D : Dsk} {q : RParts} {Y : Nat → Prop} (h : RDiskIn n0 w p D q Y) {g cap : Nat} (hL : q.L = .slice (some ⟨g, 0, none⟩) D.last.length cap) (i : Nat) (hi : i < D.last.length) (v : Value) (s : List Nat) (hv : RowIn w Y v s) :
    RDiskIn n0 (w.setCell ⟨g, i, none⟩ v) p { D with last := D.last.set i s } { q with F := turn q.F i v } Y ∧ Chg (blk q.L) w (w.setCell ⟨g, i, none⟩ v) := by
  obtain ⟨s1, s2, s3, s4, s5⟩ := h.sep
  have hbL : blk q.L g := by rw [hL]; rfl
  have hc : Chg (blk q.L) w (w.setCell ⟨g, i, none⟩ v) := (setCell_chg w g i v).mono (fun j _ e => by rw [show j = g from e]; exact hbL)
  have hY : ∀ x, Y x → ¬ blk q.L x := fun x hx e => h.apart x hx (.inr (.inl e))
  refine ⟨⟨?_, ?_, fun j hj => ?_, own_chg h.cache hc (fun x hx e => (s4 x e).1 hx), fun j hj => (h.crows j hj).keep hc hY, own_chg h.faults hc (fun x hx e => (s4 x e).2 hx), h.base, h.sep, h.apart, fun x hx => ⟨(h.lt x hx).1, Nat.lt_of_lt_of_le (h.lt x hx).2 hc.size⟩⟩, hc⟩
  · exact h.rcd.keep hc s1
  · have h1 := h.last
    rw [hL] at h1
    have h2 := (h1.stored i v).1
    rw [lst_put] at h2
    simp only [List.length_set]
    rw [hL]; exact h2
  · simp only [List.length_set] at hj
    show RowIn _ Y (turn q.F i v j) ((D.last.set i s).getD j [])
    by_cases e : j = i
    · subst e
      rw [turn_same, List.getD_eq_getElem?_getD, List.getElem?_set_self hi]
      exact hv.keep hc hY
    · rw [turn_other _ _ _ _ e, List.getD_eq_getElem?_getD, List.getElem?_set_ne (Ne.symm e), ← List.getD_eq_getElem?_getD]
      exact (h.rows j hj).keep hc hY
/-- the cache is thrown away -/
theorem RDiskIn.drop {n0 : Nat} {w : World} {p : Nat} {D : Dsk} {q : RParts} {Y : Nat → Prop} (h : RDiskIn n0 w p D q Y) :
    RDiskIn n0 (w.setCell ⟨p, 1, none⟩ (.slice none 0 0)) p { D with cache := [] } { q with C := .slice none 0 0 } Y := by
  obtain ⟨s1, s2, s3, s4, s5⟩ := h.sep
  have hc := setCell_chg w p 1 (.slice none 0 0)
  have hY : ∀ x, Y x → ¬ x = p := fun x hx e => h.apart x hx (.inl e)
  have hnb : ∀ x, ¬ blk (Value.slice none 0 0) x := fun x e => by cases e
  refine ⟨(h.rcd.set 1 _).congr (all8 rfl rfl rfl rfl rfl rfl rfl rfl), own_chg h.last hc (fun x hx e => s1 (by rw [← show x = p from e]; exact hx)), fun j hj => (h.rows j hj).keep hc hY, World.ownsRow_nil _ _ _ _, fun j hj => by simp at hj, own_chg h.faults hc (fun x hx e => s3 (by rw [← show x = p from e]; exact hx)), h.base,
    ⟨s1, hnb p, s3, fun x hx => ⟨hnb x, (s4 x hx).2⟩, fun x hx => absurd hx (hnb x)⟩, fun x hx e => ?_, fun x hx => ⟨(h.lt x hx).1, Nat.lt_of_lt_of_le (h.lt x hx).2 hc.size⟩⟩
  rcases e with e | e | e | e
  · exact h.apart x hx (.inl e)
  · exact h.apart x hx (.inr (.inl e))
  · exact hnb x e
  · exact h.apart x hx (.inr (.inr (.inr e)))
/-- new faults -/
theorem RDiskIn.fresh {n0 : Nat} {w : World} {p : Nat} {D : Dsk} {q : RParts} {Y : Nat → Prop} (h : RDiskIn n0 w p D q Y) (hn : n0 ≤ w.heap.size) (f : Nat → Int) :
    RDiskIn n0 ((w.alloc (.cells #[.int .i64 (f 0), .int .i64 (f 1), .int .i64 (f 2), .int .i64 (f 3)] 3)).setCell ⟨p, 4, none⟩ (.slice (some ⟨w.heap.size, 0, none⟩) 4 4)) p { D with f := f } { q with V := .slice (some ⟨w.heap.size, 0, none⟩) 4 4 } Y := by
  obtain ⟨s1, s2, s3, s4, s5⟩ := h.sep
  have hlt := h.rcd.lt
  obtain ⟨w1, hw1⟩ : ∃ w1, w1 = w.alloc (.cells #[.int .i64 (f 0), .int .i64 (f 1), .int .i64 (f 2), .int .i64 (f 3)] 3) := ⟨_, rfl⟩
  have hb : Below w.heap.size w w1 := by rw [hw1]; exact below_alloc0 (Below.refl _ _) _
  have hnew : w1.heap[w.heap.size]? = some (.cells #[.int .i64 (f 0), .int .i64 (f 1), .int .i64 (f 2), .int .i64 (f 3)] 3 (0, 0)) := by rw [hw1]; exact heap_alloc_new w _
  have h1 := h.below hb
  rw [← hw1]
  have hc := setCell_chg w1 p 4 (.slice (some ⟨w.heap.size, 0, none⟩) 4 4)
  have hY : ∀ x, Y x → ¬ x = p := fun x hx e => h.apart x hx (.inl e)
  have hV : ∀ x, blk (Value.slice (some ⟨w.heap.size, 0, none⟩) 4 4) x → x = w.heap.size := fun x hx => by cases hx; rfl
  have hLlt : ∀ x, blk q.L x → x < w.heap.size := fun x hx => (row_lt h.last hx).2
  have hClt : ∀ x, blk q.C x → x < w.heap.size := fun x hx => (row_lt h.cache hx).2
  refine ⟨(h1.rcd.set 4 _).congr (all8 rfl rfl rfl rfl rfl rfl rfl rfl), own_chg h1.last hc (fun x hx e => s1 (by rw [← show x = p from e]; exact hx)), fun j hj => (h1.rows j hj).keep hc hY, own_chg h1.cache hc (fun x hx e => s2 (by rw [← show x = p from e]; exact hx)), fun j hj => (h1.crows j hj).keep hc hY, ?_, h.base,
    ⟨s1, s2, fun e => by have := hV p e; omega, fun x hx => ⟨(s4 x hx).1, fun e => by have := hV x e; have := hLlt x hx; omega⟩, fun x hx e => by have := hV x e; have := hClt x hx; omega⟩, fun x hx e => ?_, fun x hx => ⟨(h.lt x hx).1, Nat.lt_of_lt_of_le (h1.lt x hx).2 hc.size⟩⟩
  · have : w1.ownsRow n0 3 1 (.slice (some ⟨w.heap.size, 0, none⟩) 4 4) 4 (fourF { D with f := f }) := ⟨rfl, .inr ⟨w.heap.size, 4, _, rfl, hn, hnew, Nat.le_refl _, by simp only [maxLen]; omega, rfl, rfl⟩⟩
    exact own_chg this hc (fun x hx e => by have := hV x hx; have := show x = p from e; omega)
  · rcases e with e | e | e | e
    · exact h.apart x hx (.inl e)
    · exact h.apart x hx (.inr (.inl e))
    · exact h.apart x hx (.inr (.inr (.inl e)))
    · have := hV x e; have := (h.lt x hx).2; omega
def RLaid (n0 : Nat) (w wr : World) (p : Nat) (D : Dsk) (q : RParts) (Y : Nat → Prop) (kept : Nat → Bool) (j : Nat) : Prop :=
  ∃ F, RDiskIn n0 wr p (D.laid kept j) { q with F := F } Y ∧ Chg (blk q.L) w wr
end Go.Proofs.YtfbjjblgcgjndaaGreat

/- A list of byte lists that a law keeps beside a disk; what is set in it step by step. -/
namespace Go.Proofs.YtfbjjblgcgjndaaGreat
open Go.RowKit

theorem getD_set7 {α : Type} (l : List α) (i j : Nat) (x d : α) : (l.set i x).getD j d = if j = i ∧ i < l.length then x else l.getD j d := by
  rw [List.getD_eq_getElem?_getD, List.getD_eq_getElem?_getD, List.getElem?_set]
  by_cases h : i = j
  · subst h
    by_cases h2 : i < l.length
    · simp [h2]
    · simp [h2]
  · rw [if_neg h, if_neg (fun e => h e.1.symm)]
theorem keeps_step (Z : List (List Nat)) (c : List (Nat × List Nat)) (a : Nat) (b : List Nat) (K : Nat → Bool) (k : Nat) :
    settled Z (c ++ puts a b (k + 1)) K (c.length + (k + 1)) = if K (c.length + k) = true then (settled Z (c ++ puts a b k) K (c.length + k)).set (a + k) ((b.drop (128 * k)).take 128) else settled Z (c ++ puts a b k) K (c.length + k) := by
  have hl : (c ++ puts a b k).length = c.length + k := by rw [List.length_append, puts_length]
  have := settled_snoc Z (c ++ puts a b k) (a + k, (b.drop (128 * k)).take 128) K
  rw [hl] at this
  rw [puts, ← List.append_assoc, show c.length + (k + 1) = c.length + k + 1 by omega, this]
theorem part_rep (y n k : Nat) (h : 128 * (k + 1) ≤ n) : ((List.replicate n y).drop (128 * k)).take 128 = List.replicate 128 y := by
  rw [List.drop_replicate, List.take_replicate, show min 128 (n - 128 * k) = 128 by omega]

/-- rows of bytes behind a block of slices; all of it lies in X -/
structure Grid (n0 : Nat) (w : World) (g : Nat) (L : List (List Nat)) (X : Nat → Prop) : Prop where
  rows : ∃ F, RecAt w g 22 L.length F ∧ ∀ i, i < L.length → ∃ A c, F i = .slice A (L.getD i []).length c ∧ At w A (ns .u8 (L.getD i [])) ∧ ∀ a, A = some a → X a.block ∧ a.block ≠ g
  here : X g
  lt : ∀ x, X x → n0 ≤ x ∧ x < w.heap.size
theorem Grid.keep {n0 : Nat} {w w' : World} {g : Nat} {L : List (List Nat)} {X G : Nat → Prop} (h : Grid n0 w g L X) (hc : Chg G w w') (hG : ∀ x, X x → ¬ G x) : Grid n0 w' g L X := by
  obtain ⟨F, h1, h2⟩ := h.rows
  exact ⟨⟨F, h1.keep hc (hG g h.here), fun i hi => by
    obtain ⟨A, c, e, hA, hx⟩ := h2 i hi
    exact ⟨A, c, e, hA.chg hc (fun a ha => hG _ (hx a ha).1), hx⟩⟩, h.here, fun x hx => ⟨(h.lt x hx).1, Nat.lt_of_lt_of_le (h.lt x hx).2 hc.size⟩⟩
theorem Grid.below {n0 : Nat} {w w' : World} {g : Nat} {L : List (List Nat)} {X : Nat → Prop} (h : Grid n0 w g L X) (hb : Below w.heap.size w w') : Grid n0 w' g L X :=
  h.keep (G := fun _ => False) (.of_below hb) (fun _ _ h => h)
theorem Grid.cell {n0 : Nat} {w : World} {g : Nat} {L : List (List Nat)} {X : Nat → Prop} (h : Grid n0 w g L X) (i : Nat) (hi : i < L.length) : ∃ A c, w.cell? ⟨g, i, none⟩ = some (.slice A (L.getD i []).length c) ∧ At w A (ns .u8 (L.getD i [])) := by
  obtain ⟨F, h1, h2⟩ := h.rows
  obtain ⟨A, c, e, hA, _⟩ := h2 i hi
  exact ⟨A, c, by rw [← e]; exact h1.cell i hi, hA⟩
theorem Grid.frozen {n0 : Nat} {w : World} {g : Nat} {L : List (List Nat)} {X : Nat → Prop} (h : Grid n0 w g L X) (i : Nat) : w.frozen? ⟨g, i, none⟩ = false := by
  obtain ⟨F, h1, h2⟩ := h.rows
  exact h1.frozen i
/-- what a row adds -/
def With (X : Nat → Prop) (v : Value) (x : Nat) : Prop := X x ∨ blk v x
theorem Grid.set {n0 n : Nat} {w : World} {g : Nat} {L : List (List Nat)} {X : Nat → Prop} {A : Option Addr} {c : Nat} {s : List Nat} (h : Grid n0 w g L X) (i : Nat) (hi : i < L.length) (hv : Buf n0 w (.slice A n c) s) (hg : ∀ x, blk (.slice A n c) x → x ≠ g) :
    Grid n0 (w.setCell ⟨g, i, none⟩ (.slice A n c)) g (L.set i s) (With X (.slice A n c)) ∧ Chg (fun x => x = g) w (w.setCell ⟨g, i, none⟩ (.slice A n c)) := by
  have hc := setCell_chg w g i (.slice A n c)
  obtain ⟨F, h1, h2⟩ := h.rows
  obtain ⟨hn, hA⟩ := buf_at hv
  refine ⟨⟨⟨turn F i (.slice A n c), ?_, fun j hj => ?_⟩, .inl h.here, fun x hx => ?_⟩, hc⟩
  · rw [List.length_set]; exact h1.set i _
  · rw [List.length_set] at hj
    rw [getD_set7]
    by_cases e : j = i
    · subst e
      rw [turn_same, if_pos ⟨rfl, hi⟩, ← hn]
      refine ⟨A, c, rfl, hA.chg hc (fun a ha e => hg a.block (by rw [ha]; rfl) e), fun a ha => ⟨.inr (by rw [ha]; rfl), hg a.block (by rw [ha]; rfl)⟩⟩
    · rw [turn_other _ _ _ _ e, if_neg (fun h => e h.1)]
      obtain ⟨B, d, e1, hB, hx⟩ := h2 j hj
      exact ⟨B, d, e1, hB.chg hc (fun a ha e => (hx a ha).2 e), fun a ha => ⟨.inl (hx a ha).1, (hx a ha).2⟩⟩
  · rcases hx with hx | hx
    · exact ⟨(h.lt x hx).1, Nat.lt_of_lt_of_le (h.lt x hx).2 hc.size⟩
    · exact ⟨(row_lt hv hx).1, Nat.lt_of_lt_of_le (row_lt hv hx).2 hc.size⟩
theorem Grid.made {n0 N : Nat} {w w' : World} (hn : n0 ≤ w.heap.size) (ho : w'.ownsRow w.heap.size 22 1 (.slice (some ⟨w.heap.size, 0, none⟩) N N) N (madeCells (Value.slice none 0 0).cells (N * 1)).toList) : Grid n0 w' w.heap.size (List.replicate N []) (fun x => x = w.heap.size) := by
  have h1 := own_full ho
  have hc : (madeCells (Value.slice none 0 0).cells (N * 1)).toList.toArray = (lst (fun _ => .slice none 0 0) N).toArray := by
    apply Array.ext
    · simp [lst_length, size_madeCells]
    · intro i hi1 hi2
      have hi : i < N := by simpa [size_madeCells] using hi1
      simp [madeCells, lst, Value.cells, Nat.mod_one]
  refine ⟨⟨fun _ => .slice none 0 0, RecAt.of (by rw [h1, hc]) (by rw [List.length_replicate]), fun i hi => ⟨none, 0, ?_, ?_, fun a ha => by cases ha⟩⟩, rfl, fun x hx => ?_⟩
  · simp [List.getD_eq_getElem?_getD, List.getElem?_replicate]
    split <;> simp
  · have : (List.replicate N ([] : List Nat)).getD i [] = [] := by
      simp [List.getD_eq_getElem?_getD, List.getElem?_replicate]
      split <;> simp
    rw [this]; exact At.nil _ _
  · rw [show x = w.heap.size from hx]
    exact ⟨hn, (Array.getElem?_eq_some_iff.1 h1).1⟩
theorem grid_all {L : List (List Nat)} {n : Nat} {s : List Nat} (hL : L.length = n) (h : ∀ j, j < n → L.getD j [] = s) : L = List.replicate n s := by
  apply List.ext_getElem
  · rw [hL, List.length_replicate]
  · intro i h1 h2
    have := h i (by omega)
    rw [List.getD_eq_getElem?_getD, List.getElem?_eq_getElem h1] at this
    simpa using this
end Go.Proofs.YtfbjjblgcgjndaaGreat

/- Contracts of the reference disk's made and New. -/
namespace Go.Proofs.YtfbjjblgcgjndaaGreat
open Go.RowKit

def madeWorld (w : World) (A : Option Addr) (n c : Nat) : World := (w.alloc (.cells #[.int .i64 (-1), .int .i64 (-1), .int .i64 (-1), .int .i64 (-1)] 3)).alloc (.cells #[.slice A n c, .slice none 0 0, .bool false, .int .i64 (-1), .slice (some ⟨w.heap.size, 0, none⟩) 4 4, .int .i64 0, .int .i64 0, .int .i64 0] 88)
set_option maxRecDepth 100000 in
theorem made_any (w : World) (A : Option Addr) (n c : Nat) : Calls Tryz.prog 37 #[.slice A n c] w fun e w' => e = .returned (.pointer (some ⟨w.heap.size + 1, 0, none⟩)) ∧ w' = madeWorld w A n c := by
  go_enter Tryz.func37, Tryz.ntmps37
  go_wp2
  go_ret
  exact ⟨by simp, rfl⟩
/-- rows gathered so far, all memory the call's own -/
structure Rows23 (n0 : Nat) (w : World) (v : Value) (L : List (List Nat)) (F : Nat → Value) (Y : Nat → Prop) : Prop where
  own : w.ownsRow n0 22 1 v L.length (lst F L.length)
  rows : ∀ i, i < L.length → RowIn w Y (F i) (L.getD i [])
  lt : ∀ g, Y g → n0 ≤ g ∧ g < w.heap.size
  off : ∀ g, Y g → ¬ blk v g
theorem Rows23.nil (n0 : Nat) (w : World) : Rows23 n0 w (.slice none 0 0) [] (fun _ => .slice none 0 0) (fun _ => False) :=
  ⟨World.ownsRow_nil _ _ _ _, fun i hi => by simp at hi, fun g hg => hg.elim, fun g hg => hg.elim⟩
theorem Rows23.below {n0 : Nat} {w w' : World} {v : Value} {L : List (List Nat)} {F : Nat → Value} {Y : Nat → Prop} (h : Rows23 n0 w v L F Y) (hb : Below w.heap.size w w') : Rows23 n0 w' v L F Y :=
  ⟨own_below h.own hb, fun i hi => (h.rows i hi).keep (G := fun _ => False) (.of_below hb) (fun _ _ h => h), fun g hg => ⟨(h.lt g hg).1, Nat.lt_of_lt_of_le (h.lt g hg).2 hb.size⟩, h.off⟩
/-- a row more -/
theorem Rows23.push {n0 : Nat} {w w' : World} {v v' : Value} {L : List (List Nat)} {F : Nat → Value} {Y : Nat → Prop} {A : Option Addr} {n c : Nat} {s : List Nat} (h : Rows23 n0 w v L F Y) (hr : Buf n0 w (.slice A n c) s) (hoff : ∀ g, blk (.slice A n c) g → ¬ blk v g)
    (ho : w'.ownsRow n0 22 1 v' (L.length + 1) (lst F L.length ++ [.slice A n c])) (hor : (w.grownBy w' v.ownBlock ∧ v'.ownBlock = v.ownBlock) ∨ (w.grownBy w' none ∧ ∃ g, v'.ownBlock = some g ∧ w.heap.size ≤ g)) :
    Rows23 n0 w' v' (L ++ [s]) (turn F L.length (.slice A n c)) (With Y (.slice A n c)) := by
  have hc := push_chg hor
  obtain ⟨hn, hA⟩ := buf_at hr
  have hnil : A = none → c = 0 := by
    obtain ⟨A', c', e, _, h2, _⟩ := hr.at
    injection e with e1 e2 e3
    subst e1 e3; exact h2
  have hnew : ∀ g, g < w.heap.size → blk v' g → blk v g := fun g hg hb => by
    rcases push_blk hor hb with x | x
    · exact x
    · omega
  have hl : (L ++ [s]).length = L.length + 1 := by simp
  refine ⟨?_, fun i hi => ?_, fun g hg => ?_, fun g hg hb => ?_⟩
  · rw [hl]
    have : lst (turn F L.length (.slice A n c)) (L.length + 1) = lst F L.length ++ [.slice A n c] := by
      rw [lst_succ, turn_same]
      congr 1
      exact lst_congr fun j hj => turn_other _ _ _ _ (by omega)
    rw [this]; exact ho
  · rw [hl] at hi
    by_cases e : i = L.length
    · subst e
      rw [turn_same]
      have : (L ++ [s]).getD L.length [] = s := by simp [List.getD_eq_getElem?_getD]
      rw [this]
      exact ⟨A, c, by rw [hn], hA.chg hc (fun a ha => hoff _ (by rw [ha]; rfl)), hnil, fun a ha => .inr (by rw [ha]; rfl)⟩
    · rw [turn_other _ _ _ _ e]
      have : (L ++ [s]).getD i [] = L.getD i [] := by rw [List.getD_eq_getElem?_getD, List.getElem?_append_left (by omega), ← List.getD_eq_getElem?_getD]
      rw [this]
      exact ((h.rows i (by omega)).keep hc h.off).mono (fun g hg => .inl hg)
  · rcases hg with hg | hg
    · exact ⟨(h.lt g hg).1, Nat.lt_of_lt_of_le (h.lt g hg).2 hc.size⟩
    · exact ⟨(row_lt hr hg).1, Nat.lt_of_lt_of_le (row_lt hr hg).2 hc.size⟩
  · rcases hg with hg | hg
    · exact h.off g hg (hnew g (h.lt g hg).2 hb)
    · exact hoff g hg (hnew g (row_lt hr hg).2 hb)
/-- a disk is made of rows -/
theorem Rows23.disk {n0 : Nat} {w : World} {A : Option Addr} {c : Nat} {D : Dsk} {F : Nat → Value} {Y : Nat → Prop} (h : Rows23 n0 w (.slice A D.last.length c) D.last F Y) (hn : n0 ≤ w.heap.size) (ok : D.Ok) (hc : D.cache = []) (hd : D.dark = false) (ht : D.trip = -1) (hf : ∀ j, D.f j = -1) (hnn : ∀ j, D.n j = 0) :
    RD n0 (madeWorld w A D.last.length c) (w.heap.size + 1) D (fun g => n0 ≤ g ∧ g < w.heap.size + 2) ∧ Below w.heap.size w (madeWorld w A D.last.length c) := by
  have hb : Below w.heap.size w (madeWorld w A D.last.length c) := below_alloc0 (below_alloc0 (Below.refl _ _) _) _
  have hs : (madeWorld w A D.last.length c).heap.size = w.heap.size + 2 := by unfold madeWorld; simp only [sz_alloc]
  have h1 := h.below hb
  have hp : (madeWorld w A D.last.length c).heap[w.heap.size + 1]? = some (.cells #[.slice A D.last.length c, .slice none 0 0, .bool false, .int .i64 (-1), .slice (some ⟨w.heap.size, 0, none⟩) 4 4, .int .i64 0, .int .i64 0, .int .i64 0] 88 (0, 0)) := by
    unfold madeWorld; simp only [hp_alloc, sz_alloc]; rw [if_pos trivial]
  have hfb : (madeWorld w A D.last.length c).heap[w.heap.size]? = some (.cells #[.int .i64 (-1), .int .i64 (-1), .int .i64 (-1), .int .i64 (-1)] 3 (0, 0)) := by
    unfold madeWorld; simp only [hp_alloc, sz_alloc]; rw [if_neg (by omega), if_pos trivial]
  have hLlt : ∀ x, blk (.slice A D.last.length c) x → x < w.heap.size := fun x hx => (row_lt h.own hx).2
  have hVb : ∀ x, blk (Value.slice (some ⟨w.heap.size, 0, none⟩) 4 4) x → x = w.heap.size := fun x hx => by cases hx; rfl
  have hnb : ∀ x, ¬ blk (Value.slice none 0 0) x := fun x e => by cases e
  have hin : RDiskIn n0 (madeWorld w A D.last.length c) (w.heap.size + 1) D ⟨.slice A D.last.length c, .slice none 0 0, .slice (some ⟨w.heap.size, 0, none⟩) 4 4, F, fun _ => .slice none 0 0⟩ Y := by
    refine ⟨RecAt.of hp ?_, h1.own, h1.rows, by rw [hc]; exact World.ownsRow_nil _ _ _ _, fun i hi => by rw [hc] at hi; simp at hi, ⟨rfl, .inr ⟨w.heap.size, 4, _, rfl, hn, hfb, Nat.le_refl _, by simp only [maxLen]; omega, rfl, ?_⟩⟩, by omega,
      ⟨fun e => by have := hLlt _ e; omega, hnb _, fun e => by have := hVb _ e; omega, fun x hx => ⟨hnb x, fun e => by have := hVb x e; have := hLlt x hx; omega⟩, fun x hx => absurd hx (hnb x)⟩, fun x hx e => ?_, h1.lt⟩
    · simp [lst, rcell, hd, ht, hnn, List.range_succ]
    · simp [fourF, hf]
    · have hlt := (h.lt x hx).2
      rcases e with e | e | e | e
      · omega
      · exact h.off x hx e
      · exact hnb x e
      · have := hVb x e; omega
  refine ⟨⟨ok, ⟨_, Y, hin, fun g hg => ?_⟩, fun g hg => ⟨hg.1, by rw [hs]; exact hg.2⟩⟩, hb⟩
  rcases hg with hg | hg | hg | hg | hg
  · have := h.lt g hg; exact ⟨this.1, by omega⟩
  · exact ⟨by omega, by omega⟩
  · have := row_lt h.own hg; exact ⟨this.1, by omega⟩
  · exact absurd hg (hnb g)
  · have := hVb g hg; exact ⟨by omega, by omega⟩
end Go.Proofs.YtfbjjblgcgjndaaGreat

/- Contract of the reference disk's New. -/
namespace Go.Proofs.YtfbjjblgcgjndaaGreat
open Go.RowKit

theorem rnew_no (n : Int) (w : World) (h : n < 1 ∨ 16384 < n) : Calls Tryz.prog 7 #[.int .i64 n] w fun e w' => e = .returned (.tuple #[.pointer none, .int .u16 70]) ∧ w = w' := by
  rcases h with h | h
  · go_enter Tryz.func7, Tryz.ntmps7
    go_wp2
    go_ret2
    exact ⟨rfl, rfl⟩
  · have h' : ¬ n < 1 := by omega
    go_enter Tryz.func7, Tryz.ntmps7
    go_wp2
    go_ret2
    exact ⟨rfl, rfl⟩
theorem zero_row {n0 : Nat} {w w' : World} (hn : n0 ≤ w.heap.size) (ho : w'.ownsRow w.heap.size 5 1 (.slice (some ⟨w.heap.size, 0, none⟩) 128 128) 128 (madeCells (Value.int .u8 0).cells (128 * 1)).toList) : Buf n0 w' (.slice (some ⟨w.heap.size, 0, none⟩) 128 128) zeroSect := by
  have h := made_ns .u8 128
  have e : (madeCells (Value.int .u8 0).cells (128 * 1)).toList = ns .u8 zeroSect := h
  rw [e] at ho
  exact own_down ho hn
/-- the rows of a new disk, k of them made -/
def Zeros23 (n0 : Nat) (w : World) (v : Value) (k : Nat) : Prop := ∃ L F Y, L = List.replicate k zeroSect ∧ Rows23 n0 w v L F Y
theorem Zeros23.below {n0 : Nat} {w w' : World} {v : Value} {k : Nat} (h : Zeros23 n0 w v k) (hb : Below w.heap.size w w') : Zeros23 n0 w' v k := by
  obtain ⟨L, F, Y, hL, h⟩ := h
  exact ⟨L, F, Y, hL, h.below hb⟩
theorem Zeros23.own {n0 : Nat} {w : World} {v : Value} {k : Nat} (h : Zeros23 n0 w v k) : ∃ A c us, v = .slice A k c ∧ w.ownsRow n0 22 1 (.slice A k c) k us ∧
    ∀ w' v' A2 n2 c2, Buf n0 w (.slice A2 n2 c2) zeroSect → (∀ g, blk (.slice A2 n2 c2) g → ¬ blk v g) → w'.ownsRow n0 22 1 v' (k + 1) (us ++ [.slice A2 n2 c2]) → (w.grownBy w' v.ownBlock ∧ v'.ownBlock = v.ownBlock) ∨ (w.grownBy w' none ∧ ∃ g, v'.ownBlock = some g ∧ w.heap.size ≤ g) → Zeros23 n0 w' v' (k + 1) := by
  obtain ⟨L, F, Y, hL, h⟩ := h
  have ho := h.own
  have hk : L.length = k := by rw [hL, List.length_replicate]
  have ho2 := ho
  rw [hk] at ho2
  obtain ⟨A, c, e⟩ := own_slice ho2
  refine ⟨A, c, lst F L.length, e, by rw [← e]; rw [hk]; exact ho2, fun w' v' A2 n2 c2 hr hoff ho' hor => ?_⟩
  refine ⟨L ++ [zeroSect], _, _, ?_, h.push hr hoff (by rw [hk]; rw [hk] at ho'; exact ho') hor⟩
  rw [hL, ← List.replicate_succ']
theorem Zeros23.disk {n0 : Nat} {w : World} {A : Option Addr} {n c : Nat} (h : Zeros23 n0 w (.slice A (8 * n) c) (8 * n)) (hn : n0 ≤ w.heap.size) (h1 : 1 ≤ n) (h2 : n ≤ 16384) :
    RD n0 (madeWorld w A (8 * n) c) (w.heap.size + 1) (Dsk.new n) (fun g => n0 ≤ g ∧ g < w.heap.size + 2) ∧ Below w.heap.size w (madeWorld w A (8 * n) c) := by
  obtain ⟨L, F, Y, hL, h⟩ := h
  have hl : (Dsk.new n).last.length = 8 * n := by simp [Dsk.new]
  have := Rows23.disk (n0 := n0) (w := w) (A := A) (c := c) (D := Dsk.new n) (F := F) (Y := Y) (by rw [hl]; subst hL; exact h) hn (Dsk.new_ok n h1 h2) rfl rfl rfl (fun _ => rfl) (fun _ => rfl)
  rw [hl] at this
  exact this
/-- a row of zeros is made, and boxed -/
theorem zero_step {n0 : Nat} {w wr w4 : World} {v : Value} {k : Nat} (h : Zeros23 n0 wr v k) (hb : Below n0 w wr) (hn : n0 = w.heap.size) (ho : w4.ownsRow wr.heap.size 5 1 (.slice (some ⟨wr.heap.size, 0, none⟩) 128 128) 128 (madeCells (Value.int .u8 0).cells (128 * 1)).toList) (hg : wr.grownBy w4 none) :
    Zeros23 n0 (w4.alloc (.cells #[.slice (some ⟨wr.heap.size, 0, none⟩) 128 128] 22)) v k ∧
    Buf n0 (w4.alloc (.cells #[.slice (some ⟨wr.heap.size, 0, none⟩) 128 128] 22)) (.slice (some ⟨wr.heap.size, 0, none⟩) 128 128) zeroSect ∧
    At (w4.alloc (.cells #[.slice (some ⟨wr.heap.size, 0, none⟩) 128 128] 22)) (some ⟨w4.heap.size, 0, none⟩) [.slice (some ⟨wr.heap.size, 0, none⟩) 128 128] ∧
    n0 ≤ (w4.alloc (.cells #[.slice (some ⟨wr.heap.size, 0, none⟩) 128 128] 22)).heap.size ∧
    (∀ g, blk (.slice (some ⟨wr.heap.size, 0, none⟩) 128 128) g → ¬ blk v g) ∧
    Below n0 w (w4.alloc (.cells #[.slice (some ⟨wr.heap.size, 0, none⟩) 128 128] 22)) := by
  subst hn
  have hb4 := below_of_grown hg
  have hba := below_alloc0 hb4 (.cells #[.slice (some ⟨wr.heap.size, 0, none⟩) 128 128] 22)
  have hB := below_next0 hb hba
  have hz := zero_row (n0 := w.heap.size) hb.size ho
  refine ⟨h.below hba, hz.below (below_alloc0 (Below.refl _ _) _), At.box w4 _ 22 w4.heap.size rfl, hB.size, fun g hg' e => ?_, hB⟩
  obtain ⟨A, c, us, rfl, ho2, _⟩ := h.own
  have h1 := (row_lt ho2 e).2
  cases hg'
  exact Nat.lt_irrefl _ h1
/-- a disk of the call's own -/
def RMade (w : World) (D : Dsk) (e : Ending) (w' : World) : Prop := ∃ p, e = .returned (.tuple #[.pointer (some ⟨p, 0, none⟩), .int .u16 0]) ∧ RD w.heap.size w' p D (fun g => w.heap.size ≤ g ∧ g < w'.heap.size) ∧ Below w.heap.size w w'
theorem RMade.of {w wr : World} {A : Option Addr} {n c : Nat} {D : Dsk} (hb : Below w.heap.size w wr) (h : RD w.heap.size (madeWorld wr A n c) (wr.heap.size + 1) D (fun g => w.heap.size ≤ g ∧ g < wr.heap.size + 2) ∧ Below wr.heap.size wr (madeWorld wr A n c)) :
    RMade w D (.returned (.tuple #[.pointer (some ⟨wr.heap.size + 1, 0, none⟩), .int .u16 0])) (madeWorld wr A n c) := by
  have hs : (madeWorld wr A n c).heap.size = wr.heap.size + 2 := by unfold madeWorld; simp only [sz_alloc]
  refine ⟨_, rfl, ?_, below_next0 hb h.2⟩
  rw [hs]; exact h.1
set_option maxRecDepth 100000 in
set_option maxHeartbeats 2000000 in
theorem rnew_ok (n : Nat) (w : World) (h1 : 1 ≤ n) (h2 : n ≤ 16384) : Calls Tryz.prog 7 #[.int .i64 (n : Int)] w (RMade w (Dsk.new n)) := by
  have hwr : IntKind.i64.wrap (8 * (n : Int)) = ((8 * n : Nat) : Int) := by rw [IntKind.wrap_i64]; omega
  have hn1 : ¬ (n : Int) < 1 := by omega
  have hn2 : ¬ 16384 < (n : Int) := by omega
  go_enter Tryz.func7, Tryz.ntmps7
  go_wp2_with fail
  go_loopw [4, 5] (fun v i wr => ∃ k : Nat, k ≤ 8 * n ∧ i = .int .i64 k ∧ Zeros23 w.heap.size wr v k ∧ Below w.heap.size w wr) (fun _ i _ => 8 * n - (intOf i).toNat)
  case atStart => exact ⟨0, by omega, rfl, ⟨_, _, _, rfl, Rows23.nil _ _⟩, Below.refl _ _⟩
  case round =>
    obtain ⟨k, hk, rfl, hv, hb⟩ := hrel
    obtain ⟨A, c, us, rfl, ho, _⟩ := hv.own
    have HV := Lib.hid hv
    have HO := Lib.hid ho
    have HB := Lib.hid hb
    clear hv ho hb
    by_cases hlt : k < 8 * n
    · have h3 : (k : Int) < 8 * (n : Int) := by omega
      go_wp2_with (first
        | (with_reducible refine wp_make rfl _ _ 22 5 (.int .u8 0) 1 1 rfl Tryz.underlying22 Tryz.info5 wr.heap.size .i64 .i64 _ _ 128 rfl rfl rfl rfl (by omega) (by omega) (Nat.le_refl _) ?_
           intro w4 ho4 hg4
           obtain ⟨F1, F2, F3, F4, F5, F6⟩ := zero_step HV.out HB.out rfl ho4 hg4
           have G6 := Lib.hid F6
           have G1 := Lib.hid F1
           have G2 := Lib.hid F2
           have G3 := Lib.hid F3
           have G4 := Lib.hid F4
           have G5 := Lib.hid F5
           clear F1 F2 F3 F4 F5 F6 ho4 hg4)
        | (at_builtin; go_loud (obtain ⟨A7, c7, us7, e7, ho7, st7⟩ := G1.out.own; refine wp_append2 rfl (.tmp 18) (.tmp 20) 42 22 (.slice none 0 0) 1 24 rfl Tryz.underlying42 Tryz.info22 rfl (by decide) w.heap.size (.slice A k c) k us7 rfl (by rw [e7]; exact ho7) (some ⟨w4.heap.size, 0, none⟩) 1 1 _ rfl rfl G3.out (by simp) (by simp [Value.oneCell']) (by omega) (by omega) G4.out ?_); intro v1 w1 ho1 hor1; have hz1 := st7 w1 v1 _ _ _ G2.out G5.out ho1 hor1; have hb1 := G4.out; have Z2 := Lib.hid (push_chg hor1); have Z1 := Lib.hid hz1; have Z4 := Lib.hid ho1; have Z3 := Lib.hid (fun g hg => own_base ho7 g hg); clear ho1 hor1 hz1 st7))
      obtain ⟨A1, c11, rfl⟩ := own_slice Z4.out
      case roundEnd =>
        exact ⟨⟨k + 1, by omega, by go_num, Z1.out, G6.out.trans (Z2.out.below G4.out Z3.out)⟩, by simp only [intOf]; omega⟩
    · obtain rfl : 8 * n = k := by omega
      have h3 : ((8 * n : Nat) : Int) = 8 * (n : Int) := by omega
      have hM := HV.out.disk HB.out.size h1 h2
      have HM := Lib.hid hM
      clear hM
      go_wp2_with (go_at_call 37; refine (made_any _ A (8 * n) c).mono ?_; rintro e5 w5 ⟨rfl, rfl⟩)
      all_goals go_ret2
      exact RMade.of HB.out HM.out
end Go.Proofs.YtfbjjblgcgjndaaGreat

/- The reference disk's cache: a write more. -/
namespace Go.Proofs.YtfbjjblgcgjndaaGreat
open Go.RowKit

theorem ccells_more (c : List (Nat × List Nat)) (G : Nat → Value) (a : Nat) (s : List Nat) (v : Value) : ccells (c ++ [(a, s)]) (turn G c.length v) = ccells c G ++ [.int .i64 (a : Int), v] := by
  unfold ccells
  rw [List.length_append, show [(a, s)].length = 1 from rfl, List.range_succ, List.flatMap_append]
  congr 1
  · rw [List.flatMap_def, List.flatMap_def]
    congr 1
    apply List.map_congr_left
    intro i hi
    have hi2 : i < c.length := List.mem_range.1 hi
    rw [turn_other _ _ _ _ (by omega), List.getD_eq_getElem?_getD, List.getElem?_append_left hi2, ← List.getD_eq_getElem?_getD]
  · simp [turn_same, List.getD_eq_getElem?_getD]
/-- a write more in the cache -/
theorem RDiskIn.more {n0 n c : Nat} {w w' : World} {p : Nat} {D : Dsk} {q : RParts} {Y : Nat → Prop} {A : Option Addr} {s : List Nat} {v' : Value} (h : RDiskIn n0 w p D q Y) (a : Nat) (hr : Buf n0 w (.slice A n c) s) (hoff : ∀ g, blk (.slice A n c) g → ¬ q.box p g)
    (ho : w'.ownsRow n0 113 2 v' (D.cache.length + 1) (ccells D.cache q.G ++ [.int .i64 (a : Int), .slice A n c])) (hor : (w.grownBy w' q.C.ownBlock ∧ v'.ownBlock = q.C.ownBlock) ∨ (w.grownBy w' none ∧ ∃ g, v'.ownBlock = some g ∧ w.heap.size ≤ g)) :
    RDiskIn n0 (w'.setCell ⟨p, 1, none⟩ v') p { D with cache := D.cache ++ [(a, s)] } { q with C := v', G := turn q.G D.cache.length (.slice A n c) } (With Y (.slice A n c)) ∧ Chg (fun g => g = p ∨ blk q.C g) w (w'.setCell ⟨p, 1, none⟩ v') := by
  obtain ⟨s1, s2, s3, s4, s5⟩ := h.sep
  have hplt := h.rcd.lt
  have hc : Chg (blk q.C) w w' := push_chg hor
  have hs := setCell_chg w' p 1 v'
  have hcc : Chg (fun g => g = p ∨ blk q.C g) w (w'.setCell ⟨p, 1, none⟩ v') := (hc.mono (G := fun g => g = p ∨ blk q.C g) (fun _ _ h => .inr h)).trans hs (fun _ _ h => .inl h)
  obtain ⟨hn, hA⟩ := buf_at hr
  have hnil : A = none → c = 0 := by
    obtain ⟨A', c', e, _, h2, _⟩ := hr.at
    injection e with e1 e2 e3
    subst e1 e3; exact h2
  have hnew : ∀ g, g < w.heap.size → blk v' g → blk q.C g := fun g hg hb => by
    rcases push_blk hor hb with x | x
    · exact x
    · omega
  have hLlt : ∀ x, blk q.L x → x < w.heap.size := fun x hx => (row_lt h.last hx).2
  have hVlt : ∀ x, blk q.V x → x < w.heap.size := fun x hx => (row_lt h.faults hx).2
  have hYc : ∀ x, Y x → ¬ (x = p ∨ blk q.C x) := fun x hx e => h.apart x hx (e.elim .inl (fun e => .inr (.inr (.inl e))))
  have hRc : ∀ x, blk (.slice A n c) x → ¬ (x = p ∨ blk q.C x) := fun x hx e => hoff x hx (e.elim .inl (fun e => .inr (.inr (.inl e))))
  refine ⟨⟨?_, own_chg h.last hcc (fun x hx e => e.elim (fun e => s1 (e ▸ hx)) (fun e => (s4 x hx).1 e)), fun i hi => ((h.rows i hi).keep hcc hYc).mono (fun g hg => .inl hg), ?_, fun i hi => ?_,
    own_chg h.faults hcc (fun x hx e => e.elim (fun e => s3 (e ▸ hx)) (fun e => s5 x e hx)), h.base, ⟨s1, fun e => s2 (hnew p hplt e), s3, fun x hx => ⟨fun e => (s4 x hx).1 (hnew x (hLlt x hx) e), (s4 x hx).2⟩, fun x hx e => s5 x (hnew x (hVlt x e) hx) e⟩, fun x hx e => ?_, fun x hx => ?_⟩, hcc⟩
  · exact ((h.rcd.keep hc s2).set 1 v').congr (all8 rfl rfl rfl rfl rfl rfl rfl rfl)
  · have : (D.cache ++ [(a, s)]).length = D.cache.length + 1 := by simp
    show World.ownsRow _ n0 113 2 v' (D.cache ++ [(a, s)]).length (ccells (D.cache ++ [(a, s)]) (turn q.G D.cache.length (.slice A n c)))
    rw [this, ccells_more]
    exact own_chg ho hs (fun x hx e => s2 (hnew p hplt (by rw [← show x = p from e]; exact hx)))
  · have hl : (D.cache ++ [(a, s)]).length = D.cache.length + 1 := by simp
    have hi' : i < D.cache.length + 1 := by rw [← hl]; exact hi
    show RowIn _ _ (turn q.G D.cache.length (.slice A n c) i) ((D.cache ++ [(a, s)]).getD i (0, [])).2
    by_cases e : i = D.cache.length
    · subst e
      rw [turn_same]
      have : ((D.cache ++ [(a, s)]).getD D.cache.length (0, [])).2 = s := by simp [List.getD_eq_getElem?_getD]
      rw [this]
      exact ⟨A, c, by rw [hn], hA.chg hcc (fun b hb => hRc _ (by rw [hb]; rfl)), hnil, fun b hb => .inr (by rw [hb]; rfl)⟩
    · rw [turn_other _ _ _ _ e]
      have : ((D.cache ++ [(a, s)]).getD i (0, [])).2 = (D.cache.getD i (0, [])).2 := by rw [List.getD_eq_getElem?_getD, List.getElem?_append_left (by omega), ← List.getD_eq_getElem?_getD]
      rw [this]
      exact ((h.crows i (by omega)).keep hcc hYc).mono (fun g hg => .inl hg)
  · have hx2 : ¬ q.box p x ∧ x < w.heap.size := by
      rcases hx with hx | hx
      · exact ⟨h.apart x hx, (h.lt x hx).2⟩
      · exact ⟨hoff x hx, (row_lt hr hx).2⟩
    rcases e with e | e | e | e
    · exact hx2.1 (.inl e)
    · exact hx2.1 (.inr (.inl e))
    · exact hx2.1 (.inr (.inr (.inl (hnew x hx2.2 e))))
    · exact hx2.1 (.inr (.inr (.inr e)))
  · rcases hx with hx | hx
    · exact ⟨(h.lt x hx).1, Nat.lt_of_lt_of_le (h.lt x hx).2 hcc.size⟩
    · exact ⟨(row_lt hr hx).1, Nat.lt_of_lt_of_le (row_lt hr hx).2 hcc.size⟩
end Go.Proofs.YtfbjjblgcgjndaaGreat

/- Contracts of the reference disk's Sync and Cut: the walks. -/
namespace Go.Proofs.YtfbjjblgcgjndaaGreat
open Go.RowKit

theorem RLaid.start {n0 : Nat} {w : World} {p : Nat} {D : Dsk} {q : RParts} {Y : Nat → Prop} (kept : Nat → Bool) (h : RDiskIn n0 w p D q Y) : RLaid n0 w w p D q Y kept 0 := ⟨q.F, h, Chg.refl _ _⟩
theorem RLaid.no {n0 : Nat} {w wr : World} {p : Nat} {D : Dsk} {q : RParts} {Y : Nat → Prop} {kept : Nat → Bool} {j : Nat} (h : RLaid n0 w wr p D q Y kept j) (hk : kept j = false) : RLaid n0 w wr p D q Y kept (j + 1) := by
  obtain ⟨F, h1, h2⟩ := h
  exact ⟨F, by rw [D.laid_no hk]; exact h1, h2⟩
/-- what a round reads, and what it leaves -/
theorem RLaid.round {n0 : Nat} {w wr : World} {p : Nat} {D : Dsk} {q : RParts} {Y : Nat → Prop} {kept : Nat → Bool} {j : Nat} (h : RLaid n0 w wr p D q Y kept j) (ok : D.Ok) (hj : j < D.cache.length) :
    ∃ g cap gc capc a v, wr.cell? ⟨p, 0, none⟩ = some (.slice (some ⟨g, 0, none⟩) D.last.length cap) ∧ wr.cell? ⟨p, 1, none⟩ = some (.slice (some ⟨gc, 0, none⟩) D.cache.length capc) ∧
      wr.cell? ⟨gc, j * 2, none⟩ = some (.int .i64 ((a : Nat) : Int)) ∧ wr.cell? ⟨gc, j * 2 + 1, none⟩ = some v ∧ a < D.last.length ∧ (∃ u, wr.cell? ⟨g, a, none⟩ = some u) ∧ wr.frozen? ⟨g, a, none⟩ = false ∧ (∃ A c, v = .slice A 128 c) ∧
      (kept j = true → RLaid n0 w (wr.setCell ⟨g, a, none⟩ v) p D q Y kept (j + 1)) := by
  obtain ⟨F, hin, hch⟩ := h
  have hll : (D.laid kept j).last.length = D.last.length := settled_length _ _ _ _
  have hpos : 0 < D.last.length := by obtain ⟨k, a, b, c⟩ := ok.pages; omega
  obtain ⟨g, cap, hL, hlc, hlf⟩ := hin.lcell (by rw [hll]; exact hpos)
  obtain ⟨gc, capc, hC, hcc⟩ := hin.ccell (show 0 < (D.laid kept j).cache.length from by show 0 < D.cache.length; omega)
  obtain ⟨d1, d2⟩ := hcc j hj
  have hx : D.cache[j]? = some D.cache[j] := List.getElem?_eq_getElem hj
  have hg : (D.laid kept j).cache.getD j (0, []) = D.cache[j] := by show D.cache.getD j (0, []) = _; rw [List.getD_eq_getElem?_getD, hx]; rfl
  rw [hg] at d1
  obtain ⟨x1, x2⟩ := ok.cache _ (List.getElem_mem hj)
  have hrow := hin.crows j hj
  rw [hg] at hrow
  refine ⟨g, cap, gc, capc, D.cache[j].1, q.G j, ?_, ?_, d1, d2, x1, ⟨_, hlc _ (by rw [hll]; exact x1)⟩, hlf _, ?_, fun hk => ?_⟩
  · have h0 : wr.cell? ⟨p, 0, none⟩ = some q.L := hin.rcd.cell 0 (by omega)
    have hL' : q.L = .slice (some ⟨g, 0, none⟩) (D.laid kept j).last.length cap := hL
    rw [h0, hL', hll]
  · have h0 : wr.cell? ⟨p, 1, none⟩ = some q.C := hin.rcd.cell 1 (by omega)
    have hC' : q.C = .slice (some ⟨gc, 0, none⟩) D.cache.length capc := hC
    rw [h0, hC']
  · obtain ⟨A, c, e, _⟩ := hrow
    rw [x2.1] at e
    exact ⟨A, c, e⟩
  · obtain ⟨h1, h2⟩ := hin.lay hL D.cache[j].1 (by rw [hll]; exact x1) (q.G j) D.cache[j].2 hrow
    refine ⟨turn F D.cache[j].1 (q.G j), ?_, hch.trans h2 (fun _ _ h => h)⟩
    rw [D.laid_yes hx hk]
    exact h1
theorem RLaid.drew {n0 : Nat} {w wr : World} {p : Nat} {D : Dsk} {q : RParts} {Y : Nat → Prop} {kept : Nat → Bool} {j : Nat} (h : RLaid n0 w wr p D q Y kept j) : RLaid n0 w wr.drew p D q Y kept j := by
  obtain ⟨F, h1, h2⟩ := h
  exact ⟨F, h1.below (below_drew0 (Below.refl _ _)), h2.drew⟩
theorem RLaid.ends {n0 : Nat} {w wr : World} {p : Nat} {D : Dsk} {q : RParts} {Y : Nat → Prop} {kept : Nat → Bool} (h : RLaid n0 w wr p D q Y kept D.cache.length) :
    (∃ C cc, wr.cell? ⟨p, 1, none⟩ = some (.slice C D.cache.length cc)) ∧ wr.frozen? ⟨p, 1, none⟩ = false ∧ ∃ F, RDiskIn n0 (wr.setCell ⟨p, 1, none⟩ (.slice none 0 0)) p (D.settle kept) { q with F := F, C := .slice none 0 0 } Y ∧ Chg (fun g => g = p ∨ blk q.L g) w (wr.setCell ⟨p, 1, none⟩ (.slice none 0 0)) := by
  obtain ⟨F, hin, hch⟩ := h
  obtain ⟨C, cc, e, _⟩ := At.own hin.cache
  refine ⟨⟨C, cc, ?_⟩, hin.rcd.frozen 1, F, ?_, (hch.mono (G := fun g => g = p ∨ blk q.L g) (fun _ _ h => .inr h)).trans (setCell_chg wr p 1 _) (fun _ _ h => .inl h)⟩
  · have h0 : wr.cell? ⟨p, 1, none⟩ = some q.C := hin.rcd.cell 1 (by omega)
    have e' : q.C = .slice C D.cache.length cc := e
    rw [h0, e']
  · have := hin.drop
    rw [D.laid_all] at this
    exact this
set_option maxRecDepth 100000 in
set_option maxHeartbeats 4000000 in
theorem rsync_any {n0 : Nat} {w : World} {p : Nat} {D : Dsk} {S : Nat → Prop} (h : RD n0 w p D S) (hc : D.cache.length ≤ 1000000000000) (hn : D.n 3 ≤ 4611686018427387904) : Calls Tryz.prog 24 #[.pointer (some ⟨p, 0, none⟩)] w (RGives n0 w p S D.sync.1 D.sync.2) := by
  have HBG := Lib.hid (rbegin3 h hn)
  have HC := Lib.hid hc
  clear hc hn h
  by_cases hb : (D.begin 3).1 = 0
  · have hrd : D.sync = (0, (D.go 3).settle fun _ => true) := by unfold Dsk.sync; rw [if_neg (by simpa using hb)]
    rw [hrd]
    have hgo : D.begin 3 = (0, D.go 3) := by rw [← Dsk.begin_go hb, ← hb]
    rw [hgo] at HBG
    obtain ⟨E, hE⟩ : ∃ E, E = D.go 3 := ⟨_, rfl⟩
    have hcl : E.cache.length ≤ 1000000000000 := by rw [hE]; exact HC.out
    rw [← hE] at HBG ⊢
    clear hrd hb hgo hE HC
    go_enter Tryz.func24, Tryz.ntmps24
    go_wp2_with fail
    refine HBG.out.mono ?_
    rintro e w1 ⟨rfl, hd, hch⟩
    have HD := Lib.hid hd
    have HCH := Lib.hid hch
    clear hd hch HBG
    obtain ⟨ok, ⟨q, Y, hin, hS⟩, hlt0⟩ := HD.out
    have OK := Lib.hid ok
    have HIN := Lib.hid hin
    have HS := Lib.hid hS
    have HLT := Lib.hid hlt0
    clear ok hin hS hlt0
    go_wp2_with fail
    go_loopw [4] (fun i wr => ∃ j : Nat, j ≤ E.cache.length ∧ i = .int .i64 j ∧ RLaid n0 w1 wr p E q Y (fun _ => true) j) (fun i _ => E.cache.length - (intOf i).toNat)
    case atStart => exact ⟨0, by omega, rfl, RLaid.start _ HIN.out⟩
    case round =>
      obtain ⟨j, hj, rfl, hr⟩ := hrel
      by_cases hlt : j < E.cache.length
      · skip
        obtain ⟨g, cap, gc, capc, a, v, c0, c1, d1, d2, ha, ⟨u, hu⟩, hfr, ⟨A, c, rfl⟩, hnext⟩ := (hr.drew).round OK.out hlt
        have e0 : wr.cell? ⟨p, 0, none⟩ = some (.slice (some ⟨g, 0, none⟩) E.last.length cap) := c0
        have e1 : wr.cell? ⟨p, 1, none⟩ = some (.slice (some ⟨gc, 0, none⟩) E.cache.length capc) := c1
        have h3 : (j : Int) < (E.cache.length : Int) := by omega
        have h4 : (a : Int) < (E.last.length : Int) := by omega
        have HN := Lib.hid hnext
        have HRL := Lib.hid hr
        clear hnext hr
        go_wp2_with fail
        go_still_tail 21, (by kernel_rfl)
        change wpList _ _ _ _ _ wr.drew
        clear e0 e1
        generalize wr.drew = w8 at *
        go_wp2_with fail
        case roundEnd =>
          exact ⟨⟨j + 1, by omega, by go_num, HN.out (by first | rfl | trivial)⟩, by simp only [intOf]; omega⟩
      · obtain rfl : j = E.cache.length := by omega
        obtain ⟨⟨C, cc, c1⟩, f1, F, hfin, hcf⟩ := hr.ends
        have HFIN := Lib.hid hfin
        have HCF := Lib.hid hcf
        clear hfin hcf hr
        go_wp2_with fail
        go_ret
        have hct : Chg S w1 (wr.setCell ⟨p, 1, none⟩ (.slice none 0 0)) := HCF.out.mono (fun g _ e => HS.out g (.inr (e.elim .inl (fun e => .inr (.inl e)))))
        exact ⟨rfl, ⟨E.settle_ok OK.out _, ⟨_, Y, HFIN.out, fun g hg => HS.out g (hg.elim .inl (fun e => .inr (by
          rcases e with e | e | e | e
          · exact .inl e
          · exact .inr (.inl e)
          · cases e
          · exact .inr (.inr (.inr e)))))⟩, fun g hg => ⟨(HLT.out g hg).1, Nat.lt_of_lt_of_le (HLT.out g hg).2 hct.size⟩⟩, HCH.out.trans hct (fun _ _ h => h)⟩
  · have hrd : D.sync = D.begin 3 := by unfold Dsk.sync; rw [if_pos hb]
    rw [hrd]
    clear hrd
    have he2 : ((((D.begin 3).1 : Nat) : Int) != 0) = true := by simp; omega
    have he : (((D.begin 3).1 : Nat) != 0) = true := by simpa using hb
    generalize (D.begin 3).1 = x at *
    generalize (D.begin 3).2 = D' at *
    clear hb
    go_enter Tryz.func24, Tryz.ntmps24
    go_wp2_with fail
    refine HBG.out.mono ?_
    rintro e w1 ⟨rfl, hd, hch⟩
    have HD := Lib.hid hd
    have HCH := Lib.hid hch
    clear hd hch
    go_wp2_with fail
    go_ret
    exact ⟨rfl, HD.out, HCH.out⟩
def RNow (n0 : Nat) (w : World) (p : Nat) (S : Nat → Prop) (D' : Dsk) (w' : World) : Prop := ∃ S', RD n0 w' p D' S' ∧ Grows w S S' ∧ Chg S w w'
set_option maxRecDepth 100000 in
set_option maxHeartbeats 4000000 in
theorem rcut_any {n0 : Nat} {w : World} {p : Nat} {D : Dsk} {S : Nat → Prop} (h : RD n0 w p D S) (A0 : Option Addr) (c0 : Nat) (bs : List Bool) (hn0 : n0 ≤ w.heap.size) (hc : D.cache.length ≤ 1000000000000) (hB : ∀ w', Chg S w w' → At w' A0 (bs.map .bool)) (hbl : bs.length ≤ 140737488355328) :
    Calls Tryz.prog 28 #[.pointer (some ⟨p, 0, none⟩), .slice A0 bs.length c0] w fun e w' => e = .returned (.tuple #[]) ∧ RNow n0 w p S (D.cut bs) w' := by
  have HD := Lib.hid h
  have HBB := Lib.hid hB
  obtain ⟨ok, ⟨q, Y, hin, hS⟩, hlt0⟩ := h
  have OK := Lib.hid ok
  have HIN := Lib.hid hin
  have HS := Lib.hid hS
  have HLT := Lib.hid hlt0
  have HN0 := Lib.hid hn0
  clear ok hin hS hlt0 hB hn0
  go_enter Tryz.func28, Tryz.ntmps28
  go_wp2_with fail
  go_loopw [4] (fun i wr => ∃ j : Nat, j ≤ D.cache.length ∧ i = .int .i64 j ∧ RLaid n0 w wr p D q Y (fun i => bs.getD i false) j) (fun i _ => D.cache.length - (intOf i).toNat)
  case atStart => exact ⟨0, by omega, rfl, RLaid.start _ HIN.out⟩
  case round =>
    obtain ⟨j, hj, rfl, hr⟩ := hrel
    by_cases hlt : j < D.cache.length
    · have hchw : Chg S w wr := by
        obtain ⟨F, _, hx⟩ := hr
        exact hx.mono (fun g _ e => HS.out g (.inr (.inr (.inl e))))
      have hat := HBB.out wr hchw
      clear hchw
      obtain ⟨g, cap, gc, capc, a, v, c0, c1, d1, d2, ha, ⟨u, hu⟩, hfr, ⟨A, c, rfl⟩, hnext⟩ := (hr.drew).round OK.out hlt
      have e0 : wr.cell? ⟨p, 0, none⟩ = some (.slice (some ⟨g, 0, none⟩) D.last.length cap) := c0
      have e1 : wr.cell? ⟨p, 1, none⟩ = some (.slice (some ⟨gc, 0, none⟩) D.cache.length capc) := c1
      have h3 : (j : Int) < (D.cache.length : Int) := by omega
      have h4 : (a : Int) < (D.last.length : Int) := by omega
      have HN := Lib.hid hnext
      have HRL := Lib.hid hr
      clear hnext hr
      by_cases hjb : j < bs.length
      · obtain ⟨kb, ko, e, hrg⟩ := hat (by intro e; have := congrArg List.length e; simp at this; rw [this] at hjb; simp at hjb)
        have hck : wr.cell? ⟨kb, ko + j, none⟩ = some (.bool (bs.getD j false)) := hrg j _ (by simp [hjb, List.getD_eq_getElem?_getD])
        subst e
        have h5 : (j : Int) < (bs.length : Int) := by omega
        by_cases hkv : bs.getD j false = true
        · have HKV := Lib.hid hkv
          rw [hkv] at hck
          clear hkv hrg
          go_wp2_with fail
          go_still_tail 21, (by kernel_rfl)
          change wpList _ _ _ _ _ wr.drew
          clear e0 e1
          generalize wr.drew = w8 at *
          go_wp2_with fail
          case roundEnd =>
            exact ⟨⟨j + 1, by omega, by go_num, HN.out HKV.out⟩, by simp only [intOf]; omega⟩
        · have HKV := Lib.hid (show bs.getD j false = false by simpa using hkv)
          rw [HKV.out] at hck
          clear hkv hrg
          go_wp2_with fail
          case roundEnd => exact ⟨⟨j + 1, by omega, by go_num, HRL.out.no HKV.out⟩, by simp only [intOf]; omega⟩
      · have HKV := Lib.hid (show bs.getD j false = false by rw [List.getD_eq_getElem?_getD, List.getElem?_eq_none (by omega)]; rfl)
        have h5 : ¬ (j : Int) < (bs.length : Int) := by omega
        clear hat
        go_wp2_with fail
        case roundEnd => exact ⟨⟨j + 1, by omega, by go_num, HRL.out.no HKV.out⟩, by simp only [intOf]; omega⟩
    · obtain rfl : j = D.cache.length := by omega
      obtain ⟨⟨C, cc, c1⟩, f1, F, hfin, hcf⟩ := hr.ends
      have c2 : wr.cell? ⟨p, 2, none⟩ = some (.bool D.dark) := by
        obtain ⟨F', hx, _⟩ := hr
        exact hx.rcd.cell 2 (by omega)
      have c3 : wr.cell? ⟨p, 3, none⟩ = some (.int .i64 D.trip) := by
        obtain ⟨F', hx, _⟩ := hr
        exact hx.rcd.cell 3 (by omega)
      have c4 : wr.cell? ⟨p, 4, none⟩ = some q.V := by
        obtain ⟨F', hx, _⟩ := hr
        exact hx.rcd.cell 4 (by omega)
      have f2 : wr.frozen? ⟨p, 2, none⟩ = false := by
        obtain ⟨F', hx, _⟩ := hr
        exact hx.rcd.frozen 2
      have f3 : wr.frozen? ⟨p, 3, none⟩ = false := by
        obtain ⟨F', hx, _⟩ := hr
        exact hx.rcd.frozen 3
      have f4 : wr.frozen? ⟨p, 4, none⟩ = false := by
        obtain ⟨F', hx, _⟩ := hr
        exact hx.rcd.frozen 4
      have hpl : p < wr.heap.size := by
        obtain ⟨F', hx, _⟩ := hr
        exact hx.rcd.lt
      obtain ⟨cv, ccap, hcv⟩ : ∃ cv ccap, q.V = .slice cv 4 ccap := own_slice HIN.out.faults
      rw [hcv] at c4
      have HFIN := Lib.hid hfin
      have HCF := Lib.hid hcf
      clear hfin hcf hr hcv
      go_wp2_with fail
      go_end0
      refine ⟨rfl, ?_⟩
      obtain ⟨W, hW⟩ : ∃ W, W = ((wr.setCell ⟨p, 1, none⟩ (.slice none 0 0)).setCell ⟨p, 2, none⟩ (.bool false)).setCell ⟨p, 3, none⟩ (.int .i64 (-1)) := ⟨_, rfl⟩
      have hWs : W.heap.size = wr.heap.size := by rw [hW]; simp
      rw [← hW]
      have hcW : Chg (fun g => g = p ∨ blk q.L g) w W := by
        rw [hW]
        exact (HCF.out.trans (setCell_chg _ p 2 _) (fun _ _ h => .inl h)).trans (setCell_chg _ p 3 _) (fun _ _ h => .inl h)
      have hWin : RDiskIn n0 W p { { D.settle (fun i => bs.getD i false) with dark := false } with trip := -1 } { q with F := F, C := .slice none 0 0 } Y := by
        rw [hW]; exact (HFIN.out.inDark false).inTrip (-1)
      have hfr := hWin.fresh (Nat.le_trans HN0.out hcW.size) (fun _ => -1)
      rw [← World.setCell_alloc_past _ p 4 _ (by rw [hWs]; exact hpl), ← hWs]
      have hcf2 : Chg S w ((W.alloc (.cells #[.int .i64 (-1), .int .i64 (-1), .int .i64 (-1), .int .i64 (-1)] 3)).setCell ⟨p, 4, none⟩ (.slice (some ⟨W.heap.size, 0, none⟩) 4 4)) :=
        ((hcW.mono (G := S) (fun g _ e => HS.out g (.inr (e.elim .inl (fun e => .inr (.inl e)))))).trans (.of_below (F := S) (below_alloc0 (Below.refl _ _) _)) (fun _ _ h => h)).trans (setCell_chg _ p 4 _) (fun g _ e => HS.out g (.inr (.inl e)))
      refine ⟨fun g => S g ∨ g = W.heap.size, ⟨Dsk.calm_ok (D.settle_ok OK.out _), ⟨_, Y, hfr, fun g hg => ?_⟩, fun g hg => ?_⟩, fun g hg => hg.elim .inl (fun e => .inr (by have := hcW.size; omega)), hcf2⟩
      · rcases hg with hg | hg | hg | hg | hg
        · exact .inl (HS.out g (.inl hg))
        · exact .inl (HS.out g (.inr (.inl hg)))
        · exact .inl (HS.out g (.inr (.inr (.inl hg))))
        · cases hg
        · exact .inr (by cases hg; rfl)
      · rcases hg with hg | hg
        · exact ⟨(HLT.out g hg).1, Nat.lt_of_lt_of_le (HLT.out g hg).2 hcf2.size⟩
        · refine ⟨by have := HN0.out; have := hcW.size; omega, ?_⟩
          rw [hg]; simp
end Go.Proofs.YtfbjjblgcgjndaaGreat

/- A round of the reference disk's Write. -/
namespace Go.Proofs.YtfbjjblgcgjndaaGreat
open Go.RowKit
theorem rput_round {n0 a j c4 : Nat} {w wr wA w5 : World} {p : Nat} {D0 : Dsk} {S S' Y : Nat → Prop} {q : RParts} {l part : List Nat} {A4 : Option Addr} {v5 : Value} (hS : ∀ g, Y g ∨ q.box p g → S' g) (hlt : ∀ g, S' g → n0 ≤ g ∧ g < wr.heap.size) (hgr : Grows w S S') (hch : Chg S w wr) (hn0 : n0 ≤ w.heap.size)
    (hb : Below wr.heap.size wr wA) (hin : RDiskIn n0 wr p (D0.put a l j) q Y) (hr : Buf n0 wA (.slice A4 128 c4) part) (hfr : ∀ g, blk (.slice A4 128 c4) g → wr.heap.size ≤ g)
    (ho : w5.ownsRow n0 113 2 v5 ((D0.put a l j).cache.length + 1) (ccells (D0.put a l j).cache q.G ++ [.int .i64 ((a + j : Nat) : Int), .slice A4 128 c4])) (hor : (wA.grownBy w5 q.C.ownBlock ∧ v5.ownBlock = q.C.ownBlock) ∨ (wA.grownBy w5 none ∧ ∃ g, v5.ownBlock = some g ∧ wA.heap.size ≤ g))
    (hpart : part = (l.drop (128 * j)).take 128) (ok : (D0.put a l (j + 1)).Ok) : RNow n0 w p S (D0.put a l (j + 1)) (w5.setCell ⟨p, 1, none⟩ v5) := by
  have hoff : ∀ g, blk (.slice A4 128 c4) g → ¬ q.box p g := fun g hg e => by
    have h1 := hfr g hg
    have h2 := (hlt g (hS g (.inr e))).2
    omega
  obtain ⟨t1, t2⟩ := (hin.below hb).more (a + j) hr hoff ho hor
  have hput : D0.put a l (j + 1) = { D0.put a l j with cache := (D0.put a l j).cache ++ [(a + j, part)] } := by
    unfold Dsk.put
    simp only [puts, ← List.append_assoc]
    rw [hpart]
  rw [← hput] at t1
  have hz := t2.size
  have hbs := hb.size
  have hrw := hch.size
  have hbox : ∀ g, (g = p ∨ blk q.C g) → S' g := fun g e => hS g (.inr (e.elim .inl (fun e => .inr (.inr (.inl e)))))
  have hfin : Chg S w (w5.setCell ⟨p, 1, none⟩ v5) := (hch.trans (Chg.of_below (F := fun _ => False) hb) (fun _ _ h => h.elim)).trans t2 (fun g hg e => by
    rcases hgr g (hbox g e) with x | x
    · exact x
    · omega)
  refine ⟨fun g => S' g ∨ (wr.heap.size ≤ g ∧ g < (w5.setCell ⟨p, 1, none⟩ v5).heap.size), ⟨ok, ⟨_, _, t1, fun g hg => ?_⟩, fun g hg => ?_⟩, fun g hg => ?_, hfin⟩
  · rcases hg with (hg | hg) | hg | hg | hg | hg
    · exact .inl (hS g (.inl hg))
    · exact .inr ⟨hfr g hg, Nat.lt_of_lt_of_le (row_lt hr hg).2 hz⟩
    · exact .inl (hS g (.inr (.inl hg)))
    · exact .inl (hS g (.inr (.inr (.inl hg))))
    · have hg5 : blk v5 g := hg
      rcases push_blk hor hg5 with x | x
      · exact .inl (hbox g (.inr x))
      · exact .inr ⟨by omega, (row_lt t1.cache hg).2⟩
    · exact .inl (hS g (.inr (.inr (.inr (.inr hg)))))
  · rcases hg with hg | hg
    · have := hlt g hg; exact ⟨this.1, by omega⟩
    · exact ⟨by omega, hg.2⟩
  · rcases hg with hg | hg
    · exact hgr g hg
    · exact .inr (by omega)
end Go.Proofs.YtfbjjblgcgjndaaGreat

/- Contract of the reference disk's Write. -/
namespace Go.Proofs.YtfbjjblgcgjndaaGreat
open Go.RowKit
theorem own_slice2 {w : World} {n0 n k : Nat} {e : TypeId} {v : Value} {xs : List Value} (h : w.ownsRow n0 e k v n xs) : ∃ A c, v = .slice A n c := by
  obtain ⟨A, c, e, _⟩ := At.own h
  exact ⟨A, c, e⟩
theorem Tryz.under85 : Tryz.prog.underlying 85 = some (.slice 113) := by kernel_rfl
theorem Tryz.info113 : (Tryz.prog.info? 113).map (fun i => (i.zero, i.size, i.bytes)) = some (some (.agg #[.int .i64 0, .slice none 0 0]), 2, 32) := by kernel_rfl
/-- what the reference's Write leaves -/
def RWrote (n0 : Nat) (w : World) (p : Nat) (S : Nat → Prop) (x : Nat) (D' : Dsk) (e : Ending) (w' : World) : Prop := e = .returned (.int .u16 (x : Nat)) ∧ RNow n0 w p S D' w'
set_option maxRecDepth 100000 in
set_option maxHeartbeats 2000000 in
theorem rwrite_1024 {n0 : Nat} {w : World} {p : Nat} {D : Dsk} {S : Nat → Prop} (h : RD n0 w p D S) (pg : Nat) (gi oi c n : Nat) (l : List Nat) (hl : n = l.length) (hby : Bytes l) (h8 : n = 1024) (hpg : pg < D.pages) (hbeg : (D.begin 2).1 = 0) (hn0 : n0 ≤ w.heap.size) (hcl : D.cache.length ≤ 1000000000000) (hn : D.n 2 ≤ 4611686018427387904) (hcap : n ≤ c)
    (hA : ∀ w', Chg S w w' → At w' (some ⟨gi, oi, none⟩) (ns .u8 l)) :
    Calls Tryz.prog 9 #[.pointer (some ⟨p, 0, none⟩), .int .i64 (pg : Int), .slice (some ⟨gi, oi, none⟩) n c] w (RWrote n0 w p S 0 ((D.go 2).put (8 * pg) l (n / 128))) := by
  have hbg := rbegin2 h hn
  rw [hbeg] at hbg
  have HBG := Lib.hid hbg
  have HA := Lib.hid hA
  clear hbg hA
  have hPG : (D.begin 2).2.pages = D.pages := by unfold Dsk.pages; rw [(D.begin_last 2).1]
  have hpb : pg ≤ 16384 := by
    obtain ⟨k, a, _, b⟩ := h.1.pages
    have : D.pages = k := by unfold Dsk.pages; omega
    omega
  have hput : ∀ j, j ≤ 8 → ((D.go 2).put (8 * pg) l j).Ok := fun j hj => Dsk.put_ok (D.go_ok h.1 2) hby (by omega) (by
    obtain ⟨k, a, _, b⟩ := h.1.pages
    have h1 : (D.go 2).last.length = 8 * k := a
    have h2 : D.pages = k := by unfold Dsk.pages; omega
    rw [h1]; omega)
  have HPUT := Lib.hid hput
  have hstart : (D.begin 2).2 = (D.go 2).put (8 * pg) l 0 := by
    rw [Dsk.begin_go hbeg]; unfold Dsk.put; simp [puts]
  have HSTART := Lib.hid hstart
  have hlen : ∀ j, ((D.go 2).put (8 * pg) l j).cache.length ≤ 1000000000000 + j := fun j => by
    show (D.cache ++ puts (8 * pg) l j).length ≤ _
    rw [List.length_append, puts_length]; omega
  have HLEN := Lib.hid hlen
  clear hput hstart hlen hcl hby hbeg hn
  have HPG := Lib.hid hPG
  clear hPG
  obtain ⟨P, hP⟩ : ∃ P, P = D.pages := ⟨_, rfl⟩
  rw [← hP] at hpg HPG
  have hpg2 : ¬ (P : Int) ≤ (pg : Int) := by omega
  have hd0 : (P ≤ pg) = False := by simp; omega
  have HP := Lib.hid hP
  have HLL := Lib.hid hl
  clear hP hl
  subst h8
  go_enter Tryz.func9, Tryz.ntmps9
  go_wp2_with (first
    | (go_at_call 41; refine HBG.out.mono ?_; rintro e1 w1 ⟨rfl, hh1, hc1⟩; have HD1 := Lib.hid hh1; have HC1 := Lib.hid hc1; clear hh1 hc1)
    | (go_at_call 42; refine (rpages_any HD1.out).mono ?_; rintro e2 w2 ⟨rfl, rfl⟩; rw [HPG.out]))
  go_loopw [8] (fun i wr => ∃ j : Nat, j ≤ 8 ∧ i = .int .i64 j ∧ RNow n0 w p S ((D.go 2).put (8 * pg) l j) wr) (fun i _ => 8 - (intOf i).toNat)
  case atStart => exact ⟨0, by omega, rfl, S, by rw [← HSTART.out]; exact HD1.out, Grows.refl _ _, HC1.out⟩
  case round =>
    obtain ⟨j, hj, rfl, S', hrd, hgr, hch⟩ := hrel
    have HRD := Lib.hid hrd
    have HGR := Lib.hid hgr
    have HCH := Lib.hid hch
    clear hrd hgr hch
    by_cases hlt : j < 8
    · have h128 : 128 * (j : Int) < 1024 := by omega
      obtain ⟨ok, ⟨q, Y, hin, hS⟩, hlt0⟩ := HRD.out
      obtain ⟨V, cap, hqC⟩ := own_slice2 hin.cache
      have hin' := hin.below (below_drew0 (Below.refl _ wr))
      have c1 : wr.drew.cell? ⟨p, 1, none⟩ = some q.C := hin'.rcd.cell 1 (by omega)
      rw [hqC] at c1
      have hmb0 := HLEN.out j
      generalize hm7 : ((D.go 2).put (8 * pg) l j).cache.length = m at *
      have HM7 := Lib.hid hm7
      clear hm7
      have HS0 := Lib.hid (show (fun w : World => w.cell? ⟨p, 1, none⟩ = some (.slice V m cap)) wr.drew from c1)
      have HIN := Lib.hid hin
      have HQC := Lib.hid hqC
      have HSS := Lib.hid hS
      have HLT := Lib.hid hlt0
      have HPO := Lib.hid (show ((D.go 2).put (8 * pg) l (j + 1)).Ok from HPUT.out (j + 1) (by omega))
      have hmb : m ≤ 2000000000000 := by omega
      obtain ⟨part, hpart⟩ : ∃ part, part = (l.drop (128 * j)).take 128 := ⟨_, rfl⟩
      have hpl : part.length = 128 := by rw [hpart, List.length_take, List.length_drop]; have := HLL.out; omega
      have hsrc := ((HA.out wr HCH.out).below (below_drew0 (Below.refl _ wr))).part (128 * j) 128
      rw [← hpart] at hsrc
      have HSRC := Lib.hid hsrc
      have HPL := Lib.hid hpl
      have HPART := Lib.hid hpart
      have HPL2 := Lib.hid (show (ns .u8 part).length = 128 * 1 by rw [ns_length, hpl])
      have HBZ := Lib.hid (show n0 ≤ wr.drew.heap.size from Nat.le_trans hn0 HCH.out.size)
      clear hsrc hpl hpart
      have hk1 : (m : Int) = m := rfl
      have hw1 : IntKind.i64.wrap (8 * (pg : Int)) = 8 * (pg : Int) := by rw [IntKind.wrap_i64]; omega
      have hw2 : IntKind.i64.wrap (8 * (pg : Int) + (j : Int)) = 8 * (pg : Int) + (j : Int) := by rw [IntKind.wrap_i64]; omega
      have hw3 : IntKind.i64.wrap (128 * (j : Int)) = 128 * (j : Int) := by rw [IntKind.wrap_i64]; omega
      have hw4 : IntKind.i64.wrap (128 * (j : Int) + 128) = 128 * (j : Int) + 128 := by rw [IntKind.wrap_i64]; omega
      have hb1 : 0 ≤ 128 * (j : Int) := by omega
      have hb2 : 128 * (j : Int) + 128 ≤ (c : Int) := by omega
      have hb3 : ¬ c = 128 * j := by omega
      have hb4 : (128 * (j : Int)).toNat = 128 * j := by omega
      have hb5 : (128 * (j : Int) + 128).toNat = 128 * j + 128 := by omega
      have hb6 : 0 ≤ 128 * (j : Int) + 128 := by omega
      have hb7 : 128 * (j : Int) ≤ 128 * (j : Int) + 128 := by omega
      have hb8 : 128 * j + 128 ≤ c := by omega
      have hb9 : 128 * j + 128 - 128 * j = 128 := by omega
      clear hin hin' c1 hS hlt0 ok hqC
      go_wp2_with fail
      refine wp_region_noPanic ?_
      refine AnyL.start 23 (fun w : World => w.cell? ⟨p, 1, none⟩ = some (.slice V m cap)) (by kernel_rfl) ?_
      refine AnyL.take (i := 0) (oi := { dst := some 38, op := Op.move (Operand.tmp 0), type := 31, pos := "ref.go:125", after := #[], guard := none }) (v := ?_) rfl (by kernel_rfl) (by kernel_rfl) (by kernel_rfl) (by kernel_rfl) (fun _ _ _ h => h) (Or.inl ⟨by rfl, ?_⟩) HS0.out ?_
      rotate_left
      · (intro w5 hSw; have s1 := hSw; go_simp; try with_reducible rfl)
      simp only [Act.put, List.setIfInBounds_toArray, List.set_cons_zero, List.set_cons_succ]
      refine AnyL.take (i := 1) (oi := { dst := some 39, op := Op.move (Operand.tmp 0), type := 31, pos := "ref.go:125", after := #[], guard := none }) (v := ?_) rfl (by kernel_rfl) (by kernel_rfl) (by kernel_rfl) (by kernel_rfl) (fun _ _ _ h => h) (Or.inl ⟨by rfl, ?_⟩) HS0.out ?_
      rotate_left
      · (intro w5 hSw; have s1 := hSw; go_simp; try with_reducible rfl)
      simp only [Act.put, List.setIfInBounds_toArray, List.set_cons_zero, List.set_cons_succ]
      refine AnyL.take (i := 2) (oi := { dst := some 40, op := Op.nilCheck (Operand.tmp 39), type := 0, pos := "ref.go:125", after := #[{ on := 1, ground := Ground.data }], guard := none }) (v := ?_) rfl (by kernel_rfl) (by kernel_rfl) (by kernel_rfl) (by kernel_rfl) (fun _ _ _ h => h) (Or.inl ⟨by rfl, ?_⟩) HS0.out ?_
      rotate_left
      · (intro w5 hSw; have s1 := hSw; go_simp; try with_reducible rfl)
      simp only [Act.put, List.setIfInBounds_toArray, List.set_cons_zero, List.set_cons_succ]
      refine AnyL.take (i := 3) (oi := { dst := some 41, op := Op.fieldAddr 88 (Operand.tmp 40) 1, type := 0, pos := "ref.go:125", after := #[{ on := 2, ground := Ground.data }], guard := none }) (v := ?_) rfl (by kernel_rfl) (by kernel_rfl) (by kernel_rfl) (by kernel_rfl) (fun _ _ _ h => h) (Or.inl ⟨by rfl, ?_⟩) HS0.out ?_
      rotate_left
      · (intro w5 hSw; have s1 := hSw; go_simp; try with_reducible rfl)
      simp only [Act.put, List.setIfInBounds_toArray, List.set_cons_zero, List.set_cons_succ]
      refine AnyL.take (i := 4) (oi := { dst := some 42, op := Op.load 85 (Operand.tmp 41), type := 85, pos := "ref.go:125", after := #[{ on := 3, ground := Ground.data }], guard := none }) (v := ?_) rfl (by kernel_rfl) (by kernel_rfl) (by kernel_rfl) (by kernel_rfl) (fun _ _ _ h => h) (Or.inl ⟨by rfl, ?_⟩) HS0.out ?_
      rotate_left
      · (intro w5 hSw; have s1 := hSw; go_simp; try with_reducible rfl)
      simp only [Act.put, List.setIfInBounds_toArray, List.set_cons_zero, List.set_cons_succ]
      refine AnyL.take (i := 5) (oi := { dst := some 43, op := Op.move (Operand.tmp 1), type := 3, pos := "ref.go:125", after := #[], guard := none }) (v := ?_) rfl (by kernel_rfl) (by kernel_rfl) (by kernel_rfl) (by kernel_rfl) (fun _ _ _ h => h) (Or.inl ⟨by rfl, ?_⟩) HS0.out ?_
      rotate_left
      · (intro w5 hSw; have s1 := hSw; go_simp; try with_reducible rfl)
      simp only [Act.put, List.setIfInBounds_toArray, List.set_cons_zero, List.set_cons_succ]
      refine AnyL.take (i := 6) (oi := { dst := some 44, op := Op.binOp BinOp.mul 3 (Operand.const (Value.int IntKind.i64 8)) (Operand.tmp 43) 3, type := 3, pos := "ref.go:125", after := #[{ on := 5, ground := Ground.data }], guard := none }) (v := ?_) rfl (by kernel_rfl) (by kernel_rfl) (by kernel_rfl) (by kernel_rfl) (fun _ _ _ h => h) (Or.inl ⟨by rfl, ?_⟩) HS0.out ?_
      rotate_left
      · (intro w5 hSw; have s1 := hSw; go_simp; try with_reducible rfl)
      simp only [Act.put, List.setIfInBounds_toArray, List.set_cons_zero, List.set_cons_succ]
      refine AnyL.take (i := 7) (oi := { dst := some 45, op := Op.move (Operand.tmp 8), type := 3, pos := "ref.go:125", after := #[], guard := none }) (v := ?_) rfl (by kernel_rfl) (by kernel_rfl) (by kernel_rfl) (by kernel_rfl) (fun _ _ _ h => h) (Or.inl ⟨by rfl, ?_⟩) HS0.out ?_
      rotate_left
      · (intro w5 hSw; have s1 := hSw; go_simp; try with_reducible rfl)
      simp only [Act.put, List.setIfInBounds_toArray, List.set_cons_zero, List.set_cons_succ]
      refine AnyL.take (i := 8) (oi := { dst := some 46, op := Op.binOp BinOp.add 3 (Operand.tmp 44) (Operand.tmp 45) 3, type := 3, pos := "ref.go:125", after := #[{ on := 6, ground := Ground.data }, { on := 7, ground := Ground.data }], guard := none }) (v := ?_) rfl (by kernel_rfl) (by kernel_rfl) (by kernel_rfl) (by kernel_rfl) (fun _ _ _ h => h) (Or.inl ⟨by rfl, ?_⟩) HS0.out ?_
      rotate_left
      · (intro w5 hSw; have s1 := hSw; go_simp; try with_reducible rfl)
      simp only [Act.put, List.setIfInBounds_toArray, List.set_cons_zero, List.set_cons_succ]
      refine AnyL.take (i := 9) (oi := { dst := some 47, op := Op.move (Operand.tmp 9), type := 22, pos := "ref.go:125", after := #[], guard := none }) (v := ?_) rfl (by kernel_rfl) (by kernel_rfl) (by kernel_rfl) (by kernel_rfl) (fun _ _ _ h => h) (Or.inl ⟨by rfl, ?_⟩) HS0.out ?_
      rotate_left
      · (intro w5 hSw; have s1 := hSw; go_simp; try with_reducible rfl)
      simp only [Act.put, List.setIfInBounds_toArray, List.set_cons_zero, List.set_cons_succ]
      refine AnyL.take (i := 10) (oi := { dst := some 48, op := Op.move (Operand.tmp 2), type := 22, pos := "ref.go:125", after := #[], guard := none }) (v := ?_) rfl (by kernel_rfl) (by kernel_rfl) (by kernel_rfl) (by kernel_rfl) (fun _ _ _ h => h) (Or.inl ⟨by rfl, ?_⟩) HS0.out ?_
      rotate_left
      · (intro w5 hSw; have s1 := hSw; go_simp; try with_reducible rfl)
      simp only [Act.put, List.setIfInBounds_toArray, List.set_cons_zero, List.set_cons_succ]
      refine AnyL.take (i := 11) (oi := { dst := some 49, op := Op.move (Operand.tmp 8), type := 3, pos := "ref.go:125", after := #[], guard := none }) (v := ?_) rfl (by kernel_rfl) (by kernel_rfl) (by kernel_rfl) (by kernel_rfl) (fun _ _ _ h => h) (Or.inl ⟨by rfl, ?_⟩) HS0.out ?_
      rotate_left
      · (intro w5 hSw; have s1 := hSw; go_simp; try with_reducible rfl)
      simp only [Act.put, List.setIfInBounds_toArray, List.set_cons_zero, List.set_cons_succ]
      refine AnyL.take (i := 12) (oi := { dst := some 50, op := Op.binOp BinOp.mul 3 (Operand.const (Value.int IntKind.i64 128)) (Operand.tmp 49) 3, type := 3, pos := "ref.go:125", after := #[{ on := 11, ground := Ground.data }], guard := none }) (v := ?_) rfl (by kernel_rfl) (by kernel_rfl) (by kernel_rfl) (by kernel_rfl) (fun _ _ _ h => h) (Or.inl ⟨by rfl, ?_⟩) HS0.out ?_
      rotate_left
      · (intro w5 hSw; have s1 := hSw; go_simp; try with_reducible rfl)
      simp only [Act.put, List.setIfInBounds_toArray, List.set_cons_zero, List.set_cons_succ]
      refine AnyL.take (i := 13) (oi := { dst := some 51, op := Op.move (Operand.tmp 8), type := 3, pos := "ref.go:125", after := #[], guard := none }) (v := ?_) rfl (by kernel_rfl) (by kernel_rfl) (by kernel_rfl) (by kernel_rfl) (fun _ _ _ h => h) (Or.inl ⟨by rfl, ?_⟩) HS0.out ?_
      rotate_left
      · (intro w5 hSw; have s1 := hSw; go_simp; try with_reducible rfl)
      simp only [Act.put, List.setIfInBounds_toArray, List.set_cons_zero, List.set_cons_succ]
      refine AnyL.take (i := 14) (oi := { dst := some 52, op := Op.binOp BinOp.mul 3 (Operand.const (Value.int IntKind.i64 128)) (Operand.tmp 51) 3, type := 3, pos := "ref.go:125", after := #[{ on := 13, ground := Ground.data }], guard := none }) (v := ?_) rfl (by kernel_rfl) (by kernel_rfl) (by kernel_rfl) (by kernel_rfl) (fun _ _ _ h => h) (Or.inl ⟨by rfl, ?_⟩) HS0.out ?_
      rotate_left
      · (intro w5 hSw; have s1 := hSw; go_simp; try with_reducible rfl)
      simp only [Act.put, List.setIfInBounds_toArray, List.set_cons_zero, List.set_cons_succ]
      refine AnyL.take (i := 15) (oi := { dst := some 53, op := Op.binOp BinOp.add 3 (Operand.tmp 52) (Operand.const (Value.int IntKind.i64 128)) 3, type := 3, pos := "ref.go:125", after := #[{ on := 14, ground := Ground.data }], guard := none }) (v := ?_) rfl (by kernel_rfl) (by kernel_rfl) (by kernel_rfl) (by kernel_rfl) (fun _ _ _ h => h) (Or.inl ⟨by rfl, ?_⟩) HS0.out ?_
      rotate_left
      · (intro w5 hSw; have s1 := hSw; go_simp; try with_reducible rfl)
      simp only [Act.put, List.setIfInBounds_toArray, List.set_cons_zero, List.set_cons_succ]
      refine AnyL.one (i := 16) (o := { dst := some 54, op := Op.slice 22 (Operand.tmp 48) (some (Operand.tmp 50)) (some (Operand.tmp 53)) none, type := 22, pos := "ref.go:125", after := #[{ on := 10, ground := Ground.data }, { on := 12, ground := Ground.data }, { on := 15, ground := Ground.data }], guard := none }) (by kernel_rfl) rfl (by rfl) (fun K hK => ?_)
      have H8 := Lib.hid hK
      clear hK
      go_simp
      replace hK := H8.out
      refine hK _ _ (fun _ => HS0.out) ?_
      (try clear H8); (try clear hK); (try clear K)
      try simp only [Act.put, List.setIfInBounds_toArray, List.set_cons_zero, List.set_cons_succ]
      refine AnyL.one (i := 17) (o := { dst := some 55, op := Op.call { callee := Callee.builtin Builtin.append, args := #[Operand.tmp 47, Operand.tmp 54], argTypes := #[22, 22] }, type := 22, pos := "ref.go:125", after := #[{ on := 9, ground := Ground.data }, { on := 16, ground := Ground.data }], guard := none }) (by kernel_rfl) rfl (by rfl) (fun K hK => ?_)
      refine oper_append2 (.tmp 47) (.tmp 54) 22 5 (.int .u8 0) 1 1 rfl Tryz.underlying22 Tryz.info5 rfl (by decide) n0 (.slice none 0 0) 0 [] rfl (World.ownsRow_nil _ _ _ _) ⟨gi, oi + 128 * j, none⟩ 128 (c - 128 * j) (ns .u8 part) rfl HPL2.out HSRC.out (ns_one _ _) (by omega) (by omega) HBZ.out ?_
      intro v4 w4 ho4 hor4
      obtain ⟨A4, c4, rfl⟩ := own_slice ho4
      rw [Nat.zero_add] at ho4 hor4 ⊢
      have hg4 : wr.drew.grownBy w4 none := by
        rcases hor4 with ⟨x, _⟩ | ⟨x, _⟩
        · exact x
        · exact x
      have hb4' := below_of_grown hg4
      have HS4 := Lib.hid (show w4.cell? ⟨p, 1, none⟩ = some (.slice V m cap) from (Chg.of_below (F := fun _ => False) hb4').cell HS0.out (fun h => h))
      have HB4 := Lib.hid hb4'
      have HO4 := Lib.hid ho4
      have HR4 := Lib.hid hor4
      have HS5 := Lib.hid (show (w4.alloc (.cells #[.int .i64 (8 * (pg : Int) + (j : Int)), .slice A4 128 c4] 113)).cell? ⟨p, 1, none⟩ = some (.slice V m cap) from ((Chg.of_below (F := fun _ => False) hb4').alloc _).cell HS0.out (fun h => h))
      clear hb4' ho4 hor4 hg4
      refine hK _ _ (fun _ => HS4.out) ?_
      (try clear H8); (try clear hK); (try clear K)
      try simp only [Act.put, List.setIfInBounds_toArray, List.set_cons_zero, List.set_cons_succ]
      refine AnyL.one (i := 18) (o := { dst := some 56, op := Op.build 113 #[(0, Operand.tmp 46), (1, Operand.tmp 55)], type := 113, pos := "ref.go:125", after := #[{ on := 8, ground := Ground.data }, { on := 17, ground := Ground.data }], guard := none }) (by kernel_rfl) rfl (by rfl) (fun K hK => ?_)
      have H8 := Lib.hid hK
      clear hK
      go_simp
      replace hK := H8.out
      refine hK _ _ (fun _ => HS4.out) ?_
      (try clear H8); (try clear hK); (try clear K)
      try simp only [Act.put, List.setIfInBounds_toArray, List.set_cons_zero, List.set_cons_succ]
      refine AnyL.one (i := 19) (o := { dst := some 57, op := Op.buildSlice 85 1 #[(0, Operand.tmp 56)], type := 85, pos := "ref.go:125", after := #[{ on := 18, ground := Ground.data }], guard := none }) (by kernel_rfl) rfl (by rfl) (fun K hK => ?_)
      have H8 := Lib.hid hK
      clear hK
      go_simp
      replace hK := H8.out
      refine hK _ _ (fun _ => HS5.out) ?_
      (try clear H8); (try clear hK); (try clear K)
      try simp only [Act.put, List.setIfInBounds_toArray, List.set_cons_zero, List.set_cons_succ]
      refine AnyL.one (i := 20) (o := { dst := some 58, op := Op.call { callee := Callee.builtin Builtin.append, args := #[Operand.tmp 42, Operand.tmp 57], argTypes := #[85, 85] }, type := 85, pos := "ref.go:125", after := #[{ on := 4, ground := Ground.data }, { on := 19, ground := Ground.data }, { on := 17, ground := Ground.chain }], guard := none }) (by kernel_rfl) rfl (by rfl) (fun K hK => ?_)
      have hbA : Below wr.heap.size wr (w4.alloc (.cells #[.int .i64 (8 * (pg : Int) + (j : Int)), .slice A4 128 c4] 113)) := below_alloc0 (below_next0 (below_drew0 (Below.refl wr.heap.size wr)) HB4.out) _
      have hown5 := own_below HIN.out.cache hbA
      rw [HQC.out, HM7.out] at hown5
      have HOWN := Lib.hid hown5
      have HATB := Lib.hid (show At (w4.alloc (.cells #[.int .i64 (8 * (pg : Int) + (j : Int)), .slice A4 128 c4] 113)) (some ⟨w4.heap.size, 0, none⟩) [.int .i64 (8 * (pg : Int) + (j : Int)), .slice A4 128 c4] from At.whole (heap_alloc_new w4 _))
      have HBA := Lib.hid (show n0 ≤ (w4.alloc (.cells #[.int .i64 (8 * (pg : Int) + (j : Int)), .slice A4 128 c4] 113)).heap.size from Nat.le_trans HBZ.out (Nat.le_trans HB4.out.size (by simp)))
      have HIA := Lib.hid (HIN.out.below hbA)
      clear hbA hown5
      refine oper_append2 (.tmp 42) (.tmp 57) 85 113 (.agg #[.int .i64 0, .slice none 0 0]) 2 32 rfl Tryz.under85 Tryz.info113 (by rfl) (by decide) n0 (.slice V m cap) m _ rfl HOWN.out ⟨w4.heap.size, 0, none⟩ 1 1 [.int .i64 (8 * (pg : Int) + (j : Int)), .slice A4 128 c4] rfl (by rfl) HATB.out (by simp [Value.oneCell']) (by omega) (by omega) HBA.out ?_
      intro v5 w5 ho5 hor5
      obtain ⟨A5, c5, rfl⟩ := own_slice2 ho5
      have hrec5 := HIA.out.rcd.keep (push_chg hor5) (fun h => HIA.out.sep.2.1 (by rw [HQC.out]; exact h))
      have q1 : w5.cell? ⟨p, 1, none⟩ = some (.slice V m cap) := by rw [← HQC.out]; exact hrec5.cell 1 (by omega)
      have q2 := hrec5.frozen 1
      have HS6 := Lib.hid q1
      have HO5 := Lib.hid ho5
      have HR5 := Lib.hid hor5
      clear hrec5 ho5 hor5
      refine hK _ _ (fun _ => HS6.out) ?_
      (try clear H8); (try clear hK); (try clear K)
      try simp only [Act.put, List.setIfInBounds_toArray, List.set_cons_zero, List.set_cons_succ]
      refine AnyL.one (i := 21) (o := { dst := some 59, op := Op.nilCheck (Operand.tmp 38), type := 0, pos := "ref.go:125", after := #[{ on := 0, ground := Ground.data }, { on := 0, ground := Ground.phase }, { on := 1, ground := Ground.phase }, { on := 2, ground := Ground.phase }, { on := 3, ground := Ground.phase }, { on := 4, ground := Ground.phase }, { on := 5, ground := Ground.phase }, { on := 6, ground := Ground.phase }, { on := 7, ground := Ground.phase }, { on := 8, ground := Ground.phase }, { on := 9, ground := Ground.phase }, { on := 10, ground := Ground.phase }, { on := 11, ground := Ground.phase }, { on := 12, ground := Ground.phase }, { on := 13, ground := Ground.phase }, { on := 14, ground := Ground.phase }, { on := 15, ground := Ground.phase }, { on := 16, ground := Ground.phase }, { on := 17, ground := Ground.phase }, { on := 18, ground := Ground.phase }, { on := 19, ground := Ground.phase }, { on := 20, ground := Ground.phase }], guard := none }) (by kernel_rfl) rfl (by rfl) (fun K hK => ?_)
      have H8 := Lib.hid hK
      clear hK
      go_simp
      replace hK := H8.out
      refine hK _ _ (fun _ => HS6.out) ?_
      (try clear H8); (try clear hK); (try clear K)
      try simp only [Act.put, List.setIfInBounds_toArray, List.set_cons_zero, List.set_cons_succ]
      refine AnyL.one (i := 22) (o := { dst := some 60, op := Op.fieldAddr 88 (Operand.tmp 59) 1, type := 0, pos := "ref.go:125", after := #[{ on := 21, ground := Ground.data }, { on := 0, ground := Ground.phase }, { on := 1, ground := Ground.phase }, { on := 2, ground := Ground.phase }, { on := 3, ground := Ground.phase }, { on := 4, ground := Ground.phase }, { on := 5, ground := Ground.phase }, { on := 6, ground := Ground.phase }, { on := 7, ground := Ground.phase }, { on := 8, ground := Ground.phase }, { on := 9, ground := Ground.phase }, { on := 10, ground := Ground.phase }, { on := 11, ground := Ground.phase }, { on := 12, ground := Ground.phase }, { on := 13, ground := Ground.phase }, { on := 14, ground := Ground.phase }, { on := 15, ground := Ground.phase }, { on := 16, ground := Ground.phase }, { on := 17, ground := Ground.phase }, { on := 18, ground := Ground.phase }, { on := 19, ground := Ground.phase }, { on := 20, ground := Ground.phase }], guard := none }) (by kernel_rfl) rfl (by rfl) (fun K hK => ?_)
      have H8 := Lib.hid hK
      clear hK
      go_simp
      replace hK := H8.out
      refine hK _ _ (fun _ => HS6.out) ?_
      (try clear H8); (try clear hK); (try clear K)
      try simp only [Act.put, List.setIfInBounds_toArray, List.set_cons_zero, List.set_cons_succ]
      refine AnyL.one (i := 23) (o := { dst := none, op := Op.store 85 (Operand.tmp 60) (Operand.tmp 58), type := 0, pos := "ref.go:125", after := #[{ on := 22, ground := Ground.data }, { on := 20, ground := Ground.data }, { on := 20, ground := Ground.chain }, { on := 0, ground := Ground.phase }, { on := 1, ground := Ground.phase }, { on := 2, ground := Ground.phase }, { on := 3, ground := Ground.phase }, { on := 4, ground := Ground.phase }, { on := 5, ground := Ground.phase }, { on := 6, ground := Ground.phase }, { on := 7, ground := Ground.phase }, { on := 8, ground := Ground.phase }, { on := 9, ground := Ground.phase }, { on := 10, ground := Ground.phase }, { on := 11, ground := Ground.phase }, { on := 12, ground := Ground.phase }, { on := 13, ground := Ground.phase }, { on := 14, ground := Ground.phase }, { on := 15, ground := Ground.phase }, { on := 16, ground := Ground.phase }, { on := 17, ground := Ground.phase }, { on := 18, ground := Ground.phase }, { on := 19, ground := Ground.phase }, { on := 20, ground := Ground.phase }], guard := none }) (by kernel_rfl) rfl (by rfl) (fun K hK => ?_)
      have H8 := Lib.hid hK
      clear hK
      go_simp
      replace hK := H8.out
      refine hK _ _ (fun h => by simp at h) ?_
      (try clear H8); (try clear hK); (try clear K)
      try simp only [Act.put, List.setIfInBounds_toArray, List.set_cons_zero, List.set_cons_succ]
      refine AnyL.done (by kernel_rfl) ?_
      refine NoPanic.normal ?_
      go_wp2_with fail
      go_roundw
      case measure => simp [intOf]; omega
      case rel =>
        refine ⟨j + 1, by omega, by go_num, ?_⟩
        exact rput_round (wA := w4.alloc (.cells #[.int .i64 (8 * (pg : Int) + (j : Int)), .slice A4 128 c4] 113)) HSS.out HLT.out HGR.out HCH.out hn0 (below_alloc0 (below_next0 (below_drew0 (Below.refl wr.heap.size wr)) HB4.out) _) HIN.out
          (by unfold Buf; rw [HPL.out]; exact own_below HO4.out (below_alloc0 (Below.refl _ _) _))
          (fun g hg => by
            have hg' : (Value.slice A4 128 c4).ownBlock = some g := hg
            rcases HR4.out with ⟨_, x⟩ | ⟨_, g2, x, y⟩
            · rw [x] at hg'; cases hg'
            · rw [x] at hg'; cases hg'; exact y)
          (by rw [HM7.out, show ((8 * pg + j : Nat) : Int) = 8 * (pg : Int) + (j : Int) by push_cast; rfl]; exact HO5.out) (by rw [HQC.out]; exact HR5.out) HPART.out HPO.out
    · obtain rfl : j = 8 := by omega
      have h128 : ¬ 128 * ((8 : Nat) : Int) < 1024 := by omega
      go_wp2_with fail
      go_ret
      exact ⟨rfl, S', HRD.out, HGR.out, HCH.out⟩
set_option maxRecDepth 100000 in
set_option maxHeartbeats 2000000 in
theorem rwrite_128 {n0 : Nat} {w : World} {p : Nat} {D : Dsk} {S : Nat → Prop} (h : RD n0 w p D S) (pg : Nat) (gi oi c n : Nat) (l : List Nat) (hl : n = l.length) (hby : Bytes l) (h8 : n = 128) (hpg : pg < D.pages) (hbeg : (D.begin 2).1 = 0) (hn0 : n0 ≤ w.heap.size) (hcl : D.cache.length ≤ 1000000000000) (hn : D.n 2 ≤ 4611686018427387904) (hcap : n ≤ c)
    (hA : ∀ w', Chg S w w' → At w' (some ⟨gi, oi, none⟩) (ns .u8 l)) :
    Calls Tryz.prog 9 #[.pointer (some ⟨p, 0, none⟩), .int .i64 (pg : Int), .slice (some ⟨gi, oi, none⟩) n c] w (RWrote n0 w p S 0 ((D.go 2).put (8 * pg) l (n / 128))) := by
  have hbg := rbegin2 h hn
  rw [hbeg] at hbg
  have HBG := Lib.hid hbg
  have HA := Lib.hid hA
  clear hbg hA
  have hPG : (D.begin 2).2.pages = D.pages := by unfold Dsk.pages; rw [(D.begin_last 2).1]
  have hpb : pg ≤ 16384 := by
    obtain ⟨k, a, _, b⟩ := h.1.pages
    have : D.pages = k := by unfold Dsk.pages; omega
    omega
  have hput : ∀ j, j ≤ 1 → ((D.go 2).put (8 * pg) l j).Ok := fun j hj => Dsk.put_ok (D.go_ok h.1 2) hby (by omega) (by
    obtain ⟨k, a, _, b⟩ := h.1.pages
    have h1 : (D.go 2).last.length = 8 * k := a
    have h2 : D.pages = k := by unfold Dsk.pages; omega
    rw [h1]; omega)
  have HPUT := Lib.hid hput
  have hstart : (D.begin 2).2 = (D.go 2).put (8 * pg) l 0 := by
    rw [Dsk.begin_go hbeg]; unfold Dsk.put; simp [puts]
  have HSTART := Lib.hid hstart
  have hlen : ∀ j, ((D.go 2).put (8 * pg) l j).cache.length ≤ 1000000000000 + j := fun j => by
    show (D.cache ++ puts (8 * pg) l j).length ≤ _
    rw [List.length_append, puts_length]; omega
  have HLEN := Lib.hid hlen
  clear hput hstart hlen hcl hby hbeg hn
  have HPG := Lib.hid hPG
  clear hPG
  obtain ⟨P, hP⟩ : ∃ P, P = D.pages := ⟨_, rfl⟩
  rw [← hP] at hpg HPG
  have hpg2 : ¬ (P : Int) ≤ (pg : Int) := by omega
  have hd0 : (P ≤ pg) = False := by simp; omega
  have HP := Lib.hid hP
  have HLL := Lib.hid hl
  clear hP hl
  subst h8
  go_enter Tryz.func9, Tryz.ntmps9
  go_wp2_with (first
    | (go_at_call 41; refine HBG.out.mono ?_; rintro e1 w1 ⟨rfl, hh1, hc1⟩; have HD1 := Lib.hid hh1; have HC1 := Lib.hid hc1; clear hh1 hc1)
    | (go_at_call 42; refine (rpages_any HD1.out).mono ?_; rintro e2 w2 ⟨rfl, rfl⟩; rw [HPG.out]))
  go_loopw [8] (fun i wr => ∃ j : Nat, j ≤ 1 ∧ i = .int .i64 j ∧ RNow n0 w p S ((D.go 2).put (8 * pg) l j) wr) (fun i _ => 1 - (intOf i).toNat)
  case atStart => exact ⟨0, by omega, rfl, S, by rw [← HSTART.out]; exact HD1.out, Grows.refl _ _, HC1.out⟩
  case round =>
    obtain ⟨j, hj, rfl, S', hrd, hgr, hch⟩ := hrel
    have HRD := Lib.hid hrd
    have HGR := Lib.hid hgr
    have HCH := Lib.hid hch
    clear hrd hgr hch
    by_cases hlt : j < 1
    · have h128 : 128 * (j : Int) < 128 := by omega
      obtain ⟨ok, ⟨q, Y, hin, hS⟩, hlt0⟩ := HRD.out
      obtain ⟨V, cap, hqC⟩ := own_slice2 hin.cache
      have hin' := hin.below (below_drew0 (Below.refl _ wr))
      have c1 : wr.drew.cell? ⟨p, 1, none⟩ = some q.C := hin'.rcd.cell 1 (by omega)
      rw [hqC] at c1
      have hmb0 := HLEN.out j
      generalize hm7 : ((D.go 2).put (8 * pg) l j).cache.length = m at *
      have HM7 := Lib.hid hm7
      clear hm7
      have HS0 := Lib.hid (show (fun w : World => w.cell? ⟨p, 1, none⟩ = some (.slice V m cap)) wr.drew from c1)
      have HIN := Lib.hid hin
      have HQC := Lib.hid hqC
      have HSS := Lib.hid hS
      have HLT := Lib.hid hlt0
      have HPO := Lib.hid (show ((D.go 2).put (8 * pg) l (j + 1)).Ok from HPUT.out (j + 1) (by omega))
      have hmb : m ≤ 2000000000000 := by omega
      obtain ⟨part, hpart⟩ : ∃ part, part = (l.drop (128 * j)).take 128 := ⟨_, rfl⟩
      have hpl : part.length = 128 := by rw [hpart, List.length_take, List.length_drop]; have := HLL.out; omega
      have hsrc := ((HA.out wr HCH.out).below (below_drew0 (Below.refl _ wr))).part (128 * j) 128
      rw [← hpart] at hsrc
      have HSRC := Lib.hid hsrc
      have HPL := Lib.hid hpl
      have HPART := Lib.hid hpart
      have HPL2 := Lib.hid (show (ns .u8 part).length = 128 * 1 by rw [ns_length, hpl])
      have HBZ := Lib.hid (show n0 ≤ wr.drew.heap.size from Nat.le_trans hn0 HCH.out.size)
      clear hsrc hpl hpart
      have hk1 : (m : Int) = m := rfl
      have hw1 : IntKind.i64.wrap (8 * (pg : Int)) = 8 * (pg : Int) := by rw [IntKind.wrap_i64]; omega
      have hw2 : IntKind.i64.wrap (8 * (pg : Int) + (j : Int)) = 8 * (pg : Int) + (j : Int) := by rw [IntKind.wrap_i64]; omega
      have hw3 : IntKind.i64.wrap (128 * (j : Int)) = 128 * (j : Int) := by rw [IntKind.wrap_i64]; omega
      have hw4 : IntKind.i64.wrap (128 * (j : Int) + 128) = 128 * (j : Int) + 128 := by rw [IntKind.wrap_i64]; omega
      have hb1 : 0 ≤ 128 * (j : Int) := by omega
      have hb2 : 128 * (j : Int) + 128 ≤ (c : Int) := by omega
      have hb3 : ¬ c = 128 * j := by omega
      have hb4 : (128 * (j : Int)).toNat = 128 * j := by omega
      have hb5 : (128 * (j : Int) + 128).toNat = 128 * j + 128 := by omega
      have hb6 : 0 ≤ 128 * (j : Int) + 128 := by omega
      have hb7 : 128 * (j : Int) ≤ 128 * (j : Int) + 128 := by omega
      have hb8 : 128 * j + 128 ≤ c := by omega
      have hb9 : 128 * j + 128 - 128 * j = 128 := by omega
      clear hin hin' c1 hS hlt0 ok hqC
      go_wp2_with fail
      refine wp_region_noPanic ?_
      refine AnyL.start 23 (fun w : World => w.cell? ⟨p, 1, none⟩ = some (.slice V m cap)) (by kernel_rfl) ?_
      refine AnyL.take (i := 0) (oi := { dst := some 38, op := Op.move (Operand.tmp 0), type := 31, pos := "ref.go:125", after := #[], guard := none }) (v := ?_) rfl (by kernel_rfl) (by kernel_rfl) (by kernel_rfl) (by kernel_rfl) (fun _ _ _ h => h) (Or.inl ⟨by rfl, ?_⟩) HS0.out ?_
      rotate_left
      · (intro w5 hSw; have s1 := hSw; go_simp; try with_reducible rfl)
      simp only [Act.put, List.setIfInBounds_toArray, List.set_cons_zero, List.set_cons_succ]
      refine AnyL.take (i := 1) (oi := { dst := some 39, op := Op.move (Operand.tmp 0), type := 31, pos := "ref.go:125", after := #[], guard := none }) (v := ?_) rfl (by kernel_rfl) (by kernel_rfl) (by kernel_rfl) (by kernel_rfl) (fun _ _ _ h => h) (Or.inl ⟨by rfl, ?_⟩) HS0.out ?_
      rotate_left
      · (intro w5 hSw; have s1 := hSw; go_simp; try with_reducible rfl)
      simp only [Act.put, List.setIfInBounds_toArray, List.set_cons_zero, List.set_cons_succ]
      refine AnyL.take (i := 2) (oi := { dst := some 40, op := Op.nilCheck (Operand.tmp 39), type := 0, pos := "ref.go:125", after := #[{ on := 1, ground := Ground.data }], guard := none }) (v := ?_) rfl (by kernel_rfl) (by kernel_rfl) (by kernel_rfl) (by kernel_rfl) (fun _ _ _ h => h) (Or.inl ⟨by rfl, ?_⟩) HS0.out ?_
      rotate_left
      · (intro w5 hSw; have s1 := hSw; go_simp; try with_reducible rfl)
      simp only [Act.put, List.setIfInBounds_toArray, List.set_cons_zero, List.set_cons_succ]
      refine AnyL.take (i := 3) (oi := { dst := some 41, op := Op.fieldAddr 88 (Operand.tmp 40) 1, type := 0, pos := "ref.go:125", after := #[{ on := 2, ground := Ground.data }], guard := none }) (v := ?_) rfl (by kernel_rfl) (by kernel_rfl) (by kernel_rfl) (by kernel_rfl) (fun _ _ _ h => h) (Or.inl ⟨by rfl, ?_⟩) HS0.out ?_
      rotate_left
      · (intro w5 hSw; have s1 := hSw; go_simp; try with_reducible rfl)
      simp only [Act.put, List.setIfInBounds_toArray, List.set_cons_zero, List.set_cons_succ]
      refine AnyL.take (i := 4) (oi := { dst := some 42, op := Op.load 85 (Operand.tmp 41), type := 85, pos := "ref.go:125", after := #[{ on := 3, ground := Ground.data }], guard := none }) (v := ?_) rfl (by kernel_rfl) (by kernel_rfl) (by kernel_rfl) (by kernel_rfl) (fun _ _ _ h => h) (Or.inl ⟨by rfl, ?_⟩) HS0.out ?_
      rotate_left
      · (intro w5 hSw; have s1 := hSw; go_simp; try with_reducible rfl)
      simp only [Act.put, List.setIfInBounds_toArray, List.set_cons_zero, List.set_cons_succ]
      refine AnyL.take (i := 5) (oi := { dst := some 43, op := Op.move (Operand.tmp 1), type := 3, pos := "ref.go:125", after := #[], guard := none }) (v := ?_) rfl (by kernel_rfl) (by kernel_rfl) (by kernel_rfl) (by kernel_rfl) (fun _ _ _ h => h) (Or.inl ⟨by rfl, ?_⟩) HS0.out ?_
      rotate_left
      · (intro w5 hSw; have s1 := hSw; go_simp; try with_reducible rfl)
      simp only [Act.put, List.setIfInBounds_toArray, List.set_cons_zero, List.set_cons_succ]
      refine AnyL.take (i := 6) (oi := { dst := some 44, op := Op.binOp BinOp.mul 3 (Operand.const (Value.int IntKind.i64 8)) (Operand.tmp 43) 3, type := 3, pos := "ref.go:125", after := #[{ on := 5, ground := Ground.data }], guard := none }) (v := ?_) rfl (by kernel_rfl) (by kernel_rfl) (by kernel_rfl) (by kernel_rfl) (fun _ _ _ h => h) (Or.inl ⟨by rfl, ?_⟩) HS0.out ?_
      rotate_left
      · (intro w5 hSw; have s1 := hSw; go_simp; try with_reducible rfl)
      simp only [Act.put, List.setIfInBounds_toArray, List.set_cons_zero, List.set_cons_succ]
      refine AnyL.take (i := 7) (oi := { dst := some 45, op := Op.move (Operand.tmp 8), type := 3, pos := "ref.go:125", after := #[], guard := none }) (v := ?_) rfl (by kernel_rfl) (by kernel_rfl) (by kernel_rfl) (by kernel_rfl) (fun _ _ _ h => h) (Or.inl ⟨by rfl, ?_⟩) HS0.out ?_
      rotate_left
      · (intro w5 hSw; have s1 := hSw; go_simp; try with_reducible rfl)
      simp only [Act.put, List.setIfInBounds_toArray, List.set_cons_zero, List.set_cons_succ]
      refine AnyL.take (i := 8) (oi := { dst := some 46, op := Op.binOp BinOp.add 3 (Operand.tmp 44) (Operand.tmp 45) 3, type := 3, pos := "ref.go:125", after := #[{ on := 6, ground := Ground.data }, { on := 7, ground := Ground.data }], guard := none }) (v := ?_) rfl (by kernel_rfl) (by kernel_rfl) (by kernel_rfl) (by kernel_rfl) (fun _ _ _ h => h) (Or.inl ⟨by rfl, ?_⟩) HS0.out ?_
      rotate_left
      · (intro w5 hSw; have s1 := hSw; go_simp; try with_reducible rfl)
      simp only [Act.put, List.setIfInBounds_toArray, List.set_cons_zero, List.set_cons_succ]
      refine AnyL.take (i := 9) (oi := { dst := some 47, op := Op.move (Operand.tmp 9), type := 22, pos := "ref.go:125", after := #[], guard := none }) (v := ?_) rfl (by kernel_rfl) (by kernel_rfl) (by kernel_rfl) (by kernel_rfl) (fun _ _ _ h => h) (Or.inl ⟨by rfl, ?_⟩) HS0.out ?_
      rotate_left
      · (intro w5 hSw; have s1 := hSw; go_simp; try with_reducible rfl)
      simp only [Act.put, List.setIfInBounds_toArray, List.set_cons_zero, List.set_cons_succ]
      refine AnyL.take (i := 10) (oi := { dst := some 48, op := Op.move (Operand.tmp 2), type := 22, pos := "ref.go:125", after := #[], guard := none }) (v := ?_) rfl (by kernel_rfl) (by kernel_rfl) (by kernel_rfl) (by kernel_rfl) (fun _ _ _ h => h) (Or.inl ⟨by rfl, ?_⟩) HS0.out ?_
      rotate_left
      · (intro w5 hSw; have s1 := hSw; go_simp; try with_reducible rfl)
      simp only [Act.put, List.setIfInBounds_toArray, List.set_cons_zero, List.set_cons_succ]
      refine AnyL.take (i := 11) (oi := { dst := some 49, op := Op.move (Operand.tmp 8), type := 3, pos := "ref.go:125", after := #[], guard := none }) (v := ?_) rfl (by kernel_rfl) (by kernel_rfl) (by kernel_rfl) (by kernel_rfl) (fun _ _ _ h => h) (Or.inl ⟨by rfl, ?_⟩) HS0.out ?_
      rotate_left
      · (intro w5 hSw; have s1 := hSw; go_simp; try with_reducible rfl)
      simp only [Act.put, List.setIfInBounds_toArray, List.set_cons_zero, List.set_cons_succ]
      refine AnyL.take (i := 12) (oi := { dst := some 50, op := Op.binOp BinOp.mul 3 (Operand.const (Value.int IntKind.i64 128)) (Operand.tmp 49) 3, type := 3, pos := "ref.go:125", after := #[{ on := 11, ground := Ground.data }], guard := none }) (v := ?_) rfl (by kernel_rfl) (by kernel_rfl) (by kernel_rfl) (by kernel_rfl) (fun _ _ _ h => h) (Or.inl ⟨by rfl, ?_⟩) HS0.out ?_
      rotate_left
      · (intro w5 hSw; have s1 := hSw; go_simp; try with_reducible rfl)
      simp only [Act.put, List.setIfInBounds_toArray, List.set_cons_zero, List.set_cons_succ]
      refine AnyL.take (i := 13) (oi := { dst := some 51, op := Op.move (Operand.tmp 8), type := 3, pos := "ref.go:125", after := #[], guard := none }) (v := ?_) rfl (by kernel_rfl) (by kernel_rfl) (by kernel_rfl) (by kernel_rfl) (fun _ _ _ h => h) (Or.inl ⟨by rfl, ?_⟩) HS0.out ?_
      rotate_left
      · (intro w5 hSw; have s1 := hSw; go_simp; try with_reducible rfl)
      simp only [Act.put, List.setIfInBounds_toArray, List.set_cons_zero, List.set_cons_succ]
      refine AnyL.take (i := 14) (oi := { dst := some 52, op := Op.binOp BinOp.mul 3 (Operand.const (Value.int IntKind.i64 128)) (Operand.tmp 51) 3, type := 3, pos := "ref.go:125", after := #[{ on := 13, ground := Ground.data }], guard := none }) (v := ?_) rfl (by kernel_rfl) (by kernel_rfl) (by kernel_rfl) (by kernel_rfl) (fun _ _ _ h => h) (Or.inl ⟨by rfl, ?_⟩) HS0.out ?_
      rotate_left
      · (intro w5 hSw; have s1 := hSw; go_simp; try with_reducible rfl)
      simp only [Act.put, List.setIfInBounds_toArray, List.set_cons_zero, List.set_cons_succ]
      refine AnyL.take (i := 15) (oi := { dst := some 53, op := Op.binOp BinOp.add 3 (Operand.tmp 52) (Operand.const (Value.int IntKind.i64 128)) 3, type := 3, pos := "ref.go:125", after := #[{ on := 14, ground := Ground.data }], guard := none }) (v := ?_) rfl (by kernel_rfl) (by kernel_rfl) (by kernel_rfl) (by kernel_rfl) (fun _ _ _ h => h) (Or.inl ⟨by rfl, ?_⟩) HS0.out ?_
      rotate_left
      · (intro w5 hSw; have s1 := hSw; go_simp; try with_reducible rfl)
      simp only [Act.put, List.setIfInBounds_toArray, List.set_cons_zero, List.set_cons_succ]
      refine AnyL.one (i := 16) (o := { dst := some 54, op := Op.slice 22 (Operand.tmp 48) (some (Operand.tmp 50)) (some (Operand.tmp 53)) none, type := 22, pos := "ref.go:125", after := #[{ on := 10, ground := Ground.data }, { on := 12, ground := Ground.data }, { on := 15, ground := Ground.data }], guard := none }) (by kernel_rfl) rfl (by rfl) (fun K hK => ?_)
      have H1 := Lib.hid hK
      clear hK
      go_simp
      replace hK := H1.out
      refine hK _ _ (fun _ => HS0.out) ?_
      (try clear H1); (try clear hK); (try clear K)
      try simp only [Act.put, List.setIfInBounds_toArray, List.set_cons_zero, List.set_cons_succ]
      refine AnyL.one (i := 17) (o := { dst := some 55, op := Op.call { callee := Callee.builtin Builtin.append, args := #[Operand.tmp 47, Operand.tmp 54], argTypes := #[22, 22] }, type := 22, pos := "ref.go:125", after := #[{ on := 9, ground := Ground.data }, { on := 16, ground := Ground.data }], guard := none }) (by kernel_rfl) rfl (by rfl) (fun K hK => ?_)
      refine oper_append2 (.tmp 47) (.tmp 54) 22 5 (.int .u8 0) 1 1 rfl Tryz.underlying22 Tryz.info5 rfl (by decide) n0 (.slice none 0 0) 0 [] rfl (World.ownsRow_nil _ _ _ _) ⟨gi, oi + 128 * j, none⟩ 128 (c - 128 * j) (ns .u8 part) rfl HPL2.out HSRC.out (ns_one _ _) (by omega) (by omega) HBZ.out ?_
      intro v4 w4 ho4 hor4
      obtain ⟨A4, c4, rfl⟩ := own_slice ho4
      rw [Nat.zero_add] at ho4 hor4 ⊢
      have hg4 : wr.drew.grownBy w4 none := by
        rcases hor4 with ⟨x, _⟩ | ⟨x, _⟩
        · exact x
        · exact x
      have hb4' := below_of_grown hg4
      have HS4 := Lib.hid (show w4.cell? ⟨p, 1, none⟩ = some (.slice V m cap) from (Chg.of_below (F := fun _ => False) hb4').cell HS0.out (fun h => h))
      have HB4 := Lib.hid hb4'
      have HO4 := Lib.hid ho4
      have HR4 := Lib.hid hor4
      have HS5 := Lib.hid (show (w4.alloc (.cells #[.int .i64 (8 * (pg : Int) + (j : Int)), .slice A4 128 c4] 113)).cell? ⟨p, 1, none⟩ = some (.slice V m cap) from ((Chg.of_below (F := fun _ => False) hb4').alloc _).cell HS0.out (fun h => h))
      clear hb4' ho4 hor4 hg4
      refine hK _ _ (fun _ => HS4.out) ?_
      (try clear H1); (try clear hK); (try clear K)
      try simp only [Act.put, List.setIfInBounds_toArray, List.set_cons_zero, List.set_cons_succ]
      refine AnyL.one (i := 18) (o := { dst := some 56, op := Op.build 113 #[(0, Operand.tmp 46), (1, Operand.tmp 55)], type := 113, pos := "ref.go:125", after := #[{ on := 8, ground := Ground.data }, { on := 17, ground := Ground.data }], guard := none }) (by kernel_rfl) rfl (by rfl) (fun K hK => ?_)
      have H1 := Lib.hid hK
      clear hK
      go_simp
      replace hK := H1.out
      refine hK _ _ (fun _ => HS4.out) ?_
      (try clear H1); (try clear hK); (try clear K)
      try simp only [Act.put, List.setIfInBounds_toArray, List.set_cons_zero, List.set_cons_succ]
      refine AnyL.one (i := 19) (o := { dst := some 57, op := Op.buildSlice 85 1 #[(0, Operand.tmp 56)], type := 85, pos := "ref.go:125", after := #[{ on := 18, ground := Ground.data }], guard := none }) (by kernel_rfl) rfl (by rfl) (fun K hK => ?_)
      have H1 := Lib.hid hK
      clear hK
      go_simp
      replace hK := H1.out
      refine hK _ _ (fun _ => HS5.out) ?_
      (try clear H1); (try clear hK); (try clear K)
      try simp only [Act.put, List.setIfInBounds_toArray, List.set_cons_zero, List.set_cons_succ]
      refine AnyL.one (i := 20) (o := { dst := some 58, op := Op.call { callee := Callee.builtin Builtin.append, args := #[Operand.tmp 42, Operand.tmp 57], argTypes := #[85, 85] }, type := 85, pos := "ref.go:125", after := #[{ on := 4, ground := Ground.data }, { on := 19, ground := Ground.data }, { on := 17, ground := Ground.chain }], guard := none }) (by kernel_rfl) rfl (by rfl) (fun K hK => ?_)
      have hbA : Below wr.heap.size wr (w4.alloc (.cells #[.int .i64 (8 * (pg : Int) + (j : Int)), .slice A4 128 c4] 113)) := below_alloc0 (below_next0 (below_drew0 (Below.refl wr.heap.size wr)) HB4.out) _
      have hown5 := own_below HIN.out.cache hbA
      rw [HQC.out, HM7.out] at hown5
      have HOWN := Lib.hid hown5
      have HATB := Lib.hid (show At (w4.alloc (.cells #[.int .i64 (8 * (pg : Int) + (j : Int)), .slice A4 128 c4] 113)) (some ⟨w4.heap.size, 0, none⟩) [.int .i64 (8 * (pg : Int) + (j : Int)), .slice A4 128 c4] from At.whole (heap_alloc_new w4 _))
      have HBA := Lib.hid (show n0 ≤ (w4.alloc (.cells #[.int .i64 (8 * (pg : Int) + (j : Int)), .slice A4 128 c4] 113)).heap.size from Nat.le_trans HBZ.out (Nat.le_trans HB4.out.size (by simp)))
      have HIA := Lib.hid (HIN.out.below hbA)
      clear hbA hown5
      refine oper_append2 (.tmp 42) (.tmp 57) 85 113 (.agg #[.int .i64 0, .slice none 0 0]) 2 32 rfl Tryz.under85 Tryz.info113 (by rfl) (by decide) n0 (.slice V m cap) m _ rfl HOWN.out ⟨w4.heap.size, 0, none⟩ 1 1 [.int .i64 (8 * (pg : Int) + (j : Int)), .slice A4 128 c4] rfl (by rfl) HATB.out (by simp [Value.oneCell']) (by omega) (by omega) HBA.out ?_
      intro v5 w5 ho5 hor5
      obtain ⟨A5, c5, rfl⟩ := own_slice2 ho5
      have hrec5 := HIA.out.rcd.keep (push_chg hor5) (fun h => HIA.out.sep.2.1 (by rw [HQC.out]; exact h))
      have q1 : w5.cell? ⟨p, 1, none⟩ = some (.slice V m cap) := by rw [← HQC.out]; exact hrec5.cell 1 (by omega)
      have q2 := hrec5.frozen 1
      have HS6 := Lib.hid q1
      have HO5 := Lib.hid ho5
      have HR5 := Lib.hid hor5
      clear hrec5 ho5 hor5
      refine hK _ _ (fun _ => HS6.out) ?_
      (try clear H1); (try clear hK); (try clear K)
      try simp only [Act.put, List.setIfInBounds_toArray, List.set_cons_zero, List.set_cons_succ]
      refine AnyL.one (i := 21) (o := { dst := some 59, op := Op.nilCheck (Operand.tmp 38), type := 0, pos := "ref.go:125", after := #[{ on := 0, ground := Ground.data }, { on := 0, ground := Ground.phase }, { on := 1, ground := Ground.phase }, { on := 2, ground := Ground.phase }, { on := 3, ground := Ground.phase }, { on := 4, ground := Ground.phase }, { on := 5, ground := Ground.phase }, { on := 6, ground := Ground.phase }, { on := 7, ground := Ground.phase }, { on := 8, ground := Ground.phase }, { on := 9, ground := Ground.phase }, { on := 10, ground := Ground.phase }, { on := 11, ground := Ground.phase }, { on := 12, ground := Ground.phase }, { on := 13, ground := Ground.phase }, { on := 14, ground := Ground.phase }, { on := 15, ground := Ground.phase }, { on := 16, ground := Ground.phase }, { on := 17, ground := Ground.phase }, { on := 18, ground := Ground.phase }, { on := 19, ground := Ground.phase }, { on := 20, ground := Ground.phase }], guard := none }) (by kernel_rfl) rfl (by rfl) (fun K hK => ?_)
      have H1 := Lib.hid hK
      clear hK
      go_simp
      replace hK := H1.out
      refine hK _ _ (fun _ => HS6.out) ?_
      (try clear H1); (try clear hK); (try clear K)
      try simp only [Act.put, List.setIfInBounds_toArray, List.set_cons_zero, List.set_cons_succ]
      refine AnyL.one (i := 22) (o := { dst := some 60, op := Op.fieldAddr 88 (Operand.tmp 59) 1, type := 0, pos := "ref.go:125", after := #[{ on := 21, ground := Ground.data }, { on := 0, ground := Ground.phase }, { on := 1, ground := Ground.phase }, { on := 2, ground := Ground.phase }, { on := 3, ground := Ground.phase }, { on := 4, ground := Ground.phase }, { on := 5, ground := Ground.phase }, { on := 6, ground := Ground.phase }, { on := 7, ground := Ground.phase }, { on := 8, ground := Ground.phase }, { on := 9, ground := Ground.phase }, { on := 10, ground := Ground.phase }, { on := 11, ground := Ground.phase }, { on := 12, ground := Ground.phase }, { on := 13, ground := Ground.phase }, { on := 14, ground := Ground.phase }, { on := 15, ground := Ground.phase }, { on := 16, ground := Ground.phase }, { on := 17, ground := Ground.phase }, { on := 18, ground := Ground.phase }, { on := 19, ground := Ground.phase }, { on := 20, ground := Ground.phase }], guard := none }) (by kernel_rfl) rfl (by rfl) (fun K hK => ?_)
      have H1 := Lib.hid hK
      clear hK
      go_simp
      replace hK := H1.out
      refine hK _ _ (fun _ => HS6.out) ?_
      (try clear H1); (try clear hK); (try clear K)
      try simp only [Act.put, List.setIfInBounds_toArray, List.set_cons_zero, List.set_cons_succ]
      refine AnyL.one (i := 23) (o := { dst := none, op := Op.store 85 (Operand.tmp 60) (Operand.tmp 58), type := 0, pos := "ref.go:125", after := #[{ on := 22, ground := Ground.data }, { on := 20, ground := Ground.data }, { on := 20, ground := Ground.chain }, { on := 0, ground := Ground.phase }, { on := 1, ground := Ground.phase }, { on := 2, ground := Ground.phase }, { on := 3, ground := Ground.phase }, { on := 4, ground := Ground.phase }, { on := 5, ground := Ground.phase }, { on := 6, ground := Ground.phase }, { on := 7, ground := Ground.phase }, { on := 8, ground := Ground.phase }, { on := 9, ground := Ground.phase }, { on := 10, ground := Ground.phase }, { on := 11, ground := Ground.phase }, { on := 12, ground := Ground.phase }, { on := 13, ground := Ground.phase }, { on := 14, ground := Ground.phase }, { on := 15, ground := Ground.phase }, { on := 16, ground := Ground.phase }, { on := 17, ground := Ground.phase }, { on := 18, ground := Ground.phase }, { on := 19, ground := Ground.phase }, { on := 20, ground := Ground.phase }], guard := none }) (by kernel_rfl) rfl (by rfl) (fun K hK => ?_)
      have H1 := Lib.hid hK
      clear hK
      go_simp
      replace hK := H1.out
      refine hK _ _ (fun h => by simp at h) ?_
      (try clear H1); (try clear hK); (try clear K)
      try simp only [Act.put, List.setIfInBounds_toArray, List.set_cons_zero, List.set_cons_succ]
      refine AnyL.done (by kernel_rfl) ?_
      refine NoPanic.normal ?_
      go_wp2_with fail
      go_roundw
      case measure => simp [intOf]; omega
      case rel =>
        refine ⟨j + 1, by omega, by go_num, ?_⟩
        exact rput_round (wA := w4.alloc (.cells #[.int .i64 (8 * (pg : Int) + (j : Int)), .slice A4 128 c4] 113)) HSS.out HLT.out HGR.out HCH.out hn0 (below_alloc0 (below_next0 (below_drew0 (Below.refl wr.heap.size wr)) HB4.out) _) HIN.out
          (by unfold Buf; rw [HPL.out]; exact own_below HO4.out (below_alloc0 (Below.refl _ _) _))
          (fun g hg => by
            have hg' : (Value.slice A4 128 c4).ownBlock = some g := hg
            rcases HR4.out with ⟨_, x⟩ | ⟨_, g2, x, y⟩
            · rw [x] at hg'; cases hg'
            · rw [x] at hg'; cases hg'; exact y)
          (by rw [HM7.out, show ((8 * pg + j : Nat) : Int) = 8 * (pg : Int) + (j : Int) by push_cast; rfl]; exact HO5.out) (by rw [HQC.out]; exact HR5.out) HPART.out HPO.out
    · obtain rfl : j = 1 := by omega
      have h128 : ¬ 128 * ((1 : Nat) : Int) < 128 := by omega
      go_wp2_with fail
      go_ret
      exact ⟨rfl, S', HRD.out, HGR.out, HCH.out⟩
end Go.Proofs.YtfbjjblgcgjndaaGreat

/- Contract of the reference disk's Write: whatever it is handed. -/
namespace Go.Proofs.YtfbjjblgcgjndaaGreat
open Go.RowKit

theorem rwrite_stay {n0 : Nat} {w w' : World} {p x : Nat} {D : Dsk} {S : Nat → Prop} (h : RD n0 w' p D S) (hc : Chg S w w') : RWrote n0 w p S x D (.returned (.int .u16 (x : Nat))) w' := ⟨rfl, S, h, Grows.refl _ _, hc⟩
set_option maxRecDepth 100000 in
set_option maxHeartbeats 2000000 in
/-- it is refused -/
theorem rwrite_no {n0 : Nat} {w : World} {p : Nat} {D : Dsk} {S : Nat → Prop} (h : RD n0 w p D S) (pg : Int) (A : Option Addr) (c n : Nat) (l : List Nat) (hl : n = l.length) (hsm : n ≤ 140737488355328) (hno : (D.write pg l).1 ≠ 0) (hn : D.n 2 ≤ 4611686018427387904) :
    Calls Tryz.prog 9 #[.pointer (some ⟨p, 0, none⟩), .int .i64 pg, .slice A n c] w (RWrote n0 w p S (D.write pg l).1 (D.write pg l).2) := by
  have HBG := Lib.hid (rbegin2 h hn)
  have hpb : D.pages ≤ 16384 := by
    obtain ⟨k, a, _, b⟩ := h.1.pages
    have : D.pages = k := by unfold Dsk.pages; omega
    omega
  clear hn h
  by_cases hb : (D.begin 2).1 = 0
  · have hrd : D.write pg l = if pg < 0 ∨ (D.pages : Int) ≤ pg then (2, D.go 2) else if l.length ≠ 1024 ∧ l.length ≠ 128 then (1, D.go 2) else (0, (D.go 2).put (8 * pg.toNat) l (l.length / 128)) := by unfold Dsk.write; rw [if_neg (by simpa using hb)]
    have hgo : D.begin 2 = (0, D.go 2) := by rw [← Dsk.begin_go hb, ← hb]
    rw [hgo] at HBG
    have hpe : (D.go 2).pages = D.pages := rfl
    by_cases hr : pg < 0 ∨ (D.pages : Int) ≤ pg
    · rw [if_pos hr] at hrd
      rw [hrd]
      clear hrd hgo hb hno
      generalize D.pages = N at *
      have HPE := Lib.hid hpe
      clear hpe
      by_cases hneg : pg < 0
      · clear hr
        go_enter Tryz.func9, Tryz.ntmps9
        go_wp2_with fail
        refine HBG.out.mono ?_
        rintro e w1 ⟨rfl, hd, hch⟩
        have HD := Lib.hid hd
        have HCH := Lib.hid hch
        clear hd hch
        go_wp2_with fail
        go_ret
        exact rwrite_stay HD.out HCH.out
      · have hbig : (N : Int) ≤ pg := by omega
        have hd1 : decide ((N : Int) ≤ pg) = true := by simpa using hbig
        have HBIG := Lib.hid hbig
        clear hr hbig
        go_enter Tryz.func9, Tryz.ntmps9
        go_wp2_with fail
        refine HBG.out.mono ?_
        rintro e w1 ⟨rfl, hd, hch⟩
        have HP := Lib.hid (rpages_any hd)
        rw [HPE.out] at HP
        have HD := Lib.hid hd
        have HCH := Lib.hid hch
        clear hd hch
        go_wp2_with fail
        refine HP.out.mono ?_
        rintro e w2 ⟨rfl, rfl⟩
        go_wp2_with fail
        go_ret
        exact rwrite_stay HD.out HCH.out
    · rw [if_neg hr] at hrd
      have hlen : l.length ≠ 1024 ∧ l.length ≠ 128 := Classical.byContradiction fun hq => by rw [if_neg hq] at hrd; rw [hrd] at hno; exact hno rfl
      rw [if_pos hlen] at hrd
      rw [hrd]
      have hneg : ¬ pg < 0 := by omega
      have hnb : ¬ (D.pages : Int) ≤ pg := by omega
      have l1 : ((n : Int) != 1024) = true := by simp; omega
      have l2 : ((n : Int) != 128) = true := by simp; omega
      have l3 : ¬ (n : Int) = 1024 := by omega
      have l4 : ¬ (n : Int) = 128 := by omega
      have l5 : (n != 1024) = true := by simp; omega
      have l6 : (n != 128) = true := by simp; omega
      have hd1 : decide ((D.pages : Int) ≤ pg) = false := by simp; omega
      clear hrd hgo hb hno hr hlen hl
      generalize D.pages = N at *
      have HPE := Lib.hid hpe
      clear hpe
      go_enter Tryz.func9, Tryz.ntmps9
      go_wp2_with fail
      refine HBG.out.mono ?_
      rintro e w1 ⟨rfl, hd, hch⟩
      have HP := Lib.hid (rpages_any hd)
      rw [HPE.out] at HP
      have HD := Lib.hid hd
      have HCH := Lib.hid hch
      clear hd hch
      go_wp2_with fail
      refine HP.out.mono ?_
      rintro e w2 ⟨rfl, rfl⟩
      go_wp2_with fail
      go_ret
      exact rwrite_stay HD.out HCH.out
  · have hrd : D.write pg l = D.begin 2 := by unfold Dsk.write; rw [if_pos hb]
    rw [hrd]
    clear hrd hno
    have he : (((D.begin 2).1 : Nat) != 0) = true := by simpa using hb
    have he2 : ((((D.begin 2).1 : Nat) : Int) != 0) = true := by simp; omega
    generalize (D.begin 2).1 = x at *
    generalize (D.begin 2).2 = D' at *
    clear hb
    go_enter Tryz.func9, Tryz.ntmps9
    go_wp2_with fail
    refine HBG.out.mono ?_
    rintro e w1 ⟨rfl, hd, hch⟩
    have HD := Lib.hid hd
    have HCH := Lib.hid hch
    clear hd hch
    go_wp2_with fail
    go_ret
    exact rwrite_stay HD.out HCH.out
theorem Dsk.write_yes {D : Dsk} {pg : Int} {l : List Nat} (h : (D.write pg l).1 = 0) : (D.begin 2).1 = 0 ∧ ∃ n : Nat, pg = (n : Int) ∧ n < D.pages ∧ (l.length = 1024 ∨ l.length = 128) ∧ D.write pg l = (0, (D.go 2).put (8 * n) l (l.length / 128)) := by
  by_cases hb : (D.begin 2).1 = 0
  · refine ⟨hb, ?_⟩
    have hrd : D.write pg l = if pg < 0 ∨ (D.pages : Int) ≤ pg then (2, D.go 2) else if l.length ≠ 1024 ∧ l.length ≠ 128 then (1, D.go 2) else (0, (D.go 2).put (8 * pg.toNat) l (l.length / 128)) := by unfold Dsk.write; rw [if_neg (by simpa using hb)]
    rw [hrd] at h ⊢
    split at h
    · cases h
    · rename_i h1
      split at h
      · cases h
      · rename_i h2
        refine ⟨pg.toNat, by omega, by omega, by omega, ?_⟩
        rw [if_neg h1, if_neg h2]
  · exfalso
    have hrd : D.write pg l = D.begin 2 := by unfold Dsk.write; rw [if_pos hb]
    rw [hrd] at h
    exact hb h
/-- the whole of it -/
theorem rwrite_any {n0 : Nat} {w : World} {p : Nat} {D : Dsk} {S : Nat → Prop} (h : RD n0 w p D S) (pg : Int) (A : Option Addr) (c : Nat) (l : List Nat) (hn0 : n0 ≤ w.heap.size) (hA : ∀ w', Chg S w w' → At w' A (ns .u8 l)) (hle : l.length ≤ c) (hby : Bytes l) (hsm : l.length ≤ 140737488355328) (hcl : D.cache.length ≤ 1000000000000) (hn : D.n 2 ≤ 4611686018427387904) :
    Calls Tryz.prog 9 #[.pointer (some ⟨p, 0, none⟩), .int .i64 pg, .slice A l.length c] w (RWrote n0 w p S (D.write pg l).1 (D.write pg l).2) := by
  by_cases hno : (D.write pg l).1 = 0
  · obtain ⟨hb, n, rfl, hnp, hlen, e⟩ := Dsk.write_yes hno
    rw [e]
    obtain ⟨gi, oi, rfl, _⟩ := hA w (Chg.refl _ _) (by intro e; have := congrArg List.length e; simp [ns] at this; subst this; simp at hlen)
    rcases hlen with hlen | hlen
    · exact rwrite_1024 h n gi oi c l.length l rfl hby hlen hnp hb hn0 hcl hn hle hA
    · exact rwrite_128 h n gi oi c l.length l rfl hby hlen hnp hb hn0 hcl hn hle hA
  · exact rwrite_no h pg A c l.length l rfl hsm hno hn
end Go.Proofs.YtfbjjblgcgjndaaGreat

/- Bytes made strings; bytes.Equal; slices.Clone of bytes. -/
namespace Go.Proofs.YtfbjjblgcgjndaaGreat
open Go.RowKit

def str (l : List Nat) : ByteArray := ⟨(l.map UInt8.ofNat).toArray⟩
theorem str_nums (l : List Nat) : strOfNums (l.map fun (n : Nat) => (n : Int)) = str l := by
  simp [strOfNums, str, Function.comp_def]
theorem str_inj (l m : List Nat) (hl : Bytes l) (hm : Bytes m) (h : str l = str m) : l = m := by
  unfold str at h
  injection h with h
  have h' : l.map UInt8.ofNat = m.map UInt8.ofNat := by simpa using h
  have h2 := congrArg (List.map UInt8.toNat) h'
  rw [List.map_map, List.map_map] at h2
  have e : ∀ x : List Nat, Bytes x → x.map (UInt8.toNat ∘ UInt8.ofNat) = x := by
    intro x hx
    conv => rhs; rw [← List.map_id x]
    apply List.map_congr_left
    intro a ha
    have := hx a ha
    simp [UInt8.toNat_ofNat']
    omega
  rwa [e l hl, e m hm] at h2
theorem str_list (l : List Nat) : (str l).toList = l.map UInt8.ofNat := by rw [ByteArray.toList_eq]; simp [str]
theorem str_beq (l m : List Nat) (hl : Bytes l) (hm : Bytes m) : ((str l).toList == (str m).toList) = decide (l = m) := by
  by_cases h : l = m
  · subst h; simp
  · have : (str l).toList ≠ (str m).toList := fun e => h (str_inj l m hl hm (by
      rw [str_list, str_list] at e
      unfold str; rw [e]))
    rw [decide_eq_false h]
    exact beq_eq_false_iff_ne.2 this
theorem conv_str {P : Program} (w : World) (A : Option Addr) (c : Nat) (l : List Nat) (n : Nat) (hn : n = l.length) (hA : At w A (ns .u8 l)) (hs : P.underlying 22 = some (.slice 5)) (he : P.underlying 5 = some (.int .u8)) (hd : P.underlying 9 = some .string) :
    (convert 22 9 (.slice A n c)).run P w = .ok (.string (str l)) w := by
  subst hn
  cases l with
  | nil =>
    rw [List.length_nil]
    cases A with
    | none => exact run_convert_bytes_nil (P := P) w 22 5 hs he 0 c 9 hd
    | some a =>
      rw [run_convert_bytes_string w 22 9 5 (some a) 0 c hs he hd]
      simp [Conv.bytesToString, loadCells, loadCellsFrom, str]
      rfl
  | cons x l =>
    obtain ⟨b, o, rfl, hr⟩ := hA (by simp [ns])
    have := run_convert_bytes_arg (P := P) w 22 5 hs he b o (x :: l).length c ((x :: l).map fun (n : Nat) => (n : Int)) (by simp) (fun i hi => by
      have h1 := hr i _ (ns_get .u8 (x :: l) i hi)
      rw [h1]
      have h2 := nth_eq (x :: l) i hi
      simp only [List.getD_eq_getElem?_getD, List.getElem?_map, h2, Option.map_some, Option.getD_some]) 9 hd
    rw [this, str_nums]

set_option maxRecDepth 100000 in
theorem equal_any (A B : Option Addr) (c d n k : Nat) (l m : List Nat) (w : World) (hn : n = l.length) (hk : k = m.length) (hA : At w A (ns .u8 l)) (hB : At w B (ns .u8 m)) (hl : Bytes l) (hm : Bytes m) :
    Calls Tryz.prog 85 #[.slice A n c, .slice B k d] w fun e w' => e = .returned (.bool (decide (l = m))) ∧ w = w' := by
  have h1 := conv_str (P := Tryz.prog) w A c l n hn hA Tryz.underlying22 Tryz.underlying5 Tryz.underlying9
  have h2 := conv_str (P := Tryz.prog) w B d m k hk hB Tryz.underlying22 Tryz.underlying5 Tryz.underlying9
  have h3 := str_beq l m hl hm
  have H3 := Lib.hid h3
  clear h3 hA hB hn hk hl hm
  go_enter Tryz.func85, Tryz.ntmps85
  go_wp2
  go_ret
  exact ⟨by rw [← H3.out]; rfl, rfl⟩

set_option maxRecDepth 100000 in
theorem clone_any (A : Option Addr) (c n : Nat) (l : List Nat) (w : World) (hn : n = l.length) (hs : l.length ≤ 1000000000) (hA : At w A (ns .u8 l)) (hnil : A = none → c = 0) :
    Calls Tryz.prog 46 #[.slice A n c] w fun e w' => ∃ v, e = .returned v ∧ Buf w.heap.size w' v l ∧ Below w.heap.size w w' ∧ w.heap.size ≤ w'.heap.size := by
  subst hn
  cases A with
  | none =>
    have hl0 : l = [] := Classical.byContradiction fun h => by
      obtain ⟨b, o, e, _⟩ := hA (by intro he; apply h; have := congrArg List.length he; simpa [ns] using this)
      cases e
    subst hl0
    obtain rfl := hnil rfl
    have hne : ∀ w, (binOp .eql 22 (.slice none 0 0) (.slice none 0 0)).run Tryz.prog w = .ok (.bool true) w := fun w => by
      have := Lib.run_eql_slice_nil (P := Tryz.prog) w 22 5 none 0 0 0 0 Tryz.underlying22
      simpa using this
    rw [List.length_nil]
    go_enter Tryz.func46, Tryz.ntmps46
    go_wp2
    go_ret
    exact ⟨_, rfl, Buf.nil _ _, Below.refl _ _, Nat.le_refl _⟩
  | some a =>
    have hne : ∀ w, (binOp .eql 22 (.slice (some a) l.length c) (.slice none 0 0)).run Tryz.prog w = .ok (.bool false) w := fun w => by
      have := Lib.run_eql_slice_nil (P := Tryz.prog) w 22 5 (some a) l.length c 0 0 Tryz.underlying22
      simpa using this
    go_enter Tryz.func46, Tryz.ntmps46
    go_wp2_with (at_builtin; go_loud (refine buf_append (w0 := w) rfl (.tmp 5) (.tmp 6) rfl Tryz.underlying22 Tryz.info5 w.heap.size (.slice (some ⟨w.heap.size, 0, none⟩) 0 0) [] rfl (Buf.new w [] (Nat.le_refl _) (by simp) _ _ rfl rfl) (some a) l.length c l rfl rfl (hA.below (below_alloc0 (Below.refl _ _) _)) hnil (by simp; omega) (by simp) (below_alloc0 (Below.refl _ _) _) ?_); intro v1 w1 hv1 hb1 hs1)
    go_ret
    exact ⟨_, rfl, hv1, hb1, hs1⟩
end Go.Proofs.YtfbjjblgcgjndaaGreat

/- Contract of the pool's put. -/
namespace Go.Proofs.YtfbjjblgcgjndaaGreat
open Go.RowKit Go.Maps

def hcells (n k : Nat) (v : Value) : Nat → Value
  | 2 => .int .u32 (n : Int)
  | 3 => .int .u8 (k : Int)
  | 4 => v
  | _ => .pointer none
theorem RingIn.dat {w : World} {e : Nat} {l : List Nat} {nx pv : Nat → Nat} {dat dat' : Nat → Nat → Value} (h : RingIn w e l nx pv dat) (hd : ∀ b, b ∈ e :: l → dat' b = dat b) : RingIn w e l nx pv dat' :=
  ⟨h.link, h.nodup, fun b hb => (h.node b hb).congr fun i hi => by
    match i with
    | 0 => rfl
    | 1 => rfl
    | i + 2 => simp only [ncell]; rw [hd b hb]⟩
section
variable {n0 : Nat} {w1 w2 w3 w4 w5 : World} {P d most e mb nb : Nat} {bl : List Nat} {b n k cap : Nat} {pay : List Nat} {A : Option Addr} {hd : Nat → Hand} {nx pv nx' pv' : Nat → Nat} {dat : Nat → Nat → Value} {M : DataW Unit} {Y : Nat → Prop}
/-- the new hand is boxed, and stands in the map -/
theorem PoolIn.ready (h : PoolIn n0 w1 P d most e mb nb bl hd nx pv dat M Y) (hb12 : Below w1.heap.size w1 w2) (hb : b = w2.heap.size) (hw3 : w3 = w2.alloc (.cells #[.pointer none, .pointer none, .int .u32 (n : Int), .int .u8 (k : Int), .slice A pay.length cap] 118)) (hg4 : w3.grownBy w4 (some mb)) :
    w4.cell? ⟨P, 3, none⟩ = some (.pointer (some ⟨e, 0, none⟩)) ∧ P ≠ b ∧ RingIn w4 e bl nx pv (turn dat b (hcells n k (.slice A pay.length cap))) ∧ b ∉ e :: bl ∧ RecAt w4 b 118 5 (hcells n k (.slice A pay.length cap)) ∧ RecAt w4 P 121 4 (lcell d most mb e) ∧ Chg (fun g => g = mb) w1 w4 := by
  subst hb hw3
  have hb13 := below_alloc0 hb12 (.cells #[.pointer none, .pointer none, .int .u32 (n : Int), .int .u8 (k : Int), .slice A pay.length cap] 118)
  have hcm : Chg (fun g => g = mb) _ w4 := Chg.of_grown hg4 (fun g e => by cases e; rfl)
  have hc14 : Chg (fun g => g = mb) w1 w4 := (Chg.of_below (F := fun g => g = mb) hb13).trans hcm (fun _ _ h => h)
  have hlt : ∀ x, x ∈ e :: bl → x < w1.heap.size := fun x hx => (h.ring.node x hx).lt
  have hz := hb12.size
  have hnot : w2.heap.size ∉ e :: bl := fun hx => by have := hlt _ hx; omega
  obtain ⟨s1, s2, s3, s4⟩ := h.sep
  have hP : RecAt w4 P 121 4 (lcell d most mb e) := h.rcd.keep hc14 s1
  refine ⟨hP.cell 3 (by omega), fun x => by have := h.rcd.lt; omega, ?_, hnot, ?_, hP, hc14⟩
  · exact (h.ring.keep hc14 (fun x hx e' => s3 (by rw [← show x = mb from e']; exact hx))).dat (fun x hx => turn_other _ _ _ _ (fun e' => hnot (e' ▸ hx)))
  · have hn : RecAt (w2.alloc (.cells #[.pointer none, .pointer none, .int .u32 (n : Int), .int .u8 (k : Int), .slice A pay.length cap] 118)) w2.heap.size 118 5 (hcells n k (.slice A pay.length cap)) :=
      RecAt.of (heap_alloc_new w2 _) (by simp [lst, hcells, List.range_succ])
    exact hn.keep hcm (fun e' => by have := h.map.lt; have := show w2.heap.size = mb from e'; omega)
theorem PoolIn.added (h : PoolIn n0 w1 P d most e mb nb bl hd nx pv dat M Y) (x : Hand) (hx : x = ⟨n, k, pay⟩) (hxo : x.Ok) (hno : ∀ c, c ∈ bl → (hd c).num ≠ n) (hb12 : Below w1.heap.size w1 w2) (hv : Buf w1.heap.size w2 (.slice A pay.length cap) pay) (hb : b = w2.heap.size) (hw3 : w3 = w2.alloc (.cells #[.pointer none, .pointer none, .int .u32 (n : Int), .int .u8 (k : Int), .slice A pay.length cap] 118)) (hg4 : w3.grownBy w4 (some mb))
    (hm4 : w4.ownsMap Tryz.prog 67 ptrElem mb (nb + 1) (M.put (numKey n) (.lit (.int .i64 (b : Int))))) (hi5 : RingIn w5 e (bl ++ [b]) nx' pv' (turn dat b (hcells n k (.slice A pay.length cap)))) (hc5 : Chg (fun g => g ∈ e :: (bl ++ [b])) w4 w5) :
    PoolIn n0 w5 P d most e mb (nb + 1) (bl ++ [b]) (turn hd b x) nx' pv' (turn dat b (hcells n k (.slice A pay.length cap))) (M.put (numKey n) (.lit (.int .i64 (b : Int)))) (fun g => Y g ∨ blk (.slice A pay.length cap) g) ∧ Chg (fun g => g = mb ∨ g ∈ e :: bl) w1 w5 := by
  obtain ⟨r1, r2, r3, r4, r5, r6, r7⟩ := h.ready (n := n) (k := k) hb12 hb hw3 hg4
  obtain ⟨s1, s2, s3, s4⟩ := h.sep
  have hz := hb12.size
  have hsz3 : w3.heap.size = w2.heap.size + 1 := by rw [hw3]; simp
  have hlt : ∀ x, x ∈ e :: bl → x < w1.heap.size := fun x hx => (h.ring.node x hx).lt
  have hmbl : mb < w1.heap.size := h.map.lt
  have hvn : ∀ g, blk (.slice A pay.length cap) g → w1.heap.size ≤ g ∧ g < w2.heap.size := fun g hg => row_lt hv hg
  obtain ⟨hvl, hvA⟩ := buf_at hv
  have hnil : A = none → cap = 0 := by
    obtain ⟨A', c', e', _, h2, _⟩ := hv.at
    injection e' with e1 e2 e3
    subst e1 e3; exact h2
  have memb : ∀ y, y ∈ e :: (bl ++ [b]) → y ∈ e :: bl ∨ y = b := fun y hy => by
    simp only [List.mem_cons, List.mem_append, List.not_mem_nil, or_false] at hy ⊢
    rcases hy with hy | hy | hy
    · exact .inl (.inl hy)
    · exact .inl (.inr hy)
    · exact .inr hy
  have hc15 : Chg (fun g => g = mb ∨ g ∈ e :: bl) w1 w5 := (r7.mono (G := fun g => g = mb ∨ g ∈ e :: bl) (fun _ _ h => .inl h)).trans hc5 (fun g hg hg' => by
    rcases memb g hg' with y | y
    · exact .inr y
    · omega)
  have hatv : At w5 A (ns .u8 pay) := by
    have h3 : At w3 A (ns .u8 pay) := by rw [hw3]; exact hvA.below (below_alloc0 (Below.refl _ _) _)
    refine (h3.chg (Chg.of_grown (F := fun g => g = mb) hg4 (fun g e => by cases e; rfl)) (fun a ha e' => ?_)).chg hc5 (fun a ha hy => ?_)
    · have := hvn a.block (by rw [ha]; rfl); have := show a.block = mb from e'; omega
    · have := hvn a.block (by rw [ha]; rfl)
      rcases memb _ hy with y | y
      · have := hlt _ y; omega
      · omega
  have hblY : ∀ g, Y g → g < w1.heap.size := fun g hg => (h.base.2.2.2 g hg).2
  have hbnm : b ∉ bl := fun hx => r4 (List.mem_cons_of_mem _ hx)
  refine ⟨⟨r6.keep hc5 (fun hy => ?_), hi5, fun c hc => ?_, fun c c' hc hc' hn => ?_, map_chg2 hm4 hc5 (fun hy => ?_), ?_, ⟨h.base.1, h.base.2.1, fun y hy => ?_, fun g hg => ?_⟩, s1, fun hy => ?_, fun hy => ?_, fun g hg => ?_⟩, hc15⟩
  · rcases memb _ hy with y | y
    · exact s2 y
    · exact r2 y
  · rcases List.mem_append.1 hc with hc | hc
    · have hne : c ≠ b := fun e' => hbnm (e' ▸ hc)
      rw [turn_other _ _ _ _ hne, turn_other _ _ _ _ hne]
      obtain ⟨q1, q2, ⟨A1, c1, z1, z2, z3, z4⟩, t⟩ := h.dat c hc
      exact ⟨q1, q2, ⟨A1, c1, z1, z2.chg hc15 (fun a ha hy => by
        have := s4 _ (z4 a ha)
        rcases hy with hy | hy
        · exact this.2.1 hy
        · exact this.2.2 hy), z3, fun a ha => .inl (z4 a ha)⟩, t⟩
    · simp at hc
      subst hc
      rw [turn_same, turn_same, hx]
      exact ⟨rfl, rfl, ⟨A, cap, rfl, hatv, hnil, fun a ha => .inr (by rw [ha]; rfl)⟩, by rw [← hx]; exact hxo⟩
  · rcases List.mem_append.1 hc with ha | ha
    · have hne : c ≠ b := fun e' => hbnm (e' ▸ ha)
      rw [turn_other _ _ _ _ hne] at hn
      rcases List.mem_append.1 hc' with ha' | ha'
      · have hne' : c' ≠ b := fun e' => hbnm (e' ▸ ha')
        rw [turn_other _ _ _ _ hne'] at hn
        exact h.nums c c' ha ha' hn
      · have e2 : c' = b := by simpa using ha'
        rw [e2, turn_same, hx] at hn
        exact absurd hn (hno c ha)
    · have e1 : c = b := by simpa using ha
      rw [e1, turn_same, hx] at hn
      rcases List.mem_append.1 hc' with ha' | ha'
      · have hne' : c' ≠ b := fun e' => hbnm (e' ▸ ha')
        rw [turn_other _ _ _ _ hne'] at hn
        exact absurd hn.symm (hno c' ha')
      · have e2 : c' = b := by simpa using ha'
        rw [e1, e2]
  · rcases memb _ hy with y | y
    · exact s3 y
    · omega
  · have := h.mfor.put (h.map.tidy pool_keyed) b hbnm x (fun c hc => by rw [hx]; exact hno c hc)
    rw [hx] at this ⊢
    exact this
  · rcases memb _ hy with y' | y'
    · exact h.base.2.2.1 y y'
    · have := h.base.2.1; omega
  · rcases hg with hg | hg
    · have := h.base.2.2.2 g hg; exact ⟨this.1, by have := hc15.size; omega⟩
    · have := hvn g hg
      have h45 := hc5.size
      have h34 := hg4.size
      have := h.base.2.1
      exact ⟨by omega, by omega⟩
  · rcases memb _ hy with y | y
    · exact s2 y
    · exact r2 y
  · rcases memb _ hy with y | y
    · exact s3 y
    · omega
  · rcases hg with hg | hg
    · obtain ⟨y1, y2, y3⟩ := s4 g hg
      refine ⟨y1, y2, fun hy => ?_⟩
      rcases memb _ hy with y | y
      · exact y3 y
      · have := hblY g hg; omega
    · have := hvn g hg
      refine ⟨fun y => by have := h.rcd.lt; omega, fun y => by omega, fun hy => ?_⟩
      rcases memb _ hy with y | y
      · have := hlt g y; omega
      · omega
end
end Go.Proofs.YtfbjjblgcgjndaaGreat

/- Contract of the pool's put: the walk. -/
namespace Go.Proofs.YtfbjjblgcgjndaaGreat
open Go.RowKit Go.Maps

def PlPut (n0 : Nat) (w : World) (P d most : Nat) (T : Nat → Prop) (L : List Hand) (c : Nat) (x : Ending) (w' : World) : Prop := x = .returned (.tuple #[]) ∧ PNow n0 w P d most T L c w'
theorem forget_num {n : Nat} {L : List Hand} : ∀ x, x ∈ forget n L → x.num ≠ n := fun x hx => by
  unfold forget at hx
  have := (List.mem_filter.1 hx).2
  simpa using this
/-- what put has laid, ahead of its last look -/
theorem put_laid {n0 : Nat} {w w1 w5 : World} {P d most e mb nb c b : Nat} {bl : List Nat} {hd : Nat → Hand} {x : Hand} {nx pv : Nat → Nat} {dat : Nat → Nat → Value} {M : DataW Unit} {Y Z T : Nat → Prop} (hT : ∀ g, T g → n0 ≤ g ∧ g < w1.heap.size) (hf : ∀ g, pfoot P e mb bl Y g → T g) (hn0 : n0 ≤ w1.heap.size) (hw : Chg T w w1) (hb : b ∉ e :: bl) (hbn : w1.heap.size ≤ b) (hZ : ∀ g, Z g → w1.heap.size ≤ g)
    (hin : PoolIn n0 w5 P d most e mb (nb + 1) (bl ++ [b]) (turn hd b x) nx pv dat M (fun g => Y g ∨ Z g)) (hc : Chg (fun g => g = mb ∨ g ∈ e :: bl) w1 w5) (hnb : nb ≤ c) :
    PoolAt n0 w5 P d most (bl.map hd ++ [x]) (c + 1) (fun g => T g ∨ (w1.heap.size ≤ g ∧ g < w5.heap.size)) ∧ Grows w T (fun g => T g ∨ (w1.heap.size ≤ g ∧ g < w5.heap.size)) ∧ Chg T w w5 := by
  have hbnm : b ∉ bl := fun hx => hb (List.mem_cons_of_mem _ hx)
  refine ⟨⟨⟨e, mb, nb + 1, bl ++ [b], turn hd b x, nx, pv, dat, M, _, hin, ?_, by omega, fun g hg => ?_⟩, fun g hg => ?_⟩, fun g hg => ?_, hw.trans hc (fun g _ hg => ?_)⟩
  · rw [List.map_append]
    congr 1
    · exact List.map_congr_left fun y hy => (turn_other _ _ _ _ (by rintro rfl; exact hbnm hy)).symm
    · simp [turn_same]
  · rcases hg with hg | hg | hg | hg
    · exact .inl (hf g (.inl hg))
    · exact .inl (hf g (.inr (.inl hg)))
    · simp only [List.mem_cons, List.mem_append, List.not_mem_nil, or_false] at hg
      rcases hg with hg | hg | hg
      · exact .inl (hf g (.inr (.inr (.inl (by rw [hg]; simp)))))
      · exact .inl (hf g (.inr (.inr (.inl (by simp [hg])))))
      · refine .inr ⟨by omega, ?_⟩
        have := (hin.ring.node b (by simp)).lt
        omega
    · rcases hg with hg | hg
      · exact .inl (hf g (.inr (.inr (.inr hg))))
      · exact .inr ⟨hZ g hg, (hin.base.2.2.2 g (.inr hg)).2⟩
  · rcases hg with hg | hg
    · exact ⟨(hT g hg).1, Nat.lt_of_lt_of_le (hT g hg).2 hc.size⟩
    · exact ⟨by omega, hg.2⟩
  · rcases hg with hg | hg
    · exact .inl hg
    · exact .inr (Nat.le_trans hw.size hg.1)
  · rcases hg with hg | hg
    · exact hf g (.inr (.inl hg))
    · exact hf g (.inr (.inr (.inl hg)))
set_option maxRecDepth 100000 in
set_option maxHeartbeats 4000000 in
theorem plput_any {n0 : Nat} {w : World} {P d most : Nat} {L : List Hand} {c : Nat} {T : Nat → Prop} (h : PoolAt n0 w P d most L c T) (x : Hand) (hx : x.Ok) (A : Option Addr) (cap : Nat) (hA : ∀ w', Chg T w w' → At w' A (ns .u8 x.pay)) (hnil : A = none → cap = 0) (hm : most ≤ 9223372036854775807) (hc : c ≤ 1000000000) :
    Calls Tryz.prog 49 #[.pointer (some ⟨P, 0, none⟩), .int .u32 (x.num : Int), .int .u8 (x.kind : Int), .slice A x.pay.length cap] w (PlPut n0 w P d most T (usePage most x L) (c + 1)) := by
  have HF := Lib.hid (forget_any h x.num hx.num)
  have hxn := hx.num
  have HX := Lib.hid hx
  have HA := Lib.hid hA
  have HNIL := Lib.hid hnil
  have HK := Lib.hid (pool_key hx.num)
  have HN0 := Lib.hid h.n_le
  obtain ⟨n, k, pay⟩ := x
  simp only at HF hxn HA HK ⊢
  have hpl : pay.length ≤ 1008 := hx.len
  obtain ⟨m, hmm⟩ : ∃ m, m = pay.length := ⟨_, rfl⟩
  rw [← hmm] at hpl ⊢
  have HMM := Lib.hid hmm
  clear h hx hA hnil hmm
  go_enter Tryz.func49, Tryz.ntmps49
  go_wp2_with fail
  refine HF.out.mono ?_
  rintro e0 w1 ⟨rfl, h1, hc1⟩
  obtain ⟨⟨e, mb, nb, bl, hd, nx, pv, dat, M, Y, hin, hL, hnb, hft⟩, hT⟩ := h1
  have HC1 := Lib.hid hc1
  have HIN := Lib.hid hin
  have HL := Lib.hid hL
  have HFT := Lib.hid hft
  have HT := Lib.hid hT
  have hcl := clone_any A cap m pay w1 HMM.out (by have := HMM.out; omega) (HA.out w1 hc1) HNIL.out
  have HCL := Lib.hid hcl
  clear hc1 hin hL hft hT hcl HF
  go_wp2_with fail
  refine HCL.out.mono ?_
  rintro e0 w2 ⟨v, rfl, hv, hb12, hs12⟩
  obtain ⟨A2, c2, hv2⟩ : ∃ A2 c2, v = .slice A2 m c2 := by
    obtain ⟨A2, c2, e', _⟩ := hv.at
    exact ⟨A2, c2, by rw [e', HMM.out]⟩
  subst hv2
  have HV := Lib.hid hv
  have HB12 := Lib.hid hb12
  obtain ⟨w3, hw3⟩ : ∃ w3, w3 = w2.alloc (.cells #[.pointer none, .pointer none, .int .u32 (n : Int), .int .u8 (k : Int), .slice A2 m c2] 118) := ⟨_, rfl⟩
  have p2 : w3.cell? ⟨P, 2, none⟩ = some (.map (some mb)) := by
    rw [hw3]
    exact (HIN.out.rcd.keep (G := fun _ => False) (.of_below (below_alloc0 hb12 _)) (fun h => h)).cell 2 (by omega)
  have HM3 := Lib.hid (show w3.ownsMap Tryz.prog 67 ptrElem mb nb M from map_chg2 HIN.out.map (G := fun _ => False) (.of_below (by rw [hw3]; exact below_alloc0 hb12 _)) (fun h => h))
  obtain ⟨b, hb⟩ : ∃ b, b = w2.heap.size := ⟨_, rfl⟩
  have HW3 := Lib.hid hw3
  have HB := Lib.hid hb
  clear hv hb12 hs12 hw3 hb HCL
  go_upto_region 2 with (fail)
  rw [← HW3.out, ← HB.out]
  go_wp2_with (at_mapUpdate; refine wpList_mapUpdate_own _ rfl _ _ _ 119 rfl 67 114 pool_keyed Tryz.under119 ptrElem mb nb M rfl HM3.out (by simp only [maxLen]; omega) _ _ (numKey n) rfl rfl HK.out (.lit (.int .i64 (b : Int))) [] (ptrElem_mk b) ?_; intro w4 hown4 hgrow4)
  have HW3' := Lib.hid (show w3 = w2.alloc (.cells #[.pointer none, .pointer none, .int .u32 (n : Int), .int .u8 (k : Int), .slice A2 pay.length c2] 118) by rw [← HMM.out]; exact HW3.out)
  have HV' := Lib.hid (show Buf w1.heap.size w2 (.slice A2 pay.length c2) pay by rw [← HMM.out]; exact HV.out)
  obtain ⟨r1, r2, r3, r4, r5, r6, r7⟩ := HIN.out.ready (n := n) (k := k) HB12.out HB.out HW3'.out hgrow4
  have HIA := Lib.hid (in_any r1 r2 r3 r4 r5 (fun i h2 h5 => by rw [turn_same]))
  have HR4 := Lib.hid r4
  have HM4 := Lib.hid hown4
  have HG4 := Lib.hid hgrow4
  clear r1 r2 r3 r4 r5 r6 r7 hown4 hgrow4 p2
  refine HIA.out.mono ?_
  rintro e0 w5 ⟨rfl, hi5, hc5⟩
  obtain ⟨hin5, hc15⟩ := HIN.out.added ⟨n, k, pay⟩ rfl HX.out (fun c hc => forget_num (L := L) (hd c) (by rw [HL.out]; exact List.mem_map.2 ⟨c, hc, rfl⟩)) HB12.out HV'.out HB.out HW3'.out HG4.out HM4.out hi5 hc5
  have q1 : w5.cell? ⟨P, 1, none⟩ = some (.int .i64 (most : Int)) := hin5.rcd.cell 1 (by omega)
  have q2 : w5.cell? ⟨P, 2, none⟩ = some (.map (some mb)) := hin5.rcd.cell 2 (by omega)
  have q3 : w5.cell? ⟨P, 3, none⟩ = some (.pointer (some ⟨e, 0, none⟩)) := hin5.rcd.cell 3 (by omega)
  have hlen : (Builtin.len_ #[119] 3 #[.map (some mb)]).run Tryz.prog w5.drew = .ok (.int .i64 ((bl.length + 1 : Nat) : Int)) w5.drew := by
    have := (hin5.map.drew).len Tryz.under119 3
    rw [hin5.mfor.size] at this
    simpa using this
  obtain ⟨hp5, hg5, hcw5⟩ := put_laid (w := w) (x := ⟨n, k, pay⟩) HT.out HFT.out (Nat.le_trans HN0.out HC1.out.size) HC1.out HR4.out (by rw [HB.out]; exact HB12.out.size) (fun g hg => (row_lt HV'.out hg).1) hin5 hc15 hnb
  rw [← HL.out] at hp5
  have HIN5 := Lib.hid hin5
  have HP5 := Lib.hid hp5
  have HG5 := Lib.hid hg5
  have HCW5 := Lib.hid hcw5
  have hbl : bl.length ≤ 1000000001 := by have h1 := HIN.out.map.size_le; rw [HIN.out.mfor.size] at h1; omega
  clear hi5 hc5 hin5 hc15 hp5 hg5 hcw5 HIA
  have hul : (forget n L ++ [(⟨n, k, pay⟩ : Hand)]).length = bl.length + 1 := by rw [HL.out]; simp
  have HUL := Lib.hid hul
  clear hul
  by_cases hbig : most < bl.length + 1
  · have hbig' : (most : Int) < ((bl.length + 1 : Nat) : Int) := by omega
    obtain ⟨f, rest, hfr⟩ : ∃ f rest, bl ++ [b] = f :: rest := by
      cases hq : bl ++ [b] with
      | nil => simp at hq
      | cons f rest => exact ⟨f, rest, rfl⟩
    have hin6 := HIN5.out
    rw [hfr] at hin6
    have hlk := hin6.ring.link.1
    have q4 : w5.cell? ⟨e, 1, none⟩ = some (.pointer (some ⟨f, 0, none⟩)) := by
      have := (hin6.ring.node e (by simp)).cell 1 (by omega)
      rw [this]
      show some (Value.pointer (some ⟨_, 0, none⟩)) = _
      rw [hlk]
    have hdf := hin6.dat f (by simp)
    have q5 : w5.cell? ⟨f, 2, none⟩ = some (.int .u32 (((turn hd b ⟨n, k, pay⟩ f).num : Nat) : Int)) := by
      have := (hin6.ring.node f (by simp)).cell 2 (by omega)
      rw [this]
      show some (turn dat b _ f 2) = _
      rw [hdf.1]
    have hfo := PoolIn.forget_one (l1 := []) (l2 := rest) hin6
    have hfl : (turn hd b ⟨n, k, pay⟩ f).num < 4294967296 := hdf.2.2.2.num
    have hmap : forget n L ++ [(⟨n, k, pay⟩ : Hand)] = (f :: rest).map (turn hd b ⟨n, k, pay⟩) := by
      rw [← hfr, List.map_append, HL.out]
      congr 1
      · exact List.map_congr_left fun y hy => (turn_other _ _ _ _ (by rintro rfl; exact HR4.out (List.mem_cons_of_mem _ hy))).symm
      · simp [turn_same]
    have hdrop : forget (turn hd b ⟨n, k, pay⟩ f).num (forget n L ++ [(⟨n, k, pay⟩ : Hand)]) = (forget n L ++ [(⟨n, k, pay⟩ : Hand)]).drop 1 := by
      rw [hmap]
      have : ([] ++ f :: rest) = f :: rest := rfl
      rw [this] at hfo
      rw [hfo]; rfl
    have hfg := forget_any (HP5.out.below (below_drew0 (Below.refl _ w5))) (turn hd b ⟨n, k, pay⟩ f).num hfl
    rw [hdrop] at hfg
    have HFG := Lib.hid hfg
    generalize (turn hd b ⟨n, k, pay⟩ f).num = fn at *
    clear hin6 hlk hdf hfo hmap hdrop hfg hfr hfl
    go_wp2_with fail
    go_region
    go_wp2_with fail
    refine HFG.out.mono ?_
    rintro e0 w6 ⟨rfl, h6, hc6⟩
    have H6 := Lib.hid h6
    have HC6 := Lib.hid hc6
    clear h6 hc6
    go_wp2_with fail
    go_end0
    refine ⟨rfl, _, ?_, HG5.out, ?_⟩
    · unfold usePage
      simp only
      rw [if_pos (by rw [HUL.out]; exact hbig)]
      exact H6.out
    · exact (HCW5.out.drew).trans HC6.out (fun g hl hg => by
        rcases hg with hg | hg
        · exact hg
        · have := HC1.out.size; omega)
  · have hbig' : ¬ (most : Int) < ((bl.length + 1 : Nat) : Int) := by omega
    go_wp2_with fail
    go_region
    go_wp2_with fail
    go_end0
    refine ⟨rfl, _, ?_, HG5.out, HCW5.out.drew⟩
    unfold usePage
    simp only
    rw [if_neg (by rw [HUL.out]; exact hbig)]
    exact HP5.out.below (below_drew0 (Below.refl _ w5))
end Go.Proofs.YtfbjjblgcgjndaaGreat

/- A step that leaves some blocks as they are. -/
namespace Go.Proofs.YtfbjjblgcgjndaaGreat
open Go.RowKit

/-- a step that leaves X -/
def Step (n0 : Nat) (X : Nat → Prop) (w w' : World) : Prop := Chg (fun g => ¬ X g) w w' ∧ Below n0 w w'
theorem Step.trans {n0 : Nat} {X Y : Nat → Prop} {w w1 w2 : World} (h : Step n0 X w w1) (k : Step n0 Y w1 w2) (hY : ∀ g, X g → Y g) : Step n0 X w w2 :=
  ⟨h.1.trans k.1 (fun g _ hg e => hg (hY g e)), h.2.trans k.2⟩
theorem Step.of_below {n0 : Nat} {X : Nat → Prop} {w w' : World} (h : Below w.heap.size w w') (hn : n0 ≤ w.heap.size) : Step n0 X w w' :=
  ⟨.of_below h, ⟨h.os, h.tape, h.output, h.size, fun i hi => h.block i (Nat.lt_of_lt_of_le hi hn)⟩⟩
end Go.Proofs.YtfbjjblgcgjndaaGreat

/- The pool over its disk: New, within, Sync; what a step leaves of both. -/
namespace Go.Proofs.YtfbjjblgcgjndaaGreat
open Go.RowKit Go.Maps

structure PoolOk (n0 : Nat) (w : World) (P d most : Nat) (D : Dsk) (L : List Hand) (c : Nat) (S T : Nat → Prop) : Prop where
  disk : DG n0 w d D S
  pool : PoolAt n0 w P d most L c T
  sep : ∀ g, S g → ¬ T g
/-- a pool and its disk, and blocks X aside of them -/
def PoolX (n0 : Nat) (w : World) (P d most : Nat) (D : Dsk) (L : List Hand) (c : Nat) (X : Nat → Prop) : Prop :=
  ∃ S T, PoolOk n0 w P d most D L c S T ∧ ∀ g, X g → g < w.heap.size ∧ ¬ S g ∧ ¬ T g
section
variable {n0 : Nat} {w w' : World} {P d most : Nat} {D : Dsk} {L : List Hand} {c : Nat} {X : Nat → Prop}
theorem PoolX.n_le (h : PoolX n0 w P d most D L c X) : n0 ≤ w.heap.size := by
  obtain ⟨S, T, h, _⟩ := h
  exact h.disk.new_n
theorem PoolX.less (h : PoolX n0 w P d most D L c X) {X' : Nat → Prop} (hX : ∀ g, X' g → X g) : PoolX n0 w P d most D L c X' := by
  obtain ⟨S, T, h, hx⟩ := h
  exact ⟨S, T, h, fun g hg => hx g (hX g hg)⟩
theorem PoolAt.moreC {n0 : Nat} {w : World} {P d most : Nat} {L : List Hand} {c c' : Nat} {T : Nat → Prop} (h : PoolAt n0 w P d most L c T) (hc : c ≤ c') : PoolAt n0 w P d most L c' T := by
  obtain ⟨⟨e, mb, nb, bl, hd, nx, pv, dat, M, Y, h1, h2, h3, h4⟩, h5⟩ := h
  exact ⟨⟨e, mb, nb, bl, hd, nx, pv, dat, M, Y, h1, h2, by omega, h4⟩, h5⟩
theorem PoolX.moreC (h : PoolX n0 w P d most D L c X) {c' : Nat} (hc : c ≤ c') : PoolX n0 w P d most D L c' X := by
  obtain ⟨S, T, h, hx⟩ := h
  exact ⟨S, T, ⟨h.disk, h.pool.moreC hc, h.sep⟩, hx⟩
theorem PoolX.keep (h : PoolX n0 w P d most D L c X) {G : Nat → Prop} (hc : Chg G w w') (hG : ∀ g, g < w.heap.size → G g → X g) : PoolX n0 w' P d most D L c X := by
  obtain ⟨S, T, h, hx⟩ := h
  have hc' : Chg (fun g => G g ∧ g < w.heap.size) w w' := ⟨hc.os, hc.tape, hc.output, hc.size, fun k hk hF => hc.block k hk (fun e => hF ⟨e, hk⟩)⟩
  have hG' : ∀ g, G g ∧ g < w.heap.size → X g := fun g hg => hG g hg.2 hg.1
  exact ⟨S, T, ⟨h.disk.keep hc' (fun g hg e => (hx g (hG' g e)).2.1 hg), h.pool.keep hc' (fun g hg e => (hx g (hG' g e)).2.2 hg), h.sep⟩, fun g hg => ⟨Nat.lt_of_lt_of_le (hx g hg).1 hc.size, (hx g hg).2⟩⟩
theorem PoolX.below (h : PoolX n0 w P d most D L c X) (hb : Below w.heap.size w w') : PoolX n0 w' P d most D L c X :=
  h.keep (G := fun _ => False) (.of_below hb) (fun _ _ h => h.elim)
theorem PoolX.also (h : PoolX n0 w P d most D L c X) (hb : Below w.heap.size w w') {Y : Nat → Prop} (hY : ∀ g, Y g → w.heap.size ≤ g ∧ g < w'.heap.size) : PoolX n0 w' P d most D L c (fun g => X g ∨ Y g) := by
  obtain ⟨S, T, h, hx⟩ := h
  refine ⟨S, T, ⟨h.disk.below hb, h.pool.below hb, h.sep⟩, fun g hg => ?_⟩
  rcases hg with hg | hg
  · exact ⟨Nat.lt_of_lt_of_le (hx g hg).1 hb.size, (hx g hg).2⟩
  · obtain ⟨a, b⟩ := hY g hg
    exact ⟨b, fun e => by have := h.disk.top g e; omega, fun e => by have := (h.pool.2 g e).2; omega⟩
theorem PoolX.cell0 (h : PoolX n0 w P d most D L c X) : w.cell? ⟨P, 0, none⟩ = some (.pointer (some ⟨d, 0, none⟩)) ∧ w.cell? ⟨P, 1, none⟩ = some (.int .i64 (most : Int)) := by
  obtain ⟨S, T, h, _⟩ := h
  obtain ⟨⟨e, mb, nb, bl, hd, nx, pv, dat, M, Y, h1, _⟩, _⟩ := h.pool
  exact ⟨h1.rcd.cell 0 (by omega), h1.rcd.cell 1 (by omega)⟩
theorem PoolX.ok (h : PoolX n0 w P d most D L c X) : D.Ok := by
  obtain ⟨S, T, h, _⟩ := h
  exact h.disk.ok
/-- the disk is worked on -/
theorem PoolX.disk (h : PoolX n0 w P d most D L c X) : ∃ S, DG n0 w d D S ∧ (∀ g, X g → ¬ S g) ∧ (∀ w' D', Now n0 w d S D' w' → PoolX n0 w' P d most D' L c X ∧ Step n0 X w w') ∧
    ∀ w' D' (Y : Nat → Prop), DG n0 w' d D' S → Chg S w w' → (∀ g, Y g → w.heap.size ≤ g ∧ g < w'.heap.size) → PoolX n0 w' P d most D' L c (fun g => X g ∨ Y g) ∧ Step n0 X w w' := by
  obtain ⟨S, T, h, hx⟩ := h
  have hn : n0 ≤ w.heap.size := h.disk.new_n
  have st : ∀ w', Chg S w w' → Step n0 X w w' := fun w' hc => ⟨hc.mono (fun g _ e hg => (hx g hg).2.1 e), hc.below hn (fun g hg => (h.disk.lt g hg).1)⟩
  have rest : ∀ w' D' S', DG n0 w' d D' S' → Grows w S S' → Chg S w w' → PoolOk n0 w' P d most D' L c S' T := fun w' D' S' hd hg hc =>
    ⟨hd, h.pool.keep hc (fun g hg' e => h.sep g e hg'), fun g hg' e => by
      rcases hg g hg' with a | a
      · exact h.sep g a e
      · have := (h.pool.2 g e).2; omega⟩
  refine ⟨S, h.disk, fun g hg => (hx g hg).2.1, fun w' D' hN => ?_, fun w' D' Y hd hc hY => ?_⟩
  · obtain ⟨S', hd, hg, hc⟩ := hN
    refine ⟨⟨S', T, rest w' D' S' hd hg hc, fun g hg' => ?_⟩, st w' hc⟩
    obtain ⟨a1, a2, a3⟩ := hx g hg'
    exact ⟨Nat.lt_of_lt_of_le a1 hc.size, fun e => (hg g e).elim a2 (fun e => by omega), a3⟩
  · refine ⟨⟨S, T, rest w' D' S hd (Grows.refl _ _) hc, fun g hg' => ?_⟩, st w' hc⟩
    rcases hg' with hg' | hg'
    · exact ⟨Nat.lt_of_lt_of_le (hx g hg').1 hc.size, (hx g hg').2⟩
    · obtain ⟨a, b⟩ := hY g hg'
      exact ⟨b, fun e => by have := h.disk.top g e; omega, fun e => by have := (h.pool.2 g e).2; omega⟩
/-- the pool's own memory is worked on -/
theorem PoolX.pool (h : PoolX n0 w P d most D L c X) : ∃ T, PoolAt n0 w P d most L c T ∧ (∀ g, X g → ¬ T g) ∧ (∀ g, T g → n0 ≤ g) ∧ ∀ w' L' c', PNow n0 w P d most T L' c' w' → PoolX n0 w' P d most D L' c' X ∧ Step n0 X w w' := by
  obtain ⟨S, T, h, hx⟩ := h
  have hn : n0 ≤ w.heap.size := h.disk.new_n
  refine ⟨T, h.pool, fun g hg => (hx g hg).2.2, fun g hg => (h.pool.2 g hg).1, fun w' L' c' hN => ?_⟩
  obtain ⟨T', hp, hg, hc⟩ := hN
  refine ⟨⟨S, T', ⟨h.disk.keep hc (fun g hs e => h.sep g hs e), hp, fun g hs e => ?_⟩, fun g hg' => ?_⟩, hc.mono (fun g _ e hg => (hx g hg).2.2 e), hc.below hn (fun g hg => (h.pool.2 g hg).1)⟩
  · rcases hg g e with a | a
    · exact h.sep g hs a
    · have := h.disk.top g hs; omega
  · obtain ⟨a1, a2, a3⟩ := hx g hg'
    exact ⟨Nat.lt_of_lt_of_le a1 hc.size, a2, fun e => (hg g e).elim a3 (fun e => by omega)⟩
set_option maxRecDepth 100000 in
theorem within_any (h : PoolX n0 w P d most D L c X) (n : Nat) (hn : n < 4294967296) : Calls Tryz.prog 43 #[.pointer (some ⟨P, 0, none⟩), .int .u32 (n : Int)] w fun e w' => e = .returned (.bool (decide (n < D.pages))) ∧ w = w' := by
  have c0 := h.cell0.1
  obtain ⟨S, T, h, _⟩ := h
  have HP := Lib.hid (pages_any h.disk.disk)
  have hpb : D.pages ≤ 16384 := by
    obtain ⟨k, a, _, b⟩ := h.disk.ok.pages
    unfold Dsk.pages; omega
  clear h
  generalize D.pages = N at *
  go_enter Tryz.func43, Tryz.ntmps43
  go_wp2_with fail
  refine HP.out.mono ?_
  rintro e w1 ⟨rfl, rfl⟩
  go_wp2_with fail
  go_ret
  exact ⟨by simp, rfl⟩
def PlSync (n0 : Nat) (w : World) (P d most : Nat) (D : Dsk) (L : List Hand) (c : Nat) (X : Nat → Prop) (q : Nat) (e : Ending) (w' : World) : Prop := e = .returned (.int .u16 (q : Nat)) ∧ PoolX n0 w' P d most D L c X ∧ Step n0 X w w'
set_option maxRecDepth 100000 in
theorem plsync_any (h : PoolX n0 w P d most D L c X) (hc : D.cache.length ≤ 1000000000000) (hn : D.n 3 ≤ 4611686018427387904) : Calls Tryz.prog 23 #[.pointer (some ⟨P, 0, none⟩)] w (PlSync n0 w P d most D.sync.2 L c X D.sync.1) := by
  have c0 := h.cell0.1
  obtain ⟨S, hd, _, hst, _⟩ := h.disk
  have HS := Lib.hid (dg_sync hd hd.new_n hc hn)
  have HST := Lib.hid hst
  clear h hd hst
  generalize D.sync = q at *
  go_enter Tryz.func23, Tryz.ntmps23
  go_wp2_with fail
  refine HS.out.mono ?_
  rintro e w1 ⟨rfl, hN⟩
  have hfin := HST.out w1 _ hN
  have HF := Lib.hid hfin
  clear hN hfin
  go_wp2_with fail
  go_ret
  exact ⟨rfl, HF.out.1, HF.out.2⟩
end
theorem pnew_no (dv : Value) (m : Int) (w : World) (h : m < 1) : Calls Tryz.prog 10 #[dv, .int .i64 m] w fun e w' => e = .returned (.tuple #[.pointer none, .int .u16 1]) ∧ w = w' := by
  go_enter Tryz.func10, Tryz.ntmps10
  go_wp2
  go_ret2
  exact ⟨rfl, rfl⟩
def pnewWorld (w : World) (d m : Nat) : World := ((w.alloc (.cells #[.pointer (some ⟨w.heap.size, 0, none⟩), .pointer (some ⟨w.heap.size, 0, none⟩), .int .u32 0, .int .u8 0, .slice none 0 0] 118)).alloc (.map #[] 0)).alloc (.cells #[.pointer (some ⟨d, 0, none⟩), .int .i64 (m : Int), .map (some (w.heap.size + 1)), .pointer (some ⟨w.heap.size, 0, none⟩)] 121)
set_option maxRecDepth 100000 in
theorem pnew_run (d m : Nat) (w : World) (h : 1 ≤ m) (hm : m ≤ 9223372036854775807) : Calls Tryz.prog 10 #[.pointer (some ⟨d, 0, none⟩), .int .i64 (m : Int)] w fun e w' => e = .returned (.tuple #[.pointer (some ⟨w.heap.size + 2, 0, none⟩), .int .u16 0]) ∧ w' = pnewWorld w d m := by
  have h1 : ¬ (m : Int) < 1 := by omega
  have hmm := @run_makeMap Tryz.prog
  go_enter Tryz.func10, Tryz.ntmps10
  go_wp2_with fail
  go_ret2
  refine ⟨?_, ?_⟩
  · simp
  · unfold pnewWorld
    simp
theorem pnew_at (d m : Nat) (w : World) {n0 : Nat} (hn : n0 ≤ w.heap.size) : PoolAt n0 (pnewWorld w d m) (w.heap.size + 2) d m [] 0 (fun g => w.heap.size ≤ g ∧ g < w.heap.size + 3) ∧ Below w.heap.size w (pnewWorld w d m) := by
  have hb : Below w.heap.size w (pnewWorld w d m) := by unfold pnewWorld; exact below_alloc0 (below_alloc0 (below_alloc0 (Below.refl _ _) _) _) _
  have hs : (pnewWorld w d m).heap.size = w.heap.size + 3 := by unfold pnewWorld; simp only [sz_alloc]
  have e0 : (pnewWorld w d m).heap[w.heap.size]? = some (.cells #[.pointer (some ⟨w.heap.size, 0, none⟩), .pointer (some ⟨w.heap.size, 0, none⟩), .int .u32 0, .int .u8 0, .slice none 0 0] 118 (0, 0)) := by
    unfold pnewWorld; simp only [hp_alloc, sz_alloc]; rw [if_neg (by omega), if_neg (by omega), if_pos trivial]
  have e2 : (pnewWorld w d m).heap[w.heap.size + 2]? = some (.cells #[.pointer (some ⟨d, 0, none⟩), .int .i64 (m : Int), .map (some (w.heap.size + 1)), .pointer (some ⟨w.heap.size, 0, none⟩)] 121 (0, 0)) := by
    unfold pnewWorld; simp only [hp_alloc, sz_alloc]; first | rw [if_pos trivial] | rw [if_pos rfl]
  have hm : (pnewWorld w d m).ownsMap Tryz.prog 67 ptrElem (w.heap.size + 1) 0 (.map []) := by
    have := World.ownsMap_made (w.alloc (.cells #[.pointer (some ⟨w.heap.size, 0, none⟩), .pointer (some ⟨w.heap.size, 0, none⟩), .int .u32 0, .int .u8 0, .slice none 0 0] 118)) Tryz.prog 67 ptrElem
    rw [sz_alloc] at this
    unfold pnewWorld
    exact this.alloc _
  refine ⟨⟨⟨w.heap.size, w.heap.size + 1, 0, [], fun _ => ⟨0, 0, []⟩, fun _ => w.heap.size, fun _ => w.heap.size, fun _ => fun i => if i = 2 then .int .u32 0 else if i = 3 then .int .u8 0 else .slice none 0 0, .map [], fun _ => False, ⟨RecAt.of e2 (by simp [lst, lcell, List.range_succ]), ⟨⟨rfl, rfl⟩, by simp, fun b hb' => ?_⟩, fun b hb' => by simp at hb', fun b c hb' => by simp at hb', hm, MapFor.nil _, ⟨by omega, by omega, fun b hb' => by simp at hb'; omega, fun g hg => hg.elim⟩, by omega, by simp, by simp, fun g hg => hg.elim⟩, rfl, Nat.le_refl _, fun g hg => ?_⟩, fun g hg => ⟨Nat.le_trans hn hg.1, by rw [hs]; exact hg.2⟩⟩, hb⟩
  · have : b = w.heap.size := by simpa using hb'
    subst this
    exact RecAt.of e0 (by simp [lst, ncell, List.range_succ])
  · show w.heap.size ≤ g ∧ g < w.heap.size + 3
    rcases hg with hg | hg | hg | hg
    · omega
    · omega
    · simp at hg; omega
    · exact hg.elim
def PlNew (n0 : Nat) (w : World) (d m : Nat) (D : Dsk) (X : Nat → Prop) (e : Ending) (w' : World) : Prop := ∃ P, e = .returned (.tuple #[.pointer (some ⟨P, 0, none⟩), .int .u16 0]) ∧ PoolX n0 w' P d m D [] 0 X ∧ Below w.heap.size w w'
theorem pnew_ok {n0 : Nat} {w : World} {d : Nat} {D : Dsk} {S X : Nat → Prop} (h : DG n0 w d D S) (hX : ∀ g, X g → g < w.heap.size ∧ ¬ S g) (m : Nat) (h1 : 1 ≤ m) (hm : m ≤ 9223372036854775807) :
    Calls Tryz.prog 10 #[.pointer (some ⟨d, 0, none⟩), .int .i64 (m : Int)] w (PlNew n0 w d m D X) := by
  refine (pnew_run d m w h1 hm).mono ?_
  rintro e w' ⟨rfl, rfl⟩
  obtain ⟨hp, hb⟩ := pnew_at d m w h.new_n
  exact ⟨_, rfl, ⟨S, _, ⟨h.below hb, hp, fun g hg e => by have := h.top g hg; have := e.1; omega⟩, fun g hg => ⟨Nat.lt_of_lt_of_le (hX g hg).1 hb.size, (hX g hg).2, fun e => by have := (hX g hg).1; have := e.1; omega⟩⟩, hb⟩
end Go.Proofs.YtfbjjblgcgjndaaGreat
