/- More general lemmas: lists that a loop fills, min, sums of slices cut. -/
import Derived.Test.YtfbjjblgcgjndaaLib
import Derived.BigRegion
import Derived.Deep.RegionHeld3
import Derived.Deep.RegionWith
import Derived.StillTailTactics
import Derived.Deep.OwnRows
set_option linter.unusedVariables false
set_option linter.unusedSimpArgs false
namespace Go.Proofs.Ytfbjjblgcgjndaa
open Go.RowKit

theorem min2_int (k k' : IntKind) (x y : Int) : Builtin.min2 (.int k x) (.int k' y) = pure (.int k (if y < x then y else x)) := by simp only [Builtin.min2]
theorem min_two (ats : Array TypeId) (ty : TypeId) (a b : Value) : Builtin.min_ ats ty #[a, b] = (Builtin.min2 a b >>= fun s => pure s) := by simp only [Builtin.min_, List.foldlM_cons, List.foldlM_nil]

/-- a list of n, the first k of them f's, the others z -/
def fillAt (f : Nat → Nat) (z k n : Nat) : List Nat := (List.range n).map fun i => if i < k then f i else z
theorem fillAt_length (f : Nat → Nat) (z k n : Nat) : (fillAt f z k n).length = n := by simp [fillAt]
theorem fillAt_get (f : Nat → Nat) (z k n i : Nat) (h : i < n) : (fillAt f z k n)[i]? = some (if i < k then f i else z) := by simp [fillAt, h]
theorem fillAt_nth (f : Nat → Nat) (z k n i : Nat) (h : i < n) : nth (fillAt f z k n) i = if i < k then f i else z := by
  have := fillAt_get f z k n i h
  rw [nth_eq _ i (by rw [fillAt_length]; exact h)] at this
  exact Option.some.inj this
theorem fillAt_zero (f : Nat → Nat) (z n : Nat) : fillAt f z 0 n = List.replicate n z := by
  apply List.ext_getElem?
  intro i
  by_cases h : i < n
  · rw [fillAt_get f z 0 n i h, List.getElem?_replicate]; simp [h]
  · rw [List.getElem?_eq_none (by rw [fillAt_length]; omega), List.getElem?_eq_none (by simp; omega)]
theorem fillAt_set (kd : IntKind) (f : Nat → Nat) (z k n : Nat) (h : k < n) : (ns kd (fillAt f z k n)).toArray.setIfInBounds k (.int kd ((f k : Nat) : Int)) = (ns kd (fillAt f z (k + 1) n)).toArray := by
  apply Array.ext_getElem?
  intro i
  by_cases hi : i < n
  · have e1 : (ns kd (fillAt f z (k + 1) n)).toArray[i]? = some (.int kd ((if i < k + 1 then f i else z : Nat) : Int)) := by
      simp [ns, fillAt_get f z (k + 1) n i hi]
    have e2 : (ns kd (fillAt f z k n)).toArray[i]? = some (.int kd ((if i < k then f i else z : Nat) : Int)) := by
      simp [ns, fillAt_get f z k n i hi]
    rw [e1, Array.getElem?_setIfInBounds]
    by_cases e : k = i
    · subst e
      rw [if_pos rfl, if_pos (by simp [ns, fillAt_length]; exact h), if_pos (by omega)]
    · rw [if_neg e, e2]
      by_cases hik : i < k
      · rw [if_pos hik, if_pos (by omega)]
      · rw [if_neg hik, if_neg (by omega)]
  · rw [Array.getElem?_eq_none (by simp [ns, fillAt_length]; omega), Array.getElem?_eq_none (by simp [ns, fillAt_length]; omega)]
theorem fillAt_size (kd : IntKind) (f : Nat → Nat) (z k n : Nat) : (ns kd (fillAt f z k n)).toArray.size = n := by simp [ns, fillAt_length]
theorem fillAt_all (f : Nat → Nat) (z n : Nat) : fillAt f z n n = (List.range n).map f := by
  unfold fillAt
  apply List.map_congr_left
  intro i hi
  rw [if_pos (List.mem_range.1 hi)]
theorem fillAt_bytes (f : Nat → Nat) (z k n : Nat) (hf : ∀ i, i < n → f i < 256) (hz : z < 256) : Bytes (fillAt f z k n) := by
  intro c hc
  simp only [fillAt, List.mem_map, List.mem_range] at hc
  obtain ⟨i, hi, rfl⟩ := hc
  split
  · exact hf i hi
  · exact hz
/-- zero bytes as make lays them -/
theorem made_ns (kd : IntKind) (n : Nat) : (madeCells #[.int kd 0] n).toList = ns kd (List.replicate n 0) := by
  rw [toList_madeCells_one]; simp [ns]

theorem At.takes {w : World} {A : Option Addr} {k : IntKind} {l : List Nat} (h : At w A (ns k l)) (n : Nat) : At w A (ns k (l.take n)) := by
  have : ns k l = ns k (l.take n) ++ ns k (l.drop n) := by rw [← ns_append, List.take_append_drop]
  rw [this] at h
  exact h.pre

/-- the shape of what is owned, where there is something -/
theorem own_form {w : World} {base n : Nat} {e : TypeId} {size : Nat} {v : Value} {xs : List Value} (h : w.ownsRow base e size v n xs) (h0 : 0 < n) :
    ∃ g cap, v = .slice (some ⟨g, 0, none⟩) n cap ∧ base ≤ g ∧ g < w.heap.size ∧ n ≤ cap ∧ cap ≤ maxLen := by
  rcases h.2 with ⟨_, e⟩ | ⟨g, cap, cur, rfl, hb, hh, h1, h2, _⟩
  · omega
  · exact ⟨g, cap, rfl, hb, (Array.getElem?_eq_some_iff.1 hh).1, h1, h2⟩
/-- a cell of an owned row of numbers -/
theorem own_cell {w : World} {base n g cap : Nat} {e : TypeId} {k : IntKind} {l : List Nat} (h : w.ownsRow base e 1 (.slice (some ⟨g, 0, none⟩) n cap) n (ns k l)) (j : Nat) (hj : j < n) : w.cell? ⟨g, j, none⟩ = some (.int k (nth l j : Int)) := by
  have hl : l.length = n := by have := h.1; simpa [ns] using this
  have := h.cellAt j (by omega)
  rw [this, ns_get k l j (by omega)]
theorem ns_set (k : IntKind) (l : List Nat) (j v : Nat) : (ns k l).set j (.int k (v : Int)) = ns k (l.set j v) := by simp [ns, List.map_set]
theorem own_set {w : World} {base n g cap : Nat} {e : TypeId} {k : IntKind} {l : List Nat} (h : w.ownsRow base e 1 (.slice (some ⟨g, 0, none⟩) n cap) n (ns k l)) (j v : Nat) :
    (w.setCell ⟨g, j, none⟩ (.int k (v : Int))).ownsRow base e 1 (.slice (some ⟨g, 0, none⟩) n cap) n (ns k (l.set j v)) := by
  have := (h.stored j (.int k (v : Int))).1
  rwa [ns_set] at this

/-- a list of bytes that lies in memory: where, what, its room -/
structure Inner where
  A : Option Addr
  l : List Nat
  c : Nat
def Inner.val (r : Inner) : Value := .slice r.A r.l.length r.c
structure Inner.Ok (w : World) (r : Inner) : Prop where
  lies : At w r.A (ns .u8 r.l)
  nil : r.A = none → r.c = 0
  le : r.l.length ≤ r.c
  small : r.l.length ≤ 140737488351232
  bytes : Bytes r.l
theorem Inner.Ok.below {w w' : World} {r : Inner} (h : r.Ok w) (hb : Below w.heap.size w w') : r.Ok w' := ⟨h.lies.below hb, h.nil, h.le, h.small, h.bytes⟩

def rowAt (rs : List Inner) (k : Nat) : Inner := rs.getD k ⟨none, [], 0⟩
theorem rowAt_get (rs : List Inner) (k : Nat) (h : k < rs.length) : rs[k]? = some (rowAt rs k) := by simp [rowAt, List.getElem?_eq_getElem h]
theorem rowAt_mem (rs : List Inner) (k : Nat) (h : k < rs.length) : rowAt rs k ∈ rs := List.mem_of_getElem? (rowAt_get rs k h)
theorem rows_cell {w : World} {A : Option Addr} {rs : List Inner} (h : At w A (rs.map Inner.val)) (k : Nat) (hk : k < rs.length) :
    ∃ b o, A = some ⟨b, o, none⟩ ∧ w.cell? ⟨b, o + k, none⟩ = some (.slice (rowAt rs k).A (rowAt rs k).l.length (rowAt rs k).c) := by
  obtain ⟨b, o, e, hr⟩ := h (by intro hn; have := congrArg List.length hn; simp at this; subst this; simp at hk)
  exact ⟨b, o, e, hr k _ (by rw [List.getElem?_map, rowAt_get rs k hk]; rfl)⟩

theorem rows_cell' {w : World} {b o : Nat} {rs : List Inner} (h : At w (some ⟨b, o, none⟩) (rs.map Inner.val)) (k : Nat) (hk : k < rs.length) :
    w.cell? ⟨b, o + k, none⟩ = some (.slice (rowAt rs k).A (rowAt rs k).l.length (rowAt rs k).c) := by
  obtain ⟨b', o', e, hc⟩ := rows_cell h k hk
  cases e; exact hc
end Go.Proofs.Ytfbjjblgcgjndaa
