/- Disk, plain laws: a disk that is calm; what settles, sector by sector. -/
import Derived.Test.YtfbjjblgcgjndaaDisk10
set_option linter.unusedVariables false
set_option linter.unusedSimpArgs false
namespace Go.Proofs.Ytfbjjblgcgjndaa

/-- nothing fails -/
def Dsk.Calm (D : Dsk) : Prop := D.dark = false ∧ D.trip = -1 ∧ ∀ j, D.f j = -1
theorem Dsk.Calm.begin {D : Dsk} (h : D.Calm) (k : Nat) : D.begin k = (0, D.go k) := by
  obtain ⟨h1, h2, h3⟩ := h
  unfold Dsk.begin
  rw [if_neg (by simp [h1]), if_neg (by omega), if_neg (by have := h3 k; omega)]
theorem Dsk.Calm.go {D : Dsk} (h : D.Calm) (k : Nat) : (D.go k).Calm := by
  obtain ⟨h1, h2, h3⟩ := h
  refine ⟨h1, ?_, fun j => ?_⟩
  · show dec1 D.trip = -1
    rw [h2]; rfl
  · show turn D.f k (dec1 (D.f k)) j = -1
    by_cases e : j = k
    · subst e; rw [turn_same, h3 j]; rfl
    · rw [turn_other _ _ _ _ e]; exact h3 j
theorem Dsk.Calm.put {D : Dsk} (h : D.Calm) (a : Nat) (b : List Nat) (k : Nat) : (D.put a b k).Calm := h
theorem Dsk.Calm.settle {D : Dsk} (h : D.Calm) (kept : Nat → Bool) : (D.settle kept).Calm := h
theorem Dsk.cut_calm (D : Dsk) (bs : List Bool) : (D.cut bs).Calm := ⟨rfl, rfl, fun _ => rfl⟩
theorem Dsk.new_calm (p : Nat) : (Dsk.new p).Calm := ⟨rfl, rfl, fun _ => rfl⟩
theorem Dsk.settle_pages (D : Dsk) (kept : Nat → Bool) : (D.settle kept).pages = D.pages := by
  unfold Dsk.pages; rw [show (D.settle kept).last.length = D.last.length from settled_length _ _ _ _]
theorem Dsk.cut_pages (D : Dsk) (bs : List Bool) : (D.cut bs).pages = D.pages := D.settle_pages _
theorem Dsk.new_pages (p : Nat) : (Dsk.new p).pages = p := by simp [Dsk.pages, Dsk.new]
theorem Dsk.Calm.write {D : Dsk} (h : D.Calm) (pg : Nat) (hp : pg < D.pages) (b : List Nat) (hb : b.length = 1024 ∨ b.length = 128) : D.write (pg : Int) b = (0, (D.go 2).put (8 * pg) b (b.length / 128)) := by
  unfold Dsk.write
  rw [h.begin 2, if_neg (by simp), if_neg (by omega), if_neg (by omega)]
  simp
theorem Dsk.Calm.sync {D : Dsk} (h : D.Calm) : D.sync = (0, (D.go 3).settle fun _ => true) := by
  unfold Dsk.sync
  rw [h.begin 3, if_neg (by simp)]
/-- a page of one byte, part by part -/
theorem puts_const (a c m k : Nat) (h : 128 * k ≤ m) : puts a (List.replicate m c) k = (List.range k).map fun i => (a + i, List.replicate 128 c) := by
  induction k with
  | zero => rfl
  | succ k ih =>
    rw [puts, ih (by omega), List.range_succ, List.map_append]
    simp only [List.map_cons, List.map_nil, List.drop_replicate, List.take_replicate]
    rw [show min 128 (m - 128 * k) = 128 by omega]
theorem settled_congr (l : List (List Nat)) (c d : List (Nat × List Nat)) (kept : Nat → Bool) (n : Nat) (h : ∀ i, i < n → c[i]? = d[i]?) : settled l c kept n = settled l d kept n := by
  induction n with
  | zero => rfl
  | succ n ih =>
    have e := ih (fun i hi => h i (by omega))
    simp only [settled, h n (by omega), e]
/-- one write more -/
theorem settled_snoc (l : List (List Nat)) (c : List (Nat × List Nat)) (x : Nat × List Nat) (kept : Nat → Bool) :
    settled l (c ++ [x]) kept (c.length + 1) = if kept c.length then (settled l c kept c.length).set x.1 x.2 else settled l c kept c.length := by
  have e := settled_congr l (c ++ [x]) c kept c.length (fun i hi => List.getElem?_append_left hi)
  simp only [settled, List.getElem?_concat_length, e]
theorem settled_none (l : List (List Nat)) (kept : Nat → Bool) (n : Nat) : settled l [] kept n = l := by
  induction n with
  | zero => rfl
  | succ n ih => simp [settled, ih]
theorem secs_last (D : Dsk) (h : D.cache = []) (a k : Nat) : D.secs a k = ((List.range k).map fun i => D.last.getD (a + i) []).flatten := by
  unfold Dsk.secs
  congr 1
  refine List.map_congr_left fun i _ => ?_
  unfold Dsk.sec
  rw [h]
  rfl
/-- the parts of rows of one length -/
theorem flat_part {L : List (List Nat)} {m : Nat} (h : ∀ s ∈ L, s.length = m) (i : Nat) (hi : i < L.length) : (L.flatten.drop (m * i)).take m = L.getD i [] := by
  induction L generalizing i with
  | nil => simp at hi
  | cons s L ih =>
    have hs : s.length = m := h s (by simp)
    cases i with
    | zero => simp [← hs]
    | succ i =>
      have := ih (fun t ht => h t (by simp [ht])) i (by simpa using hi)
      rw [List.flatten_cons, show m * (i + 1) = s.length + m * i by rw [hs, Nat.mul_add]; omega, ← List.drop_drop, List.drop_left, this]
      simp
theorem rows_length {L : List (List Nat)} {m : Nat} (h : ∀ s ∈ L, s.length = m) : L.flatten.length = m * L.length := by
  induction L with
  | nil => simp
  | cons s L ih =>
    rw [List.flatten_cons, List.length_append, ih (fun t ht => h t (by simp [ht])), h s (by simp), List.length_cons, Nat.mul_add]; omega
end Go.Proofs.Ytfbjjblgcgjndaa
