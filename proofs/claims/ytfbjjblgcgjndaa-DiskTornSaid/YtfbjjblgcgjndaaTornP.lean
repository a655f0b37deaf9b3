/- DiskTorn, the plain law. -/
import Derived.Test.YtfbjjblgcgjndaaDiskH
set_option linter.unusedVariables false
set_option linter.unusedSimpArgs false
namespace Go.Proofs.Ytfbjjblgcgjndaa

theorem getD_set' {α : Type} (l : List α) (i j : Nat) (x d : α) : (l.set i x).getD j d = if j = i ∧ i < l.length then x else l.getD j d := by
  rw [List.getD_eq_getElem?_getD, List.getD_eq_getElem?_getD, List.getElem?_set]
  by_cases h : i = j
  · subst h
    by_cases h2 : i < l.length
    · simp [h2]
    · simp [h2]
  · rw [if_neg h, if_neg (fun e => h e.1.symm)]
theorem settled_page (L : List (List Nat)) (a m : Nat) (s : Nat → List Nat) (kept : Nat → Bool) (k : Nat) (hk : k ≤ m) (hL : a + m ≤ L.length) (j : Nat) :
    (settled L ((List.range m).map fun i => (a + i, s i)) kept k).getD j [] = if a ≤ j ∧ j < a + k ∧ kept (j - a) = true then s (j - a) else L.getD j [] := by
  induction k with
  | zero => rw [if_neg (by omega)]; rfl
  | succ k ih =>
    have ih := ih (by omega)
    have hg : ((List.range m).map fun i => (a + i, s i))[k]? = some (a + k, s k) := by simp [show k < m by omega]
    simp only [settled, hg]
    by_cases hkp : kept k = true
    · rw [if_pos hkp, getD_set', settled_length, ih]
      by_cases hj : j = a + k
      · subst hj
        rw [if_pos ⟨rfl, by omega⟩, if_pos ⟨by omega, by omega, by rw [show a + k - a = k by omega]; exact hkp⟩, show a + k - a = k by omega]
      · rw [if_neg (fun e => hj e.1)]
        by_cases hc : a ≤ j ∧ j < a + k ∧ kept (j - a) = true
        · rw [if_pos hc, if_pos ⟨hc.1, by omega, hc.2.2⟩]
        · rw [if_neg hc, if_neg (fun e => hc ⟨e.1, by omega, e.2.2⟩)]
    · rw [if_neg hkp, ih]
      by_cases hc : a ≤ j ∧ j < a + k ∧ kept (j - a) = true
      · rw [if_pos hc, if_pos ⟨hc.1, by omega, hc.2.2⟩]
      · rw [if_neg hc, if_neg (fun e => by
          by_cases hj : j = a + k
          · subst hj; rw [show a + k - a = k by omega] at e; exact hkp e.2.2
          · exact hc ⟨e.1, by omega, e.2.2⟩)]

def tn1 (b : List Nat) : Dsk := ((Dsk.new 2).write 1 b).2
def tn2 (b : List Nat) : Dsk := (tn1 b).sync.2
def tn3 (b c : List Nat) : Dsk := ((tn2 b).write 1 c).2
def tn4 (b c : List Nat) (bs : List Bool) : Dsk := (tn3 b c).cut bs
/-- a page of one byte -/
def Flat (b : List Nat) (o : Nat) : Prop := b.length = 1024 ∧ ∃ m, m = 1024 ∧ b = List.replicate m o
theorem Flat.of (b : List Nat) (m o : Nat) (h : b = List.replicate m o) (hm : m = 1024) : Flat b o := ⟨by rw [h, List.length_replicate, hm], m, hm, h⟩
theorem Flat.puts {b : List Nat} {o : Nat} (h : Flat b o) (a : Nat) : puts a b 8 = (List.range 8).map fun i => (a + i, List.replicate 128 o) := by
  obtain ⟨_, m, hm, rfl⟩ := h
  exact puts_const a o m 8 (by omega)
theorem tn1_eq {b : List Nat} (h : b.length = 1024) : tn1 b = ((Dsk.new 2).go 2).put 8 b 8 := by
  have := (Dsk.new_calm 2).write 1 (by rw [Dsk.new_pages]; omega) b (.inl h)
  unfold tn1
  rw [show ((1 : Nat) : Int) = 1 from rfl] at this
  rw [this, h]
theorem tn1_calm {b : List Nat} (h : b.length = 1024) : (tn1 b).Calm := by rw [tn1_eq h]; exact ((Dsk.new_calm 2).go 2).put _ _ _
theorem tn2_eq {b : List Nat} (h : b.length = 1024) : tn2 b = ((tn1 b).go 3).settle fun _ => true := by unfold tn2; rw [(tn1_calm h).sync]
theorem tn2_calm {b : List Nat} (h : b.length = 1024) : (tn2 b).Calm := by rw [tn2_eq h]; exact ((tn1_calm h).go 3).settle _
theorem tn1_pages {b : List Nat} (h : b.length = 1024) : (tn1 b).pages = 2 := by rw [tn1_eq h]; exact Dsk.new_pages 2
theorem tn2_pages {b : List Nat} (h : b.length = 1024) : (tn2 b).pages = 2 := by rw [tn2_eq h, Dsk.settle_pages]; exact tn1_pages h
theorem tn3_eq {b c : List Nat} (h : b.length = 1024) (hc : c.length = 1024) : tn3 b c = ((tn2 b).go 2).put 8 c 8 := by
  have := (tn2_calm h).write 1 (by rw [tn2_pages h]; omega) c (.inl hc)
  unfold tn3
  rw [show ((1 : Nat) : Int) = 1 from rfl] at this
  rw [this, hc]
theorem tn1_cache {b : List Nat} {o : Nat} (h : Flat b o) : (tn1 b).cache = (List.range 8).map fun i => (8 + i, List.replicate 128 o) := by
  rw [tn1_eq h.1]
  show [] ++ puts 8 b 8 = _
  rw [List.nil_append, h.puts]
theorem tn2_cache {b : List Nat} (h : b.length = 1024) : (tn2 b).cache = [] := by rw [tn2_eq h]; rfl
theorem tn3_cache {b c : List Nat} {n : Nat} (h : b.length = 1024) (hc : Flat c n) : (tn3 b c).cache = (List.range 8).map fun i => (8 + i, List.replicate 128 n) := by
  rw [tn3_eq h hc.1]
  show (tn2 b).cache ++ puts 8 c 8 = _
  rw [tn2_cache h, List.nil_append, hc.puts]
theorem tn1_last {b : List Nat} (h : b.length = 1024) : (tn1 b).last = List.replicate 16 zeroSect := by rw [tn1_eq h]; rfl
theorem tn2_last {b : List Nat} {o : Nat} (h : Flat b o) (i : Nat) (hi : i < 8) : (tn2 b).last.getD (8 + i) [] = List.replicate 128 o := by
  rw [tn2_eq h.1]
  show (settled (tn1 b).last (tn1 b).cache (fun _ => true) (tn1 b).cache.length).getD (8 + i) [] = _
  rw [tn1_cache h, tn1_last h.1, List.length_map, List.length_range, settled_page _ 8 8 (fun _ => List.replicate 128 o) _ 8 (by omega) (by simp), if_pos ⟨by omega, by omega, rfl⟩]
theorem tn3_last {b c : List Nat} (h : b.length = 1024) (hc : c.length = 1024) : (tn3 b c).last = (tn2 b).last := by rw [tn3_eq h hc]; rfl
theorem tn2_long {b : List Nat} (h : b.length = 1024) : (tn2 b).last.length = 16 := by
  rw [tn2_eq h]
  show (settled (tn1 b).last (tn1 b).cache (fun _ => true) (tn1 b).cache.length).length = 16
  rw [settled_length, tn1_last h, List.length_replicate]
theorem tn4_last {b c : List Nat} {o n : Nat} (hb : Flat b o) (hc : Flat c n) (bs : List Bool) (i : Nat) (hi : i < 8) : (tn4 b c bs).last.getD (8 + i) [] = List.replicate 128 (if bs.getD i false = true then n else o) := by
  show (settled (tn3 b c).last (tn3 b c).cache (fun i => bs.getD i false) (tn3 b c).cache.length).getD (8 + i) [] = _
  rw [tn3_cache hb.1 hc, tn3_last hb.1 hc.1, List.length_map, List.length_range, settled_page _ 8 8 (fun _ => List.replicate 128 n) _ 8 (by omega) (by rw [tn2_long hb.1]; omega), show 8 + i - 8 = i by omega, tn2_last hb i hi]
  by_cases h : bs.getD i false = true
  · rw [if_pos ⟨by omega, by omega, h⟩, if_pos h]
  · rw [if_neg (fun e => h e.2.2), if_neg h]
theorem tn4_pages {b c : List Nat} (h : b.length = 1024) (hc : c.length = 1024) (bs : List Bool) : (tn4 b c bs).pages = 2 := by
  show ((tn3 b c).cut bs).pages = 2
  rw [Dsk.cut_pages, tn3_eq h hc]; exact tn2_pages h
theorem tn_read {b c : List Nat} (h : b.length = 1024) (hc : c.length = 1024) (bs : List Bool) : (tn4 b c bs).read 1 = (0, (tn4 b c bs).secs 8 8, (tn4 b c bs).go 1) :=
  (Dsk.cut_calm (tn3 b c) bs).read 1 (by rw [show ((tn3 b c).cut bs).pages = 2 from tn4_pages h hc bs]; omega)
theorem tn_secs {b c : List Nat} {o n : Nat} (hb : Flat b o) (hc : Flat c n) (bs : List Bool) : (tn4 b c bs).secs 8 8 = ((List.range 8).map fun i => List.replicate 128 (if bs.getD i false = true then n else o)).flatten := by
  rw [secs_last _ rfl]
  congr 1
  refine List.map_congr_left fun i hi => ?_
  exact tn4_last hb hc bs i (List.mem_range.1 hi)
theorem tn_rows {o n : Nat} {bs : List Bool} : ∀ s ∈ (List.range 8).map fun i => List.replicate 128 (if bs.getD i false = true then n else o), s.length = 128 := fun s hs => by
  obtain ⟨i, _, rfl⟩ := List.mem_map.1 hs; rw [List.length_replicate]
theorem tn_len {b c : List Nat} {o n : Nat} (hb : Flat b o) (hc : Flat c n) (bs : List Bool) : ((tn4 b c bs).read 1).2.1.length = 1024 := by
  rw [tn_read hb.1 hc.1]
  show ((tn4 b c bs).secs 8 8).length = 1024
  rw [tn_secs hb hc, rows_length (m := 128) tn_rows, List.length_map, List.length_range]
theorem tn_part {b c : List Nat} {o n : Nat} (hb : Flat b o) (hc : Flat c n) (bs : List Bool) (i : Nat) (hi : i < 8) : (((tn4 b c bs).read 1).2.1.drop (128 * i)).take 128 = List.replicate 128 (if bs.getD i false = true then n else o) := by
  rw [tn_read hb.1 hc.1]
  show (((tn4 b c bs).secs 8 8).drop (128 * i)).take 128 = _
  rw [tn_secs hb hc, flat_part (m := 128) tn_rows i (by simpa using hi)]
  simp [List.getD_eq_getElem?_getD, hi]
theorem tn_ok {b c : List Nat} (h : b.length = 1024) (hc : c.length = 1024) (bs : List Bool) : ((tn4 b c bs).read 1).1 = 0 := by rw [tn_read h hc]
theorem tn_small {b c : List Nat} {o n : Nat} (hb : Flat b o) (hc : Flat c n) (bs : List Bool) : (tn1 b).cache.length = 8 ∧ (tn2 b).cache.length = 0 ∧ (tn3 b c).cache.length = 8 ∧ (tn4 b c bs).cache.length = 0 ∧ (tn1 b).n 3 = 0 ∧ (tn2 b).n 2 = 1 ∧ (tn4 b c bs).n 1 = 0 := by
  refine ⟨by rw [tn1_cache hb]; simp, by rw [tn2_cache hb.1]; rfl, by rw [tn3_cache hb.1 hc]; simp, rfl, by rw [tn1_eq hb.1]; rfl, by rw [tn2_eq hb.1, tn1_eq hb.1]; rfl, ?_⟩
  show (tn3 b c).n 1 = 0
  rw [tn3_eq hb.1 hc.1, tn2_eq hb.1, tn1_eq hb.1]; rfl
end Go.Proofs.Ytfbjjblgcgjndaa
