/- Disk, plain laws: a trip, a fault. -/
import Derived.Test.YtfbjjblgcgjndaaDiskPlain
set_option linter.unusedVariables false
set_option linter.unusedSimpArgs false
namespace Go.Proofs.Ytfbjjblgcgjndaa

def Dsk.read (D : Dsk) (pg : Int) : Nat × List Nat × Dsk :=
  if (D.begin 1).1 ≠ 0 then ((D.begin 1).1, [], (D.begin 1).2)
  else if pg < 0 ∨ (D.pages : Int) ≤ pg then (2, [], D.go 1)
  else (0, D.secs (8 * pg.toNat) 8, D.go 1)
theorem Dsk.Calm.read {D : Dsk} (h : D.Calm) (pg : Nat) (hp : pg < D.pages) : D.read (pg : Int) = (0, D.secs (8 * pg) 8, D.go 1) := by
  unfold Dsk.read
  rw [h.begin 1, if_neg (by simp), if_neg (by omega)]
  simp

/-- behind i writes of a sector, with a trip of t -/
structure TripOk (D : Dsk) (t i m : Nat) : Prop where
  early : i ≤ t → D.dark = false ∧ D.trip = (t : Int) - (i : Int) ∧ D.cache.length = i ∧ D.n 2 = (i : Int)
  late : t < i → D.dark = true ∧ D.cache.length = t ∧ D.n 2 = (t : Int)
  f : ∀ j, D.f j = -1
  pages : D.pages = m
  reads : D.n 1 = 0
theorem TripOk.start (t m : Nat) : TripOk ((Dsk.new m).setTrip (t : Int)).2 t 0 m := by
  have e : ((Dsk.new m).setTrip (t : Int)).2 = { Dsk.new m with trip := (t : Int) } := by
    unfold Dsk.setTrip
    rw [if_neg (by omega)]
    rfl
  rw [e]
  exact ⟨fun _ => ⟨rfl, by simp, rfl, rfl⟩, fun h => absurd h (by omega), fun _ => rfl, by simp [Dsk.pages, Dsk.new], rfl⟩
theorem TripOk.step {D : Dsk} {t i m : Nat} (h : TripOk D t i m) (pg : Nat) (hp : pg < m) (b : List Nat) (hb : b.length = 128) :
    (D.write (pg : Int) b).1 = (if i < t then 0 else 4) ∧ TripOk (D.write (pg : Int) b).2 t (i + 1) m := by
  have hfj := h.f
  have hpg := h.pages
  by_cases hi : i ≤ t
  · obtain ⟨h1, h2, h3, h4⟩ := h.early hi
    by_cases hlt : i < t
    · have hbg : D.begin 2 = (0, D.go 2) := by
        unfold Dsk.begin
        rw [if_neg (by simp [h1]), if_neg (by omega), if_neg (by have := hfj 2; omega)]
      have hw : D.write (pg : Int) b = (0, (D.go 2).put (8 * pg) b (b.length / 128)) := by
        unfold Dsk.write
        rw [hbg, if_neg (by simp), if_neg (by omega), if_neg (by omega)]
        simp
      rw [hw, if_pos hlt]
      refine ⟨rfl, fun _ => ⟨h1, ?_, ?_, ?_⟩, fun h => absurd h (by omega), fun j => ?_, hpg, ?_⟩
      · show dec1 D.trip = _
        rw [h2, dec1_pos (by omega)]; omega
      · show (D.cache ++ puts (8 * pg) b (b.length / 128)).length = i + 1
        rw [List.length_append, puts_length, h3, hb]
      · show turn D.n 2 (D.n 2 + 1) 2 = _
        rw [turn_same, h4]; omega
      · show turn D.f 2 (dec1 (D.f 2)) j = -1
        by_cases e : j = 2
        · subst e; rw [turn_same, hfj 2]; rfl
        · rw [turn_other _ _ _ _ e]; exact hfj j
      · show turn D.n 2 (D.n 2 + 1) 1 = 0
        rw [turn_other _ _ _ _ (by omega)]; exact h.reads
    · obtain rfl : i = t := by omega
      have hbg : D.begin 2 = (4, D.off) := by
        unfold Dsk.begin
        rw [if_neg (by simp [h1]), if_pos (by omega)]
      have hw : D.write (pg : Int) b = (4, D.off) := by
        unfold Dsk.write
        rw [hbg, if_pos (by simp)]
      rw [hw, if_neg hlt]
      exact ⟨rfl, fun h => absurd h (by omega), fun _ => ⟨rfl, h3, h4⟩, hfj, hpg, h.reads⟩
  · obtain ⟨h1, h3, h4⟩ := h.late (by omega)
    have hbg : D.begin 2 = (4, D) := by
      unfold Dsk.begin
      rw [if_pos h1]
    have hw : D.write (pg : Int) b = (4, D) := by
      unfold Dsk.write
      rw [hbg, if_pos (by simp)]
    rw [hw, if_neg (by omega)]
    exact ⟨rfl, fun h => absurd h (by omega), fun _ => ⟨h1, h3, h4⟩, hfj, hpg, h.reads⟩
theorem TripOk.dark {D : Dsk} {t i m : Nat} (h : TripOk D t i m) : D.dark = decide (t < i) := by
  by_cases hi : i ≤ t
  · rw [(h.early hi).1, decide_eq_false (by omega)]
  · rw [(h.late (by omega)).1, decide_eq_true (by omega)]
theorem TripOk.count {D : Dsk} {t i m : Nat} (h : TripOk D t i m) : D.cache.length = min i t ∧ D.n 2 = ((min i t : Nat) : Int) := by
  by_cases hi : i ≤ t
  · obtain ⟨_, _, h3, h4⟩ := h.early hi
    rw [Nat.min_eq_left hi]; exact ⟨h3, h4⟩
  · obtain ⟨_, h3, h4⟩ := h.late (by omega)
    rw [Nat.min_eq_right (by omega)]; exact ⟨h3, h4⟩

/-- a disk with a fault beside one without -/
structure FailOk (D C : Dsk) (o b met : Nat) : Prop where
  dark : D.dark = false
  trip : D.trip = -1
  other : ∀ j, j ≠ o → D.f j = -1
  here : D.f o = if met ≤ b then (b : Int) - (met : Int) else -1
  last : D.last = C.last
  cache : D.cache = C.cache
  calm : C.Calm
  pages : D.pages = 4
theorem FailOk.start (o b : Nat) (h1 : 1 ≤ o) (h3 : o ≤ 3) : ((Dsk.new 4).setFail (o : Int) (b : Int)).1 = 0 ∧ FailOk ((Dsk.new 4).setFail (o : Int) (b : Int)).2 (Dsk.new 4) o b 0 := by
  have e : (Dsk.new 4).setFail (o : Int) (b : Int) = (0, { Dsk.new 4 with f := turn (Dsk.new 4).f o (b : Int) }) := by
    unfold Dsk.setFail
    rw [if_neg (by omega)]
    rfl
  rw [e]
  refine ⟨rfl, rfl, rfl, fun j hj => ?_, ?_, rfl, rfl, Dsk.new_calm 4, Dsk.new_pages 4⟩
  · show turn _ o _ j = -1
    rw [turn_other _ _ _ _ hj]; rfl
  · show turn _ o _ o = _
    rw [turn_same, if_pos (by omega)]; simp
theorem FailOk.begin {D C : Dsk} {o b met : Nat} (h : FailOk D C o b met) (k : Nat) :
    D.begin k = (if k = o ∧ met = b then (6, D.fall k) else (0, D.go k)) ∧ FailOk (D.begin k).2 C o b (if k = o then met + 1 else met) := by
  obtain ⟨a1, a2, a3, a4, a5, a6, a7, a8⟩ := h
  by_cases hk : k = o
  · subst hk
    by_cases hm : met = b
    · have hb : D.begin k = (6, D.fall k) := by
        unfold Dsk.begin
        rw [if_neg (by simp [a1]), if_neg (by omega), if_pos (by rw [a4, if_pos (by omega)]; omega)]
      rw [hb, if_pos ⟨rfl, hm⟩, if_pos rfl]
      refine ⟨rfl, a1, ?_, fun j hj => ?_, ?_, a5, a6, a7, a8⟩
      · show dec1 D.trip = -1
        rw [a2]; rfl
      · show turn D.f k (-1) j = -1
        rw [turn_other _ _ _ _ hj]; exact a3 j hj
      · show turn D.f k (-1) k = _
        rw [turn_same, if_neg (by omega)]
    · have hb : D.begin k = (0, D.go k) := by
        unfold Dsk.begin
        rw [if_neg (by simp [a1]), if_neg (by omega), if_neg (by rw [a4]; split <;> omega)]
      rw [hb, if_neg (by omega), if_pos rfl]
      refine ⟨rfl, a1, ?_, fun j hj => ?_, ?_, a5, a6, a7, a8⟩
      · show dec1 D.trip = -1
        rw [a2]; rfl
      · show turn D.f k (dec1 (D.f k)) j = -1
        rw [turn_other _ _ _ _ hj]; exact a3 j hj
      · show turn D.f k (dec1 (D.f k)) k = _
        rw [turn_same, a4]
        unfold dec1
        split <;> split <;> split <;> omega
  · have hb : D.begin k = (0, D.go k) := by
      unfold Dsk.begin
      rw [if_neg (by simp [a1]), if_neg (by omega), if_neg (by rw [a3 k hk]; omega)]
    rw [hb, if_neg (by omega), if_neg hk]
    refine ⟨rfl, a1, ?_, fun j hj => ?_, ?_, a5, a6, a7, a8⟩
    · show dec1 D.trip = -1
      rw [a2]; rfl
    · show turn D.f k (dec1 (D.f k)) j = -1
      by_cases e : j = k
      · subst e; rw [turn_same, a3 j hj]; rfl
      · rw [turn_other _ _ _ _ e]; exact a3 j hj
    · show turn D.f k (dec1 (D.f k)) o = _
      rw [turn_other _ _ _ _ (Ne.symm hk)]; exact a4
theorem FailOk.read {D C : Dsk} {o b met : Nat} (h : FailOk D C o b met) (pg : Nat) (hp : pg < 4) :
    (D.read (pg : Int)).1 = (if 1 = o ∧ met = b then 6 else 0) ∧ FailOk (D.read (pg : Int)).2.2 C o b (if 1 = o then met + 1 else met) := by
  obtain ⟨h1, h2⟩ := h.begin 1
  have hpg := h.pages
  unfold Dsk.read
  by_cases c : 1 = o ∧ met = b
  · rw [if_pos c] at h1
    rw [h1] at h2 ⊢
    rw [if_pos (by simp), if_pos c]
    exact ⟨rfl, h2⟩
  · rw [if_neg c] at h1
    rw [h1] at h2 ⊢
    rw [if_neg (by simp), if_neg (by omega), if_neg c]
    exact ⟨rfl, h2⟩
theorem FailOk.write {D C : Dsk} {o b met : Nat} (h : FailOk D C o b met) (pg : Nat) (hp : pg < 4) (l : List Nat) (hl : l.length = 1024) :
    (D.write (pg : Int) l).1 = (if 2 = o ∧ met = b then 6 else 0) ∧ FailOk (D.write (pg : Int) l).2 (if 2 = o ∧ met = b then C else (C.write (pg : Int) l).2) o b (if 2 = o then met + 1 else met) := by
  obtain ⟨h1, h2⟩ := h.begin 2
  have hpg := h.pages
  have hcp : C.pages = 4 := by rw [← hpg]; unfold Dsk.pages; rw [h.last]
  have hcw := h.calm.write pg (by omega) l (.inl hl)
  unfold Dsk.write
  by_cases c : 2 = o ∧ met = b
  · rw [if_pos c] at h1
    rw [h1] at h2 ⊢
    rw [if_pos (by simp), if_pos c, if_pos c]
    exact ⟨rfl, h2⟩
  · rw [if_neg c] at h1
    rw [h1] at h2
    rw [if_neg c, if_neg c, h1, if_neg (by simp), if_neg (by omega), if_neg (by omega)]
    unfold Dsk.write at hcw
    rw [hcw]
    obtain ⟨b1, b2, b3, b4, b5, b6, b7, b8⟩ := h2
    refine ⟨rfl, b1, b2, b3, b4, b5, ?_, h.calm.go 2, b8⟩
    show D.cache ++ puts (8 * (pg : Int).toNat) l (l.length / 128) = C.cache ++ puts (8 * pg) l (l.length / 128)
    rw [h.cache]; simp
theorem FailOk.sync {D C : Dsk} {o b met : Nat} (h : FailOk D C o b met) :
    D.sync.1 = (if 3 = o ∧ met = b then 6 else 0) ∧ FailOk D.sync.2 (if 3 = o ∧ met = b then C else C.sync.2) o b (if 3 = o then met + 1 else met) := by
  obtain ⟨h1, h2⟩ := h.begin 3
  have hcw := h.calm.sync
  unfold Dsk.sync
  by_cases c : 3 = o ∧ met = b
  · rw [if_pos c] at h1
    rw [h1] at h2 ⊢
    rw [if_pos (by simp), if_pos c, if_pos c]
    exact ⟨rfl, h2⟩
  · rw [if_neg c] at h1
    rw [h1] at h2
    rw [if_neg c, if_neg c, h1, if_neg (by simp)]
    unfold Dsk.sync at hcw
    rw [hcw]
    obtain ⟨b1, b2, b3, b4, b5, b6, b7, b8⟩ := h2
    refine ⟨rfl, b1, b2, b3, b4, ?_, rfl, (h.calm.go 3).settle _, ?_⟩
    · show settled D.last D.cache _ D.cache.length = settled C.last C.cache _ C.cache.length
      rw [h.last, h.cache]
    · rw [Dsk.settle_pages]; exact b8
end Go.Proofs.Ytfbjjblgcgjndaa
