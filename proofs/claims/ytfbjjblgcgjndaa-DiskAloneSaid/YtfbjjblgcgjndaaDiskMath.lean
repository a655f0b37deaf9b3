/- The disk in plain words: sectors that last, writes that wait, what is counted and what fails. -/
import Derived.Test.YtfbjjblgcgjndaaHeld
set_option linter.unusedVariables false
set_option linter.unusedSimpArgs false
namespace Go.Proofs.Ytfbjjblgcgjndaa

structure Dsk where
  last : List (List Nat)
  cache : List (Nat × List Nat)
  dark : Bool
  trip : Int
  f : Nat → Int
  n : Nat → Int
def sectOk (s : List Nat) : Prop := s.length = 128 ∧ Bytes s
structure Dsk.Ok (D : Dsk) : Prop where
  last : ∀ s ∈ D.last, sectOk s
  cache : ∀ x ∈ D.cache, x.1 < D.last.length ∧ sectOk x.2
  pages : ∃ p, D.last.length = 8 * p ∧ 1 ≤ p ∧ p ≤ 16384
  trip : -1 ≤ D.trip ∧ D.trip ≤ 9223372036854775807
  f : ∀ j, -1 ≤ D.f j ∧ D.f j ≤ 9223372036854775807
  n : ∀ j, 0 ≤ D.n j
def Dsk.pages (D : Dsk) : Nat := D.last.length / 8
def zeroSect : List Nat := List.replicate 128 0
theorem zeroSect_ok : sectOk zeroSect := ⟨by simp [zeroSect], Bytes.zeros _⟩
def Dsk.new (p : Nat) : Dsk := ⟨List.replicate (8 * p) zeroSect, [], false, -1, fun _ => -1, fun _ => 0⟩
theorem Dsk.new_ok (p : Nat) (h1 : 1 ≤ p) (h2 : p ≤ 16384) : (Dsk.new p).Ok :=
  ⟨fun s hs => by rw [(List.mem_replicate.1 hs).2]; exact zeroSect_ok, fun x hx => by simp [Dsk.new] at hx, ⟨p, by simp [Dsk.new], h1, h2⟩, by simp [Dsk.new], fun j => by simp [Dsk.new], fun j => by simp [Dsk.new]⟩

def dec1 (x : Int) : Int := if 0 < x then x - 1 else x
theorem dec1_ok {x : Int} (h1 : -1 ≤ x) (h2 : x ≤ 9223372036854775807) : -1 ≤ dec1 x ∧ dec1 x ≤ 9223372036854775807 := by unfold dec1; split <;> omega
theorem dec1_pos {x : Int} (h : 0 < x) : dec1 x = x - 1 := by unfold dec1; rw [if_pos h]
theorem dec1_neg {x : Int} (h : ¬ 0 < x) : dec1 x = x := by unfold dec1; rw [if_neg h]
/-- the power goes -/
def Dsk.off (D : Dsk) : Dsk := { D with dark := true, trip := -1 }
/-- an operation is counted, and fails -/
def Dsk.fall (D : Dsk) (k : Nat) : Dsk := { D with trip := dec1 D.trip, n := turn D.n k (D.n k + 1), f := turn D.f k (-1) }
/-- an operation is counted, and goes on -/
def Dsk.go (D : Dsk) (k : Nat) : Dsk := { D with trip := dec1 D.trip, n := turn D.n k (D.n k + 1), f := turn D.f k (dec1 (D.f k)) }
/-- an operation of a kind begins: what it says, and what is left -/
def Dsk.begin (D : Dsk) (k : Nat) : Nat × Dsk :=
  if D.dark then (4, D) else if D.trip = 0 then (4, D.off) else if D.f k = 0 then (6, D.fall k) else (0, D.go k)
theorem Dsk.off_ok {D : Dsk} (h : D.Ok) : D.off.Ok := ⟨h.last, h.cache, h.pages, by simp [Dsk.off], h.f, h.n⟩
theorem Dsk.turn_n {D : Dsk} (h : D.Ok) (k : Nat) : ∀ j, 0 ≤ turn D.n k (D.n k + 1) j := fun j => by
  by_cases e : j = k
  · subst e; rw [turn_same]; have := h.n j; omega
  · rw [turn_other _ _ _ _ e]; exact h.n j
theorem Dsk.turn_f {D : Dsk} (h : D.Ok) (k : Nat) (x : Int) (h1 : -1 ≤ x) (h2 : x ≤ 9223372036854775807) : ∀ j, -1 ≤ turn D.f k x j ∧ turn D.f k x j ≤ 9223372036854775807 := fun j => by
  by_cases e : j = k
  · subst e; rw [turn_same]; exact ⟨h1, h2⟩
  · rw [turn_other _ _ _ _ e]; exact h.f j
theorem Dsk.fall_ok {D : Dsk} (h : D.Ok) (k : Nat) : (D.fall k).Ok := ⟨h.last, h.cache, h.pages, dec1_ok h.trip.1 h.trip.2, D.turn_f h k _ (by omega) (by omega), D.turn_n h k⟩
theorem Dsk.go_ok {D : Dsk} (h : D.Ok) (k : Nat) : (D.go k).Ok := ⟨h.last, h.cache, h.pages, dec1_ok h.trip.1 h.trip.2, D.turn_f h k _ (dec1_ok (h.f k).1 (h.f k).2).1 (dec1_ok (h.f k).1 (h.f k).2).2, D.turn_n h k⟩
theorem Dsk.begin_ok {D : Dsk} (h : D.Ok) (k : Nat) : (D.begin k).2.Ok := by
  unfold Dsk.begin
  split
  · exact h
  · split
    · exact D.off_ok h
    · split
      · exact D.fall_ok h k
      · exact D.go_ok h k
theorem Dsk.begin_last (D : Dsk) (k : Nat) : (D.begin k).2.last = D.last ∧ (D.begin k).2.cache = D.cache := by
  unfold Dsk.begin
  split
  · exact ⟨rfl, rfl⟩
  · split
    · exact ⟨rfl, rfl⟩
    · split <;> exact ⟨rfl, rfl⟩

/-- the last write of a sector that waits: its place -/
def lastIdx (c : List (Nat × List Nat)) (a : Nat) : Option Nat := (List.range c.length).reverse.find? fun i => ((c[i]?).map (·.1)) == some a
def lastWrite : List (Nat × List Nat) → Nat → Option (List Nat)
  | [], _ => none
  | (b, s) :: c, a => match lastWrite c a with
    | some t => some t
    | none => if b = a then some s else none
theorem lastWrite_append (c : List (Nat × List Nat)) (b : Nat) (s : List Nat) (a : Nat) : lastWrite (c ++ [(b, s)]) a = if b = a then some s else lastWrite c a := by
  induction c with
  | nil => simp [lastWrite]
  | cons x c ih =>
    obtain ⟨d, t⟩ := x
    simp only [List.cons_append, lastWrite, ih]
    by_cases h : b = a
    · rw [if_pos h, if_pos h]
    · rw [if_neg h, if_neg h]
theorem lastWrite_mem {c : List (Nat × List Nat)} {a : Nat} {s : List Nat} (h : lastWrite c a = some s) : (a, s) ∈ c := by
  induction c with
  | nil => simp [lastWrite] at h
  | cons x c ih =>
    obtain ⟨d, t⟩ := x
    simp only [lastWrite] at h
    cases hc : lastWrite c a with
    | some u => rw [hc] at h; simp at h; subst h; exact List.mem_cons_of_mem _ (ih hc)
    | none =>
      rw [hc] at h
      simp only at h
      split at h
      · rename_i e; subst e; cases h; exact List.mem_cons_self ..
      · cases h
/-- a sector as it was written last -/
def Dsk.sec (D : Dsk) (a : Nat) : List Nat := match lastWrite D.cache a with
  | some s => s
  | none => D.last.getD a []
theorem Dsk.sec_ok {D : Dsk} (h : D.Ok) (a : Nat) (ha : a < D.last.length) : sectOk (D.sec a) := by
  unfold Dsk.sec
  split
  · rename_i s hs
    exact (h.cache _ (lastWrite_mem hs)).2
  · rw [List.getD_eq_getElem?_getD, List.getElem?_eq_getElem ha]
    exact h.last _ (List.getElem_mem _)
/-- some sectors in a row -/
def Dsk.secs (D : Dsk) (a k : Nat) : List Nat := ((List.range k).map fun i => D.sec (a + i)).flatten
theorem Dsk.secs_succ (D : Dsk) (a k : Nat) : D.secs a (k + 1) = D.secs a k ++ D.sec (a + k) := by
  simp [Dsk.secs, List.range_succ]
theorem Dsk.secs_zero (D : Dsk) (a : Nat) : D.secs a 0 = [] := by simp [Dsk.secs]
theorem Dsk.secs_ok {D : Dsk} (h : D.Ok) (a k : Nat) (ha : a + k ≤ D.last.length) : (D.secs a k).length = 128 * k ∧ Bytes (D.secs a k) := by
  induction k with
  | zero => rw [Dsk.secs_zero]; exact ⟨rfl, Bytes.nil⟩
  | succ k ih =>
    obtain ⟨h1, h2⟩ := ih (by omega)
    obtain ⟨h3, h4⟩ := D.sec_ok h (a + k) (by omega)
    rw [Dsk.secs_succ]
    exact ⟨by rw [List.length_append, h1, h3]; omega, h2.append h4⟩

/-- a page is written, or its first sector: the parts one by one -/
def puts (a : Nat) (b : List Nat) : Nat → List (Nat × List Nat)
  | 0 => []
  | k + 1 => puts a b k ++ [(a + k, (b.drop (128 * k)).take 128)]
def Dsk.put (D : Dsk) (a : Nat) (b : List Nat) (k : Nat) : Dsk := { D with cache := D.cache ++ puts a b k }
theorem part_ok {b : List Nat} (hb : Bytes b) {k : Nat} (h : 128 * (k + 1) ≤ b.length) : sectOk ((b.drop (128 * k)).take 128) :=
  ⟨by rw [List.length_take, List.length_drop]; omega, (hb.drop _).take _⟩
theorem puts_length (a : Nat) (b : List Nat) (k : Nat) : (puts a b k).length = k := by
  induction k with
  | zero => rfl
  | succ k ih => simp [puts, ih]
theorem puts_ok {a : Nat} {b : List Nat} (hb : Bytes b) {k L : Nat} (h : 128 * k ≤ b.length) (ha : a + k ≤ L) : ∀ x ∈ puts a b k, x.1 < L ∧ sectOk x.2 := by
  induction k with
  | zero => intro x hx; simp [puts] at hx
  | succ k ih =>
    intro x hx
    simp only [puts, List.mem_append, List.mem_singleton] at hx
    rcases hx with hx | rfl
    · exact ih (by omega) (by omega) x hx
    · exact ⟨by simp only; omega, part_ok hb h⟩
theorem Dsk.put_ok {D : Dsk} (h : D.Ok) {a : Nat} {b : List Nat} (hb : Bytes b) {k : Nat} (hk : 128 * k ≤ b.length) (ha : a + k ≤ D.last.length) : (D.put a b k).Ok :=
  ⟨h.last, fun x hx => by
    rcases List.mem_append.1 hx with hx | hx
    · exact h.cache x hx
    · exact puts_ok hb hk ha x hx, h.pages, h.trip, h.f, h.n⟩

/-- those writes last that are kept -/
def settled (last : List (List Nat)) (c : List (Nat × List Nat)) (kept : Nat → Bool) : Nat → List (List Nat)
  | 0 => last
  | i + 1 => match c[i]? with
    | some x => if kept i then (settled last c kept i).set x.1 x.2 else settled last c kept i
    | none => settled last c kept i
theorem settled_length (last : List (List Nat)) (c : List (Nat × List Nat)) (kept : Nat → Bool) (i : Nat) : (settled last c kept i).length = last.length := by
  induction i with
  | zero => rfl
  | succ i ih =>
    unfold settled
    split
    · split
      · rw [List.length_set, ih]
      · exact ih
    · exact ih
theorem settled_ok {last : List (List Nat)} {c : List (Nat × List Nat)} (h : ∀ s ∈ last, sectOk s) (hc : ∀ x ∈ c, sectOk x.2) (kept : Nat → Bool) (i : Nat) : ∀ s ∈ settled last c kept i, sectOk s := by
  induction i with
  | zero => exact h
  | succ i ih =>
    unfold settled
    split
    · rename_i x hx
      split
      · intro s hs
        rcases List.mem_or_eq_of_mem_set hs with hs | rfl
        · exact ih s hs
        · exact hc x (List.mem_of_getElem? hx)
      · exact ih
    · exact ih
def Dsk.settle (D : Dsk) (kept : Nat → Bool) : Dsk := { D with last := settled D.last D.cache kept D.cache.length, cache := [] }
theorem Dsk.settle_ok {D : Dsk} (h : D.Ok) (kept : Nat → Bool) : (D.settle kept).Ok :=
  ⟨settled_ok h.last (fun x hx => (h.cache x hx).2) kept _, fun x hx => by simp [Dsk.settle] at hx, by obtain ⟨p, h1, h2⟩ := h.pages; exact ⟨p, by rw [← h1]; exact settled_length _ _ _ _, h2⟩, h.trip, h.f, h.n⟩
def Dsk.calm (D : Dsk) : Dsk := { D with dark := false, trip := -1, f := fun _ => -1 }
theorem Dsk.calm_ok {D : Dsk} (h : D.Ok) : D.calm.Ok := ⟨h.last, h.cache, h.pages, by simp [Dsk.calm], fun j => by simp [Dsk.calm], h.n⟩
end Go.Proofs.Ytfbjjblgcgjndaa
