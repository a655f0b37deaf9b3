/- The disk in memory. -/
import Derived.Test.YtfbjjblgcgjndaaDiskMath
import Derived.Maps.OwnOps
import Derived.Maps.OwnSet
set_option linter.unusedVariables false
set_option linter.unusedSimpArgs false
namespace Go.Proofs.Ytfbjjblgcgjndaa
open Go.RowKit Go.Maps

/-- a block of k cells, each its own -/
def RecAt (w : World) (b : Nat) (t : TypeId) (k : Nat) (F : Nat → Value) : Prop := w.heap[b]? = some (.cells (lst F k).toArray t (0, 0))
theorem RecAt.cell {w : World} {b : Nat} {t : TypeId} {k : Nat} {F : Nat → Value} (h : RecAt w b t k F) (i : Nat) (hi : i < k) : w.cell? ⟨b, i, none⟩ = some (F i) := by
  rw [cell_of_row w b i _ t (0, 0) h]
  have := lst_get F k i hi
  simpa using this
theorem RecAt.frozen {w : World} {b : Nat} {t : TypeId} {k : Nat} {F : Nat → Value} (h : RecAt w b t k F) (i : Nat) : w.frozen? ⟨b, i, none⟩ = false := frozen_of_row w b i _ t h
theorem RecAt.lt {w : World} {b : Nat} {t : TypeId} {k : Nat} {F : Nat → Value} (h : RecAt w b t k F) : b < w.heap.size := (Array.getElem?_eq_some_iff.1 h).1
theorem lst_put (F : Nat → Value) (k i : Nat) (x : Value) : (lst F k).set i x = lst (turn F i x) k := by
  apply List.ext_getElem?
  intro q
  by_cases hq : q < k
  · rw [lst_get _ _ _ hq]
    by_cases e : q = i
    · subst e; rw [turn_same, List.getElem?_set_self (by rw [lst_length]; exact hq)]
    · rw [turn_other _ _ _ _ e, List.getElem?_set_ne (by omega), lst_get _ _ _ hq]
  · rw [List.getElem?_eq_none (by rw [List.length_set, lst_length]; omega), List.getElem?_eq_none (by rw [lst_length]; omega)]
theorem RecAt.set {w : World} {b : Nat} {t : TypeId} {k : Nat} {F : Nat → Value} (h : RecAt w b t k F) (i : Nat) (x : Value) : RecAt (w.setCell ⟨b, i, none⟩ x) b t k (turn F i x) := by
  have := heap_setCell_same w b i _ t x h
  unfold RecAt
  rw [this, ← lst_put]
  simp
theorem RecAt.keep {w w' : World} {b : Nat} {t : TypeId} {k : Nat} {F : Nat → Value} {G : Nat → Prop} (h : RecAt w b t k F) (hc : Chg G w w') (hG : ¬ G b) : RecAt w' b t k F := by
  unfold RecAt; rw [hc.block b h.lt hG]; exact h
theorem RecAt.congr {w : World} {b : Nat} {t : TypeId} {k : Nat} {F F' : Nat → Value} (h : RecAt w b t k F) (he : ∀ i, i < k → F i = F' i) : RecAt w b t k F' := by
  unfold RecAt; rw [← lst_congr he]; exact h
theorem RecAt.of {w : World} {b : Nat} {t : TypeId} {k : Nat} {F : Nat → Value} {cs : Array Value} (h : w.heap[b]? = some (.cells cs t (0, 0))) (he : cs = (lst F k).toArray) : RecAt w b t k F := by
  subst he; exact h

/-- the cells of a write that waits -/
def wcell (x : Nat × List Nat) : List Value := .int .i64 (x.1 : Int) :: ns .u8 x.2
def wcells (c : List (Nat × List Nat)) : List Value := c.flatMap wcell
theorem wcells_append (c d : List (Nat × List Nat)) : wcells (c ++ d) = wcells c ++ wcells d := by simp [wcells]
theorem wcells_length {c : List (Nat × List Nat)} (h : ∀ x ∈ c, sectOk x.2) : (wcells c).length = c.length * 129 := by
  induction c with
  | nil => rfl
  | cons x c ih =>
    have h1 := (h x (by simp)).1
    have h2 := ih (fun y hy => h y (by simp [hy]))
    simp only [wcells, List.flatMap_cons, List.length_append, List.length_cons] at h2 ⊢
    rw [h2]
    simp [wcell, ns_length, h1]
    omega
theorem wcells_get {c : List (Nat × List Nat)} (h : ∀ x ∈ c, sectOk x.2) (i : Nat) (hi : i < c.length) (j : Nat) (hj : j < 129) : (wcells c)[i * 129 + j]? = (wcell c[i])[j]? := by
  induction c generalizing i with
  | nil => simp at hi
  | cons x c ih =>
    have h1 := (h x (by simp)).1
    have hl : (wcell x).length = 129 := by simp [wcell, ns_length, h1]
    have hw : wcells (x :: c) = wcell x ++ wcells c := by simp [wcells]
    rw [hw]
    cases i with
    | zero => rw [List.getElem?_append_left (by omega)]; simp
    | succ i =>
      rw [List.getElem?_append_right (by omega), hl, show (i + 1) * 129 + j - 129 = i * 129 + j by omega]
      rw [ih (fun y hy => h y (by simp [hy])) i (by simpa using hi)]
      simp
/-- the sectors that last, one behind the other -/
structure LastAt (w : World) (b : Nat) (l : List (List Nat)) : Prop where
  range : ∀ i, (h : i < l.length) → w.rangeAt b (i * 128) (ns .u8 l[i])
  there : w.there b 0 (l.length * 128)
theorem LastAt.keep {w w' : World} {b : Nat} {l : List (List Nat)} {G : Nat → Prop} (h : LastAt w b l) (hc : Chg G w w') (hG : ¬ G b) (hl : b < w.heap.size) : LastAt w' b l := by
  have hcell : ∀ o, w'.cell? ⟨b, o, none⟩ = w.cell? ⟨b, o, none⟩ := fun o => by unfold World.cell?; rw [hc.block b hl hG]
  have hfr : ∀ o, w'.frozen? ⟨b, o, none⟩ = w.frozen? ⟨b, o, none⟩ := fun o => by unfold World.frozen?; rw [hc.block b hl hG]
  exact ⟨fun i hi j v hv => by rw [hcell]; exact h.range i hi j v hv, fun j hj => by rw [hcell, hfr]; exact h.there j hj⟩
theorem LastAt.set {w : World} {b : Nat} {l : List (List Nat)} (h : LastAt w b l) (hs : ∀ s ∈ l, s.length = 128) (i : Nat) (hi : i < l.length) (s : List Nat) (hsl : s.length = 128) : LastAt (w.setCells b (i * 128) (ns .u8 s)) b (l.set i s) := by
  have ht : w.there b (i * 128) (ns .u8 s).length := fun j hj => by
    rw [ns_length, hsl] at hj
    have := h.there (i * 128 + j) (by have : (i + 1) * 128 ≤ l.length * 128 := Nat.mul_le_mul_right _ hi; omega)
    simpa using this
  refine ⟨fun k hk => ?_, ?_⟩
  · rw [List.length_set] at hk
    by_cases e : k = i
    · subst e
      simp only [List.getElem_set_self]
      exact World.rangeAt_setCells_same w b _ _ ht
    · rw [List.getElem_set_ne (Ne.symm e)]
      refine World.rangeAt_setCells_apart (h.range k hk) b _ _ (.inr ?_)
      rw [ns_length, ns_length, hs _ (List.getElem_mem _), hsl]
      omega
  · rw [List.length_set]
    exact World.there_setCells h.there b _ _
theorem setCells_chg (b : Nat) : ∀ (vs : List Value) (o : Nat) (w : World), Chg (fun g => g = b) w (w.setCells b o vs)
  | [], _, w => Chg.refl _ w
  | v :: r, o, w => by
    rw [World.setCells]
    exact (setCell_chg w b o v).trans (setCells_chg b r (o + 1) _) (fun _ _ h => h)

/-- which write is a sector's last, as the map says -/
def seenKey (a : Nat) : Lit := .int .i64 (a : Int)
def SeenOk (M : DataW Unit) (c : List (Nat × List Nat)) : Prop :=
  IsMap M ∧ ∀ a : Nat, (lastWrite c a = none → has M (seenKey a) = false) ∧ ∀ s, lastWrite c a = some s → has M (seenKey a) = true ∧ ∃ i : Nat, c[i]? = some (a, s) ∧ ∀ z, M.atKey (seenKey a) z = .lit (.int .i64 (i : Int))
theorem SeenOk.nil : SeenOk (.map []) [] := ⟨isMap_empty, fun a => ⟨fun _ => rfl, fun s hs => by simp [lastWrite] at hs⟩⟩
theorem seenKey_lit (a : Nat) : WideAt.IsKeyLit (seenKey a) := by simp [seenKey, WideAt.IsKeyLit]
theorem seenKey_ne {a b : Nat} (h : a ≠ b) : seenKey a ≠ seenKey b := by
  intro e; unfold seenKey at e; injection e with _ e; exact h (by omega)
theorem SeenOk.put {M : DataW Unit} {c : List (Nat × List Nat)} (h : SeenOk M c) (b : Nat) (s : List Nat) : SeenOk (M.put (seenKey b) (.lit (.int .i64 (c.length : Int)))) (c ++ [(b, s)]) := by
  refine ⟨h.1.put _ _, fun a => ⟨fun hn => ?_, fun t ht => ?_⟩⟩
  · rw [lastWrite_append] at hn
    split at hn
    · cases hn
    · rename_i e
      rw [has_put_other (seenKey_ne (Ne.symm e))]
      exact (h.2 a).1 hn
  · rw [lastWrite_append] at ht
    split at ht
    · rename_i e
      subst e
      cases ht
      refine ⟨has_put_same h.1 (seenKey_lit _) _, c.length, by simp, fun z => atKey_put_same h.1 (seenKey_lit _) _ _⟩
    · rename_i e
      obtain ⟨h1, i, h2, h3⟩ := (h.2 a).2 t ht
      refine ⟨by rw [has_put_other (seenKey_ne (Ne.symm e))]; exact h1, i, by rw [List.getElem?_append_left (List.getElem?_eq_some_iff.1 h2).1]; exact h2, fun z => by rw [atKey_put_other (seenKey_ne (Ne.symm e))]; exact h3 z⟩

/-- the disk's own cells -/
def dcell (L C : Value) (m : Nat) (D : Dsk) : Nat → Value
  | 0 => L
  | 1 => C
  | 2 => .map (some m)
  | 3 => .bool D.dark
  | 4 => .int .i64 D.trip
  | 5 => .int .i64 (D.f 0)
  | 6 => .int .i64 (D.f 1)
  | 7 => .int .i64 (D.f 2)
  | 8 => .int .i64 (D.f 3)
  | 9 => .int .i64 (D.n 0)
  | 10 => .int .i64 (D.n 1)
  | 11 => .int .i64 (D.n 2)
  | 12 => .int .i64 (D.n 3)
  | _ => undef
/-- its parts: the sectors' block, the cache, the map -/
structure Dparts where
  b : Nat
  C : Value
  m : Nat
structure DiskIn (n0 : Nat) (w : World) (p : Nat) (D : Dsk) (q : Dparts) (M : DataW Unit) : Prop where
  rcd : RecAt w p 180 13 (dcell (.slice (some ⟨q.b, 0, none⟩) D.last.length D.last.length) q.C q.m D)
  last : LastAt w q.b D.last
  cache : w.ownsRow n0 185 129 q.C D.cache.length (wcells D.cache)
  map : w.ownsMap Try.prog 3 (plainElem Try.prog 3) q.m D.cache.length M
  seen : SeenOk M D.cache
  bases : n0 ≤ p ∧ n0 ≤ q.b ∧ n0 ≤ q.m ∧ q.b < w.heap.size ∧ q.m < w.heap.size
  sep : p ≠ q.b ∧ p ≠ q.m ∧ q.b ≠ q.m ∧ ¬ blk q.C p ∧ ¬ blk q.C q.b ∧ ¬ blk q.C q.m
def Dparts.foot (p : Nat) (q : Dparts) (g : Nat) : Prop := g = p ∨ g = q.b ∨ g = q.m ∨ blk q.C g
/-- a disk at p; all its blocks are among S -/
def DiskAt (n0 : Nat) (w : World) (p : Nat) (D : Dsk) (S : Nat → Prop) : Prop := D.Ok ∧ ∃ q M, DiskIn n0 w p D q M ∧ ∀ g, q.foot p g → S g
theorem DiskIn.lt {n0 : Nat} {w : World} {p : Nat} {D : Dsk} {q : Dparts} {M : DataW Unit} (h : DiskIn n0 w p D q M) {g : Nat} (hg : q.foot p g) : n0 ≤ g ∧ g < w.heap.size := by
  rcases hg with rfl | rfl | rfl | hg
  · exact ⟨h.bases.1, h.rcd.lt⟩
  · exact ⟨h.bases.2.1, h.bases.2.2.2.1⟩
  · exact ⟨h.bases.2.2.1, h.bases.2.2.2.2⟩
  · exact row_lt h.cache hg
theorem map_chg {w w' : World} {G : Nat → Prop} {k : TypeId} {R : Value → Option (DataW Unit × List MemPlace)} {b n : Nat} {M : DataW Unit} (h : w.ownsMap Try.prog k R b n M) (hc : Chg G w w') (hG : ¬ G b) (hl : b < w.heap.size) : w'.ownsMap Try.prog k R b n M := by
  obtain ⟨es, clock, h1, h2⟩ := h
  exact ⟨es, clock, by rw [hc.block b hl hG]; exact h1, h2⟩
theorem DiskIn.keep {n0 : Nat} {w w' : World} {p : Nat} {D : Dsk} {q : Dparts} {M : DataW Unit} {G : Nat → Prop} (h : DiskIn n0 w p D q M) (hc : Chg G w w') (hG : ∀ g, q.foot p g → ¬ G g) : DiskIn n0 w' p D q M :=
  ⟨h.rcd.keep hc (hG _ (.inl rfl)), h.last.keep hc (hG _ (.inr (.inl rfl))) h.bases.2.2.2.1, own_chg h.cache hc (fun g hg => hG g (.inr (.inr (.inr hg)))), map_chg h.map hc (hG _ (.inr (.inr (.inl rfl)))) h.bases.2.2.2.2, h.seen,
    ⟨h.bases.1, h.bases.2.1, h.bases.2.2.1, Nat.lt_of_lt_of_le h.bases.2.2.2.1 hc.size, Nat.lt_of_lt_of_le h.bases.2.2.2.2 hc.size⟩, h.sep⟩
theorem DiskAt.keep {n0 : Nat} {w w' : World} {p : Nat} {D : Dsk} {S G : Nat → Prop} (h : DiskAt n0 w p D S) (hc : Chg G w w') (hG : ∀ g, g < w.heap.size → S g → ¬ G g) : DiskAt n0 w' p D S := by
  obtain ⟨ok, q, M, h1, h2⟩ := h
  exact ⟨ok, q, M, h1.keep hc (fun g hg => hG g (h1.lt hg).2 (h2 g hg)), h2⟩
theorem DiskAt.below {n0 : Nat} {w w' : World} {p : Nat} {D : Dsk} {S : Nat → Prop} (h : DiskAt n0 w p D S) (hb : Below w.heap.size w w') : DiskAt n0 w' p D S :=
  h.keep (G := fun _ => False) (.of_below hb) (fun _ _ _ h => h)
theorem DiskAt.mono {n0 : Nat} {w : World} {p : Nat} {D : Dsk} {S S' : Nat → Prop} (h : DiskAt n0 w p D S) (hS : ∀ g, n0 ≤ g → g < w.heap.size → S g → S' g) : DiskAt n0 w p D S' := by
  obtain ⟨ok, q, M, h1, h2⟩ := h
  exact ⟨ok, q, M, h1, fun g hg => hS g (h1.lt hg).1 (h1.lt hg).2 (h2 g hg)⟩
end Go.Proofs.Ytfbjjblgcgjndaa
