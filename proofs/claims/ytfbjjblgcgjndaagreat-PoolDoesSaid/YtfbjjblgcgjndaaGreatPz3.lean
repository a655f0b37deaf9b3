/- Joined texts: OwnB, OwnI, CrcMath, Crc1, Crc2, Buf, R00a, DiskFill, DiskLook, DiskLook2, DiskPlain, ReadDo, DiskPlain2, Disk11. -/
import Derived.Lib.AppendZeros
import Derived.Test.YtfbjjblgcgjndaaGreatPz1
import Derived.Test.YtfbjjblgcgjndaaGreatPz2
set_option linter.unusedVariables false
set_option linter.unusedSimpArgs false

/- Contract of ownBytes: lists with memory of their own pass. -/
namespace Go.Proofs.YtfbjjblgcgjndaaGreat
open Go.RowKit

theorem Tryz.info22 : (Tryz.prog.info? 22).map (fun i => (i.zero, i.size, i.bytes)) = some (some (.slice none 0 0), 1, 24) := by kernel_rfl
def vpBytes (i k : Nat) : Value := .int .u8 (((i : Int) * 97 + (k : Int) * 13) % 256)
def vnBytes (i k : Nat) : Value := .int .u8 (((-1 - (i : Int)) * 97 + (k : Int) * 13) % 256)
def goneBytes (M : Nat) (u : Nat → Value) (g : Nat) : Prop := ∃ i, i < M ∧ blk (u i) g
/-- the first pass: those below p are written -/
def OneBytes (n0 : Nat) (w wr : World) (M : Nat) (u : Nat → Value) (n : Nat → Nat) (X : Nat → Prop) (p : Nat) : Prop :=
  ∃ c, Apart n0 5 wr M u n c X ∧ (∀ j, j < p → c j = lst (vpBytes j) (n j)) ∧ Chg (goneBytes M u) w wr
def OneInBytes (n0 : Nat) (w wr : World) (M : Nat) (u : Nat → Value) (n : Nat → Nat) (X : Nat → Prop) (p k : Nat) : Prop :=
  ∃ c, Apart n0 5 wr M u n c X ∧ (∀ j, j < p → c j = lst (vpBytes j) (n j)) ∧ (∀ q, q < k → (c p)[q]? = some (vpBytes p q)) ∧ Chg (goneBytes M u) w wr
theorem OneBytes.inn {n0 : Nat} {w wr : World} {M : Nat} {u : Nat → Value} {n : Nat → Nat} {X : Nat → Prop} {p : Nat} (h : OneBytes n0 w wr M u n X p) : OneInBytes n0 w wr M u n X p 0 := by
  obtain ⟨c, a, b, d⟩ := h
  exact ⟨c, a, b, fun q hq => by omega, d⟩
theorem OneInBytes.out {n0 : Nat} {w wr : World} {M : Nat} {u : Nat → Value} {n : Nat → Nat} {X : Nat → Prop} {p : Nat} (h : OneInBytes n0 w wr M u n X p (n p)) (hp : p < M) : OneBytes n0 w wr M u n X (p + 1) := by
  obtain ⟨c, a, b, d, e⟩ := h
  refine ⟨c, a, fun j hj => ?_, e⟩
  by_cases h1 : j = p
  · subst h1
    have hl : (c j).length = n j := (a.own j hp).1
    apply List.ext_getElem?
    intro q
    by_cases hq : q < n j
    · rw [d q hq, lst_get _ _ _ hq]
    · rw [List.getElem?_eq_none (by omega), List.getElem?_eq_none (by rw [lst_length]; omega)]
  · exact b j (by omega)
theorem OneInBytes.step {n0 : Nat} {w wr : World} {M : Nat} {u : Nat → Value} {n : Nat → Nat} {X : Nat → Prop} {p k g cap : Nat} (h : OneInBytes n0 w wr M u n X p k) (hp : p < M) (hk : k < n p) (hu : u p = .slice (some ⟨g, 0, none⟩) (n p) cap) :
    OneInBytes n0 w (wr.setCell ⟨g, k, none⟩ (vpBytes p k)) M u n X p (k + 1) := by
  obtain ⟨c, a, b, d, e⟩ := h
  have hl : (c p).length = n p := (a.own p hp).1
  refine ⟨_, a.store p hp hu k _, fun j hj => ?_, fun q hq => ?_, e.setCell _ _ (.inl ⟨p, hp, by rw [hu]; rfl⟩)⟩
  · rw [turn_other _ _ _ _ (by omega)]; exact b j hj
  · rw [turn_same]
    by_cases h1 : q = k
    · subst h1
      rw [List.getElem?_set_self (by omega)]
    · rw [List.getElem?_set_ne (by omega)]
      exact d q (by omega)
theorem OneInBytes.form {n0 : Nat} {w wr : World} {M : Nat} {u : Nat → Value} {n : Nat → Nat} {X : Nat → Prop} {p k : Nat} (h : OneInBytes n0 w wr M u n X p k) (hp : p < M) :
    ∃ V cap, u p = .slice V (n p) cap ∧ ∀ q, q < n p → ∃ g x, V = some ⟨g, 0, none⟩ ∧ wr.cell? ⟨g, q, none⟩ = some x ∧ wr.frozen? ⟨g, q, none⟩ = false := by
  obtain ⟨c, a, b, d, e⟩ := h
  obtain ⟨V, cap, h1, h2⟩ := rw_cells (a.own p hp)
  have hl : (c p).length = n p := (a.own p hp).1
  refine ⟨V, cap, h1, fun q hq => ?_⟩
  obtain ⟨g, e1, e2, e3⟩ := h2 q hq
  exact ⟨g, _, e1, by rw [e2]; exact List.getElem?_eq_getElem (by omega), e3⟩

/-- the second pass: those below p have grown; the long list -/
structure TwoBytes (n0 : Nat) (w wr : World) (M : Nat) (u : Nat → Value) (n : Nat → Nat) (X : Nat → Prop) (p : Nat) (L : Value) (v : Nat → Value) (m : Nat → Nat) (c : Nat → List Value) : Prop where
  many : Many n0 w.heap.size 5 wr M u v n m c (fun g => X g ∨ blk L g)
  done : ∀ j, j < p → m j = n j + 16 ∧ c j = lst (vpBytes j) (n j) ++ lst (vnBytes j) 16
  rest : ∀ j, p < j → j < M → v j = u j ∧ m j = n j ∧ c j = lst (vpBytes j) (n j)
  long : wr.ownsRow w.heap.size 22 1 L p (lst v p)
  chg : Chg (goneBytes M u) w wr
def TwoOutBytes (n0 : Nat) (w wr : World) (M : Nat) (u : Nat → Value) (n : Nat → Nat) (X : Nat → Prop) (p : Nat) (L : Value) : Prop :=
  ∃ v m c, TwoBytes n0 w wr M u n X p L v m c ∧ (p < M → v p = u p ∧ m p = n p ∧ c p = lst (vpBytes p) (n p))
def TwoInBytes (n0 : Nat) (w wr : World) (M : Nat) (u : Nat → Value) (n : Nat → Nat) (X : Nat → Prop) (p : Nat) (L : Value) (k : Nat) (x : Value) : Prop :=
  ∃ v m c, TwoBytes n0 w wr M u n X p L v m c ∧ x = v p ∧ m p = n p + k ∧ c p = lst (vpBytes p) (n p) ++ lst (vnBytes p) k
theorem OneBytes.two {n0 : Nat} {w wr : World} {M : Nat} {u : Nat → Value} {n : Nat → Nat} {X : Nat → Prop} (h : OneBytes n0 w wr M u n X M) : TwoOutBytes n0 w wr M u n X 0 (.slice none 0 0) := by
  obtain ⟨c, a, b, d⟩ := h
  refine ⟨u, n, c, ⟨?_, fun j hj => by omega, fun j _ hj => ⟨rfl, rfl, b j hj⟩, World.ownsRow_nil _ _ _ _, d⟩, fun hp => ⟨rfl, rfl, b 0 hp⟩⟩
  refine a.many.shut fun g _ hg => ?_
  rcases hg with hg | hg
  · exact hg
  · cases hg
theorem TwoOutBytes.inn {n0 : Nat} {w wr : World} {M : Nat} {u : Nat → Value} {n : Nat → Nat} {X : Nat → Prop} {p : Nat} {L : Value} (h : TwoOutBytes n0 w wr M u n X p L) (hp : p < M) : TwoInBytes n0 w wr M u n X p L 0 (u p) := by
  obtain ⟨v, m, c, h1, h2⟩ := h
  obtain ⟨a, b, d⟩ := h2 hp
  exact ⟨v, m, c, h1, a.symm, b, by rw [d]; simp [lst]⟩
theorem TwoOutBytes.chg {n0 : Nat} {w wr : World} {M : Nat} {u : Nat → Value} {n : Nat → Nat} {X : Nat → Prop} {p : Nat} {L : Value} (h : TwoOutBytes n0 w wr M u n X p L) : Chg (goneBytes M u) w wr := by
  obtain ⟨v, m, c, h1, h2⟩ := h
  exact h1.chg
theorem TwoInBytes.chg {n0 : Nat} {w wr : World} {M : Nat} {u : Nat → Value} {n : Nat → Nat} {X : Nat → Prop} {p k : Nat} {L x : Value} (h : TwoInBytes n0 w wr M u n X p L k x) : Chg (goneBytes M u) w wr := by
  obtain ⟨v, m, c, h1, _⟩ := h
  exact h1.chg
theorem TwoInBytes.form {n0 : Nat} {w wr : World} {M : Nat} {u : Nat → Value} {n : Nat → Nat} {X : Nat → Prop} {p k : Nat} {L x : Value} (h : TwoInBytes n0 w wr M u n X p L k x) (hp : p < M) : ∃ V cap, u p = .slice V (n p) cap := by
  obtain ⟨v, m, c, h1, _⟩ := h
  obtain ⟨V, cap, e, _⟩ := (h1.many.held p hp).form
  exact ⟨V, cap, e⟩
theorem TwoInBytes.long {n0 : Nat} {w wr : World} {M : Nat} {u : Nat → Value} {n : Nat → Nat} {X : Nat → Prop} {p k : Nat} {L x : Value} (h : TwoInBytes n0 w wr M u n X p L k x) : ∃ v : Nat → Value, wr.ownsRow w.heap.size 22 1 L p (lst v p) ∧ x = v p := by
  obtain ⟨v, m, c, h1, h2, _⟩ := h
  exact ⟨v, h1.long, h2⟩
theorem TwoInBytes.own {n0 : Nat} {w wr : World} {M : Nat} {u : Nat → Value} {n : Nat → Nat} {X : Nat → Prop} {p k : Nat} {L x : Value} (h : TwoInBytes n0 w wr M u n X p L k x) (hp : p < M) : Rw n0 5 wr x (n p + k) (lst (vpBytes p) (n p) ++ lst (vnBytes p) k) := by
  obtain ⟨v, m, c, h1, h2, h3, h4⟩ := h
  have := (h1.many.held p hp).own
  rw [h3, h4, ← h2] at this; exact this
/-- a step of the walk that only makes memory -/
theorem TwoInBytes.keep {n0 : Nat} {w wr w' : World} {M : Nat} {u : Nat → Value} {n : Nat → Nat} {X : Nat → Prop} {p k : Nat} {L x : Value} (h : TwoInBytes n0 w wr M u n X p L k x) (hb : Below wr.heap.size wr w') : TwoInBytes n0 w w' M u n X p L k x := by
  obtain ⟨v, m, c, h1, h2, h3, h4⟩ := h
  have hc : Chg (fun _ => False) wr w' := .of_below hb
  exact ⟨v, m, c, ⟨h1.many.keep hc (fun g _ hg => hg.elim), h1.done, h1.rest, own_below h1.long hb, h1.chg.trans hc (fun _ _ h => h.elim)⟩, h2, h3, h4⟩
theorem TwoInBytes.push {n0 : Nat} {w wr w' : World} {M : Nat} {u : Nat → Value} {n : Nat → Nat} {X : Nat → Prop} {p k : Nat} {L x x' : Value} (h : TwoInBytes n0 w wr M u n X p L k x) (hp : p < M) (hX : ∀ g, X g → g < w.heap.size)
    (ho : Rw n0 5 w' x' (n p + k + 1) (lst (vpBytes p) (n p) ++ lst (vnBytes p) k ++ [vnBytes p k])) (hor : (wr.grownBy w' x.ownBlock ∧ x'.ownBlock = x.ownBlock) ∨ (wr.grownBy w' none ∧ ∃ g, x'.ownBlock = some g ∧ wr.heap.size ≤ g)) :
    TwoInBytes n0 w w' M u n X p L (k + 1) x' := by
  obtain ⟨v, m, c, h1, rfl, h3, h4⟩ := h
  have hX' : ∀ g, X g ∨ blk L g → g < wr.heap.size := by
    intro g hg
    rcases hg with hg | hg
    · exact Nat.lt_of_lt_of_le (hX g hg) h1.chg.size
    · exact (row_lt h1.long hg).2
  have hch := push_chg hor
  rw [← h4, ← h3] at ho
  have h5 := h1.many.push hX' h1.chg.size p hp ho hor
  refine ⟨turn v p x', turn m p (m p + 1), turn c p (c p ++ [vnBytes p k]), ⟨h5, fun j hj => ?_, fun j hj hjM => ?_, ?_, ?_⟩, (turn_same _ _ _).symm, by rw [turn_same, h3]; omega, ?_⟩
  · rw [turn_other _ _ _ _ (by omega), turn_other _ _ _ _ (by omega)]; exact h1.done j hj
  · rw [turn_other _ _ _ _ (by omega), turn_other _ _ _ _ (by omega), turn_other _ _ _ _ (by omega)]; exact h1.rest j hj hjM
  · have : lst (turn v p x') p = lst v p := lst_congr fun j hj => turn_other _ _ _ _ (by omega)
    rw [this]
    exact own_chg h1.long hch (fun g hg hg' => h1.many.out p hp g (.inr hg') (.inr hg))
  · refine h1.chg.trans hch fun g hg hg' => ?_
    rcases h1.many.new p hp g hg' with h | h
    · exact ⟨p, hp, h⟩
    · omega
  · rw [turn_same, h4, List.append_assoc, ← lst_succ]
theorem TwoInBytes.out {n0 : Nat} {w wr w' : World} {M : Nat} {u : Nat → Value} {n : Nat → Nat} {X : Nat → Prop} {p : Nat} {L L' x : Value} (h : TwoInBytes n0 w wr M u n X p L 16 x) (hp : p < M)
    (hl : ∀ v : Nat → Value, x = v p → wr.ownsRow w.heap.size 22 1 L p (lst v p) → w'.ownsRow w.heap.size 22 1 L' (p + 1) (lst v p ++ [x])) (hor : (wr.grownBy w' L.ownBlock ∧ L'.ownBlock = L.ownBlock) ∨ (wr.grownBy w' none ∧ ∃ g, L'.ownBlock = some g ∧ wr.heap.size ≤ g)) :
    TwoOutBytes n0 w w' M u n X (p + 1) L' := by
  obtain ⟨v, m, c, h1, h2, h3, h4⟩ := h
  have hch := push_chg hor
  have h5 := h1.many.shut (Y := fun g => X g ∨ blk L' g) (by
    intro g hg hY
    rcases hY with hY | hY
    · exact .inl hY
    · rcases push_blk hor hY with h | h
      · exact .inr h
      · omega)
  have h6 : Many n0 w.heap.size 5 w' M u v n m c (fun g => X g ∨ blk L' g) := by
    have h7 := h1.many.keep hch (fun g _ hg => .inr hg)
    exact ⟨h7.held, h7.apart, fun i hi g hg hY => h5.out i hi g hg hY, h7.new⟩
  have hlong := hl v h2 h1.long
  rw [h2, ← lst_succ] at hlong
  refine ⟨v, m, c, ⟨h6, fun j hj => ?_, fun j hj hjM => h1.rest j (by omega) hjM, hlong, ?_⟩, fun hp' => h1.rest (p + 1) (by omega) hp'⟩
  · by_cases e : j = p
    · subst e; exact ⟨h3, h4⟩
    · exact h1.done j (by omega)
  · refine h1.chg.trans hch fun g hg hg' => ?_
    have := (row_lt h1.long hg').1
    omega
/-- the third pass reads -/
theorem TwoOutBytes.drewN {n0 : Nat} {w wr : World} {M : Nat} {u : Nat → Value} {n : Nat → Nat} {X : Nat → Prop} {p : Nat} {L : Value} (h : TwoOutBytes n0 w wr M u n X p L) (q : Nat) : TwoOutBytes n0 w (wr.drewN q) M u n X p L := by
  obtain ⟨v, m, c, h1, h2⟩ := h
  have hb : Below wr.heap.size wr (wr.drewN q) := below_drewN (Below.refl _ _) q
  have hc : Chg (fun _ => False) wr (wr.drewN q) := .of_below hb
  exact ⟨v, m, c, ⟨h1.many.keep hc (fun g _ hg => hg.elim), h1.done, h1.rest, own_below h1.long hb, h1.chg.trans hc (fun _ _ h => h.elim)⟩, h2⟩
theorem TwoOutBytes.read {n0 : Nat} {w wr : World} {M : Nat} {u : Nat → Value} {n : Nat → Nat} {X : Nat → Prop} {L : Value} (h : TwoOutBytes n0 w wr M u n X M L) (p : Nat) (hp : p < M) :
    ∃ U cu V cv G cl, u p = .slice U (n p) cu ∧ L = .slice (some ⟨G, 0, none⟩) M cl ∧ wr.cell? ⟨G, p, none⟩ = some (.slice V (n p + 16) cv) ∧ (∀ k, k < n p → ∃ g, U = some ⟨g, 0, none⟩ ∧ wr.cell? ⟨g, k, none⟩ = some (vpBytes p k)) ∧
      (∃ g, V = some ⟨g, 0, none⟩ ∧ (∀ k, k < n p → wr.cell? ⟨g, k, none⟩ = some (vpBytes p k)) ∧ ∀ k, k < 16 → wr.cell? ⟨g, n p + k, none⟩ = some (vnBytes p k)) := by
  obtain ⟨v, m, c, h1, h2⟩ := h
  obtain ⟨hm, hc⟩ := h1.done p hp
  have hh := h1.many.held p hp
  rw [hm, hc] at hh
  obtain ⟨U, cu, e1, e2⟩ := hh.form
  obtain ⟨V, cv, f1, f2⟩ := rw_cells hh.own
  obtain ⟨W, cl, g1, g2⟩ := own_cells h1.long
  obtain ⟨G, rfl, g3, _⟩ := g2 p hp
  obtain ⟨g, rfl, _⟩ := f2 (n p) (by omega)
  have hpos : ∀ k, k < n p + 16 → wr.cell? ⟨g, k, none⟩ = (lst (vpBytes p) (n p) ++ lst (vnBytes p) 16)[k]? := fun k hk => by
    obtain ⟨g', e, e', _⟩ := f2 k hk
    cases e; exact e'
  refine ⟨U, cu, _, cv, G, cl, e1, g1, by rw [g3, lst_get _ _ _ hp, f1], fun k hk => ?_, g, rfl, fun k hk => ?_, fun k hk => ?_⟩
  · obtain ⟨g', e, e'⟩ := e2 k hk
    exact ⟨g', e, by rw [e', List.getElem?_append_left (by rw [lst_length]; exact hk), lst_get _ _ _ hk]⟩
  · rw [hpos k (by omega), List.getElem?_append_left (by rw [lst_length]; exact hk), lst_get _ _ _ hk]
  · rw [hpos (n p + k) (by omega), List.getElem?_append_right (by rw [lst_length]; omega), lst_length, show n p + k - n p = k by omega, lst_get _ _ _ hk]
/-- a cell of the list of lists -/
theorem outer_cell {w wr : World} {M : Nat} {A : Option Addr} {u : Nat → Value} (hA : At w A (lst u M)) {F : Nat → Prop} (hc : Chg F w wr) (hX : ∀ a, A = some a → ¬ F a.block) (p : Nat) (hp : p < M) : ∃ b o, A = some ⟨b, o, none⟩ ∧ wr.cell? ⟨b, o + p, none⟩ = some (u p) := by
  obtain ⟨b, o, e, hr⟩ := (hA.chg hc hX) (by intro h; have := congrArg List.length h; rw [lst_length] at this; simp at this; omega)
  exact ⟨b, o, e, hr p _ (lst_get _ _ _ hp)⟩

set_option maxRecDepth 100000 in
set_option maxHeartbeats 4000000 in
theorem own_Bytes (n0 : Nat) (A : Option Addr) (cc M : Nat) (u : Nat → Value) (n : Nat → Nat) (cs : Nat → List Value) (w : World) (hA : At w A (lst u M)) (hM : M ≤ 1000000000000) (hn : ∀ i, i < M → n i ≤ 1000000000000)
    (h : Apart n0 5 w M u n cs (fun g => ∃ a, A = some a ∧ g = a.block)) (hXl : ∀ a, A = some a → a.block < w.heap.size) (hn0 : n0 ≤ w.heap.size) :
    Calls Tryz.prog 59 #[.slice A M cc] w fun e w' => e = .returned (.bool true) ∧ Chg (goneBytes M u) w w' := by
  have hXo : ∀ a, A = some a → ¬ goneBytes M u a.block := by
    rintro a ha ⟨i, hi, hg⟩
    exact h.out i hi _ hg ⟨a, ha, rfl⟩
  have hstart : OneBytes n0 w w M u n (fun g => ∃ a, A = some a ∧ g = a.block) 0 := ⟨cs, h, fun j hj => by omega, Chg.refl _ _⟩
  have hXl' : ∀ g, (∃ a, A = some a ∧ g = a.block) → g < w.heap.size := by rintro g ⟨a, ha, rfl⟩; exact hXl a ha
  have HXL := Lib.hid hXl'
  have HXO := Lib.hid hXo
  have HN := Lib.hid hn
  have HA := Lib.hid hA
  have HN0 := Lib.hid hn0
  clear hXl hXl' hXo hn hA h hn0
  go_enter Tryz.func59, Tryz.ntmps59
  go_wp2
  go_loopw [3] (fun i wr => ∃ p : Nat, p ≤ M ∧ i = .int .i64 p ∧ OneBytes n0 w wr M u n (fun g => ∃ a, A = some a ∧ g = a.block) p) (fun i _ => M - (intOf i).toNat)
  case atStart => exact ⟨0, by omega, rfl, hstart⟩
  case round =>
    clear hstart
    obtain ⟨p, hp, rfl, hO⟩ := hrel
    by_cases hlt : p < M
    · obtain ⟨wo, rfl⟩ : ∃ wo : World, wo = wr := ⟨_, rfl⟩
      have hI := hO.inn
      have hnp := HN.out p hlt
      go_wp2
      go_loopw [4] (fun i wr => ∃ k : Nat, k ≤ n p ∧ i = .int .i64 k ∧ OneInBytes n0 w wr M u n (fun g => ∃ a, A = some a ∧ g = a.block) p k) (fun i _ => n p - (intOf i).toNat)
      case atStart => exact ⟨0, by omega, rfl, hI⟩
      case round =>
        clear hI hO
        obtain ⟨k, hk, rfl, hI⟩ := hrel
        obtain ⟨V, cap, hu, hcell⟩ := hI.form hlt
        have hch : Chg (goneBytes M u) w wr := by obtain ⟨_, _, _, _, e⟩ := hI; exact e
        obtain ⟨b, o, rfl, hco⟩ := outer_cell HA.out hch HXO.out p hlt
        rw [hu] at hco
        have HU := Lib.hid hu
        clear hu hch
        by_cases hkl : k < n p
        · obtain ⟨g, x, rfl, hcx, hfx⟩ := hcell k hkl
          clear hcell
          have hst := hI.step hlt hkl HU.out
          unfold vpBytes at hst
          go_wp2
          go_roundw
          case rel => exact ⟨k + 1, by omega, by go_num, hst⟩
          case measure => simp [intOf]; omega
        · obtain rfl : k = n p := by omega
          clear hcell
          have hout := hI.out hlt
          go_wp2
          go_roundw
          case rel => exact ⟨p + 1, by omega, by go_num, hout⟩
          case measure => simp [intOf]; omega
    · obtain rfl : M = p := by omega
      have hT := hO.two
      clear hO
      go_wp2
      go_loopw [5, 6] (fun L i wr => ∃ p : Nat, p ≤ M ∧ i = .int .i64 p ∧ TwoOutBytes n0 w wr M u n (fun g => ∃ a, A = some a ∧ g = a.block) p L) (fun _ i _ => M - (intOf i).toNat)
      case atStart => exact ⟨0, by omega, rfl, hT⟩
      case round =>
        clear hT
        obtain ⟨p, hp, rfl, hT⟩ := hrel
        by_cases hlt : p < M
        · obtain ⟨wo, rfl⟩ : ∃ wo : World, wo = wr := ⟨_, rfl⟩
          have hI := hT.inn hlt
          have hnp := HN.out p hlt
          obtain ⟨b, o, rfl, hco⟩ := outer_cell HA.out hT.chg HXO.out p hlt
          obtain ⟨V, cap, hu⟩ := hI.form hlt
          rw [hu] at hco hI
          clear hu hT
          go_wp2
          go_loopw [7, 8] (fun x i wr => ∃ k : Nat, k ≤ 16 ∧ i = .int .i64 k ∧ TwoInBytes n0 w wr M u n (fun g => ∃ a, (some (⟨b, o, none⟩ : Addr)) = some a ∧ g = a.block) p u5 k x) (fun _ i _ => 16 - (intOf i).toNat)
          case atStart => exact ⟨0, by omega, rfl, hI⟩
          case round =>
            clear hI
            obtain ⟨k, hk, rfl, hI⟩ := hrel
            by_cases hkl : k < 16
            · have hI1 := hI.keep (below_alloc0 (Below.refl _ _) (.cells #[vnBytes p k] 5))
              have hAt : At (wr.alloc (.cells #[vnBytes p k] 5)) (some ⟨wr.heap.size, 0, none⟩) [vnBytes p k] := At.box wr (vnBytes p k) 5 wr.heap.size rfl
              have hn0 : n0 ≤ (wr.alloc (.cells #[vnBytes p k] 5)).heap.size := Nat.le_trans HN0.out (Nat.le_trans hI.chg.size (by simp))
              unfold vnBytes at hI1 hAt hn0
              go_wp2_with (at_builtin; go_loud (refine wp_appendC rfl (.tmp 54) (.tmp 62) 22 5 (.int .u8 0) 1 rfl Tryz.underlying22 Tryz.info5 rfl n0 u7 (n p + k) _ rfl (hI1.own hlt) (some ⟨wr.heap.size, 0, none⟩) 1 1 _ rfl rfl hAt (by simp) (by simp [Value.oneCell']) (by decide) (by omega) (by omega) hn0 ?_); intro v1 w1 ho1 hor1)
              have hI2 := hI1.push hlt (HXL.out) ho1 hor1
              go_roundw
              case rel => exact ⟨k + 1, by omega, by go_num, hI2⟩
              case measure => simp [intOf]; omega
            · obtain rfl : k = 16 := by omega
              obtain ⟨V2, cap2, rfl, _⟩ := rw_cells (hI.own hlt)
              obtain ⟨v2, hl2, hx3⟩ := hI.long
              have hl3 := own_below hl2 (below_alloc0 (Below.refl _ _) (.cells #[.slice V2 (n p + 16) cap2] 22))
              have hAt : At (wr.alloc (.cells #[.slice V2 (n p + 16) cap2] 22)) (some ⟨wr.heap.size, 0, none⟩) [.slice V2 (n p + 16) cap2] := At.box wr _ 22 wr.heap.size rfl
              have hn0 : w.heap.size ≤ (wr.alloc (.cells #[.slice V2 (n p + 16) cap2] 22)).heap.size := Nat.le_trans hI.chg.size (by simp)
              have hI1 := hI.keep (below_alloc0 (Below.refl _ _) (.cells #[.slice V2 (n p + 16) cap2] 22))
              clear hx3
              go_wp2_with (at_builtin; go_loud (refine wp_append2 rfl (.tmp 64) (.tmp 66) 42 22 (.slice none 0 0) 1 24 rfl Tryz.underlying42 Tryz.info22 rfl (by decide) w.heap.size u5 p _ rfl hl3 (some ⟨wr.heap.size, 0, none⟩) 1 1 _ rfl rfl hAt (by simp) (by simp [Value.oneCell']) (by omega) (by omega) hn0 ?_); intro v1 w1 ho1 hor1)
              have hI2 := hI1.out hlt (fun v hx hv => by rw [own_unique hv hl3]; exact ho1) hor1
              go_roundw
              case rel => exact ⟨p + 1, by omega, by go_num, hI2⟩
              case measure => simp [intOf]; omega
        · obtain rfl : M = p := by omega
          go_wp2
          go_loopw [9] (fun i wr => ∃ p : Nat, p ≤ M ∧ i = .int .i64 p ∧ TwoOutBytes n0 w wr M u n (fun g => ∃ a, A = some a ∧ g = a.block) M u5) (fun i _ => M - (intOf i).toNat)
          case atStart => exact ⟨0, by omega, rfl, hT⟩
          case round =>
            clear hT
            obtain ⟨p, hp, rfl, hT⟩ := hrel
            by_cases hlt : p < M
            · obtain ⟨wo, rfl⟩ : ∃ wo : World, wo = wr := ⟨_, rfl⟩
              have hnp := HN.out p hlt
              have hco := outer_cell HA.out hT.chg HXO.out p hlt
              obtain ⟨b, o, rfl, hco⟩ := hco
              obtain ⟨U, cu, V, cv, G, cl, e1, e2, e3, e4, e5⟩ := hT.read p hlt
              rw [e1] at hco
              subst e2
              clear e1 e3 e4 e5
              go_wp2
              go_loopw [11] (fun i wr => ∃ k : Nat, k ≤ n p ∧ i = .int .i64 k ∧ TwoOutBytes n0 w wr M u n (fun g => ∃ a, (some (⟨b, o, none⟩ : Addr)) = some a ∧ g = a.block) M (.slice (some ⟨G, 0, none⟩) M cl)) (fun i _ => n p - (intOf i).toNat)
              case atStart => exact ⟨0, by omega, rfl, hT⟩
              case round =>
                clear hT
                obtain ⟨k, hk, rfl, hT⟩ := hrel
                by_cases hkl : k < n p
                · obtain ⟨b', o', hbo, hco⟩ := outer_cell HA.out hT.chg HXO.out p hlt
                  obtain ⟨rfl, rfl⟩ : b = b' ∧ o = o' := by cases hbo; exact ⟨rfl, rfl⟩
                  clear hbo
                  obtain ⟨U, cu, V, cv, G', cl', e1, e2, e3, e4, e5⟩ := hT.read p hlt
                  obtain ⟨rfl, rfl⟩ : G = G' ∧ cl = cl' := by cases e2; exact ⟨rfl, rfl⟩
                  clear e2
                  rw [e1] at hco
                  obtain ⟨g1, rfl, e6⟩ := e4 k hkl
                  obtain ⟨g2, rfl, e7, e8⟩ := e5
                  replace e7 := e7 k hkl
                  clear e1 e4 e8
                  unfold vpBytes at e6 e7
                  go_wp2
                  go_roundw
                  case rel => exact ⟨k + 1, by omega, by go_num, hT⟩
                  case measure => simp [intOf]; omega
                · obtain rfl : k = n p := by omega
                  go_wp2
                  go_loopw [12] (fun i wr => ∃ k : Nat, k ≤ 16 ∧ i = .int .i64 k ∧ TwoOutBytes n0 w wr M u n (fun g => ∃ a, (some (⟨b, o, none⟩ : Addr)) = some a ∧ g = a.block) M (.slice (some ⟨G, 0, none⟩) M cl)) (fun i _ => 16 - (intOf i).toNat)
                  case atStart => exact ⟨0, by omega, rfl, hT⟩
                  case round =>
                    clear hT
                    obtain ⟨k, hk, rfl, hT⟩ := hrel
                    by_cases hkl : k < 16
                    · obtain ⟨b', o', hbo, hco⟩ := outer_cell HA.out hT.chg HXO.out p hlt
                      obtain ⟨rfl, rfl⟩ : b = b' ∧ o = o' := by cases hbo; exact ⟨rfl, rfl⟩
                      clear hbo
                      obtain ⟨U, cu, V, cv, G', cl', e1, e2, e3, e4, e5⟩ := hT.read p hlt
                      obtain ⟨rfl, rfl⟩ : G = G' ∧ cl = cl' := by cases e2; exact ⟨rfl, rfl⟩
                      clear e2
                      rw [e1] at hco
                      obtain ⟨g2, rfl, e7, e8⟩ := e5
                      replace e8 := e8 k hkl
                      clear e1 e4 e7
                      unfold vnBytes at e8
                      go_wp2
                      go_roundw
                      case rel => exact ⟨k + 1, by omega, by go_num, hT⟩
                      case measure => simp [intOf]; omega
                    · obtain rfl : k = 16 := by omega
                      go_wp2
                      go_roundw
                      case rel => exact ⟨p + 1, by omega, by go_num, hT⟩
                      case measure => simp [intOf]; omega
            · obtain rfl : M = p := by omega
              have hch := hT.chg
              go_wp2
              go_ret
              exact ⟨rfl, hch⟩
end Go.Proofs.YtfbjjblgcgjndaaGreat

/- Contract of ownInts: lists with memory of their own pass. -/
namespace Go.Proofs.YtfbjjblgcgjndaaGreat
open Go.RowKit

theorem Tryz.info86 : (Tryz.prog.info? 86).map (fun i => (i.zero, i.size, i.bytes)) = some (some (.slice none 0 0), 1, 24) := by kernel_rfl
theorem Tryz.info3 : (Tryz.prog.info? 3).map (fun i => (i.zero, i.size, i.bytes)) = some (some (.int .i64 0), 1, 8) := by kernel_rfl
def vpInts (i k : Nat) : Value := .int .i64 ((i : Int) * 1000 + (k : Int))
def vnInts (i k : Nat) : Value := .int .i64 ((-1 - (i : Int)) * 1000 + (k : Int))
def goneInts (M : Nat) (u : Nat → Value) (g : Nat) : Prop := ∃ i, i < M ∧ blk (u i) g
/-- the first pass: those below p are written -/
def OneInts (n0 : Nat) (w wr : World) (M : Nat) (u : Nat → Value) (n : Nat → Nat) (X : Nat → Prop) (p : Nat) : Prop :=
  ∃ c, Apart n0 3 wr M u n c X ∧ (∀ j, j < p → c j = lst (vpInts j) (n j)) ∧ Chg (goneInts M u) w wr
def OneInInts (n0 : Nat) (w wr : World) (M : Nat) (u : Nat → Value) (n : Nat → Nat) (X : Nat → Prop) (p k : Nat) : Prop :=
  ∃ c, Apart n0 3 wr M u n c X ∧ (∀ j, j < p → c j = lst (vpInts j) (n j)) ∧ (∀ q, q < k → (c p)[q]? = some (vpInts p q)) ∧ Chg (goneInts M u) w wr
theorem OneInts.inn {n0 : Nat} {w wr : World} {M : Nat} {u : Nat → Value} {n : Nat → Nat} {X : Nat → Prop} {p : Nat} (h : OneInts n0 w wr M u n X p) : OneInInts n0 w wr M u n X p 0 := by
  obtain ⟨c, a, b, d⟩ := h
  exact ⟨c, a, b, fun q hq => by omega, d⟩
theorem OneInInts.out {n0 : Nat} {w wr : World} {M : Nat} {u : Nat → Value} {n : Nat → Nat} {X : Nat → Prop} {p : Nat} (h : OneInInts n0 w wr M u n X p (n p)) (hp : p < M) : OneInts n0 w wr M u n X (p + 1) := by
  obtain ⟨c, a, b, d, e⟩ := h
  refine ⟨c, a, fun j hj => ?_, e⟩
  by_cases h1 : j = p
  · subst h1
    have hl : (c j).length = n j := (a.own j hp).1
    apply List.ext_getElem?
    intro q
    by_cases hq : q < n j
    · rw [d q hq, lst_get _ _ _ hq]
    · rw [List.getElem?_eq_none (by omega), List.getElem?_eq_none (by rw [lst_length]; omega)]
  · exact b j (by omega)
theorem OneInInts.step {n0 : Nat} {w wr : World} {M : Nat} {u : Nat → Value} {n : Nat → Nat} {X : Nat → Prop} {p k g cap : Nat} (h : OneInInts n0 w wr M u n X p k) (hp : p < M) (hk : k < n p) (hu : u p = .slice (some ⟨g, 0, none⟩) (n p) cap) :
    OneInInts n0 w (wr.setCell ⟨g, k, none⟩ (vpInts p k)) M u n X p (k + 1) := by
  obtain ⟨c, a, b, d, e⟩ := h
  have hl : (c p).length = n p := (a.own p hp).1
  refine ⟨_, a.store p hp hu k _, fun j hj => ?_, fun q hq => ?_, e.setCell _ _ (.inl ⟨p, hp, by rw [hu]; rfl⟩)⟩
  · rw [turn_other _ _ _ _ (by omega)]; exact b j hj
  · rw [turn_same]
    by_cases h1 : q = k
    · subst h1
      rw [List.getElem?_set_self (by omega)]
    · rw [List.getElem?_set_ne (by omega)]
      exact d q (by omega)
theorem OneInInts.form {n0 : Nat} {w wr : World} {M : Nat} {u : Nat → Value} {n : Nat → Nat} {X : Nat → Prop} {p k : Nat} (h : OneInInts n0 w wr M u n X p k) (hp : p < M) :
    ∃ V cap, u p = .slice V (n p) cap ∧ ∀ q, q < n p → ∃ g x, V = some ⟨g, 0, none⟩ ∧ wr.cell? ⟨g, q, none⟩ = some x ∧ wr.frozen? ⟨g, q, none⟩ = false := by
  obtain ⟨c, a, b, d, e⟩ := h
  obtain ⟨V, cap, h1, h2⟩ := rw_cells (a.own p hp)
  have hl : (c p).length = n p := (a.own p hp).1
  refine ⟨V, cap, h1, fun q hq => ?_⟩
  obtain ⟨g, e1, e2, e3⟩ := h2 q hq
  exact ⟨g, _, e1, by rw [e2]; exact List.getElem?_eq_getElem (by omega), e3⟩

/-- the second pass: those below p have grown; the long list -/
structure TwoInts (n0 : Nat) (w wr : World) (M : Nat) (u : Nat → Value) (n : Nat → Nat) (X : Nat → Prop) (p : Nat) (L : Value) (v : Nat → Value) (m : Nat → Nat) (c : Nat → List Value) : Prop where
  many : Many n0 w.heap.size 3 wr M u v n m c (fun g => X g ∨ blk L g)
  done : ∀ j, j < p → m j = n j + 16 ∧ c j = lst (vpInts j) (n j) ++ lst (vnInts j) 16
  rest : ∀ j, p < j → j < M → v j = u j ∧ m j = n j ∧ c j = lst (vpInts j) (n j)
  long : wr.ownsRow w.heap.size 86 1 L p (lst v p)
  chg : Chg (goneInts M u) w wr
def TwoOutInts (n0 : Nat) (w wr : World) (M : Nat) (u : Nat → Value) (n : Nat → Nat) (X : Nat → Prop) (p : Nat) (L : Value) : Prop :=
  ∃ v m c, TwoInts n0 w wr M u n X p L v m c ∧ (p < M → v p = u p ∧ m p = n p ∧ c p = lst (vpInts p) (n p))
def TwoInInts (n0 : Nat) (w wr : World) (M : Nat) (u : Nat → Value) (n : Nat → Nat) (X : Nat → Prop) (p : Nat) (L : Value) (k : Nat) (x : Value) : Prop :=
  ∃ v m c, TwoInts n0 w wr M u n X p L v m c ∧ x = v p ∧ m p = n p + k ∧ c p = lst (vpInts p) (n p) ++ lst (vnInts p) k
theorem OneInts.two {n0 : Nat} {w wr : World} {M : Nat} {u : Nat → Value} {n : Nat → Nat} {X : Nat → Prop} (h : OneInts n0 w wr M u n X M) : TwoOutInts n0 w wr M u n X 0 (.slice none 0 0) := by
  obtain ⟨c, a, b, d⟩ := h
  refine ⟨u, n, c, ⟨?_, fun j hj => by omega, fun j _ hj => ⟨rfl, rfl, b j hj⟩, World.ownsRow_nil _ _ _ _, d⟩, fun hp => ⟨rfl, rfl, b 0 hp⟩⟩
  refine a.many.shut fun g _ hg => ?_
  rcases hg with hg | hg
  · exact hg
  · cases hg
theorem TwoOutInts.inn {n0 : Nat} {w wr : World} {M : Nat} {u : Nat → Value} {n : Nat → Nat} {X : Nat → Prop} {p : Nat} {L : Value} (h : TwoOutInts n0 w wr M u n X p L) (hp : p < M) : TwoInInts n0 w wr M u n X p L 0 (u p) := by
  obtain ⟨v, m, c, h1, h2⟩ := h
  obtain ⟨a, b, d⟩ := h2 hp
  exact ⟨v, m, c, h1, a.symm, b, by rw [d]; simp [lst]⟩
theorem TwoOutInts.chg {n0 : Nat} {w wr : World} {M : Nat} {u : Nat → Value} {n : Nat → Nat} {X : Nat → Prop} {p : Nat} {L : Value} (h : TwoOutInts n0 w wr M u n X p L) : Chg (goneInts M u) w wr := by
  obtain ⟨v, m, c, h1, h2⟩ := h
  exact h1.chg
theorem TwoInInts.chg {n0 : Nat} {w wr : World} {M : Nat} {u : Nat → Value} {n : Nat → Nat} {X : Nat → Prop} {p k : Nat} {L x : Value} (h : TwoInInts n0 w wr M u n X p L k x) : Chg (goneInts M u) w wr := by
  obtain ⟨v, m, c, h1, _⟩ := h
  exact h1.chg
theorem TwoInInts.form {n0 : Nat} {w wr : World} {M : Nat} {u : Nat → Value} {n : Nat → Nat} {X : Nat → Prop} {p k : Nat} {L x : Value} (h : TwoInInts n0 w wr M u n X p L k x) (hp : p < M) : ∃ V cap, u p = .slice V (n p) cap := by
  obtain ⟨v, m, c, h1, _⟩ := h
  obtain ⟨V, cap, e, _⟩ := (h1.many.held p hp).form
  exact ⟨V, cap, e⟩
theorem TwoInInts.long {n0 : Nat} {w wr : World} {M : Nat} {u : Nat → Value} {n : Nat → Nat} {X : Nat → Prop} {p k : Nat} {L x : Value} (h : TwoInInts n0 w wr M u n X p L k x) : ∃ v : Nat → Value, wr.ownsRow w.heap.size 86 1 L p (lst v p) ∧ x = v p := by
  obtain ⟨v, m, c, h1, h2, _⟩ := h
  exact ⟨v, h1.long, h2⟩
theorem TwoInInts.own {n0 : Nat} {w wr : World} {M : Nat} {u : Nat → Value} {n : Nat → Nat} {X : Nat → Prop} {p k : Nat} {L x : Value} (h : TwoInInts n0 w wr M u n X p L k x) (hp : p < M) : Rw n0 3 wr x (n p + k) (lst (vpInts p) (n p) ++ lst (vnInts p) k) := by
  obtain ⟨v, m, c, h1, h2, h3, h4⟩ := h
  have := (h1.many.held p hp).own
  rw [h3, h4, ← h2] at this; exact this
/-- a step of the walk that only makes memory -/
theorem TwoInInts.keep {n0 : Nat} {w wr w' : World} {M : Nat} {u : Nat → Value} {n : Nat → Nat} {X : Nat → Prop} {p k : Nat} {L x : Value} (h : TwoInInts n0 w wr M u n X p L k x) (hb : Below wr.heap.size wr w') : TwoInInts n0 w w' M u n X p L k x := by
  obtain ⟨v, m, c, h1, h2, h3, h4⟩ := h
  have hc : Chg (fun _ => False) wr w' := .of_below hb
  exact ⟨v, m, c, ⟨h1.many.keep hc (fun g _ hg => hg.elim), h1.done, h1.rest, own_below h1.long hb, h1.chg.trans hc (fun _ _ h => h.elim)⟩, h2, h3, h4⟩
theorem TwoInInts.push {n0 : Nat} {w wr w' : World} {M : Nat} {u : Nat → Value} {n : Nat → Nat} {X : Nat → Prop} {p k : Nat} {L x x' : Value} (h : TwoInInts n0 w wr M u n X p L k x) (hp : p < M) (hX : ∀ g, X g → g < w.heap.size)
    (ho : Rw n0 3 w' x' (n p + k + 1) (lst (vpInts p) (n p) ++ lst (vnInts p) k ++ [vnInts p k])) (hor : (wr.grownBy w' x.ownBlock ∧ x'.ownBlock = x.ownBlock) ∨ (wr.grownBy w' none ∧ ∃ g, x'.ownBlock = some g ∧ wr.heap.size ≤ g)) :
    TwoInInts n0 w w' M u n X p L (k + 1) x' := by
  obtain ⟨v, m, c, h1, rfl, h3, h4⟩ := h
  have hX' : ∀ g, X g ∨ blk L g → g < wr.heap.size := by
    intro g hg
    rcases hg with hg | hg
    · exact Nat.lt_of_lt_of_le (hX g hg) h1.chg.size
    · exact (row_lt h1.long hg).2
  have hch := push_chg hor
  rw [← h4, ← h3] at ho
  have h5 := h1.many.push hX' h1.chg.size p hp ho hor
  refine ⟨turn v p x', turn m p (m p + 1), turn c p (c p ++ [vnInts p k]), ⟨h5, fun j hj => ?_, fun j hj hjM => ?_, ?_, ?_⟩, (turn_same _ _ _).symm, by rw [turn_same, h3]; omega, ?_⟩
  · rw [turn_other _ _ _ _ (by omega), turn_other _ _ _ _ (by omega)]; exact h1.done j hj
  · rw [turn_other _ _ _ _ (by omega), turn_other _ _ _ _ (by omega), turn_other _ _ _ _ (by omega)]; exact h1.rest j hj hjM
  · have : lst (turn v p x') p = lst v p := lst_congr fun j hj => turn_other _ _ _ _ (by omega)
    rw [this]
    exact own_chg h1.long hch (fun g hg hg' => h1.many.out p hp g (.inr hg') (.inr hg))
  · refine h1.chg.trans hch fun g hg hg' => ?_
    rcases h1.many.new p hp g hg' with h | h
    · exact ⟨p, hp, h⟩
    · omega
  · rw [turn_same, h4, List.append_assoc, ← lst_succ]
theorem TwoInInts.out {n0 : Nat} {w wr w' : World} {M : Nat} {u : Nat → Value} {n : Nat → Nat} {X : Nat → Prop} {p : Nat} {L L' x : Value} (h : TwoInInts n0 w wr M u n X p L 16 x) (hp : p < M)
    (hl : ∀ v : Nat → Value, x = v p → wr.ownsRow w.heap.size 86 1 L p (lst v p) → w'.ownsRow w.heap.size 86 1 L' (p + 1) (lst v p ++ [x])) (hor : (wr.grownBy w' L.ownBlock ∧ L'.ownBlock = L.ownBlock) ∨ (wr.grownBy w' none ∧ ∃ g, L'.ownBlock = some g ∧ wr.heap.size ≤ g)) :
    TwoOutInts n0 w w' M u n X (p + 1) L' := by
  obtain ⟨v, m, c, h1, h2, h3, h4⟩ := h
  have hch := push_chg hor
  have h5 := h1.many.shut (Y := fun g => X g ∨ blk L' g) (by
    intro g hg hY
    rcases hY with hY | hY
    · exact .inl hY
    · rcases push_blk hor hY with h | h
      · exact .inr h
      · omega)
  have h6 : Many n0 w.heap.size 3 w' M u v n m c (fun g => X g ∨ blk L' g) := by
    have h7 := h1.many.keep hch (fun g _ hg => .inr hg)
    exact ⟨h7.held, h7.apart, fun i hi g hg hY => h5.out i hi g hg hY, h7.new⟩
  have hlong := hl v h2 h1.long
  rw [h2, ← lst_succ] at hlong
  refine ⟨v, m, c, ⟨h6, fun j hj => ?_, fun j hj hjM => h1.rest j (by omega) hjM, hlong, ?_⟩, fun hp' => h1.rest (p + 1) (by omega) hp'⟩
  · by_cases e : j = p
    · subst e; exact ⟨h3, h4⟩
    · exact h1.done j (by omega)
  · refine h1.chg.trans hch fun g hg hg' => ?_
    have := (row_lt h1.long hg').1
    omega
/-- the third pass reads -/
theorem TwoOutInts.drewN {n0 : Nat} {w wr : World} {M : Nat} {u : Nat → Value} {n : Nat → Nat} {X : Nat → Prop} {p : Nat} {L : Value} (h : TwoOutInts n0 w wr M u n X p L) (q : Nat) : TwoOutInts n0 w (wr.drewN q) M u n X p L := by
  obtain ⟨v, m, c, h1, h2⟩ := h
  have hb : Below wr.heap.size wr (wr.drewN q) := below_drewN (Below.refl _ _) q
  have hc : Chg (fun _ => False) wr (wr.drewN q) := .of_below hb
  exact ⟨v, m, c, ⟨h1.many.keep hc (fun g _ hg => hg.elim), h1.done, h1.rest, own_below h1.long hb, h1.chg.trans hc (fun _ _ h => h.elim)⟩, h2⟩
theorem TwoOutInts.read {n0 : Nat} {w wr : World} {M : Nat} {u : Nat → Value} {n : Nat → Nat} {X : Nat → Prop} {L : Value} (h : TwoOutInts n0 w wr M u n X M L) (p : Nat) (hp : p < M) :
    ∃ U cu V cv G cl, u p = .slice U (n p) cu ∧ L = .slice (some ⟨G, 0, none⟩) M cl ∧ wr.cell? ⟨G, p, none⟩ = some (.slice V (n p + 16) cv) ∧ (∀ k, k < n p → ∃ g, U = some ⟨g, 0, none⟩ ∧ wr.cell? ⟨g, k, none⟩ = some (vpInts p k)) ∧
      (∃ g, V = some ⟨g, 0, none⟩ ∧ (∀ k, k < n p → wr.cell? ⟨g, k, none⟩ = some (vpInts p k)) ∧ ∀ k, k < 16 → wr.cell? ⟨g, n p + k, none⟩ = some (vnInts p k)) := by
  obtain ⟨v, m, c, h1, h2⟩ := h
  obtain ⟨hm, hc⟩ := h1.done p hp
  have hh := h1.many.held p hp
  rw [hm, hc] at hh
  obtain ⟨U, cu, e1, e2⟩ := hh.form
  obtain ⟨V, cv, f1, f2⟩ := rw_cells hh.own
  obtain ⟨W, cl, g1, g2⟩ := own_cells h1.long
  obtain ⟨G, rfl, g3, _⟩ := g2 p hp
  obtain ⟨g, rfl, _⟩ := f2 (n p) (by omega)
  have hpos : ∀ k, k < n p + 16 → wr.cell? ⟨g, k, none⟩ = (lst (vpInts p) (n p) ++ lst (vnInts p) 16)[k]? := fun k hk => by
    obtain ⟨g', e, e', _⟩ := f2 k hk
    cases e; exact e'
  refine ⟨U, cu, _, cv, G, cl, e1, g1, by rw [g3, lst_get _ _ _ hp, f1], fun k hk => ?_, g, rfl, fun k hk => ?_, fun k hk => ?_⟩
  · obtain ⟨g', e, e'⟩ := e2 k hk
    exact ⟨g', e, by rw [e', List.getElem?_append_left (by rw [lst_length]; exact hk), lst_get _ _ _ hk]⟩
  · rw [hpos k (by omega), List.getElem?_append_left (by rw [lst_length]; exact hk), lst_get _ _ _ hk]
  · rw [hpos (n p + k) (by omega), List.getElem?_append_right (by rw [lst_length]; omega), lst_length, show n p + k - n p = k by omega, lst_get _ _ _ hk]
set_option maxRecDepth 100000 in
set_option maxHeartbeats 4000000 in
theorem own_Ints (n0 : Nat) (A : Option Addr) (cc M : Nat) (u : Nat → Value) (n : Nat → Nat) (cs : Nat → List Value) (w : World) (hA : At w A (lst u M)) (hM : M ≤ 1000000000000) (hn : ∀ i, i < M → n i ≤ 1000000000000)
    (h : Apart n0 3 w M u n cs (fun g => ∃ a, A = some a ∧ g = a.block)) (hXl : ∀ a, A = some a → a.block < w.heap.size) (hn0 : n0 ≤ w.heap.size) :
    Calls Tryz.prog 61 #[.slice A M cc] w fun e w' => e = .returned (.bool true) ∧ Chg (goneInts M u) w w' := by
  have hXo : ∀ a, A = some a → ¬ goneInts M u a.block := by
    rintro a ha ⟨i, hi, hg⟩
    exact h.out i hi _ hg ⟨a, ha, rfl⟩
  have hstart : OneInts n0 w w M u n (fun g => ∃ a, A = some a ∧ g = a.block) 0 := ⟨cs, h, fun j hj => by omega, Chg.refl _ _⟩
  have hXl' : ∀ g, (∃ a, A = some a ∧ g = a.block) → g < w.heap.size := by rintro g ⟨a, ha, rfl⟩; exact hXl a ha
  have HXL := Lib.hid hXl'
  have HXO := Lib.hid hXo
  have HN := Lib.hid hn
  have HA := Lib.hid hA
  have HN0 := Lib.hid hn0
  clear hXl hXl' hXo hn hA h hn0
  go_enter Tryz.func61, Tryz.ntmps61
  go_wp2
  go_loopw [3] (fun i wr => ∃ p : Nat, p ≤ M ∧ i = .int .i64 p ∧ OneInts n0 w wr M u n (fun g => ∃ a, A = some a ∧ g = a.block) p) (fun i _ => M - (intOf i).toNat)
  case atStart => exact ⟨0, by omega, rfl, hstart⟩
  case round =>
    clear hstart
    obtain ⟨p, hp, rfl, hO⟩ := hrel
    by_cases hlt : p < M
    · obtain ⟨wo, rfl⟩ : ∃ wo : World, wo = wr := ⟨_, rfl⟩
      have hI := hO.inn
      have hnp := HN.out p hlt
      go_wp2
      go_loopw [4] (fun i wr => ∃ k : Nat, k ≤ n p ∧ i = .int .i64 k ∧ OneInInts n0 w wr M u n (fun g => ∃ a, A = some a ∧ g = a.block) p k) (fun i _ => n p - (intOf i).toNat)
      case atStart => exact ⟨0, by omega, rfl, hI⟩
      case round =>
        clear hI hO
        obtain ⟨k, hk, rfl, hI⟩ := hrel
        obtain ⟨V, cap, hu, hcell⟩ := hI.form hlt
        have hch : Chg (goneInts M u) w wr := by obtain ⟨_, _, _, _, e⟩ := hI; exact e
        obtain ⟨b, o, rfl, hco⟩ := outer_cell HA.out hch HXO.out p hlt
        rw [hu] at hco
        have HU := Lib.hid hu
        clear hu hch
        by_cases hkl : k < n p
        · obtain ⟨g, x, rfl, hcx, hfx⟩ := hcell k hkl
          clear hcell
          have hst := hI.step hlt hkl HU.out
          unfold vpInts at hst
          go_wp2
          go_roundw
          case rel => exact ⟨k + 1, by omega, by go_num, hst⟩
          case measure => simp [intOf]; omega
        · obtain rfl : k = n p := by omega
          clear hcell
          have hout := hI.out hlt
          go_wp2
          go_roundw
          case rel => exact ⟨p + 1, by omega, by go_num, hout⟩
          case measure => simp [intOf]; omega
    · obtain rfl : M = p := by omega
      have hT := hO.two
      clear hO
      go_wp2
      go_loopw [5, 6] (fun L i wr => ∃ p : Nat, p ≤ M ∧ i = .int .i64 p ∧ TwoOutInts n0 w wr M u n (fun g => ∃ a, A = some a ∧ g = a.block) p L) (fun _ i _ => M - (intOf i).toNat)
      case atStart => exact ⟨0, by omega, rfl, hT⟩
      case round =>
        clear hT
        obtain ⟨p, hp, rfl, hT⟩ := hrel
        by_cases hlt : p < M
        · obtain ⟨wo, rfl⟩ : ∃ wo : World, wo = wr := ⟨_, rfl⟩
          have hI := hT.inn hlt
          have hnp := HN.out p hlt
          obtain ⟨b, o, rfl, hco⟩ := outer_cell HA.out hT.chg HXO.out p hlt
          obtain ⟨V, cap, hu⟩ := hI.form hlt
          rw [hu] at hco hI
          clear hu hT
          go_wp2
          go_loopw [7, 8] (fun x i wr => ∃ k : Nat, k ≤ 16 ∧ i = .int .i64 k ∧ TwoInInts n0 w wr M u n (fun g => ∃ a, (some (⟨b, o, none⟩ : Addr)) = some a ∧ g = a.block) p u5 k x) (fun _ i _ => 16 - (intOf i).toNat)
          case atStart => exact ⟨0, by omega, rfl, hI⟩
          case round =>
            clear hI
            obtain ⟨k, hk, rfl, hI⟩ := hrel
            by_cases hkl : k < 16
            · have hI1 := hI.keep (below_alloc0 (Below.refl _ _) (.cells #[vnInts p k] 3))
              have hAt : At (wr.alloc (.cells #[vnInts p k] 3)) (some ⟨wr.heap.size, 0, none⟩) [vnInts p k] := At.box wr (vnInts p k) 3 wr.heap.size rfl
              have hn0 : n0 ≤ (wr.alloc (.cells #[vnInts p k] 3)).heap.size := Nat.le_trans HN0.out (Nat.le_trans hI.chg.size (by simp))
              unfold vnInts at hI1 hAt hn0
              go_wp2_with (at_builtin; go_loud (refine wp_appendC rfl (.tmp 52) (.tmp 58) 86 3 (.int .i64 0) 8 rfl Tryz.underlying86 Tryz.info3 rfl n0 u7 (n p + k) _ rfl (hI1.own hlt) (some ⟨wr.heap.size, 0, none⟩) 1 1 _ rfl rfl hAt (by simp) (by simp [Value.oneCell']) (by decide) (by omega) (by omega) hn0 ?_); intro v1 w1 ho1 hor1)
              have hI2 := hI1.push hlt (HXL.out) ho1 hor1
              go_roundw
              case rel => exact ⟨k + 1, by omega, by go_num, hI2⟩
              case measure => simp [intOf]; omega
            · obtain rfl : k = 16 := by omega
              obtain ⟨V2, cap2, rfl, _⟩ := rw_cells (hI.own hlt)
              obtain ⟨v2, hl2, hx3⟩ := hI.long
              have hl3 := own_below hl2 (below_alloc0 (Below.refl _ _) (.cells #[.slice V2 (n p + 16) cap2] 86))
              have hAt : At (wr.alloc (.cells #[.slice V2 (n p + 16) cap2] 86)) (some ⟨wr.heap.size, 0, none⟩) [.slice V2 (n p + 16) cap2] := At.box wr _ 86 wr.heap.size rfl
              have hn0 : w.heap.size ≤ (wr.alloc (.cells #[.slice V2 (n p + 16) cap2] 86)).heap.size := Nat.le_trans hI.chg.size (by simp)
              have hI1 := hI.keep (below_alloc0 (Below.refl _ _) (.cells #[.slice V2 (n p + 16) cap2] 86))
              clear hx3
              go_wp2_with (at_builtin; go_loud (refine wp_append2 rfl (.tmp 60) (.tmp 62) 44 86 (.slice none 0 0) 1 24 rfl Tryz.underlying44 Tryz.info86 rfl (by decide) w.heap.size u5 p _ rfl hl3 (some ⟨wr.heap.size, 0, none⟩) 1 1 _ rfl rfl hAt (by simp) (by simp [Value.oneCell']) (by omega) (by omega) hn0 ?_); intro v1 w1 ho1 hor1)
              have hI2 := hI1.out hlt (fun v hx hv => by rw [own_unique hv hl3]; exact ho1) hor1
              go_roundw
              case rel => exact ⟨p + 1, by omega, by go_num, hI2⟩
              case measure => simp [intOf]; omega
        · obtain rfl : M = p := by omega
          go_wp2
          go_loopw [9] (fun i wr => ∃ p : Nat, p ≤ M ∧ i = .int .i64 p ∧ TwoOutInts n0 w wr M u n (fun g => ∃ a, A = some a ∧ g = a.block) M u5) (fun i _ => M - (intOf i).toNat)
          case atStart => exact ⟨0, by omega, rfl, hT⟩
          case round =>
            clear hT
            obtain ⟨p, hp, rfl, hT⟩ := hrel
            by_cases hlt : p < M
            · obtain ⟨wo, rfl⟩ : ∃ wo : World, wo = wr := ⟨_, rfl⟩
              have hnp := HN.out p hlt
              have hco := outer_cell HA.out hT.chg HXO.out p hlt
              obtain ⟨b, o, rfl, hco⟩ := hco
              obtain ⟨U, cu, V, cv, G, cl, e1, e2, e3, e4, e5⟩ := hT.read p hlt
              rw [e1] at hco
              subst e2
              clear e1 e3 e4 e5
              go_wp2
              go_loopw [11] (fun i wr => ∃ k : Nat, k ≤ n p ∧ i = .int .i64 k ∧ TwoOutInts n0 w wr M u n (fun g => ∃ a, (some (⟨b, o, none⟩ : Addr)) = some a ∧ g = a.block) M (.slice (some ⟨G, 0, none⟩) M cl)) (fun i _ => n p - (intOf i).toNat)
              case atStart => exact ⟨0, by omega, rfl, hT⟩
              case round =>
                clear hT
                obtain ⟨k, hk, rfl, hT⟩ := hrel
                by_cases hkl : k < n p
                · obtain ⟨b', o', hbo, hco⟩ := outer_cell HA.out hT.chg HXO.out p hlt
                  obtain ⟨rfl, rfl⟩ : b = b' ∧ o = o' := by cases hbo; exact ⟨rfl, rfl⟩
                  clear hbo
                  obtain ⟨U, cu, V, cv, G', cl', e1, e2, e3, e4, e5⟩ := hT.read p hlt
                  obtain ⟨rfl, rfl⟩ : G = G' ∧ cl = cl' := by cases e2; exact ⟨rfl, rfl⟩
                  clear e2
                  rw [e1] at hco
                  obtain ⟨g1, rfl, e6⟩ := e4 k hkl
                  obtain ⟨g2, rfl, e7, e8⟩ := e5
                  replace e7 := e7 k hkl
                  clear e1 e4 e8
                  unfold vpInts at e6 e7
                  go_wp2
                  go_roundw
                  case rel => exact ⟨k + 1, by omega, by go_num, hT⟩
                  case measure => simp [intOf]; omega
                · obtain rfl : k = n p := by omega
                  go_wp2
                  go_loopw [12] (fun i wr => ∃ k : Nat, k ≤ 16 ∧ i = .int .i64 k ∧ TwoOutInts n0 w wr M u n (fun g => ∃ a, (some (⟨b, o, none⟩ : Addr)) = some a ∧ g = a.block) M (.slice (some ⟨G, 0, none⟩) M cl)) (fun i _ => 16 - (intOf i).toNat)
                  case atStart => exact ⟨0, by omega, rfl, hT⟩
                  case round =>
                    clear hT
                    obtain ⟨k, hk, rfl, hT⟩ := hrel
                    by_cases hkl : k < 16
                    · obtain ⟨b', o', hbo, hco⟩ := outer_cell HA.out hT.chg HXO.out p hlt
                      obtain ⟨rfl, rfl⟩ : b = b' ∧ o = o' := by cases hbo; exact ⟨rfl, rfl⟩
                      clear hbo
                      obtain ⟨U, cu, V, cv, G', cl', e1, e2, e3, e4, e5⟩ := hT.read p hlt
                      obtain ⟨rfl, rfl⟩ : G = G' ∧ cl = cl' := by cases e2; exact ⟨rfl, rfl⟩
                      clear e2
                      rw [e1] at hco
                      obtain ⟨g2, rfl, e7, e8⟩ := e5
                      replace e8 := e8 k hkl
                      clear e1 e4 e7
                      unfold vnInts at e8
                      go_wp2
                      go_roundw
                      case rel => exact ⟨k + 1, by omega, by go_num, hT⟩
                      case measure => simp [intOf]; omega
                    · obtain rfl : k = 16 := by omega
                      go_wp2
                      go_roundw
                      case rel => exact ⟨p + 1, by omega, by go_num, hT⟩
                      case measure => simp [intOf]; omega
            · obtain rfl : M = p := by omega
              have hch := hT.chg
              go_wp2
              go_ret
              exact ⟨rfl, hch⟩
end Go.Proofs.YtfbjjblgcgjndaaGreat

/- Plain facts on the checksum: the reckoning bit by bit, by halves of bytes, its linearity, and what a turned bit does. -/
namespace Go.Proofs.YtfbjjblgcgjndaaGreat.Crc

def T (n : Nat) : Nat := if n % 2 = 1 then (n / 2) ^^^ 2197175160 else n / 2

def It : Nat → Nat → Nat
  | 0, n => n
  | k + 1, n => It k (T n)

theorem It_add (a b n : Nat) : It (a + b) n = It b (It a n) := by
  induction a generalizing n with
  | zero => simp [It]
  | succ a ih => rw [show a + 1 + b = (a + b) + 1 from by omega]; simp only [It]; exact ih _

theorem It_succ (k n : Nat) : It (k + 1) n = T (It k n) := by rw [It_add k 1 n]; rfl

theorem xor_mod2 (a b : Nat) : (a ^^^ b) % 2 = (a % 2 + b % 2) % 2 := by
  have h := Nat.testBit_xor a b 0
  simp only [Nat.testBit_zero] at h
  have h1 : (a ^^^ b) % 2 = 0 ∨ (a ^^^ b) % 2 = 1 := Nat.mod_two_eq_zero_or_one _
  rcases Nat.mod_two_eq_zero_or_one a with ha | ha <;> rcases Nat.mod_two_eq_zero_or_one b with hb | hb <;> rcases h1 with h1 | h1 <;> rw [ha, hb, h1] at h <;> simp at h <;> rw [ha, hb, h1]

theorem T_xor (a b : Nat) : T (a ^^^ b) = T a ^^^ T b := by
  unfold T
  have h := xor_mod2 a b
  have hd : (a ^^^ b) / 2 = a / 2 ^^^ b / 2 := Nat.xor_div_two
  rcases Nat.mod_two_eq_zero_or_one a with ha | ha <;> rcases Nat.mod_two_eq_zero_or_one b with hb | hb
  · rw [if_neg (by omega), if_neg (by omega), if_neg (by omega), hd]
  · rw [if_pos (by omega), if_neg (by omega), if_pos (by omega), hd, Nat.xor_assoc]
  · rw [if_pos (by omega), if_pos (by omega), if_neg (by omega), hd, Nat.xor_assoc, Nat.xor_assoc, Nat.xor_comm (b / 2)]
  · rw [if_neg (by omega), if_pos (by omega), if_pos (by omega), hd, Nat.xor_assoc, ← Nat.xor_assoc 2197175160, Nat.xor_comm 2197175160, Nat.xor_assoc (b / 2), Nat.xor_self, Nat.xor_zero]

theorem T_zero : T 0 = 0 := by decide
theorem T_lt (n : Nat) (h : n < 4294967296) : T n < 4294967296 := by
  unfold T
  split
  · exact Nat.xor_lt_two_pow (n := 32) (by omega) (by omega)
  · omega

theorem It_xor (k a b : Nat) : It k (a ^^^ b) = It k a ^^^ It k b := by
  induction k generalizing a b with
  | zero => rfl
  | succ k ih => simp only [It, T_xor]; exact ih _ _
theorem It_zero (k : Nat) : It k 0 = 0 := by
  induction k with
  | zero => rfl
  | succ k ih => simp only [It, T_zero]; exact ih
theorem It_lt (k n : Nat) (h : n < 4294967296) : It k n < 4294967296 := by
  induction k generalizing n with
  | zero => exact h
  | succ k ih => exact ih _ (T_lt n h)

theorem T_two (n : Nat) : T (2 * n) = n := by unfold T; rw [if_neg (by omega)]; omega
theorem It_shift (k n : Nat) : It k (2 ^ k * n) = n := by
  induction k generalizing n with
  | zero => simp [It]
  | succ k ih => simp only [It]; rw [show 2 ^ (k + 1) * n = 2 * (2 ^ k * n) from by rw [Nat.pow_succ]; rw [Nat.mul_comm (2^k) 2, Nat.mul_assoc], T_two]; exact ih n
theorem It_pow (i m : Nat) (h : i ≤ m) : It m (2 ^ i) = It (m - i) 1 := by
  have := It_shift i 1
  rw [Nat.mul_one] at this
  rw [show m = i + (m - i) from by omega, It_add, this]
  congr 1; omega

theorem T_ne (n : Nat) (h : n < 4294967296) (h0 : n ≠ 0) : T n ≠ 0 := by
  unfold T
  split
  · intro hx
    have h2 : n / 2 = 2197175160 := by
      have := congrArg (· ^^^ 2197175160) hx
      simp only [Nat.xor_assoc, Nat.xor_self, Nat.xor_zero, Nat.zero_xor] at this
      exact this
    omega
  · omega
theorem It_ne (k n : Nat) (h : n < 4294967296) (h0 : n ≠ 0) : It k n ≠ 0 := by
  induction k generalizing n with
  | zero => exact h0
  | succ k ih => exact ih _ (T_lt n h) (T_ne n h h0)

/-- half a byte at a time -/
theorem It_half (n : Nat) : It 4 n = n / 16 ^^^ It 4 (n % 16) := by
  have h : n = 2 ^ 4 * (n / 16) ^^^ n % 16 := by
    have h1 : 2 ^ 4 * (n / 16) ||| n % 16 = 2 ^ 4 * (n / 16) + n % 16 := by
      rw [Nat.two_pow_add_eq_or_of_lt (by omega)]
    have h2 : n = 2 ^ 4 * (n / 16) + n % 16 := by omega
    rw [← h1] at h2
    refine h2.trans ?_
    apply Nat.eq_of_testBit_eq
    intro i
    rw [Nat.testBit_or, Nat.testBit_xor]
    by_cases hi : i < 4
    · have : (2 ^ 4 * (n / 16)).testBit i = false := by rw [Nat.testBit_two_pow_mul]; simp; omega
      rw [this]; simp
    · have : (n % 16).testBit i = false := Nat.testBit_lt_two_pow (Nat.lt_of_lt_of_le (Nat.mod_lt _ (by omega)) (show 2 ^ 4 ≤ 2 ^ i from Nat.pow_le_pow_right (by omega) (by omega)))
      rw [this]; simp
  conv => lhs; rw [h]
  rw [It_xor, It_shift]

def B (n c : Nat) : Nat := It 8 (n ^^^ c)
theorem B_half (n c : Nat) : B n c = It 4 (It 4 (n ^^^ c)) := It_add 4 4 _

def run (n : Nat) (l : List Nat) : Nat := l.foldl B n
theorem run_nil (n : Nat) : run n [] = n := rfl
theorem run_cons (n c : Nat) (l : List Nat) : run n (c :: l) = run (B n c) l := rfl
theorem run_append (n : Nat) (l m : List Nat) : run n (l ++ m) = run (run n l) m := by simp [run, List.foldl_append]
theorem B_xor (a b c d : Nat) : B (a ^^^ b) (c ^^^ d) = B a c ^^^ B b d := by
  unfold B
  rw [← It_xor]; congr 1
  rw [Nat.xor_assoc, Nat.xor_assoc]; congr 1
  rw [← Nat.xor_assoc, Nat.xor_comm b c, Nat.xor_assoc]
theorem run_xor (a b : Nat) (l m : List Nat) (h : l.length = m.length) : run (a ^^^ b) (List.zipWith (· ^^^ ·) l m) = run a l ^^^ run b m := by
  induction l generalizing a b m with
  | nil => cases m with
    | nil => rfl
    | cons => simp at h
  | cons c l ih => cases m with
    | nil => simp at h
    | cons d m =>
      simp only [List.zipWith_cons_cons, run_cons, B_xor]
      exact ih _ _ _ (by simpa using h)
theorem run_zeros (k : Nat) : run 0 (List.replicate k 0) = 0 := by
  induction k with
  | zero => rfl
  | succ k ih => rw [List.replicate_succ, run_cons]; exact ih
theorem B_zero (n : Nat) : B n 0 = It 8 n := by unfold B; rw [Nat.xor_zero]
theorem run_skip (n k : Nat) : run n (List.replicate k 0) = It (8 * k) n := by
  induction k generalizing n with
  | zero => rfl
  | succ k ih => rw [List.replicate_succ, run_cons, ih, show 8 * (k + 1) = 8 + 8 * k from by omega, It_add, B_zero]
theorem B_lt (n c : Nat) (h : n < 4294967296) (hc : c < 256) : B n c < 4294967296 := It_lt _ _ (Nat.xor_lt_two_pow (n := 32) (by omega) (by omega))
theorem run_lt (n : Nat) (l : List Nat) (h : n < 4294967296) (hl : ∀ c ∈ l, c < 256) : run n l < 4294967296 := by
  induction l generalizing n with
  | nil => exact h
  | cons c l ih => exact ih _ (B_lt n c h (hl c (by simp))) (fun d hd => hl d (by simp [hd]))

/-- two states over one text part by what parts them -/
theorem run_apart (a b : Nat) (l : List Nat) : run (a ^^^ b) l = run a l ^^^ It (8 * l.length) b := by
  have h := run_xor a b l (List.replicate l.length 0) (by simp)
  rw [run_skip] at h
  rw [← h]; congr 1
  clear h
  induction l with
  | nil => rfl
  | cons c l ih => rw [List.length_cons, List.replicate_succ, List.zipWith_cons_cons, Nat.xor_zero, ← ih]

/-- one bit turned -/
theorem run_bit (n : Nat) (l : List Nat) (j r : Nat) (hj : j < l.length) (hr : r < 8) :
    run n (l.set j (l.getD j 0 ^^^ 2 ^ r)) = run n l ^^^ It (8 * l.length - (8 * j + r)) 1 := by
  induction l generalizing n j with
  | nil => simp at hj
  | cons c l ih =>
    cases j with
    | zero =>
      simp only [List.set_cons_zero, List.getD_cons_zero, run_cons]
      have : B n (c ^^^ 2 ^ r) = B n c ^^^ It (8 - r) 1 := by
        have := B_xor n 0 c (2 ^ r)
        rw [Nat.xor_zero] at this
        rw [this]; congr 1
        unfold B
        rw [Nat.zero_xor, It_pow r 8 (by omega)]
      rw [this, run_apart, List.length_cons, ← It_add]
      congr 2; omega
    | succ j =>
      simp only [List.set_cons_succ, List.getD_cons_succ, run_cons]
      rw [ih _ _ (by simpa using hj), List.length_cons]
      congr 2; omega

def inv (x : Nat) : Nat := 4294967295 - x
theorem inv_xor (x : Nat) (h : x < 4294967296) : inv x = 4294967295 ^^^ x := by
  unfold inv
  have h1 : x ^^^ (4294967295 ^^^ x) = 4294967295 := by rw [Nat.xor_comm 4294967295, ← Nat.xor_assoc, Nat.xor_self, Nat.zero_xor]
  apply Nat.eq_of_testBit_eq
  intro i
  rw [show 4294967295 - x = 2 ^ 32 - (x + 1) from by omega, Nat.testBit_two_pow_sub_succ h, Nat.testBit_xor]
  rw [show 4294967295 = 2 ^ 32 - 1 from by decide, Nat.testBit_two_pow_sub_one]
  by_cases hi : i < 32
  · simp [hi]
  · have : x.testBit i = false := Nat.testBit_lt_two_pow (Nat.lt_of_lt_of_le h (show 2 ^ 32 ≤ 2 ^ i from Nat.pow_le_pow_right (by omega) (by omega)))
    simp [hi, this]

def more (s : Nat) (l : List Nat) : Nat := inv (run (inv s) l)
def sum (l : List Nat) : Nat := more 0 l
theorem inv_inv (x : Nat) (h : x < 4294967296) : inv (inv x) = x := by unfold inv; omega
theorem inv_lt (x : Nat) : inv x < 4294967296 := by unfold inv; omega
theorem more_lt (s : Nat) (l : List Nat) : more s l < 4294967296 := inv_lt _
theorem more_append (s : Nat) (l m : List Nat) (hl : ∀ c ∈ l, c < 256) : more s (l ++ m) = more (more s l) m := by
  unfold more
  rw [run_append, inv_inv _ (run_lt _ _ (inv_lt _) hl)]

/-- the sums of two texts of one length, of their exclusive or, and of as many noughts come to nought -/
theorem sum_four (l m : List Nat) (h : l.length = m.length) (hl : ∀ c ∈ l, c < 256) (hm : ∀ c ∈ m, c < 256) :
    ((sum l ^^^ sum m) ^^^ sum (List.zipWith (· ^^^ ·) l m)) ^^^ sum (List.replicate l.length 0) = 0 := by
  have hx : ∀ c ∈ List.zipWith (· ^^^ ·) l m, c < 256 := by
    intro c hc
    rw [List.mem_iff_getElem] at hc
    obtain ⟨i, hi, rfl⟩ := hc
    rw [List.getElem_zipWith]
    exact Nat.xor_lt_two_pow (n := 8) (hl _ (List.getElem_mem _)) (hm _ (List.getElem_mem _))
  have hF : inv 0 < 4294967296 := inv_lt 0
  have a1 := run_lt _ _ hF hl
  have a2 := run_lt _ _ hF hm
  have a3 := run_lt _ _ hF hx
  have a4 := run_lt (inv 0) (List.replicate l.length 0) hF (by intro c hc; rw [List.mem_replicate] at hc; omega)
  unfold sum more
  rw [inv_xor _ a1, inv_xor _ a2, inv_xor _ a3, inv_xor _ a4]
  have e1 := run_xor (inv 0) (inv 0) l m h
  have e2 := run_xor (inv 0) (inv 0) (List.zipWith (· ^^^ ·) l m) (List.replicate l.length 0) (by simp [h])
  have e3 := run_xor (inv 0 ^^^ inv 0) (inv 0 ^^^ inv 0) (List.zipWith (· ^^^ ·) l m) (List.zipWith (· ^^^ ·) (List.zipWith (· ^^^ ·) l m) (List.replicate l.length 0)) (by simp [h])
  rw [e1, e2] at e3
  have e4 : List.zipWith (· ^^^ ·) (List.zipWith (· ^^^ ·) l m) (List.zipWith (· ^^^ ·) (List.zipWith (· ^^^ ·) l m) (List.replicate l.length 0)) = List.replicate l.length 0 := by
    apply List.ext_getElem
    · simp; omega
    · intro i h1 h2
      simp only [List.getElem_zipWith, List.getElem_replicate, Nat.xor_zero, Nat.xor_self]
  rw [e4] at e3
  simp only [Nat.xor_self, run_zeros] at e3
  generalize run (inv 0) l = A at *
  generalize run (inv 0) m = C at *
  generalize run (inv 0) (List.zipWith (· ^^^ ·) l m) = D at *
  generalize run (inv 0) (List.replicate l.length 0) = E at *
  generalize (4294967295 : Nat) = F at *
  apply Nat.eq_of_testBit_eq
  intro i
  have := congrArg (fun n => n.testBit i) e3
  simp only [Nat.testBit_xor, Nat.zero_testBit] at this ⊢
  revert this
  cases A.testBit i <;> cases C.testBit i <;> cases D.testBit i <;> cases E.testBit i <;> cases F.testBit i <;> decide

theorem xor_eq_zero (a b : Nat) : a ^^^ b = 0 ↔ a = b := by
  constructor
  · intro h
    have := congrArg (· ^^^ b) h
    simpa only [Nat.xor_assoc, Nat.xor_self, Nat.xor_zero, Nat.zero_xor] using this
  · intro h; rw [h, Nat.xor_self]

/-- a run of bits turned: what the first i places of 'change' that lie in n bits from 'from' on come to -/
def window (change k : Nat) : Nat → Nat
  | 0 => 0
  | i + 1 => if change.testBit i && decide (i < k) then window change k i ^^^ 2 ^ i else window change k i

theorem window_lt (c k i : Nat) : window c k i < 2 ^ i := by
  induction i with
  | zero => simp [window]
  | succ i ih =>
    unfold window
    have : 2 ^ i < 2 ^ (i + 1) := Nat.pow_lt_pow_right (by omega) (by omega)
    split
    · exact Nat.xor_lt_two_pow (Nat.lt_trans ih this) this
    · omega

theorem window_step_ne (c k i : Nat) (h : (c.testBit i && decide (i < k)) = true) : window c k (i + 1) ≠ 0 := by
  unfold window
  rw [if_pos h]
  intro hx
  have := (xor_eq_zero _ _).1 hx
  have := window_lt c k i
  omega
theorem window_step_eq (c k i : Nat) (h : (c.testBit i && decide (i < k)) = false) : window c k (i + 1) = window c k i := by
  conv => lhs; unfold window
  rw [if_neg (by rw [h]; decide)]

/-- what a text is behind the first i places: as the text, but for what the window comes to -/
def Turned (b x : List Nat) (k frm change i : Nat) : Prop :=
  x.length = b.length ∧ ∀ n, run n x = run n b ^^^ It k (window change k i) ∧ frm + k = 8 * b.length

theorem Turned.start (b : List Nat) (k frm change : Nat) (h : frm + k = 8 * b.length) : Turned b b k frm change 0 :=
  ⟨rfl, fun n => ⟨by simp [window, It_zero], h⟩⟩
theorem Turned.skip {b x : List Nat} {k frm change i : Nat} (h : Turned b x k frm change i) (hc : (change.testBit i && decide (i < k)) = false) : Turned b x k frm change (i + 1) := by
  refine ⟨h.1, fun n => ⟨?_, (h.2 n).2⟩⟩
  rw [window_step_eq _ _ _ hc]; exact (h.2 n).1
theorem Turned.turn {b x : List Nat} {k frm change i : Nat} (h : Turned b x k frm change i) (hc : (change.testBit i && decide (i < k)) = true) :
    Turned b (x.set ((frm + i) / 8) (x.getD ((frm + i) / 8) 0 ^^^ 2 ^ ((frm + i) % 8))) k frm change (i + 1) := by
  have hik : i < k := by simp at hc; exact hc.2
  have hk := (h.2 0).2
  have hl := h.1
  refine ⟨by rw [List.length_set]; exact h.1, fun n => ⟨?_, hk⟩⟩
  rw [run_bit n x _ _ (by omega) (by omega), (h.2 n).1]
  rw [show 8 * x.length - (8 * ((frm + i) / 8) + (frm + i) % 8) = k - i from by omega]
  rw [show window change k (i + 1) = window change k i ^^^ 2 ^ i from if_pos hc, It_xor, It_pow i k (by omega), Nat.xor_assoc]
theorem Turned.tells {b x : List Nat} {k frm change i : Nat} (h : Turned b x k frm change i) (hi : i ≤ 32) (n : Nat) :
    run n x = run n b ↔ window change k i = 0 := by
  rw [(h.2 n).1]
  constructor
  · intro he
    refine Decidable.byContradiction fun hne => ?_
    have hw : window change k i < 4294967296 := Nat.lt_of_lt_of_le (window_lt _ _ _) (show 2 ^ i ≤ 2 ^ 32 from Nat.pow_le_pow_right (by omega) hi)
    refine It_ne k _ hw hne ?_
    have := congrArg (run n b ^^^ ·) he
    simpa only [← Nat.xor_assoc, Nat.xor_self, Nat.zero_xor] using this
  · intro he
    rw [he, It_zero, Nat.xor_zero]
theorem inv_inj (a b : Nat) (ha : a < 4294967296) (hb : b < 4294967296) : inv a = inv b ↔ a = b := by unfold inv; omega
theorem sum_tells {b x : List Nat} {k frm change i : Nat} (h : Turned b x k frm change i) (hi : i ≤ 32) (hb : ∀ c ∈ b, c < 256) (hx : ∀ c ∈ x, c < 256) :
    sum x = sum b ↔ window change k i = 0 := by
  unfold sum more
  rw [inv_inj _ _ (run_lt _ _ (inv_lt _) hx) (run_lt _ _ (inv_lt _) hb)]
  exact h.tells hi _
end Go.Proofs.YtfbjjblgcgjndaaGreat.Crc

/- Contract of crc.half: the table of sixteen numbers, in a new block. -/
namespace Go.Proofs.YtfbjjblgcgjndaaGreat
open Go.RowKit

def tabAt (k : Nat) : Array Value := ((List.range 16).map fun j => Value.int .u32 (if j < k then (Crc.It 4 j : Nat) else (0 : Nat))).toArray
theorem tabAt_get (k j : Nat) (h : j < 16) : (tabAt k)[j]? = some (Value.int .u32 (if j < k then (Crc.It 4 j : Nat) else (0 : Nat))) := by
  simp [tabAt, h]
theorem tabAt_size (k : Nat) : (tabAt k).size = 16 := by simp [tabAt]
theorem tabAt_set (k : Nat) (h : k < 16) : (tabAt k).setIfInBounds k (.int .u32 (Crc.It 4 k : Nat)) = tabAt (k + 1) := by
  apply Array.ext_getElem?
  intro i
  by_cases hi : i < 16
  · rw [Array.getElem?_setIfInBounds, tabAt_get (k + 1) i hi, tabAt_size, if_pos h, tabAt_get k i hi]
    by_cases e : k = i
    · rw [if_pos e, ← e, if_pos (by omega)]
    · rw [if_neg e]
      by_cases hik : i < k
      · rw [if_pos hik, if_pos (by omega)]
      · rw [if_neg hik, if_neg (by omega)]
  · rw [Array.getElem?_eq_none (by rw [Array.size_setIfInBounds, tabAt_size]; omega), Array.getElem?_eq_none (by rw [tabAt_size]; omega)]
theorem tabAt_one (k : Nat) : (tabAt k).all (·.oneCell') = true := by
  rw [Array.all_eq_true_iff_forall_mem]
  intro v hv
  simp [tabAt] at hv
  obtain ⟨a, _, rfl⟩ := hv
  rfl
theorem Tryz.size145 : (Tryz.prog.info? 217).map (·.size) = some 16 := by kernel_rfl

theorem step_T (n : Nat) (h : n < 4294967296) :
    bits BinOp.xor IntKind.u32 ((n : Int) / 2) (2197175160 * bits BinOp.and IntKind.u32 (n : Int) 1 % 4294967296) = ((Crc.T n : Nat) : Int) := by
  have h1 : bits BinOp.and IntKind.u32 (n : Int) 1 = ((n % 2 : Nat) : Int) := by
    have := u32_and_nat n 1 h (by omega)
    rw [nat_mask1] at this
    exact this
  rw [h1]
  unfold Crc.T
  have h2 : (n : Int) / 2 = ((n / 2 : Nat) : Int) := by omega
  rw [h2]
  rcases Nat.mod_two_eq_zero_or_one n with hn | hn
  · rw [if_neg (by omega), hn]
    have := u32_xor_nat (n / 2) 0 (by omega) (by omega)
    rw [Nat.xor_zero] at this
    exact this
  · rw [if_pos hn, hn]
    exact u32_xor_nat (n / 2) 2197175160 (by omega) (by omega)

set_option maxHeartbeats 400000 in
theorem half_any (w : World) : Calls Tryz.prog 102 #[] w fun e w' => e = .returned (.agg (tabAt 16)) ∧ w.alloc (.cells (tabAt 16) 217) = w' := by
  go_enter Tryz.func102, Tryz.ntmps102
  go_wp2
  go_loopw [3] (fun i wr => ∃ k : Nat, k ≤ 16 ∧ i = .int .i64 k ∧ wr = w.alloc (.cells (tabAt k) 217)) (fun i _ => 16 - (intOf i).toNat)
  case atStart => exact ⟨0, by omega, rfl, rfl⟩
  case round =>
    obtain ⟨k, hk, rfl, rfl⟩ := hrel
    by_cases hlt : k < 16
    · have hget : (tabAt k)[k]? = some (Value.int .u32 0) := by rw [tabAt_get k k hlt, if_neg (by omega)]; rfl
      have hset := Lib.hid (tabAt_set k hlt)
      go_wp2
      go_loop [2, 8] (fun n j => ∃ i : Nat, i ≤ 4 ∧ j = .int .i64 i ∧ n = .int .u32 (Crc.It i k : Nat)) (fun _ j => 4 - (intOf j).toNat)
      case atStart => exact ⟨0, by omega, rfl, rfl⟩
      case round =>
        obtain ⟨i, hi, rfl, rfl⟩ := hrel
        have hb : Crc.It i k < 4294967296 := Crc.It_lt i k (by omega)
        by_cases hlt2 : i < 4
        · go_wp2
          go_round
          case rel => exact ⟨i + 1, by omega, by go_num, by rw [Crc.It_succ, step_T _ hb]⟩
          case measure => simp [intOf]; omega
        · obtain rfl : i = 4 := by omega
          go_wp2
          go_roundw
          case rel => exact ⟨k + 1, by omega, by go_num, by rw [hset.out]⟩
          case measure => simp [intOf]; omega
    · obtain rfl : k = 16 := by omega
      have hd : Tryz.prog.underlying 217 = some (.array 16 67) := Tryz.underlying217
      go_wp2_with (first
        | (with_reducible refine wpList_load_row rfl 217 (.tmp 0) rfl w.heap.size rfl 217 (tabAt 16) (0, 0) _ (heap_alloc_new w _) hd rfl (by rw [Tryz.size145, tabAt_size]) ?_)
        | (with_reducible refine wpList_store_row rfl 217 (.tmp 0) (.tmp 21) rfl w.heap.size (tabAt 16) rfl rfl 217 (tabAt 16) (heap_alloc_new w _) (by rw [Tryz.size145, tabAt_size]) rfl (tabAt_one 16) ?_; rw [World.setRow_alloc_new]))
      refine bodyPost_ret (results_cell_row (p := 0) (ty := 217) rfl _ _ w.heap.size 217 (tabAt 16) (0, 0) _ rfl (heap_alloc_new w _) hd rfl (by rw [Tryz.size145, tabAt_size])) rfl ⟨rfl, rfl⟩
end Go.Proofs.YtfbjjblgcgjndaaGreat

/- Contracts of crc.More, crc.Sum and of the reference's: all four come to the reckoning of CrcMath. -/
namespace Go.Proofs.YtfbjjblgcgjndaaGreat
open Go.RowKit

theorem nib (X : Nat) (h : X < 4294967296) : bits BinOp.xor IntKind.u32 ((X : Int) / 16) ((Crc.It 4 (X % 16) : Nat) : Int) = ((Crc.It 4 X : Nat) : Int) := by
  rw [Crc.It_half X]
  have e : (X : Int) / 16 = ((X / 16 : Nat) : Int) := by omega
  rw [e]
  exact u32_xor_nat _ _ (by omega) (Crc.It_lt _ _ (by omega))
theorem and15 (X : Nat) (h : X < 4294967296) : bits BinOp.and IntKind.u32 (X : Int) 15 = ((X % 16 : Nat) : Int) := by
  have := u32_and_nat X 15 h (by omega)
  rw [nat_mask4] at this
  exact this

theorem bnot (s : Nat) (h : s < 4294967296) : bits BinOp.xor IntKind.u32 IntKind.u32.max (s : Int) = ((Crc.inv s : Nat) : Int) := by
  have h1 : IntKind.u32.max = ((4294967295 : Nat) : Int) := by decide
  rw [h1, Crc.inv_xor s h]
  exact u32_xor_nat _ _ (by omega) h

set_option maxRecDepth 100000 in
set_option maxHeartbeats 400000 in
theorem more_any (s : Nat) (A : Option Addr) (c : Nat) (l : List Nat) (w : World) (hs : s < 4294967296) (hl : Bytes l) (hn : l.length ≤ 140737488351232) (hA : At w A (ns .u8 l)) :
    Calls Tryz.prog 100 #[.int .u32 (s : Int), .slice A l.length c] w fun e w' => e = .returned (.int .u32 (Crc.more s l : Nat)) ∧ Below w.heap.size w w' := by
  have hinv := bnot s hs
  have hz := Lib.hid Tryz.size145
  go_enter Tryz.func100, Tryz.ntmps100
  go_wp2_with (first
    | (go_at_call 102; refine (half_any _).mono ?_; rintro e w1 ⟨rfl, rfl⟩)
    | (with_reducible refine wpList_store_row rfl 217 (.tmp 5) (.tmp 9) rfl (w.heap.size + 1) (tabAt 16) rfl rfl 217 _ (heap_alloc2_new w _ _) (by rw [Tryz.size145, tabAt_size]) rfl (tabAt_one 16) ?_; rw [setRow_alloc2]))
  go_loop [6, 14] (fun n i => ∃ k : Nat, k ≤ l.length ∧ i = .int .i64 k ∧ n = .int .u32 (Crc.run (Crc.inv s) (l.take k) : Nat)) (fun _ i => l.length - (intOf i).toNat)
  case atStart => exact ⟨0, by omega, rfl, rfl⟩
  case round =>
    clear hinv
    obtain ⟨k, hk, rfl, rfl⟩ := hrel
    have hX := Crc.run_lt (Crc.inv s) (l.take k) (Crc.inv_lt s) (hl.take k)
    by_cases hlt : k < l.length
    · have hg := hl.nth k hlt
      obtain ⟨b, o, rfl, hc0⟩ := hA.num k hlt
      have hb : b < w.heap.size := World.block_lt_of_cell? w _ hc0
      have hts := Lib.hid (take_nth l k hlt)
      generalize hXe : Crc.run (Crc.inv s) (l.take k) = X at hX ⊢
      have HX := Lib.hid hXe
      clear hXe
      have h1 := u32_xor_nat X (nth l k) hX (by omega)
      have hX1 : X ^^^ nth l k < 4294967296 := Nat.xor_lt_two_pow (n := 32) (by omega) (by omega)
      generalize hY : X ^^^ nth l k = Y at h1 hX1
      have HY := Lib.hid hY
      clear hY
      have h2 := and15 Y hX1
      have h3 := nib Y hX1
      have h4 := tabAt_get 16 (Y % 16) (by omega)
      rw [if_pos (by omega)] at h4
      have hm1 : Y % 16 < 16 := by omega
      have hX2 := Crc.It_lt 4 Y hX1
      generalize hZ : Crc.It 4 Y = Z at h3 hX2
      have HZ := Lib.hid hZ
      clear hZ
      have h5 := and15 Z hX2
      have h6 := nib Z hX2
      have h7 := tabAt_get 16 (Z % 16) (by omega)
      rw [if_pos (by omega)] at h7
      have hm2 : Z % 16 < 16 := by omega
      go_wp2
      go_round
      case rel =>
        refine ⟨k + 1, by omega, by go_num, ?_⟩
        rw [hts.out, Crc.run_append, HX.out, Crc.run_cons, Crc.run_nil, Crc.B_half, HY.out, HZ.out]
      case measure => simp [intOf]; omega
    · obtain rfl : k = l.length := by omega
      rw [List.take_length] at hX
      have hfin := bnot _ hX
      go_wp2
      go_ret
      exact ⟨rfl, ((Below.refl _ _).alloc (Nat.le_refl _) _).alloc (by simp) _⟩

set_option maxHeartbeats 400000 in
theorem sum_any (A : Option Addr) (c : Nat) (l : List Nat) (w : World) (hl : Bytes l) (hn : l.length ≤ 140737488351232) (hA : At w A (ns .u8 l)) :
    Calls Tryz.prog 98 #[.slice A l.length c] w fun e w' => e = .returned (.int .u32 (Crc.sum l : Nat)) ∧ Below w.heap.size w w' := by
  go_enter Tryz.func98, Tryz.ntmps98
  go_wp2_with fail
  refine (more_any 0 A c l w (by omega) hl hn hA).mono ?_
  rintro e w1 ⟨rfl, hb⟩
  go_wp2
  go_ret
  exact ⟨rfl, hb⟩

theorem rstep (n : Nat) (h : n < 4294967296) : bits BinOp.xor IntKind.u32 ((n : Int) / 2) 2197175160 = (((n / 2) ^^^ 2197175160 : Nat) : Int) := by
  have e : (n : Int) / 2 = ((n / 2 : Nat) : Int) := by omega
  rw [e]; exact u32_xor_nat (n / 2) 2197175160 (by omega) (by omega)
theorem and1 (X : Nat) (h : X < 4294967296) : bits BinOp.and IntKind.u32 (X : Int) 1 = ((X % 2 : Nat) : Int) := by
  have := u32_and_nat X 1 h (by omega)
  rw [nat_mask1] at this
  exact this

set_option maxRecDepth 100000 in
set_option maxHeartbeats 400000 in
theorem rmore_any (s : Nat) (A : Option Addr) (c : Nat) (l : List Nat) (w : World) (hs : s < 4294967296) (hl : Bytes l) (hn : l.length ≤ 140737488351232) (hA : At w A (ns .u8 l)) :
    Calls Tryz.prog 101 #[.int .u32 (s : Int), .slice A l.length c] w fun e w' => e = .returned (.int .u32 (Crc.more s l : Nat)) ∧ w = w' := by
  have hinv := bnot s hs
  go_enter Tryz.func101, Tryz.ntmps101
  go_wp2
  go_loop [5, 6] (fun n i => ∃ k : Nat, k ≤ l.length ∧ i = .int .i64 k ∧ n = .int .u32 (Crc.run (Crc.inv s) (l.take k) : Nat)) (fun _ i => l.length - (intOf i).toNat)
  case atStart => exact ⟨0, by omega, rfl, rfl⟩
  case round =>
    clear hinv
    obtain ⟨k, hk, rfl, rfl⟩ := hrel
    have hX := Crc.run_lt (Crc.inv s) (l.take k) (Crc.inv_lt s) (hl.take k)
    by_cases hlt : k < l.length
    · have hg := hl.nth k hlt
      obtain ⟨b, o, rfl, hc0⟩ := hA.num k hlt
      have hb : b < w.heap.size := World.block_lt_of_cell? w _ hc0
      have hts := Lib.hid (take_nth l k hlt)
      generalize hXe : Crc.run (Crc.inv s) (l.take k) = X at hX ⊢
      have HX := Lib.hid hXe
      clear hXe
      have h1 := u32_xor_nat X (nth l k) hX (by omega)
      have hX1 : X ^^^ nth l k < 4294967296 := Nat.xor_lt_two_pow (n := 32) (by omega) (by omega)
      generalize hY : X ^^^ nth l k = Y at h1 hX1
      have HY := Lib.hid hY
      clear hY
      go_wp2
      go_loop [5, 7] (fun n i => ∃ j : Nat, j ≤ 8 ∧ i = .int .i64 j ∧ n = .int .u32 (Crc.It j Y : Nat)) (fun _ i => 8 - (intOf i).toNat)
      case atStart => exact ⟨0, by omega, rfl, rfl⟩
      case round =>
        obtain ⟨j, hj, rfl, rfl⟩ := hrel
        have hI := Crc.It_lt j Y hX1
        by_cases hlt2 : j < 8
        · have h2 := and1 _ hI
          have h3 := rstep _ hI
          rcases Nat.mod_two_eq_zero_or_one (Crc.It j Y) with hm | hm
          · rw [hm] at h2
            go_wp2
            go_round
            case rel =>
              refine ⟨j + 1, by omega, by go_num, ?_⟩
              rw [Crc.It_succ]; unfold Crc.T; rw [if_neg (by omega)]; go_num
            case measure => simp [intOf]; omega
          · rw [hm] at h2
            go_wp2
            go_round
            case rel =>
              refine ⟨j + 1, by omega, by go_num, ?_⟩
              rw [Crc.It_succ]; unfold Crc.T; rw [if_pos (by omega)]
            case measure => simp [intOf]; omega
        · obtain rfl : j = 8 := by omega
          go_wp2
          go_round
          case rel =>
            refine ⟨k + 1, by omega, by go_num, ?_⟩
            rw [hts.out, Crc.run_append, HX.out, Crc.run_cons, Crc.run_nil]; unfold Crc.B; rw [HY.out]
          case measure => simp [intOf]; omega
    · obtain rfl : k = l.length := by omega
      rw [List.take_length] at hX
      have hfin := bnot _ hX
      go_wp2
      go_ret
      exact ⟨rfl, rfl⟩

set_option maxHeartbeats 400000 in
theorem rsum_any (A : Option Addr) (c : Nat) (l : List Nat) (w : World) (hl : Bytes l) (hn : l.length ≤ 140737488351232) (hA : At w A (ns .u8 l)) :
    Calls Tryz.prog 99 #[.slice A l.length c] w fun e w' => e = .returned (.int .u32 (Crc.sum l : Nat)) ∧ w = w' := by
  go_enter Tryz.func99, Tryz.ntmps99
  go_wp2_with fail
  refine (rmore_any 0 A c l w (by omega) hl hn hA).mono ?_
  rintro e w1 ⟨rfl, rfl⟩
  go_wp2
  go_ret
  exact ⟨rfl, rfl⟩

end Go.Proofs.YtfbjjblgcgjndaaGreat

/- Bytes that a call owns: append of zeros, of one byte; numbers put low byte first. -/
namespace Go.Proofs.YtfbjjblgcgjndaaGreat
open Go.RowKit

/-- the k low bytes of n, the lowest first -/
def le : Nat → Nat → List Nat
  | _, 0 => []
  | n, k + 1 => (n % 256) :: le (n / 256) k
theorem le_length (n k : Nat) : (le n k).length = k := by
  induction k generalizing n with
  | zero => rfl
  | succ k ih => simp [le, ih]
theorem le_bytes (n k : Nat) : Bytes (le n k) := by
  induction k generalizing n with
  | zero => exact Bytes.nil
  | succ k ih => exact Bytes.cons (Nat.mod_lt _ (by decide)) (ih _)
theorem le_succ (n k : Nat) : le n (k + 1) = le n k ++ [n / 256 ^ k % 256] := by
  induction k generalizing n with
  | zero => simp [le]
  | succ k ih =>
    rw [le, ih (n / 256)]
    conv => rhs; rw [le]
    simp only [List.cons_append, List.cons.injEq, true_and]
    rw [Nat.div_div_eq_div_mul, Nat.pow_succ, Nat.mul_comm 256]
/-- the number that bytes are -/
def el : List Nat → Nat
  | [] => 0
  | b :: l => b + 256 * el l
theorem el_le (n k : Nat) : el (le n k) = n % 256 ^ k := by
  induction k generalizing n with
  | zero => simp [le, el, Nat.mod_one]
  | succ k ih =>
    rw [le, el, ih]
    rw [Nat.pow_succ, Nat.mul_comm (256 ^ k) 256, Nat.mod_mul]
theorem le_el (l : List Nat) (h : Bytes l) : le (el l) l.length = l := by
  induction l with
  | nil => rfl
  | cons b l ih =>
    have hb : b < 256 := h b (by simp)
    have hl : Bytes l := fun c hc => h c (by simp [hc])
    simp only [el, List.length_cons, le]
    rw [show (b + 256 * el l) % 256 = b from by omega, show (b + 256 * el l) / 256 = el l from by omega, ih hl]
theorem el_lt (l : List Nat) (h : Bytes l) : el l < 256 ^ l.length := by
  induction l with
  | nil => simp [el]
  | cons b l ih =>
    have hb : b < 256 := h b (by simp)
    have hl : Bytes l := fun c hc => h c (by simp [hc])
    have := ih hl
    simp only [el, List.length_cons, Nat.pow_succ]
    omega
theorem le_inj (n m k : Nat) (hn : n < 256 ^ k) (hm : m < 256 ^ k) (h : le n k = le m k) : n = m := by
  have := congrArg el h
  rw [el_le, el_le, Nat.mod_eq_of_lt hn, Nat.mod_eq_of_lt hm] at this
  exact this

theorem add_plain (g j : Nat) : (⟨g, 0, none⟩ : Addr).add j = ⟨g, j, none⟩ := by unfold Addr.add; split <;> simp_all
theorem blk_frozen {w : World} {g : Nat} {t : TypeId} {cs : Array Value} (h : w.heap[g]? = some (.cells cs t (0, 0))) (i : Nat) : w.frozen? ⟨g, i, none⟩ = false := by simp [World.frozen?, h]
theorem blk_set {w : World} {g : Nat} {t : TypeId} {cs : Array Value} (h : w.heap[g]? = some (.cells cs t (0, 0))) (i : Nat) (u : Value) : (w.setCell ⟨g, i, none⟩ u).heap[g]? = some (.cells (cs.setIfInBounds i u) t (0, 0)) := by
  simp [World.setCell, Array.getElem?_modify, h]
theorem setCells_far {g : Nat} : ∀ (vs : List Value) (o : Nat) {w : World} (k : Nat), k ≠ g → (w.setCells g o vs).heap[k]? = w.heap[k]?
  | [], _, _, _, _ => rfl
  | v :: r, o, w, k, hk => by
    rw [World.setCells, setCells_far r (o + 1) k hk]
    exact Below.heap_setCell w ⟨g, o, none⟩ v k hk
theorem setCells_same (g : Nat) : ∀ (vs : List Value) (o : Nat) (w : World), (w.setCells g o vs).os = w.os ∧ (w.setCells g o vs).tape = w.tape ∧ (w.setCells g o vs).output = w.output ∧ (w.setCells g o vs).heap.size = w.heap.size
  | [], _, _ => ⟨rfl, rfl, rfl, rfl⟩
  | v :: r, o, w => by
    obtain ⟨h1, h2, h3, h4⟩ := setCells_same g r (o + 1) (w.setCell ⟨g, o, none⟩ v)
    rw [World.setCells]
    exact ⟨h1, h2, h3, by rw [h4]; simp [World.setCell]⟩
theorem setCells_row {g : Nat} {e : TypeId} : ∀ (vs : List Value) (o : Nat) (w : World) (cur : Array Value), w.heap[g]? = some (.cells cur e (0, 0)) → o + vs.length ≤ cur.size →
    ∃ cur', (w.setCells g o vs).heap[g]? = some (.cells cur' e (0, 0)) ∧ cur'.size = cur.size ∧ cur'.toList = cur.toList.take o ++ vs ++ cur.toList.drop (o + vs.length)
  | [], o, w, cur, h, _ => ⟨cur, h, rfl, by simp⟩
  | v :: r, o, w, cur, h, hl => by
    have h2 := blk_set h o v
    simp only [List.length_cons] at hl
    obtain ⟨cur', h3, h4, h5⟩ := setCells_row r (o + 1) (w.setCell ⟨g, o, none⟩ v) _ h2 (by simp; omega)
    refine ⟨cur', h3, by rw [h4]; simp, ?_⟩
    rw [h5, Array.toList_setIfInBounds]
    have ho : o < cur.toList.length := by rw [Array.length_toList]; omega
    rw [List.take_set, List.drop_set_of_lt (by omega)]
    simp only [List.length_cons]
    rw [show o + 1 + r.length = o + (r.length + 1) by omega]
    congr 1
    rw [List.take_succ_eq_append_getElem ho, List.set_append_right _ _ (by rw [List.length_take]; omega)]
    have ho' : o < cur.size := by omega
    simp [Nat.min_eq_left (Nat.le_of_lt ho')]
section
variable {P : Program} {ops : Array Oper} {rest : List Oper} {o : Oper} {a : Act} {w : World} {Q : Exit → Act → World → Prop}
theorem run_append_zeros (w : World) (base : Nat) (t ti ty e : TypeId) (i : TypeInfo) (z : Value) (size bytes : Nat) (ht : P.underlying t = some (.slice e)) {k : IntKind} (hti : P.underlying ti = some (.int k)) (hi : P.info? e = some i) (hz : i.zero = some z)
    (hsize : i.size = size) (hby : i.bytes = bytes) (hzs : z.cells.size = size) (hsz : 0 < size) (hb0 : 0 < bytes)
    (v : Value) (n : Nat) (xs : List Value) (hown : w.ownsRow base e size v n xs) (kx : IntKind) (m : Nat) (h1 : ∀ u ∈ (Builtin.zeroCells z.cells m).toList, u.oneCell' = true)
    (hbytes : (n + m) * bytes ≤ 140737488355328) (hbase : base ≤ w.heap.size) :
    ∃ v' w', (Builtin.append_ #[t, ti] ty #[v, .int kx m]).run P w = .ok v' w' ∧ w'.ownsRow base e size v' (n + m) (xs ++ (Builtin.zeroCells z.cells m).toList) ∧ w.grownBy w' v.ownBlock ∧
      (v'.ownBlock = v.ownBlock ∨ v'.ownBlock = some w.heap.size) := by
  subst hsize
  subst hby
  have hle : n + m ≤ 140737488355328 := Nat.le_trans (Nat.le_mul_of_pos_right _ hb0) hbytes
  have h63 : n + m ≤ maxLen := by simp only [maxLen]; omega
  have hw : IntKind.i64.wrap (m : Int) = m := by rw [IntKind.wrap_i64]; omega
  have hw0 : IntKind.i64.wrap 0 = 0 := by rw [IntKind.wrap_i64]; rfl
  have hneg : ¬ ((m : Int) < 0) := by omega
  have hmb : m * i.bytes ≤ 140737488355328 := Nat.le_trans (Nat.mul_le_mul_right _ (Nat.le_add_left m n)) hbytes
  have hbig : ¬ (281474976710656 < (m : Int) * (i.bytes : Int)) := by
    rw [← Int.natCast_mul]
    omega
  have hsn : i.size ≠ 0 := by omega
  obtain ⟨news, hnews⟩ : ∃ news, news = (Builtin.zeroCells z.cells m).toList := ⟨_, rfl⟩
  rw [← hnews] at h1 ⊢
  have hl : news.length = m * i.size := by rw [hnews, Array.length_toList, size_zeroCells, hzs]
  have hna : Builtin.zeroCells z.cells m = news.toArray := by rw [hnews]
  have hlen : (xs ++ news).length = (n + m) * i.size := by rw [List.length_append, hown.1, hl, Nat.add_mul]
  have hnil : m = 0 → news = [] := fun h => List.eq_nil_of_length_eq_zero (by rw [hl, h, Nat.zero_mul])
  have grown : ∀ (old : Nat), old < n + m → ∀ (row : Option Nat),
      (w.drew.alloc (.cells (xs.toArray ++ news.toArray ++ Builtin.zeroCells z.cells (grownCap w (n + m) old e - (n + m))) e)).ownsRow base e i.size
        (.slice (some ⟨w.heap.size, 0, none⟩) (n + m) (grownCap w (n + m) old e)) (n + m) (xs ++ news) ∧
      w.grownBy (w.drew.alloc (.cells (xs.toArray ++ news.toArray ++ Builtin.zeroCells z.cells (grownCap w (n + m) old e - (n + m))) e)) row := by
    intro old ho row
    have hge := grownCap_ge w (n + m) old e
    have hcm : grownCap w (n + m) old e ≤ maxLen := grownCap_le_maxLen w (n + m) old e h63
    refine ⟨⟨hlen, .inr ⟨w.heap.size, _, _, rfl, hbase, heap_alloc_new w.drew _, hge, hcm, ?_, ?_⟩⟩, ⟨rfl, rfl, rfl, by simp, fun k hk _ => heap_alloc_old w.drew _ hk⟩⟩
    · simp only [Array.size_append, List.size_toArray, size_zeroCells, hzs, hown.1, hl, ← Nat.add_mul]
      congr 1
      omega
    · simp only [Array.toList_append, List.append_assoc]
      rw [← List.append_assoc, ← hlen]
      exact List.take_left
  have runs : ∀ (A : Option Addr) (cap : Nat), cap < n + m → (Builtin.firstCells i.size n (.slice A n cap)).run P w.drew = .ok xs.toArray w.drew → (Builtin.append_ #[t, ti] ty #[.slice A n cap, .int kx m]).run P w =
      .ok (.slice (some ⟨w.heap.size, 0, none⟩) (n + m) (grownCap w (n + m) cap e)) (w.drew.alloc (.cells (xs.toArray ++ news.toArray ++ Builtin.zeroCells z.cells (grownCap w (n + m) cap e - (n + m))) e)) := by
    intro A cap hcap hfo
    have hn : ¬ (n + m ≤ cap) := by omega
    have h63' : ¬ (9223372036854775807 < ((n : Int) + (m : Int))) := by omega
    have hfit := growslice_fits hcap hbytes
    have h48' : ¬ (281474976710656 < Builtin.nextslicecap (n + m) cap * i.bytes) := by omega
    by_cases hm : m = 0
    · have hnl := hnil hm
      subst hm
      rw [hnl]
      simp only [Nat.add_zero] at hn h63' h48' ⊢
      have h63'' : ¬ (9223372036854775807 < (n : Int)) := by omega
      simp [Builtin.append_, run_underlying ht, run_underlying hti, sizeOf, typeInfo, zeroValue, hi, hz, asInt, asIntOf, hw0, hn, h63'', h48', Question.forced, hfo, newRow, grownCap]
    · have hmz : ¬ (m * i.size = 0) := Nat.mul_ne_zero hm hsn
      simp [Builtin.append_, run_underlying ht, run_underlying hti, sizeOf, typeInfo, zeroValue, hi, hz, asInt, asIntOf, hw, hneg, hbig, hn, h63', h48', Question.forced, hfo, newRow, grownCap, hmz, hna]
      congr 2
      apply Array.ext'
      simp [List.append_assoc]
  rcases hown.2 with ⟨rfl, rfl⟩ | ⟨g, cap, cur, rfl, hbg, hg, hnc, hcm, hcs, htake⟩
  · have hx : xs = [] := List.eq_nil_of_length_eq_zero (by simpa using hown.1)
    subst hx
    by_cases hm : m = 0
    · have hnl := hnil hm
      subst hm
      rw [hnl]
      refine ⟨.slice none 0 0, w, ?_, World.ownsRow_nil w base e i.size, ⟨rfl, rfl, rfl, Nat.le_refl _, fun _ _ _ => rfl⟩, Or.inl rfl⟩
      simp [Builtin.append_, run_underlying ht, run_underlying hti, sizeOf, typeInfo, hi, asInt, asIntOf, hw0]
    · have hgr := grown 0 (by omega) (Value.ownBlock (.slice none 0 0))
      exact ⟨_, _, runs none 0 (by omega) (by simp [Builtin.firstCells]), hgr.1, hgr.2, Or.inr rfl⟩
  · by_cases hroom : n + m ≤ cap
    · have hfit : n * i.size + news.length ≤ cur.size := by rw [hl, hcs, ← Nat.add_mul]; exact Nat.mul_le_mul_right _ hroom
      obtain ⟨cur', h3, h4, h5⟩ := setCells_row news (n * i.size) w cur hg hfit
      obtain ⟨s1, s2, s3, s4⟩ := setCells_same g news (n * i.size) w
      have hst := run_storeCells_cells (P := P) g (n * i.size) news 0 w (fun j hj => by rw [cell_of_row w g _ cur e (0, 0) hg]; simp; omega) (fun j _ => blk_frozen hg _) h1
      simp only [Nat.add_zero] at hst
      refine ⟨.slice (some ⟨g, 0, none⟩) (n + m) cap, w.setCells g (n * i.size) news, ?_, ⟨hlen, .inr ⟨g, cap, cur', rfl, hbg, h3, hroom, hcm, by rw [h4, hcs], ?_⟩⟩, ⟨s1, s2, s3, by rw [s4]; exact Nat.le_refl _, fun k _ hk => setCells_far news _ k (fun e => hk (by simp [Value.ownBlock, e]))⟩, Or.inl rfl⟩
      · by_cases hm : m = 0
        · have hnl := hnil hm
          subst hm
          rw [hnl] at hst ⊢
          simp [Builtin.append_, run_underlying ht, run_underlying hti, sizeOf, typeInfo, hi, asInt, asIntOf, hw0, hnc, add_plain, hst]
        · have hmz : ¬ (m * i.size = 0) := Nat.mul_ne_zero hm hsn
          simp [Builtin.append_, run_underlying ht, run_underlying hti, sizeOf, typeInfo, zeroValue, hi, hz, asInt, asIntOf, hw, hneg, hbig, hroom, hmz, hna, add_plain, hst]
      · rw [h5]
        have h6 : cur.toList.take (n * i.size) = xs := htake
        rw [h6, ← hlen]
        exact List.take_left
    · have holds : ∀ j u, xs[j]? = some u → w.cell? ((⟨g, 0, none⟩ : Addr).add j) = some u := hown.cells (g := g) rfl
      have hgr := grown cap (by omega) (Value.ownBlock (.slice (some ⟨g, 0, none⟩) n cap))
      exact ⟨_, _, runs (some ⟨g, 0, none⟩) cap (by omega) (run_firstCells_some (P := P) w.drew i.size n _ n cap xs hown.1 (by simpa using holds)), hgr.1, hgr.2, Or.inr rfl⟩
/-- append of zeros, onto a row of the call's own -/
theorem wp_append_zeros (hgd : o.guard = none) (s x : Operand) (t ti e : TypeId) (z : Value) (bytes : Nat)
    (ho : o.op = .call { callee := .builtin .append, args := #[s, x], argTypes := #[t, ti] })
    (ht : P.underlying t = some (.slice e)) {k : IntKind} (hti : P.underlying ti = some (.int k)) (hinfo : (P.info? e).map (fun i => (i.zero, i.size, i.bytes)) = some (some z, 1, bytes)) (hz : z.cells = #[z]) (hz1 : z.oneCell' = true) (hb0 : 0 < bytes)
    (base : Nat) (v : Value) (n : Nat) (xs : List Value) (hs : a.eval s = v) (hown : w.ownsRow base e 1 v n xs) {kx : IntKind} (X : Int) (m : Nat) (hx : a.eval x = .int kx X) (hX : X = (m : Int))
    (hbytes : (n + m) * bytes ≤ 140737488355328) (hbase : base ≤ w.heap.size)
    (h : ∀ v' w', w'.ownsRow base e 1 v' (n + m) (xs ++ List.replicate m z) → w.grownBy w' v.ownBlock → wpList P ops Q rest (a.put o.dst v') w') :
    wpList P ops Q (o :: rest) a w := by
  subst hX
  obtain ⟨i0, hi, hzz⟩ := Option.map_eq_some_iff.1 hinfo
  simp only [Prod.mk.injEq] at hzz
  obtain ⟨hz0, hz1', hz2⟩ := hzz
  have hzc : (Builtin.zeroCells z.cells m).toList = List.replicate m z := by
    rw [hz]
    simp only [Builtin.zeroCells, List.size_toArray, List.length_cons, List.length_nil, Nat.mul_one, Nat.mod_one]
    apply List.ext_getElem
    · simp
    · intro i h1 h2; simp [Nat.mod_one]
  obtain ⟨v1, w1, hr1, h1, hg, hat⟩ := run_append_zeros (P := P) w base t ti o.type e i0 z 1 bytes ht hti hi hz0 hz1' hz2 (by rw [hz]; rfl) (by decide) hb0 v n xs hown kx m (by rw [hzc]; intro u hu; rw [List.mem_replicate] at hu; rw [hu.2]; exact hz1) hbytes hbase
  rw [hzc] at h1
  refine wpList_plain hgd fun K hK => ?_
  unfold Oper.wp execOp
  simp only [ho, resolve, invoke, builtin, Sem.run_bind, Sem.run_pure, Result.andThen_ok, List.map_toArray, List.map_cons, List.map_nil, hs, hx, hr1]
  exact hK _ _ (h v1 w1 h1 hg)
end

/-- a list of bytes that a call owns, in a block from n0 on -/
def Buf (n0 : Nat) (w : World) (v : Value) (l : List Nat) : Prop := w.ownsRow n0 5 1 v l.length (ns .u8 l)
theorem Buf.at {n0 : Nat} {w : World} {v : Value} {l : List Nat} (h : Buf n0 w v l) : ∃ A c, v = .slice A l.length c ∧ At w A (ns .u8 l) ∧ (A = none → c = 0) ∧ l.length ≤ c ∧ c ≤ maxLen := At.own h
theorem Buf.below {n0 : Nat} {w w1 : World} {v : Value} {l : List Nat} (h : Buf n0 w v l) (hb : Below w.heap.size w w1) : Buf n0 w1 v l := own_below h hb
theorem Buf.base {n0 : Nat} {w : World} {v : Value} {l : List Nat} (h : Buf n0 w v l) (k : Nat) (hk : v.ownBlock = some k) : n0 ≤ k := own_base h k hk
theorem Buf.nil (n0 : Nat) (w : World) : Buf n0 w (.slice none 0 0) [] := World.ownsRow_nil _ _ _ _
theorem Buf.new {n0 : Nat} (w : World) (l : List Nat) (hn : n0 ≤ w.heap.size) (hl : l.length ≤ 1000000) (b c : Nat) (hb : b = w.heap.size) (hc : c = l.length) : Buf n0 (w.alloc (.cells (ns .u8 l).toArray 5)) (.slice (some ⟨b, 0, none⟩) l.length c) l := by
  subst hb hc
  refine ⟨by simp [ns], .inr ⟨w.heap.size, l.length, (ns .u8 l).toArray, rfl, hn, heap_alloc_new w _, Nat.le_refl _, by simp only [maxLen]; omega, by simp [ns], ?_⟩⟩
  rw [List.take_of_length_le (by simp [ns])]

theorem size_grown {w w1 : World} {r : Option Nat} (h : w.grownBy w1 r) : w.heap.size ≤ w1.heap.size := h.size
theorem Buf.grown {n0 : Nat} {w0 w w1 : World} {v : Value} {l : List Nat} (h : Buf n0 w v l) (hb : Below n0 w0 w) (hg : w.grownBy w1 v.ownBlock) (hn : n0 ≤ w.heap.size) : Below n0 w0 w1 := below_grown hb hg hn h.base

/-- the append of one byte or of more, of what a call owns -/
theorem buf_append {P : Program} {ops : Array Oper} {rest : List Oper} {o : Oper} {a : Act} {w w0 : World} {Q : Exit → Act → World → Prop} (hgd : o.guard = none) (s x : Operand)
    (ho : o.op = .call { callee := .builtin .append, args := #[s, x], argTypes := #[22, 22] })
    (ht : P.underlying 22 = some (.slice 5)) (hinfo : (P.info? 5).map (fun i => (i.zero, i.size, i.bytes)) = some (some (.int .u8 0), 1, 1))
    (n0 : Nat) (v : Value) (l : List Nat) (hs : a.eval s = v) (hown : Buf n0 w v l)
    (A : Option Addr) (m c : Nat) (l2 : List Nat) (hx : a.eval x = .slice A m c) (hm : m = l2.length) (hAt : At w A (ns .u8 l2)) (hnil : A = none → c = 0)
    (hsm : l.length + l2.length ≤ 140737488355328) (hbase : n0 ≤ w.heap.size) (hb : Below n0 w0 w)
    (h : ∀ v' w', Buf n0 w' v' (l ++ l2) → Below n0 w0 w' → n0 ≤ w'.heap.size → wpList P ops Q rest (a.put o.dst v') w') :
    wpList P ops Q (o :: rest) a w := by
  subst hm
  refine wp_append hgd s x 22 5 (.int .u8 0) 1 1 ho ht hinfo rfl (by decide) n0 v l.length (ns .u8 l) hs hown A l2.length c (ns .u8 l2) hx (by simp [ns]) hAt hnil (ns_one _ _) (by omega) (by omega) hbase ?_
  intro v1 w1 h1 h2 _
  refine h v1 w1 ?_ (hown.grown hb h2 hbase) (Nat.le_trans hbase h2.size)
  unfold Buf
  rw [List.length_append, ns_append]; exact h1
theorem buf_zeros {P : Program} {ops : Array Oper} {rest : List Oper} {o : Oper} {a : Act} {w w0 : World} {Q : Exit → Act → World → Prop} (hgd : o.guard = none) (s x : Operand)
    (ho : o.op = .call { callee := .builtin .append, args := #[s, x], argTypes := #[22, 3] })
    (ht : P.underlying 22 = some (.slice 5)) (ht3 : P.underlying 3 = some (.int .i64)) (hinfo : (P.info? 5).map (fun i => (i.zero, i.size, i.bytes)) = some (some (.int .u8 0), 1, 1))
    (n0 : Nat) (v : Value) (l : List Nat) (hs : a.eval s = v) (hown : Buf n0 w v l) {kx : IntKind} (X : Int) (m : Nat) (hx : a.eval x = .int kx X) (hX : X = (m : Int))
    (hsm : l.length + m ≤ 140737488355328) (hbase : n0 ≤ w.heap.size) (hb : Below n0 w0 w)
    (h : ∀ v' w', Buf n0 w' v' (l ++ List.replicate m 0) → Below n0 w0 w' → n0 ≤ w'.heap.size → wpList P ops Q rest (a.put o.dst v') w') :
    wpList P ops Q (o :: rest) a w := by
  refine wp_append_zeros hgd s x 22 3 5 (.int .u8 0) 1 ho ht ht3 hinfo rfl rfl (by decide) n0 v l.length (ns .u8 l) hs hown X m hx hX (by omega) hbase ?_
  intro v1 w1 h1 h2
  refine h v1 w1 ?_ (hown.grown hb h2 hbase) (Nat.le_trans hbase h2.size)
  unfold Buf
  rw [List.length_append, ns_append, List.length_replicate]
  have : ns .u8 (List.replicate m 0) = List.replicate m (.int .u8 0) := by simp [ns]
  rw [this]; exact h1
end Go.Proofs.YtfbjjblgcgjndaaGreat

/- Contracts of the small helpers on byte lists: SameBytes, LentBytes, WholeBytes, SpoilBytes. -/
namespace Go.Proofs.YtfbjjblgcgjndaaGreat
open Go.RowKit

theorem list_ext_nth {l m : List Nat} (h : l.length = m.length) (hk : ∀ i, i < l.length → nth l i = nth m i) : l = m := by
  apply List.ext_getElem h
  intro i h1 h2
  have := hk i h1
  rwa [nth_get l i h1, nth_get m i h2] at this

/-- all places below k are the same -/
def Agree (l m : List Nat) (k : Nat) : Prop := ∀ i, i < k → nth l i = nth m i
theorem Agree.zero (l m : List Nat) : Agree l m 0 := fun i hi => by omega
theorem Agree.succ {l m : List Nat} {k : Nat} (h : Agree l m k) (e : nth l k = nth m k) : Agree l m (k + 1) := fun i hi => by
  by_cases h1 : i = k
  · subst h1; exact e
  · exact h i (by omega)

set_option maxRecDepth 100000 in
set_option maxHeartbeats 400000 in
theorem same_any (A B : Option Addr) (c d : Nat) (l m : List Nat) (w : World) (hl : l.length ≤ 140737488355328) (hm : m.length ≤ 140737488355328) (hA : At w A (ns .u8 l)) (hB : At w B (ns .u8 m)) :
    Calls Tryz.prog 15 #[.slice A l.length c, .slice B m.length d] w fun e w' => e = .returned (.bool (decide (l = m))) ∧ Below w.heap.size w w' := by
  by_cases hlen : l.length = m.length
  · have h0 : ((l.length : Int) != (m.length : Int)) = false := by simp [hlen]
    have h0' : (l.length == m.length) = true := by simp [hlen]
    have HL := Lib.hid hlen
    clear hlen
    go_enter Tryz.func15, Tryz.ntmps15
    go_wp2
    go_loopw [5] (fun i wr => ∃ k : Nat, k ≤ l.length ∧ i = .int .i64 k ∧ Agree l m k ∧ Below w.heap.size w wr) (fun i _ => l.length - (intOf i).toNat)
    case atStart => exact ⟨0, by omega, rfl, Agree.zero l m, Below.refl _ _⟩
    case round =>
      clear h0 h0'
      obtain ⟨k, hk, rfl, hag, hb⟩ := hrel
      by_cases hlt : k < l.length
      · obtain ⟨b1, o1, rfl, hc1⟩ := (hA.below hb).num k hlt
        have hlt' : k < m.length := by have := HL.out; omega
        obtain ⟨b2, o2, rfl, hc2⟩ := (hB.below hb).num k hlt'
        by_cases he : nth l k = nth m k
        · have hne : (((nth l k : Nat) : Int) != ((nth m k : Nat) : Int)) = false := by simp [he]
          have HE := Lib.hid he
          clear he
          go_wp2
          go_quiet (fail)
          go_wp2
          go_roundw
          case rel => exact ⟨k + 1, by omega, by go_num, hag.succ HE.out, below_drewN hb _⟩
          case measure => simp [intOf]; omega
        · have hne : (((nth l k : Nat) : Int) != ((nth m k : Nat) : Int)) = true := by simp; omega
          have hfin : decide (l = m) = false := by
            rw [decide_eq_false_iff_not]; intro e; exact he (by rw [e])
          have HF := Lib.hid hfin
          clear he hfin
          go_wp2
          go_quiet (fail)
          go_wp2
          go_ret
          exact ⟨by rw [HF.out]; rfl, below_drewN hb _⟩
      · obtain rfl : k = l.length := by omega
        have hfin : decide (l = m) = true := by
          rw [decide_eq_true_eq]; exact list_ext_nth HL.out hag
        have HF := Lib.hid hfin
        clear hfin
        go_wp2
        go_ret
        exact ⟨by rw [HF.out]; rfl, hb⟩
  · have h0 : ((l.length : Int) != (m.length : Int)) = true := by simp; omega
    have h0' : (l.length == m.length) = false := by simp; omega
    have hfin : decide (l = m) = false := by
      rw [decide_eq_false_iff_not]; intro e; exact hlen (by rw [e])
    have HF := Lib.hid hfin
    clear hlen hfin
    go_enter Tryz.func15, Tryz.ntmps15
    go_wp2
    go_ret
    exact ⟨by rw [HF.out]; rfl, Below.refl _ _⟩

/-- the block of a lent list: it, and two marks behind -/
def LentB (w : World) (b : Nat) (l : List Nat) : Prop := w.heap[b]? = some (.cells (ns .u8 (l ++ [91, 92])).toArray 5 (0, 0))
theorem LentB.below {w w' : World} {b : Nat} {l : List Nat} (h : LentB w b l) (hb : Below w.heap.size w w') : LentB w' b l := by
  have : b < w.heap.size := (Array.getElem?_eq_some_iff.1 h).1
  unfold LentB; rw [hb.block b this]; exact h
theorem LentB.at {w : World} {b : Nat} {l : List Nat} (h : LentB w b l) : At w (some ⟨b, 0, none⟩) (ns .u8 l) := by
  have h1 : At w (some ⟨b, 0, none⟩) (ns .u8 l ++ ns .u8 [91, 92]) := by rw [← ns_append]; exact At.whole h
  exact h1.pre

set_option maxRecDepth 100000 in
set_option maxHeartbeats 400000 in
theorem lent_any (A : Option Addr) (c : Nat) (l : List Nat) (w : World) (hl : l.length ≤ 1000000000) (hA : At w A (ns .u8 l)) (hnil : A = none → c = 0) :
    Calls Tryz.prog 16 #[.slice A l.length c] w fun e w' => e = .returned (.slice (some ⟨w.heap.size, 0, none⟩) l.length (l.length + 2)) ∧ LentB w' w.heap.size l ∧ Below w.heap.size w w' := by
  go_enter Tryz.func16, Tryz.ntmps16
  go_wp2_with (first
    | (with_reducible refine wp_make0 rfl _ _ 22 5 (.int .u8 0) 1 1 rfl Tryz.underlying22 Tryz.info5 w.heap.size .i64 .i64 _ (l.length + 2) rfl rfl (by omega) (by omega) (by omega) (Nat.le_refl _) ?_; intro w1 ho1 hg1; have hb1 := below_of_grown hg1)
    | (at_builtin; (refine wp_append_fits rfl (.tmp 8) (.tmp 9) 22 5 (.int .u8 0) 1 1 rfl Tryz.underlying22 Tryz.info5 (by decide) w.heap.size w.heap.size 0 (l.length + 2) [] rfl ho1 A l.length c (ns .u8 l) rfl (by simp [ns]) (hA.below hb1) hnil (ns_one .u8 l) (by omega) ?_); intro w2 ho2 hg2; simp only [Nat.zero_add, List.nil_append] at ho2 ⊢)
    | (at_builtin; (refine wp_append_fits rfl (.tmp 11) (.tmp 12) 22 5 (.int .u8 0) 1 1 rfl Tryz.underlying22 Tryz.info5 (by decide) w.heap.size w.heap.size l.length (l.length + 2) (ns .u8 l) rfl (ho2.alloc _) (some ⟨w2.heap.size, 0, none⟩) 2 2 [.int .u8 91, .int .u8 92] rfl (by simp) (At.whole (heap_alloc_new w2 _)) (by simp) (ns_one .u8 [91, 92]) (by omega) ?_); intro w3 ho3 hg3))
  go_ret
  refine ⟨rfl, ?_, ?_⟩
  · have := own_full ho3
    unfold LentB
    rw [this, ns_append]; rfl
  · exact below_grown (below_alloc0 (below_grown hb1 hg2 hb1.size (by simp)) _) hg3 (by have := hg2.size; have := hg1.size; simp; omega) (by simp)

set_option maxRecDepth 100000 in
set_option maxHeartbeats 400000 in
theorem whole_any (b : Nat) (B : Option Addr) (d : Nat) (l : List Nat) (w : World) (hl : l.length ≤ 1000000000) (hb : LentB w b l) (hB : At w B (ns .u8 l)) :
    Calls Tryz.prog 18 #[.slice (some ⟨b, 0, none⟩) l.length (l.length + 2), .slice B l.length d] w fun e w' => e = .returned (.bool true) ∧ Below w.heap.size w w' := by
  have hlen : (ns .u8 (l ++ [91, 92])).length = l.length + 2 := by simp [ns]
  have h1 : w.cell? ⟨b, l.length, none⟩ = some (.int .u8 91) := by
    rw [cell_of_row w b l.length _ 5 (0, 0) hb]; simp [ns]
  have h2 : w.cell? ⟨b, l.length + 1, none⟩ = some (.int .u8 92) := by
    rw [cell_of_row w b (l.length + 1) _ 5 (0, 0) hb]; simp [ns]
  clear hlen
  have HA := hb.at
  have hs := Lib.hid (same_any (some ⟨b, 0, none⟩) B (l.length + 2) d l l w (by omega) (by omega) HA hB)
  go_enter Tryz.func18, Tryz.ntmps18
  go_wp2_with (go_at_call 15; refine hs.out.mono ?_; rintro e w1 ⟨rfl, hbel⟩)
  go_ret
  exact ⟨by simp, hbel⟩

set_option maxRecDepth 100000 in
set_option maxHeartbeats 400000 in
theorem spoil_any (b n : Nat) (cs : Array Value) (w : World) (hn : n ≤ 1000000000) (hb : w.heap[b]? = some (.cells cs 5 (0, 0))) (hc : cs.size = n + 2) :
    Calls Tryz.prog 19 #[.slice (some ⟨b, 0, none⟩) n (n + 2)] w fun e w' => e = .returned (.tuple #[]) ∧ w.grownBy w' (some b) := by
  go_enter Tryz.func19, Tryz.ntmps19
  go_wp2
  go_loopw [3] (fun i wr => ∃ k : Nat, k ≤ n + 2 ∧ i = .int .i64 k ∧ (∃ cs : Array Value, wr.heap[b]? = some (.cells cs 5 (0, 0)) ∧ cs.size = n + 2) ∧ w.grownBy wr (some b)) (fun i _ => n + 2 - (intOf i).toNat)
  case atStart => exact ⟨0, by omega, rfl, ⟨cs, hb, hc⟩, World.grownBy.refl _ _⟩
  case round =>
    clear hb hc
    obtain ⟨k, hk, rfl, ⟨cs, hb, hc⟩, hg⟩ := hrel
    by_cases hlt : k < n + 2
    · obtain ⟨u, hcell⟩ : ∃ u, wr.cell? ⟨b, k, none⟩ = some u := ⟨cs[k], by rw [cell_of_row wr b k _ 5 (0, 0) hb]; exact Array.getElem?_eq_getElem (by omega)⟩
      have hfr := frozen_of_row wr b k cs 5 hb
      have HB := Lib.hid hb
      have HC := Lib.hid hc
      clear hb hc
      go_wp2
      go_roundw
      case rel =>
        refine ⟨k + 1, by omega, by go_num, ⟨_, heap_setCell_same wr b k cs 5 _ HB.out, by rw [Array.size_setIfInBounds]; exact HC.out⟩, ?_⟩
        exact ⟨hg.os, hg.tape, hg.output, by simp [World.setCell]; exact hg.size, fun i hi hne => by
          rw [Below.heap_setCell _ _ _ _ (by intro e; exact hne (by rw [e]))]; exact hg.block i hi hne⟩
      case measure => simp [intOf]; omega
    · obtain rfl : k = n + 2 := by omega
      go_wp2
      go_end0
      exact ⟨rfl, hg⟩
end Go.Proofs.YtfbjjblgcgjndaaGreat

/- Contracts of the law's filled and of SameInts. -/
namespace Go.Proofs.YtfbjjblgcgjndaaGreat
open Go.RowKit

def GivesFill (l : List Nat) (w : World) (e : Ending) (w' : World) : Prop := ∃ A c, e = .returned (.slice A l.length c) ∧ Buf w.heap.size w' (.slice A l.length c) l ∧ Below w.heap.size w w'
/-- whole numbers as cells -/
def is64 (l : List Nat) : List Value := ns .i64 l
end Go.Proofs.YtfbjjblgcgjndaaGreat

/- Contracts of the disk's Pending and Image. -/
namespace Go.Proofs.YtfbjjblgcgjndaaGreat
open Go.RowKit Go.Maps
attribute [local go_sem ↓] execOp_alloc185
attribute [local go_sem] run_alloc185'

def GivesInts (l : List Nat) (w : World) (e : Ending) (w' : World) : Prop := ∃ A c, e = .returned (.slice A l.length c) ∧ w'.ownsRow w.heap.size 3 1 (.slice A l.length c) l.length (ns .i64 l) ∧ Below w.heap.size w w'
theorem own_slice {w : World} {n0 n : Nat} {e : TypeId} {v : Value} {xs : List Value} (h : w.ownsRow n0 e 1 v n xs) : ∃ A c, v = .slice A n c := by
  obtain ⟨A, c, e, _⟩ := At.own h
  exact ⟨A, c, e⟩
theorem take_snoc {α : Type} (l : List α) (j : Nat) (x : α) (h : l[j]? = some x) : l.take (j + 1) = l.take j ++ [x] := by
  rw [List.take_add_one, h]; rfl
end Go.Proofs.YtfbjjblgcgjndaaGreat

/- Contract of the disk's Image. -/
namespace Go.Proofs.YtfbjjblgcgjndaaGreat
open Go.RowKit Go.Maps

/-- the sectors so far -/
theorem flat_snoc (l : List (List Nat)) (j : Nat) (h : j < l.length) : (l.take (j + 1)).flatten = (l.take j).flatten ++ l.getD j [] := by
  rw [take_snoc l j l[j] (List.getElem?_eq_getElem h), List.flatten_append]
  simp [List.getD_eq_getElem?_getD, List.getElem?_eq_getElem h]
theorem flat_take {l : List (List Nat)} (h : ∀ s ∈ l, s.length = 128) (j : Nat) (hj : j ≤ l.length) : (l.take j).flatten.length = 128 * j := by
  induction j with
  | zero => simp
  | succ j ih =>
    rw [flat_snoc l j hj, List.length_append, ih (by omega)]
    have : (l.getD j []).length = 128 := by
      rw [List.getD_eq_getElem?_getD, List.getElem?_eq_getElem hj]; exact h _ (List.getElem_mem _)
    omega
set_option maxRecDepth 100000 in
set_option maxHeartbeats 1000000 in
theorem image_any (n0 : Nat) (w : World) (p : Nat) (D : Dsk) (S : Nat → Prop) (h : DiskAt n0 w p D S) :
    Calls Tryz.prog 33 #[.pointer (some ⟨p, 0, none⟩)] w (GivesFill D.last.flatten w) := by
  obtain ⟨ok, q, M, hin, hft⟩ := h
  have hlen : D.last.length ≤ 131072 := by obtain ⟨k, a, b, c⟩ := ok.pages; omega
  have h128 : ∀ s ∈ D.last, s.length = 128 := fun s hs => (ok.last s hs).1
  have c0 : w.cell? ⟨p, 0, none⟩ = some (.slice (some ⟨q.b, 0, none⟩) D.last.length D.last.length) := hin.rcd.cell 0 (by omega)
  have hwr : IntKind.i64.wrap ((D.last.length : Int) * 128) = ((D.last.length * 128 : Nat) : Int) := by rw [IntKind.wrap_i64]; omega
  have hlp := hin.rcd.lt
  have HL := Lib.hid hlen
  have HIN := Lib.hid hin
  have HFT := Lib.hid hft
  have H128 := Lib.hid h128
  have HC0 := Lib.hid c0
  clear hin hft ok h128
  go_enter Tryz.func33, Tryz.ntmps33
  go_wp2_with (with_reducible refine wp_make0 rfl _ _ 22 5 (.int .u8 0) 1 1 rfl Tryz.underlying22 Tryz.info5 w.heap.size .i64 .i64 _ (D.last.length * 128) rfl rfl (by push_cast; rfl) (by omega) (by omega) (Nat.le_refl _) ?_; intro w1 ho1 hg1; have c0 : w1.cell? ⟨p, 0, none⟩ = some (.slice (some ⟨q.b, 0, none⟩) D.last.length D.last.length) := ((below_of_grown hg1).cell (p := ⟨p, 0, none⟩) hlp).trans HC0.out)
  have hB0 : Buf w.heap.size w1 (.slice (some ⟨w.heap.size, 0, none⟩) 0 (D.last.length * 128)) [] := ho1
  have hb1 : Below w.heap.size w w1 := below_of_grown hg1
  have HB0 := Lib.hid hB0
  have HB1 := Lib.hid hb1
  clear hB0 hb1 ho1 hg1 hwr c0
  go_loopw [3, 17] (fun v i wr => ∃ j : Nat, j ≤ D.last.length ∧ i = .int .i64 j ∧ Buf w.heap.size wr v (D.last.take j).flatten ∧ Below w.heap.size w wr) (fun _ i _ => D.last.length - (intOf i).toNat)
  case atStart => exact ⟨0, by omega, rfl, HB0.out, HB1.out⟩
  case round =>
    obtain ⟨j, hj, rfl, hv, hb⟩ := hrel
    obtain ⟨A0, c0, rfl⟩ := own_slice hv
    have hfl := flat_take H128.out j hj
    rw [hfl] at hv ⊢
    by_cases hlt : j < D.last.length
    · have c1 : wr.cell? ⟨p, 0, none⟩ = some (.slice (some ⟨q.b, 0, none⟩) D.last.length D.last.length) := (hb.cell (p := ⟨p, 0, none⟩) hlp).trans HC0.out
      have hin := HIN.out.keep (G := fun _ => False) (.of_below hb) (fun _ _ h => h)
      have hrg : At wr (some ⟨q.b, j * 128, none⟩) (ns .u8 (D.last.getD j [])) := fun _ => ⟨_, _, rfl, hin.last.at j hlt⟩
      have h128 : (D.last.getD j []).length = 128 := by rw [List.getD_eq_getElem?_getD, List.getElem?_eq_getElem hlt]; exact H128.out _ (List.getElem_mem _)
      have a1 : (j : Int) < (D.last.length : Int) := by omega
      have HV := Lib.hid hv
      have HB := Lib.hid hb
      have HRG := Lib.hid hrg
      have HJ := Lib.hid h128
      have HFL := Lib.hid hfl
      have HIN2 := Lib.hid hin
      have hbd : (D.last.take j).flatten.length + (D.last.getD j []).length ≤ 140737488355328 := by have := HL.out; omega
      have HBD := Lib.hid hbd
      have hbs := Lib.hid hb.size
      clear hv hb hrg h128 hfl hin hbd
      go_wp2_with (at_builtin; go_loud (refine buf_append rfl (.tmp 20) (.tmp 27) rfl Tryz.underlying22 Tryz.info5 w.heap.size (.slice A0 (128 * j) c0) (D.last.take j).flatten rfl HV.out (some ⟨q.b, j * 128, none⟩) 128 128 (D.last.getD j []) rfl HJ.out.symm HRG.out (by simp) HBD.out hbs.out HB.out ?_); intro v1 w1 hv1 hb1 hn1)
      have HV1 := Lib.hid hv1
      clear hv1
      go_wp2
      case roundEnd =>
        have t1 := HL.out
        refine ⟨⟨j + 1, by omega, by push_cast; rfl, ?_, hb1⟩, by simp only [intOf]; omega⟩
        rw [flat_snoc _ _ hlt]; exact HV1.out
    · obtain rfl : j = D.last.length := by omega
      rw [List.take_length] at hv hfl
      have HV := Lib.hid hv
      have HFL := Lib.hid hfl
      clear hv hfl
      go_wp2
      go_ret
      refine ⟨A0, c0, ?_, ?_, hb⟩
      · rw [HFL.out]; rfl
      · rw [HFL.out]; exact HV.out
end Go.Proofs.YtfbjjblgcgjndaaGreat

/- Disk, plain laws: a disk that is calm; what settles, sector by sector. -/
namespace Go.Proofs.YtfbjjblgcgjndaaGreat

/-- nothing fails -/
def Dsk.Calm (D : Dsk) : Prop := D.dark = false ∧ D.trip = -1 ∧ ∀ j, D.f j = -1
theorem Dsk.Calm.begin {D : Dsk} (h : D.Calm) (k : Nat) : D.begin k = (0, D.go k) := by
  obtain ⟨h1, h2, h3⟩ := h
  unfold Dsk.begin
  rw [if_neg (by simp [h1]), if_neg (by omega), if_neg (by have := h3 k; omega)]
theorem Dsk.Calm.go {D : Dsk} (h : D.Calm) (k : Nat) : (D.go k).Calm := by
  obtain ⟨h1, h2, h3⟩ := h
  refine ⟨h1, ?_, fun j => ?_⟩
  · show dec1 D.trip = -1
    rw [h2]; rfl
  · show turn D.f k (dec1 (D.f k)) j = -1
    by_cases e : j = k
    · subst e; rw [turn_same, h3 j]; rfl
    · rw [turn_other _ _ _ _ e]; exact h3 j
theorem Dsk.Calm.put {D : Dsk} (h : D.Calm) (a : Nat) (b : List Nat) (k : Nat) : (D.put a b k).Calm := h
theorem Dsk.Calm.settle {D : Dsk} (h : D.Calm) (kept : Nat → Bool) : (D.settle kept).Calm := h
theorem Dsk.cut_calm (D : Dsk) (bs : List Bool) : (D.cut bs).Calm := ⟨rfl, rfl, fun _ => rfl⟩
theorem Dsk.new_calm (p : Nat) : (Dsk.new p).Calm := ⟨rfl, rfl, fun _ => rfl⟩
theorem Dsk.settle_pages (D : Dsk) (kept : Nat → Bool) : (D.settle kept).pages = D.pages := by
  unfold Dsk.pages; rw [show (D.settle kept).last.length = D.last.length from settled_length _ _ _ _]
theorem Dsk.cut_pages (D : Dsk) (bs : List Bool) : (D.cut bs).pages = D.pages := D.settle_pages _
theorem Dsk.new_pages (p : Nat) : (Dsk.new p).pages = p := by simp [Dsk.pages, Dsk.new]
theorem Dsk.Calm.write {D : Dsk} (h : D.Calm) (pg : Nat) (hp : pg < D.pages) (b : List Nat) (hb : b.length = 1024 ∨ b.length = 128) : D.write (pg : Int) b = (0, (D.go 2).put (8 * pg) b (b.length / 128)) := by
  unfold Dsk.write
  rw [h.begin 2, if_neg (by simp), if_neg (by omega), if_neg (by omega)]
  simp
theorem Dsk.Calm.sync {D : Dsk} (h : D.Calm) : D.sync = (0, (D.go 3).settle fun _ => true) := by
  unfold Dsk.sync
  rw [h.begin 3, if_neg (by simp)]
/-- a page of one byte, part by part -/
theorem puts_const (a c m k : Nat) (h : 128 * k ≤ m) : puts a (List.replicate m c) k = (List.range k).map fun i => (a + i, List.replicate 128 c) := by
  induction k with
  | zero => rfl
  | succ k ih =>
    rw [puts, ih (by omega), List.range_succ, List.map_append]
    simp only [List.map_cons, List.map_nil, List.drop_replicate, List.take_replicate]
    rw [show min 128 (m - 128 * k) = 128 by omega]
theorem settled_congr (l : List (List Nat)) (c d : List (Nat × List Nat)) (kept : Nat → Bool) (n : Nat) (h : ∀ i, i < n → c[i]? = d[i]?) : settled l c kept n = settled l d kept n := by
  induction n with
  | zero => rfl
  | succ n ih =>
    have e := ih (fun i hi => h i (by omega))
    simp only [settled, h n (by omega), e]
/-- one write more -/
theorem settled_snoc (l : List (List Nat)) (c : List (Nat × List Nat)) (x : Nat × List Nat) (kept : Nat → Bool) :
    settled l (c ++ [x]) kept (c.length + 1) = if kept c.length then (settled l c kept c.length).set x.1 x.2 else settled l c kept c.length := by
  have e := settled_congr l (c ++ [x]) c kept c.length (fun i hi => List.getElem?_append_left hi)
  simp only [settled, List.getElem?_concat_length, e]
theorem settled_none (l : List (List Nat)) (kept : Nat → Bool) (n : Nat) : settled l [] kept n = l := by
  induction n with
  | zero => rfl
  | succ n ih => simp [settled, ih]
theorem secs_last (D : Dsk) (h : D.cache = []) (a k : Nat) : D.secs a k = ((List.range k).map fun i => D.last.getD (a + i) []).flatten := by
  unfold Dsk.secs
  congr 1
  refine List.map_congr_left fun i _ => ?_
  unfold Dsk.sec
  rw [h]
  rfl
/-- the parts of rows of one length -/
theorem flat_part {L : List (List Nat)} {m : Nat} (h : ∀ s ∈ L, s.length = m) (i : Nat) (hi : i < L.length) : (L.flatten.drop (m * i)).take m = L.getD i [] := by
  induction L generalizing i with
  | nil => simp at hi
  | cons s L ih =>
    have hs : s.length = m := h s (by simp)
    cases i with
    | zero => simp [← hs]
    | succ i =>
      have := ih (fun t ht => h t (by simp [ht])) i (by simpa using hi)
      rw [List.flatten_cons, show m * (i + 1) = s.length + m * i by rw [hs, Nat.mul_add]; omega, ← List.drop_drop, List.drop_left, this]
      simp
theorem rows_length {L : List (List Nat)} {m : Nat} (h : ∀ s ∈ L, s.length = m) : L.flatten.length = m * L.length := by
  induction L with
  | nil => simp
  | cons s L ih =>
    rw [List.flatten_cons, List.length_append, ih (fun t ht => h t (by simp [ht])), h s (by simp), List.length_cons, Nat.mul_add]; omega
end Go.Proofs.YtfbjjblgcgjndaaGreat

/- The disk's Read: a page that is there. -/
namespace Go.Proofs.YtfbjjblgcgjndaaGreat
open Go.RowKit Go.Maps
attribute [local go_sem ↓] execOp_alloc183
attribute [local go_sem] run_alloc183'
theorem read_push {w wY w8 : World} {br : Nat} {v v1 : Value} {l l0 : List Nat} (F1 : Box wY br v 22) (F2 : Buf w.heap.size wY v l) (F4 : Chg (fun g => g = br) w wY) (hb : br < w.heap.size)
    (ho1 : w8.ownsRow w.heap.size 5 1 v1 (l.length + 128) (ns .u8 l ++ ns .u8 l0)) (hl0 : l0.length = 128)
    (hor1 : (wY.grownBy w8 v.ownBlock ∧ v1.ownBlock = v.ownBlock) ∨ (wY.grownBy w8 none ∧ ∃ g, v1.ownBlock = some g ∧ wY.heap.size ≤ g)) :
    Box w8 br v 22 ∧ Box (w8.setCell ⟨br, 0, none⟩ v1) br v1 22 ∧ Buf w.heap.size (w8.setCell ⟨br, 0, none⟩ v1) v1 (l ++ l0) ∧ Chg (fun g => g = br) w (w8.setCell ⟨br, 0, none⟩ v1) := by
  have hch := push_chg hor1
  have hbv : ¬ blk v br := fun h => by have := (row_lt F2 h).1; omega
  have hX := F1.keep hch hbv
  have hbv1 : ¬ blk v1 br := fun h => by
    rcases push_blk hor1 h with a | a
    · exact hbv a
    · have := F4.size; omega
  have hc8 : Chg (fun g => g = br) w w8 := F4.trans hch (fun g hg h => by have := (row_lt F2 h).1; omega)
  have hcs := setCell_chg w8 br 0 v1
  refine ⟨hX, ?_, ?_, hc8.trans hcs (fun _ _ h => h)⟩
  · have := heap_setCell_same w8 br 0 _ 22 v1 hX
    unfold Box
    rw [this]; rfl
  · have : Buf w.heap.size w8 v1 (l ++ l0) := by
      unfold Buf
      rw [List.length_append, hl0, ns_append]; exact ho1
    exact own_chg this hcs (fun g hg e => hbv1 (by rw [← show g = br from e]; exact hg))
set_option maxRecDepth 100000 in
set_option maxHeartbeats 4000000 in
theorem read_do (n0 : Nat) (w : World) (p : Nat) (D : Dsk) (S : Nat → Prop) (pg : Nat) (bp bd br : Nat) (h : DiskAt n0 w p D S) (h1 : Box w bp (.int .i64 (pg : Int)) 3) (h2 : Box w bd (.pointer (some ⟨p, 0, none⟩)) 26) (h3 : Box w br (.slice none 0 0) 22)
    (hpg : pg < D.pages) (hS : ∀ g, S g → g ≠ br) (ha1 : bp ≠ br) (ha2 : bd ≠ br) (hc : D.cache.length ≤ 1000000000000) :
    Calls Tryz.prog 82 #[.pointer (some ⟨bp, 0, none⟩), .pointer (some ⟨bd, 0, none⟩), .pointer (some ⟨br, 0, none⟩)] w fun e w' => e = .returned (.int .u16 0) ∧ ∃ v, Box w' br v 22 ∧ Buf w.heap.size w' v (D.secs (8 * pg) 8) ∧ Chg (fun g => g = br) w w' := by
  have c1 := h1.cell
  have c2 := h2.cell
  have hp := fun n => (pages_any (h.below (below_drewN (Below.refl w.heap.size w) n))).mono fun _ _ (h : _ ∧ _) => And.intro h.1 h.2.symm
  have HP := Lib.hid hp
  have hneg : ¬ ((pg : Int) < 0) := by omega
  have hd : decide ((pg : Int) < 0) = false := by simp
  have hd2 : decide ((D.pages : Int) ≤ (pg : Int)) = false := by simp; omega
  have hd3 : decide (D.pages ≤ pg) = false := by simp; omega
  have hpb : pg < 16384 := by obtain ⟨q, a, b, c⟩ := h.1.pages; unfold Dsk.pages at hpg; omega
  have hpl : 8 * pg + 8 ≤ D.last.length := by obtain ⟨q, a, b, c⟩ := h.1.pages; unfold Dsk.pages at hpg; omega
  have HPG := Lib.hid hpg
  have HPB := Lib.hid hpb
  have HPL := Lib.hid hpl
  have H1 := Lib.hid h1
  have H2 := Lib.hid h2
  have H3 := Lib.hid h3
  have HS := Lib.hid hS
  have A1 := Lib.hid ha1
  have A2 := Lib.hid ha2
  have HC := Lib.hid hc
  have OK := Lib.hid h.1
  obtain ⟨ok, q, M, hin, hft⟩ := h
  have HIN := Lib.hid hin
  have HFT := Lib.hid hft
  clear hp h1 h2 h3 hS ha1 ha2 hc hin hft ok hpg hpl
  go_enter Tryz.func82, Tryz.ntmps82
  go_wp2_with fail
  go_quiet ((go_at_call 40; exact Calls.quiet_of_same (HP.out _)))
  go_wp2_with fail
  go_loopw [4] (fun i wr => ∃ j : Nat, j ≤ 8 ∧ i = .int .i64 ((8 * pg + j : Nat) : Int) ∧ ∃ v, Box wr br v 22 ∧ Buf w.heap.size wr v (D.secs (8 * pg) j) ∧ Chg (fun g => g = br) w wr) (fun i _ => 8 * pg + 8 - (intOf i).toNat)
  case atStart =>
    refine ⟨0, by omega, ?_, _, H3.out.keep (G := fun _ => False) ((Chg.refl _ w).drewN nq) (fun h => h), ?_, (Chg.refl _ w).drewN nq⟩
    · simp; omega
    · rw [Dsk.secs_zero]; exact Buf.nil _ _
  case round =>
    obtain ⟨j, hj, rfl, v, hbox, hbuf, hch⟩ := hrel
    have b1 := H1.out.keep hch (fun h => A1.out h)
    have b2 := H2.out.keep hch (fun h => A2.out h)
    have c1 := b1.cell
    have c2 := b2.cell
    have hin := HIN.out.keep hch (fun g hg h => HS.out g (HFT.out g hg) h)
    by_cases hlt : j < 8
    · have d0 : wr.cell? ⟨p, 0, none⟩ = some (.slice (some ⟨q.b, 0, none⟩) D.last.length D.last.length) := hin.rcd.cell 0 (by omega)
      have d1 : wr.cell? ⟨p, 1, none⟩ = some q.C := hin.rcd.cell 1 (by omega)
      have d2 : wr.cell? ⟨p, 2, none⟩ = some (.map (some q.m)) := hin.rcd.cell 2 (by omega)
      obtain ⟨a, ha⟩ : ∃ a, a = 8 * pg + j := ⟨_, rfl⟩
      rw [← ha]
      have HA := Lib.hid ha
      have a1 : (a : Int) < (D.last.length : Int) := by have := HPL.out; omega
      have a2 : (a : Int) < ((pg : Int) + 1) * 8 := by omega
      have hHCH := Lib.hid hch
      have HB := Lib.hid hbuf
      have HBOX := Lib.hid hbox
      have HI := Lib.hid hin
      have l1 := b2.lt
      have l2 := hin.rcd.lt
      have l3 := hin.bases.2.2.2.2
      clear hch hbuf hbox hin ha b1 b2
      have hal : a < D.last.length := by omega
      have hl128 : (D.last.getD a []).length = 128 := by rw [List.getD_eq_getElem?_getD, List.getElem?_eq_getElem hal]; exact (OK.out.last _ (List.getElem_mem _)).1
      have hrg := HI.out.last.at a hal
      have hst := store183 wr zero128 (by simp [zero128]) _ hl128
      have HL128 := Lib.hid hl128
      clear hal hl128
      obtain ⟨l0, hl0⟩ : ∃ l0, l0 = D.last.getD a [] := ⟨_, rfl⟩
      rw [← hl0] at hrg hst HL128
      have HL0 := Lib.hid hl0
      clear hl0
      have i183 := Tryz.info108'
      have hnl0 : (ns .u8 l0).length = 128 := by rw [ns_length, HL128.out]
      go_wp2_with fail
      refine wp_load_mid 108 _ rfl q.b (a * 128) rfl (ns .u8 l0) _ hrg Tryz.underlying108 rfl (by rw [Tryz.info108', ns_length, HL128.out]) ?_
      clear hrg
      obtain ⟨w5, hw5⟩ : ∃ w5, w5 = wr.alloc (.cells (ns .u8 l0).toArray 108) := ⟨_, rfl⟩
      have hb5 : Below wr.heap.size wr w5 := by rw [hw5]; exact below_alloc0 (Below.refl _ _) _
      have hin5 := HI.out.keep (G := fun _ => False) (.of_below hb5) (fun _ _ h => h)
      have hlook := hin5.look a (by have := HPL.out; have := HPB.out; have := HA.out; omega)
      have e1 : w5.cell? ⟨bd, 0, none⟩ = some (.pointer (some ⟨p, 0, none⟩)) := (hb5.cell (p := ⟨bd, 0, none⟩) l1).trans c2
      have e2 : w5.cell? ⟨p, 2, none⟩ = some (.map (some q.m)) := (hb5.cell (p := ⟨p, 2, none⟩) l2).trans d2
      have e4 : w5.cell? ⟨p, 1, none⟩ = some q.C := (hb5.cell (p := ⟨p, 1, none⟩) l2).trans d1
      rw [← hw5] at hst
      have HW5 := Lib.hid hw5
      have HB5 := Lib.hid hb5
      have HIN5 := Lib.hid hin5
      have HC1 := Lib.hid c1
      have HC2 := Lib.hid c2
      clear hw5 hb5 hin5 c1 c2 d0 d1 d2 l1 l2 l3
      have fin : ∀ (s : List Nat) (wX : World), wX = wr.alloc (.cells (ns .u8 s).toArray 108) → s.length = 128 → s = D.sec a →
          ∃ wY, wX.drew = wY ∧ Box wY br v 22 ∧ Buf w.heap.size wY v (D.secs (8 * pg) j) ∧ At wY (some ⟨wr.heap.size, 0, none⟩) (ns .u8 s) ∧ Chg (fun g => g = br) w wY ∧ br < wr.heap.size ∧ w.heap.size ≤ wY.heap.size ∧ Box wX br v 22 := by
        rintro s wX rfl hs1 hs2
        have hbX : Below wr.heap.size wr (wr.alloc (.cells (ns .u8 s).toArray 108)).drew := below_drew0 (below_alloc0 (Below.refl _ _) _)
        refine ⟨_, rfl, HBOX.out.keep (G := fun _ => False) (.of_below hbX) (fun h => h), HB.out.below hbX, ?_, hHCH.out.trans (.of_below (F := fun g => g = br) hbX) (fun _ _ h => h), HBOX.out.lt, Nat.le_trans hHCH.out.size hbX.size, HBOX.out.keep (G := fun _ => False) (.of_below (below_alloc0 (Below.refl _ _) _)) (fun h => h)⟩
        exact At.whole (xs := ns .u8 s) (t := 108) (fr := (0, 0)) (heap_alloc_new wr _)
      have FIN := Lib.hid fin
      clear fin
      rcases hlook with ⟨hsec, c, hlk⟩ | ⟨i, x, hxi, hsec, hlk⟩
      · have HSEC := Lib.hid hsec
        clear hsec
        go_wp2_with fail
        obtain ⟨wY, hwY, f1, f2, f3, f4, f5, f6, f7⟩ := FIN.out l0 w5 HW5.out HL128.out (by rw [HL0.out, HSEC.out])
        have g1 := f7.cell
        have hbd : (D.secs (8 * pg) j).length + l0.length ≤ 140737488355328 := by
          rw [(D.secs_ok OK.out (8 * pg) j (by have := HPL.out; omega)).1, HL128.out]; omega
        have hsec' : D.secs (8 * pg) (j + 1) = D.secs (8 * pg) j ++ l0 := by rw [D.secs_succ, ← HA.out, HSEC.out, HL0.out]
        obtain ⟨A0, cc, rfl⟩ := own_slice f2
        have F1 := Lib.hid f1
        have F2 := Lib.hid f2
        have F3 := Lib.hid f3
        have F4 := Lib.hid f4
        have F6 := Lib.hid f6
        have SC := Lib.hid hsec'
        have HBD := Lib.hid hbd
        have HWY := Lib.hid hwY
        clear f1 f2 f3 f4 f6 f7 hlk e1 e2 e4 hst hbd hsec' hwY
        go_still_tail 2, (by kernel_rfl)
        change wpList _ _ _ _ _ w5.drew
        rw [HWY.out]
        refine wp_append2 rfl (.tmp 50) (.tmp 51) 22 5 (.int .u8 0) 1 1 rfl Tryz.underlying22 Tryz.info5 rfl (by decide) w.heap.size (.slice A0 (D.secs (8 * pg) j).length cc) (D.secs (8 * pg) j).length (ns .u8 (D.secs (8 * pg) j)) rfl F2.out (some ⟨wr.heap.size, 0, none⟩) 128 128 (ns .u8 l0) rfl (by rw [ns_length, HL128.out]) F3.out (by simp) (ns_one _ _) (by have := HBD.out; have := HL128.out; omega) (by have := HBD.out; have := HL128.out; omega) F6.out ?_
        intro v1 w8 ho1 hor1
        obtain ⟨A1, cc1, rfl⟩ := own_slice ho1
        obtain ⟨k1, k2, k3, k4⟩ := read_push F1.out F2.out F4.out H3.out.lt ho1 HL128.out hor1
        rw [← SC.out] at k3
        have m1 := k1.cell
        have m2 := frozen_of_row w8 br 0 _ 22 k1
        have K2 := Lib.hid k2
        have K3 := Lib.hid k3
        have K4 := Lib.hid k4
        clear k1 k2 k3 k4 ho1 hor1
        go_wp2
        case roundEnd =>
          have t1 := HA.out
          have t2 := HPB.out
          refine ⟨⟨j + 1, by omega, ?_, _, K2.out, K3.out, K4.out⟩, ?_⟩
          · congr 1; omega
          · simp only [intOf]; omega
      · have hsx := OK.out.cache x (List.mem_of_getElem? hxi)
        obtain ⟨V, cap, hCV, hAt, _⟩ := At.own HIN5.out.cache
        have hil := (List.getElem?_eq_some_iff.1 hxi).1
        obtain ⟨b, o, hV, hr⟩ := hAt (by intro e; have := congrArg List.length e; rw [wcells_length (c := D.cache) (fun x hx => (OK.out.cache x hx).2)] at this; simp at this; omega)
        subst hV
        rw [hCV] at e4
        have hxl : (ns .u8 x.2).length = 128 := by rw [ns_length, hsx.2.1]
        have hrx : w5.rangeAt b (o + i * 129 + 1) (ns .u8 x.2) := by
          intro k v hv
          have hk : k < 128 := by have := (List.getElem?_eq_some_iff.1 hv).1; omega
          rw [show o + i * 129 + 1 + k = o + (i * 129 + (k + 1)) by omega]
          refine hr _ _ ?_
          have := wcells_get (c := D.cache) (fun x hx => (OK.out.cache x hx).2) i hil (k + 1) (by omega)
          rw [this]
          rw [List.getElem?_eq_getElem hil] at hxi
          cases hxi
          simpa [wcell] using hv
        have a3 : (i : Int) < (D.cache.length : Int) := by omega
        have hst2 := store183 wr (ns .u8 l0).toArray (by simp [hnl0]) _ hsx.2.1
        rw [← HW5.out] at hst2
        obtain ⟨w6, hw6⟩ : ∃ w6, w6 = wr.alloc (.cells (ns .u8 x.2).toArray 108) := ⟨_, rfl⟩
        rw [← hw6] at hst2
        have HW6 := Lib.hid hw6
        have HXL := Lib.hid hsx.2.1
        have HSEC := Lib.hid hsec
        have HRX := Lib.hid hrx
        clear hw6 hsx hAt hr hsec hrx hxi hCV
        go_wp2_with fail
        refine wp_load_mid 108 _ rfl b (o + i * 129 + 1) rfl (ns .u8 x.2) _ HRX.out Tryz.underlying108 rfl (by rw [Tryz.info108', ns_length, HXL.out]) ?_
        go_wp2_with fail
        obtain ⟨wY, hwY, f1, f2, f3, f4, f5, f6, f7⟩ := FIN.out x.2 w6 HW6.out HXL.out HSEC.out.symm
        have g1 := f7.cell
        have hbd : (D.secs (8 * pg) j).length + x.2.length ≤ 140737488355328 := by
          rw [(D.secs_ok OK.out (8 * pg) j (by have := HPL.out; omega)).1, HXL.out]; omega
        have hsec' : D.secs (8 * pg) (j + 1) = D.secs (8 * pg) j ++ x.2 := by rw [D.secs_succ, ← HA.out, HSEC.out]
        obtain ⟨A0, cc, rfl⟩ := own_slice f2
        have F1 := Lib.hid f1
        have F2 := Lib.hid f2
        have F3 := Lib.hid f3
        have F4 := Lib.hid f4
        have F6 := Lib.hid f6
        have SC := Lib.hid hsec'
        have HBD := Lib.hid hbd
        have HWY := Lib.hid hwY
        clear f1 f2 f3 f4 f6 f7 hlk e1 e2 e4 hst hst2 hbd hsec' hwY
        go_still_tail 2, (by kernel_rfl)
        change wpList _ _ _ _ _ w6.drew
        rw [HWY.out]
        refine wp_append2 rfl (.tmp 50) (.tmp 51) 22 5 (.int .u8 0) 1 1 rfl Tryz.underlying22 Tryz.info5 rfl (by decide) w.heap.size (.slice A0 (D.secs (8 * pg) j).length cc) (D.secs (8 * pg) j).length (ns .u8 (D.secs (8 * pg) j)) rfl F2.out (some ⟨wr.heap.size, 0, none⟩) 128 128 (ns .u8 x.2) rfl (by rw [ns_length, HXL.out]) F3.out (by simp) (ns_one _ _) (by have := HBD.out; have := HXL.out; omega) (by have := HBD.out; have := HXL.out; omega) F6.out ?_
        intro v1 w8 ho1 hor1
        obtain ⟨A1, cc1, rfl⟩ := own_slice ho1
        obtain ⟨k1, k2, k3, k4⟩ := read_push F1.out F2.out F4.out H3.out.lt ho1 HXL.out hor1
        rw [← SC.out] at k3
        have m1 := k1.cell
        have m2 := frozen_of_row w8 br 0 _ 22 k1
        have K2 := Lib.hid k2
        have K3 := Lib.hid k3
        have K4 := Lib.hid k4
        clear k1 k2 k3 k4 ho1 hor1
        go_wp2
        case roundEnd =>
          have t1 := HA.out
          have t2 := HPB.out
          refine ⟨⟨j + 1, by omega, ?_, _, K2.out, K3.out, K4.out⟩, ?_⟩
          · congr 1; omega
          · simp only [intOf]; omega
    · obtain rfl : j = 8 := by omega
      have HV := Lib.hid hbuf
      have HX := Lib.hid hbox
      have HCH := Lib.hid hch
      clear hbuf hbox hch hin
      go_wp2_with fail
      go_ret
      exact ⟨rfl, v, HX.out, HV.out, HCH.out⟩
end Go.Proofs.YtfbjjblgcgjndaaGreat

/- Disk, plain laws: a trip, a fault. -/
namespace Go.Proofs.YtfbjjblgcgjndaaGreat

def Dsk.read (D : Dsk) (pg : Int) : Nat × List Nat × Dsk :=
  if (D.begin 1).1 ≠ 0 then ((D.begin 1).1, [], (D.begin 1).2)
  else if pg < 0 ∨ (D.pages : Int) ≤ pg then (2, [], D.go 1)
  else (0, D.secs (8 * pg.toNat) 8, D.go 1)
theorem Dsk.Calm.read {D : Dsk} (h : D.Calm) (pg : Nat) (hp : pg < D.pages) : D.read (pg : Int) = (0, D.secs (8 * pg) 8, D.go 1) := by
  unfold Dsk.read
  rw [h.begin 1, if_neg (by simp), if_neg (by omega)]
  simp

/-- behind i writes of a sector, with a trip of t -/
structure TripOk (D : Dsk) (t i m : Nat) : Prop where
  early : i ≤ t → D.dark = false ∧ D.trip = (t : Int) - (i : Int) ∧ D.cache.length = i ∧ D.n 2 = (i : Int)
  late : t < i → D.dark = true ∧ D.cache.length = t ∧ D.n 2 = (t : Int)
  f : ∀ j, D.f j = -1
  pages : D.pages = m
  reads : D.n 1 = 0
theorem TripOk.start (t m : Nat) : TripOk ((Dsk.new m).setTrip (t : Int)).2 t 0 m := by
  have e : ((Dsk.new m).setTrip (t : Int)).2 = { Dsk.new m with trip := (t : Int) } := by
    unfold Dsk.setTrip
    rw [if_neg (by omega)]
    rfl
  rw [e]
  exact ⟨fun _ => ⟨rfl, by simp, rfl, rfl⟩, fun h => absurd h (by omega), fun _ => rfl, by simp [Dsk.pages, Dsk.new], rfl⟩
theorem TripOk.step {D : Dsk} {t i m : Nat} (h : TripOk D t i m) (pg : Nat) (hp : pg < m) (b : List Nat) (hb : b.length = 128) :
    (D.write (pg : Int) b).1 = (if i < t then 0 else 4) ∧ TripOk (D.write (pg : Int) b).2 t (i + 1) m := by
  have hfj := h.f
  have hpg := h.pages
  by_cases hi : i ≤ t
  · obtain ⟨h1, h2, h3, h4⟩ := h.early hi
    by_cases hlt : i < t
    · have hbg : D.begin 2 = (0, D.go 2) := by
        unfold Dsk.begin
        rw [if_neg (by simp [h1]), if_neg (by omega), if_neg (by have := hfj 2; omega)]
      have hw : D.write (pg : Int) b = (0, (D.go 2).put (8 * pg) b (b.length / 128)) := by
        unfold Dsk.write
        rw [hbg, if_neg (by simp), if_neg (by omega), if_neg (by omega)]
        simp
      rw [hw, if_pos hlt]
      refine ⟨rfl, fun _ => ⟨h1, ?_, ?_, ?_⟩, fun h => absurd h (by omega), fun j => ?_, hpg, ?_⟩
      · show dec1 D.trip = _
        rw [h2, dec1_pos (by omega)]; omega
      · show (D.cache ++ puts (8 * pg) b (b.length / 128)).length = i + 1
        rw [List.length_append, puts_length, h3, hb]
      · show turn D.n 2 (D.n 2 + 1) 2 = _
        rw [turn_same, h4]; omega
      · show turn D.f 2 (dec1 (D.f 2)) j = -1
        by_cases e : j = 2
        · subst e; rw [turn_same, hfj 2]; rfl
        · rw [turn_other _ _ _ _ e]; exact hfj j
      · show turn D.n 2 (D.n 2 + 1) 1 = 0
        rw [turn_other _ _ _ _ (by omega)]; exact h.reads
    · obtain rfl : i = t := by omega
      have hbg : D.begin 2 = (4, D.off) := by
        unfold Dsk.begin
        rw [if_neg (by simp [h1]), if_pos (by omega)]
      have hw : D.write (pg : Int) b = (4, D.off) := by
        unfold Dsk.write
        rw [hbg, if_pos (by simp)]
      rw [hw, if_neg hlt]
      exact ⟨rfl, fun h => absurd h (by omega), fun _ => ⟨rfl, h3, h4⟩, hfj, hpg, h.reads⟩
  · obtain ⟨h1, h3, h4⟩ := h.late (by omega)
    have hbg : D.begin 2 = (4, D) := by
      unfold Dsk.begin
      rw [if_pos h1]
    have hw : D.write (pg : Int) b = (4, D) := by
      unfold Dsk.write
      rw [hbg, if_pos (by simp)]
    rw [hw, if_neg (by omega)]
    exact ⟨rfl, fun h => absurd h (by omega), fun _ => ⟨h1, h3, h4⟩, hfj, hpg, h.reads⟩
theorem TripOk.dark {D : Dsk} {t i m : Nat} (h : TripOk D t i m) : D.dark = decide (t < i) := by
  by_cases hi : i ≤ t
  · rw [(h.early hi).1, decide_eq_false (by omega)]
  · rw [(h.late (by omega)).1, decide_eq_true (by omega)]
theorem TripOk.count {D : Dsk} {t i m : Nat} (h : TripOk D t i m) : D.cache.length = min i t ∧ D.n 2 = ((min i t : Nat) : Int) := by
  by_cases hi : i ≤ t
  · obtain ⟨_, _, h3, h4⟩ := h.early hi
    rw [Nat.min_eq_left hi]; exact ⟨h3, h4⟩
  · obtain ⟨_, h3, h4⟩ := h.late (by omega)
    rw [Nat.min_eq_right (by omega)]; exact ⟨h3, h4⟩

/-- a disk with a fault beside one without -/
structure FailOk (D C : Dsk) (o b met : Nat) : Prop where
  dark : D.dark = false
  trip : D.trip = -1
  other : ∀ j, j ≠ o → D.f j = -1
  here : D.f o = if met ≤ b then (b : Int) - (met : Int) else -1
  last : D.last = C.last
  cache : D.cache = C.cache
  calm : C.Calm
  pages : D.pages = 4
theorem FailOk.start (o b : Nat) (h1 : 1 ≤ o) (h3 : o ≤ 3) : ((Dsk.new 4).setFail (o : Int) (b : Int)).1 = 0 ∧ FailOk ((Dsk.new 4).setFail (o : Int) (b : Int)).2 (Dsk.new 4) o b 0 := by
  have e : (Dsk.new 4).setFail (o : Int) (b : Int) = (0, { Dsk.new 4 with f := turn (Dsk.new 4).f o (b : Int) }) := by
    unfold Dsk.setFail
    rw [if_neg (by omega)]
    rfl
  rw [e]
  refine ⟨rfl, rfl, rfl, fun j hj => ?_, ?_, rfl, rfl, Dsk.new_calm 4, Dsk.new_pages 4⟩
  · show turn _ o _ j = -1
    rw [turn_other _ _ _ _ hj]; rfl
  · show turn _ o _ o = _
    rw [turn_same, if_pos (by omega)]; simp
theorem FailOk.begin {D C : Dsk} {o b met : Nat} (h : FailOk D C o b met) (k : Nat) :
    D.begin k = (if k = o ∧ met = b then (6, D.fall k) else (0, D.go k)) ∧ FailOk (D.begin k).2 C o b (if k = o then met + 1 else met) := by
  obtain ⟨a1, a2, a3, a4, a5, a6, a7, a8⟩ := h
  by_cases hk : k = o
  · subst hk
    by_cases hm : met = b
    · have hb : D.begin k = (6, D.fall k) := by
        unfold Dsk.begin
        rw [if_neg (by simp [a1]), if_neg (by omega), if_pos (by rw [a4, if_pos (by omega)]; omega)]
      rw [hb, if_pos ⟨rfl, hm⟩, if_pos rfl]
      refine ⟨rfl, a1, ?_, fun j hj => ?_, ?_, a5, a6, a7, a8⟩
      · show dec1 D.trip = -1
        rw [a2]; rfl
      · show turn D.f k (-1) j = -1
        rw [turn_other _ _ _ _ hj]; exact a3 j hj
      · show turn D.f k (-1) k = _
        rw [turn_same, if_neg (by omega)]
    · have hb : D.begin k = (0, D.go k) := by
        unfold Dsk.begin
        rw [if_neg (by simp [a1]), if_neg (by omega), if_neg (by rw [a4]; split <;> omega)]
      rw [hb, if_neg (by omega), if_pos rfl]
      refine ⟨rfl, a1, ?_, fun j hj => ?_, ?_, a5, a6, a7, a8⟩
      · show dec1 D.trip = -1
        rw [a2]; rfl
      · show turn D.f k (dec1 (D.f k)) j = -1
        rw [turn_other _ _ _ _ hj]; exact a3 j hj
      · show turn D.f k (dec1 (D.f k)) k = _
        rw [turn_same, a4]
        unfold dec1
        split <;> split <;> split <;> omega
  · have hb : D.begin k = (0, D.go k) := by
      unfold Dsk.begin
      rw [if_neg (by simp [a1]), if_neg (by omega), if_neg (by rw [a3 k hk]; omega)]
    rw [hb, if_neg (by omega), if_neg hk]
    refine ⟨rfl, a1, ?_, fun j hj => ?_, ?_, a5, a6, a7, a8⟩
    · show dec1 D.trip = -1
      rw [a2]; rfl
    · show turn D.f k (dec1 (D.f k)) j = -1
      by_cases e : j = k
      · subst e; rw [turn_same, a3 j hj]; rfl
      · rw [turn_other _ _ _ _ e]; exact a3 j hj
    · show turn D.f k (dec1 (D.f k)) o = _
      rw [turn_other _ _ _ _ (Ne.symm hk)]; exact a4
theorem FailOk.read {D C : Dsk} {o b met : Nat} (h : FailOk D C o b met) (pg : Nat) (hp : pg < 4) :
    (D.read (pg : Int)).1 = (if 1 = o ∧ met = b then 6 else 0) ∧ FailOk (D.read (pg : Int)).2.2 C o b (if 1 = o then met + 1 else met) := by
  obtain ⟨h1, h2⟩ := h.begin 1
  have hpg := h.pages
  unfold Dsk.read
  by_cases c : 1 = o ∧ met = b
  · rw [if_pos c] at h1
    rw [h1] at h2 ⊢
    rw [if_pos (by simp), if_pos c]
    exact ⟨rfl, h2⟩
  · rw [if_neg c] at h1
    rw [h1] at h2 ⊢
    rw [if_neg (by simp), if_neg (by omega), if_neg c]
    exact ⟨rfl, h2⟩
theorem FailOk.write {D C : Dsk} {o b met : Nat} (h : FailOk D C o b met) (pg : Nat) (hp : pg < 4) (l : List Nat) (hl : l.length = 1024) :
    (D.write (pg : Int) l).1 = (if 2 = o ∧ met = b then 6 else 0) ∧ FailOk (D.write (pg : Int) l).2 (if 2 = o ∧ met = b then C else (C.write (pg : Int) l).2) o b (if 2 = o then met + 1 else met) := by
  obtain ⟨h1, h2⟩ := h.begin 2
  have hpg := h.pages
  have hcp : C.pages = 4 := by rw [← hpg]; unfold Dsk.pages; rw [h.last]
  have hcw := h.calm.write pg (by omega) l (.inl hl)
  unfold Dsk.write
  by_cases c : 2 = o ∧ met = b
  · rw [if_pos c] at h1
    rw [h1] at h2 ⊢
    rw [if_pos (by simp), if_pos c, if_pos c]
    exact ⟨rfl, h2⟩
  · rw [if_neg c] at h1
    rw [h1] at h2
    rw [if_neg c, if_neg c, h1, if_neg (by simp), if_neg (by omega), if_neg (by omega)]
    unfold Dsk.write at hcw
    rw [hcw]
    obtain ⟨b1, b2, b3, b4, b5, b6, b7, b8⟩ := h2
    refine ⟨rfl, b1, b2, b3, b4, b5, ?_, h.calm.go 2, b8⟩
    show D.cache ++ puts (8 * (pg : Int).toNat) l (l.length / 128) = C.cache ++ puts (8 * pg) l (l.length / 128)
    rw [h.cache]; simp
theorem FailOk.sync {D C : Dsk} {o b met : Nat} (h : FailOk D C o b met) :
    D.sync.1 = (if 3 = o ∧ met = b then 6 else 0) ∧ FailOk D.sync.2 (if 3 = o ∧ met = b then C else C.sync.2) o b (if 3 = o then met + 1 else met) := by
  obtain ⟨h1, h2⟩ := h.begin 3
  have hcw := h.calm.sync
  unfold Dsk.sync
  by_cases c : 3 = o ∧ met = b
  · rw [if_pos c] at h1
    rw [h1] at h2 ⊢
    rw [if_pos (by simp), if_pos c, if_pos c]
    exact ⟨rfl, h2⟩
  · rw [if_neg c] at h1
    rw [h1] at h2
    rw [if_neg c, if_neg c, h1, if_neg (by simp)]
    unfold Dsk.sync at hcw
    rw [hcw]
    obtain ⟨b1, b2, b3, b4, b5, b6, b7, b8⟩ := h2
    refine ⟨rfl, b1, b2, b3, b4, ?_, rfl, (h.calm.go 3).settle _, ?_⟩
    · show settled D.last D.cache _ D.cache.length = settled C.last C.cache _ C.cache.length
      rw [h.last, h.cache]
    · rw [Dsk.settle_pages]; exact b8
end Go.Proofs.YtfbjjblgcgjndaaGreat

/- Contract of the disk's Read. -/
namespace Go.Proofs.YtfbjjblgcgjndaaGreat
open Go.RowKit Go.Maps

/-- bytes of the call's own, clipped: no room behind them, though their block may have some -/
def Clip (n0 : Nat) (w : World) (A : Option Addr) (l : List Nat) : Prop :=
  (A = none ∧ l = []) ∨ ∃ g cur, A = some ⟨g, 0, none⟩ ∧ n0 ≤ g ∧ w.heap[g]? = some (.cells cur 5 (0, 0)) ∧ l.length ≤ cur.size ∧ cur.size ≤ maxLen ∧ cur.toList.take l.length = ns .u8 l
theorem Clip.of {n0 : Nat} {w : World} {A : Option Addr} {c : Nat} {l : List Nat} (h : Buf n0 w (.slice A l.length c) l) : Clip n0 w A l := by
  rcases h.2 with ⟨h1, h2⟩ | ⟨g, cap, cur, h1, h2, h3, h4, h5, h6, h7⟩
  · injection h1 with h1
    exact .inl ⟨h1, List.eq_nil_of_length_eq_zero h2⟩
  · injection h1 with h1 _ h1c
    exact .inr ⟨g, cur, h1, h2, h3, by omega, by omega, by simpa using h7⟩
theorem Clip.mono {n0 n1 : Nat} {w : World} {A : Option Addr} {l : List Nat} (h : Clip n0 w A l) (hn : n1 ≤ n0) : Clip n1 w A l := by
  rcases h with h | ⟨g, cur, h1, h2, h3⟩
  · exact .inl h
  · exact .inr ⟨g, cur, h1, Nat.le_trans hn h2, h3⟩
theorem Clip.at {n0 : Nat} {w : World} {A : Option Addr} {l : List Nat} (h : Clip n0 w A l) : At w A (ns .u8 l) := by
  rcases h with ⟨rfl, rfl⟩ | ⟨g, cur, rfl, h1, h2, h3, h4, h5⟩
  · exact At.nil _ _
  · refine At.block h2 0 _ fun j v hv => ?_
    rw [← h5, List.getElem?_take] at hv
    split at hv
    · simpa using hv
    · cases hv
theorem Clip.keep {n0 : Nat} {w w' : World} {A : Option Addr} {l : List Nat} {G : Nat → Prop} (h : Clip n0 w A l) (hc : Chg G w w') (hG : ∀ a, A = some a → ¬ G a.block) : Clip n0 w' A l := by
  rcases h with ⟨rfl, rfl⟩ | ⟨g, cur, rfl, h1, h2, h3⟩
  · exact .inl ⟨rfl, rfl⟩
  · exact .inr ⟨g, cur, rfl, h1, by rw [hc.block g (Array.getElem?_eq_some_iff.1 h2).1 (hG _ rfl)]; exact h2, h3⟩
theorem Clip.base {n0 : Nat} {w : World} {A : Option Addr} {l : List Nat} (h : Clip n0 w A l) (a : Addr) (ha : A = some a) : n0 ≤ a.block ∧ a.block < w.heap.size := by
  rcases h with ⟨rfl, rfl⟩ | ⟨g, cur, rfl, h1, h2, h3⟩
  · cases ha
  · cases ha; exact ⟨h1, (Array.getElem?_eq_some_iff.1 h2).1⟩
theorem Clip.nil {n0 : Nat} {w : World} {l : List Nat} (h : Clip n0 w none l) : l.length = 0 := by
  rcases h with ⟨_, h⟩ | ⟨g, cur, h, _⟩
  · rw [h]; rfl
  · cases h
theorem Clip.inner {n0 : Nat} {w : World} {A : Option Addr} {l : List Nat} (h : Clip n0 w A l) (hb : Bytes l) (hs : l.length ≤ 140737488351232) : Inner.Ok w ⟨A, l, l.length⟩ :=
  ⟨h.at, (fun e => by subst e; exact h.nil), Nat.le_refl _, hs, hb⟩
set_option maxRecDepth 100000 in
theorem clip_any (n0 : Nat) (A : Option Addr) (c : Nat) (l : List Nat) (w : World) (h : Buf n0 w (.slice A l.length c) l) :
    Calls Tryz.prog 83 #[.slice A l.length c] w fun e w' => e = .returned (.slice A l.length l.length) ∧ w = w' := by
  obtain ⟨A', c', e, hA, hn, hle, hm⟩ := h.at
  cases e
  unfold maxLen at hm
  clear h hA hn
  go_enter Tryz.func83, Tryz.ntmps83
  go_wp2_with fail
  go_ret
  exact ⟨rfl, rfl⟩
/-- what a read leaves: bytes, a number, the disk -/
def ReadGives (n0 : Nat) (w : World) (p : Nat) (S : Nat → Prop) (r : Nat × List Nat × Dsk) (e : Ending) (w' : World) : Prop :=
  ∃ A, e = .returned (.tuple #[.slice A r.2.1.length r.2.1.length, .int .u16 (r.1 : Nat)]) ∧ Clip w.heap.size w' A r.2.1 ∧ DiskAt n0 w' p r.2.2 S ∧ Chg S w w'
def ReadMid (n0 : Nat) (w : World) (p br : Nat) (S : Nat → Prop) (r : Nat × List Nat × Dsk) (x : Nat) (w' : World) : Prop :=
  x = r.1 ∧ ∃ v, Box w' br v 22 ∧ Buf (br + 1) w' v r.2.1 ∧ DiskAt n0 w' p r.2.2 S ∧ Chg S w w'
set_option maxRecDepth 100000 in
set_option maxHeartbeats 1000000 in
theorem disk_read (n0 : Nat) (w : World) (p : Nat) (D : Dsk) (S : Nat → Prop) (pg : Int) (h : DiskAt n0 w p D S) (hc : D.cache.length ≤ 1000000000000) (hn : D.n 1 ≤ 4611686018427387904)
    (hSp : ∀ g, S g → g < w.heap.size) :
    Calls Tryz.prog 47 #[.pointer (some ⟨p, 0, none⟩), .int .i64 pg] w (ReadGives n0 w p S (D.read pg)) := by
  have hp := h.here
  obtain ⟨w1, hw1⟩ : ∃ w1, w1 = ((w.alloc (.cells #[.pointer (some ⟨p, 0, none⟩)] 26)).alloc (.cells #[.int .i64 pg] 3)).alloc (.cells #[.slice none 0 0] 22) := ⟨_, rfl⟩
  have hb1 : Below w.heap.size w w1 := by rw [hw1]; exact below_alloc0 (below_alloc0 (below_alloc0 (Below.refl _ _) _) _) _
  have hz1 : w1.heap.size = w.heap.size + 3 := by rw [hw1]; simp only [sz_alloc]
  have B1 : Box w1 w.heap.size (.pointer (some ⟨p, 0, none⟩)) 26 := by unfold Box; rw [hw1]; simp only [hp_alloc, sz_alloc]; (repeat (first | rw [if_neg (by omega)] | rw [if_pos (by omega)] | rw [if_pos trivial]))
  have B2 : Box w1 (w.heap.size + 1) (.int .i64 pg) 3 := by unfold Box; rw [hw1]; simp only [hp_alloc, sz_alloc]; (repeat (first | rw [if_neg (by omega)] | rw [if_pos (by omega)] | rw [if_pos trivial]))
  have B3 : Box w1 (w.heap.size + 1 + 1) (.slice none 0 0) 22 := by unfold Box; rw [hw1]; simp only [hp_alloc, sz_alloc]; (repeat (first | rw [if_neg (by omega)] | rw [if_pos (by omega)] | rw [if_pos trivial]))
  have hd1 := h.below hb1
  obtain ⟨ok, q, M, hin, hft⟩ := hd1
  have hcf : ∀ args w, (callFunc 82 args).run Tryz.prog w = .ok (.enter 82 args) w := fun args w => rfl
  have c1 := B1.cell
  have hw01 : Chg S w w1 := .of_below hb1
  have hop : Calls Tryz.prog 38 #[.pointer (some ⟨p, 0, none⟩), .int .i64 1, .func (.func 82) #[] #[.pointer (some ⟨w.heap.size + 1, 0, none⟩), .pointer (some ⟨w.heap.size, 0, none⟩), .pointer (some ⟨w.heap.size + 1 + 1, 0, none⟩)]] w1
      (fun e w'' => ∃ x : Nat, e = .returned (.int .u16 (x : Nat)) ∧ ReadMid n0 w p (w.heap.size + 1 + 1) S (D.read pg) x w'') := by
    by_cases hb : (D.begin 1).1 = 0
    · have hwr : D.read pg = if pg < 0 ∨ (D.pages : Int) ≤ pg then (2, [], D.go 1) else (0, D.secs (8 * pg.toNat) 8, D.go 1) := by
        unfold Dsk.read; rw [if_neg (by simpa using hb)]
      refine op_go1 _ _ _ p D 82 _ _ w1 hin.rcd ok hn hb hcf ?_
      intro w2 hrec hch
      have hin2 := hin.turned hrec hch rfl rfl
      have hd2 : DiskAt n0 w2 p (D.go 1) S := ⟨D.go_ok ok 1, q, M, hin2, hft⟩
      have hpw := hSp p hp
      have b1 := B1.keep hch (fun e => by have := (show w.heap.size = p from e); omega)
      have b2 := B2.keep hch (fun e => by have := (show w.heap.size + 1 = p from e); omega)
      have b3 := B3.keep hch (fun e => by have := (show w.heap.size + 1 + 1 = p from e); omega)
      have hw02 : Chg S w w2 := hw01.trans hch (fun g _ e => by rw [show g = p from e]; exact hp)
      by_cases c1 : pg < 0 ∨ (D.pages : Int) ≤ pg
      · rw [hwr, if_pos c1]
        refine (read_range n0 w2 p (D.go 1) S pg _ _ _ hd2 b2 b1 c1).mono ?_
        rintro e w3 ⟨rfl, hb3⟩
        exact ⟨2, rfl, rfl, _, b3.keep (G := fun _ => False) (.of_below hb3) (fun h => h), Buf.nil _ _, hd2.below hb3, hw02.trans (.of_below (F := fun _ => False) hb3) (fun _ _ h => h.elim)⟩
      · obtain ⟨n, rfl⟩ : ∃ n : Nat, pg = (n : Int) := ⟨pg.toNat, by omega⟩
        rw [hwr, if_neg c1]
        refine (read_do n0 w2 p (D.go 1) S n _ _ _ hd2 b2 b1 b3 (by show n < D.pages; omega) (fun g hg e => by have := hSp g hg; omega) (by omega) (by omega) hc).mono ?_
        rintro e w3 ⟨rfl, v, hx, hv, hc3⟩
        refine ⟨0, rfl, rfl, v, hx, ?_, hd2.keep hc3 (fun g _ hg e => by have := hSp g hg; have := show g = w.heap.size + 1 + 1 from e; omega), hw02.trans hc3 (fun g hg e => by have := show g = w.heap.size + 1 + 1 from e; omega)⟩
        rw [Int.toNat_natCast]
        exact own_up hv (fun g hg => by have := (hv.base g hg); have := hch.size; omega)
    · have hwr : D.read pg = ((D.begin 1).1, [], (D.begin 1).2) := by unfold Dsk.read; rw [if_pos hb]
      rw [hwr]
      refine (op_fails1 _ _ _ p D _ w1 hin.rcd ok hn hb).mono ?_
      rintro e w2 ⟨rfl, hrec, hch⟩
      have hin2 := hin.turned hrec hch (D.begin_last 1).1 (D.begin_last 1).2
      have hpw := hSp p hp
      exact ⟨_, rfl, rfl, _, B3.keep hch (fun e => by have := (show w.heap.size + 1 + 1 = p from e); omega), Buf.nil _ _, ⟨D.begin_ok ok 1, q, M, hin2, hft⟩, hw01.trans hch (fun g _ e => by rw [show g = p from e]; exact hp)⟩
  have HOP := Lib.hid hop
  have HSP := Lib.hid hSp
  clear hop hSp
  generalize D.read pg = r at *
  go_enter Tryz.func47, Tryz.ntmps47
  go_wp2_with fail
  rw [← hw1]
  have HW1 := Lib.hid hw1
  have HZ1 := Lib.hid hz1
  clear hw1 hz1
  go_wp2_with fail
  refine HOP.out.mono ?_
  rintro e w9 ⟨x, rfl, rfl, v, hx, hv, hd9, hc9⟩
  obtain ⟨A, cc, rfl⟩ := own_slice hv
  have g1 := hx.cell
  have hcl := clip_any _ A cc r.2.1 w9 hv
  have HX := Lib.hid hx
  have HV := Lib.hid hv
  have HD9 := Lib.hid hd9
  have HC9 := Lib.hid hc9
  have HCL := Lib.hid hcl
  clear hx hv hd9 hc9 hcl
  go_wp2_with fail
  refine HCL.out.mono ?_
  rintro e w10 ⟨rfl, rfl⟩
  have f1 := frozen_of_row w9 (w.heap.size + 1 + 1) 0 _ 22 HX.out
  go_wp2_with fail
  have hcs := setCell_chg w9 (w.heap.size + 1 + 1) 0 (.slice A r.2.1.length r.2.1.length)
  have hb9 := HV.out.base
  have hlt := HX.out.lt
  refine bodyPost_ret (v := .tuple #[.slice A r.2.1.length r.2.1.length, .int .u16 (r.1 : Nat)]) (by simp [results, Tryz.results47, go_sem, g1]) rfl ⟨A, rfl, ?_, ?_, HC9.out.trans hcs (fun g hg e => by have := show g = w.heap.size + 1 + 1 from e; omega)⟩
  · refine ((Clip.of HV.out).keep hcs (fun a ha e => ?_)).mono (by omega)
    have := hb9 a.block (by rw [ha]; rfl)
    have := show a.block = w.heap.size + 1 + 1 from e
    omega
  · exact HD9.out.keep hcs (fun g _ hg e => by have := HSP.out g hg; have := show g = w.heap.size + 1 + 1 from e; omega)
end Go.Proofs.YtfbjjblgcgjndaaGreat
