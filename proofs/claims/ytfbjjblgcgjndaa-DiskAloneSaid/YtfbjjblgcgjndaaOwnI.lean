/- Contract of ownInts: lists with memory of their own pass. -/
import Derived.Test.YtfbjjblgcgjndaaOwnB
set_option linter.unusedVariables false
set_option linter.unusedSimpArgs false
namespace Go.Proofs.Ytfbjjblgcgjndaa
open Go.RowKit

theorem Try.info86 : (Try.prog.info? 86).map (fun i => (i.zero, i.size, i.bytes)) = some (some (.slice none 0 0), 1, 24) := by kernel_rfl
theorem Try.info3 : (Try.prog.info? 3).map (fun i => (i.zero, i.size, i.bytes)) = some (some (.int .i64 0), 1, 8) := by kernel_rfl
def vpInts (i k : Nat) : Value := .int .i64 ((i : Int) * 1000 + (k : Int))
def vnInts (i k : Nat) : Value := .int .i64 ((-1 - (i : Int)) * 1000 + (k : Int))
def goneInts (M : Nat) (u : Nat → Value) (g : Nat) : Prop := ∃ i, i < M ∧ blk (u i) g
/-- the first pass: those below p are written -/
def OneInts (n0 : Nat) (w wr : World) (M : Nat) (u : Nat → Value) (n : Nat → Nat) (X : Nat → Prop) (p : Nat) : Prop :=
  ∃ c, Apart n0 3 wr M u n c X ∧ (∀ j, j < p → c j = lst (vpInts j) (n j)) ∧ Chg (goneInts M u) w wr
def OneInInts (n0 : Nat) (w wr : World) (M : Nat) (u : Nat → Value) (n : Nat → Nat) (X : Nat → Prop) (p k : Nat) : Prop :=
  ∃ c, Apart n0 3 wr M u n c X ∧ (∀ j, j < p → c j = lst (vpInts j) (n j)) ∧ (∀ q, q < k → (c p)[q]? = some (vpInts p q)) ∧ Chg (goneInts M u) w wr
theorem OneInts.inn {n0 : Nat} {w wr : World} {M : Nat} {u : Nat → Value} {n : Nat → Nat} {X : Nat → Prop} {p : Nat} (h : OneInts n0 w wr M u n X p) : OneInInts n0 w wr M u n X p 0 := by
  obtain ⟨c, a, b, d⟩ := h
  exact ⟨c, a, b, fun q hq => by omega, d⟩
theorem OneInInts.out {n0 : Nat} {w wr : World} {M : Nat} {u : Nat → Value} {n : Nat → Nat} {X : Nat → Prop} {p : Nat} (h : OneInInts n0 w wr M u n X p (n p)) (hp : p < M) : OneInts n0 w wr M u n X (p + 1) := by
  obtain ⟨c, a, b, d, e⟩ := h
  refine ⟨c, a, fun j hj => ?_, e⟩
  by_cases h1 : j = p
  · subst h1
    have hl : (c j).length = n j := by simpa using (a.own j hp).1
    apply List.ext_getElem?
    intro q
    by_cases hq : q < n j
    · rw [d q hq, lst_get _ _ _ hq]
    · rw [List.getElem?_eq_none (by omega), List.getElem?_eq_none (by rw [lst_length]; omega)]
  · exact b j (by omega)
theorem OneInInts.step {n0 : Nat} {w wr : World} {M : Nat} {u : Nat → Value} {n : Nat → Nat} {X : Nat → Prop} {p k g cap : Nat} (h : OneInInts n0 w wr M u n X p k) (hp : p < M) (hk : k < n p) (hu : u p = .slice (some ⟨g, 0, none⟩) (n p) cap) :
    OneInInts n0 w (wr.setCell ⟨g, k, none⟩ (vpInts p k)) M u n X p (k + 1) := by
  obtain ⟨c, a, b, d, e⟩ := h
  have hl : (c p).length = n p := by simpa using (a.own p hp).1
  refine ⟨_, a.store p hp hu k _, fun j hj => ?_, fun q hq => ?_, e.setCell _ _ (.inl ⟨p, hp, by rw [hu]; rfl⟩)⟩
  · rw [turn_other _ _ _ _ (by omega)]; exact b j hj
  · rw [turn_same]
    by_cases h1 : q = k
    · subst h1
      rw [List.getElem?_set_self (by omega)]
    · rw [List.getElem?_set_ne (by omega)]
      exact d q (by omega)
theorem OneInInts.form {n0 : Nat} {w wr : World} {M : Nat} {u : Nat → Value} {n : Nat → Nat} {X : Nat → Prop} {p k : Nat} (h : OneInInts n0 w wr M u n X p k) (hp : p < M) :
    ∃ V cap, u p = .slice V (n p) cap ∧ ∀ q, q < n p → ∃ g x, V = some ⟨g, 0, none⟩ ∧ wr.cell? ⟨g, q, none⟩ = some x ∧ wr.frozen? ⟨g, q, none⟩ = false := by
  obtain ⟨c, a, b, d, e⟩ := h
  obtain ⟨V, cap, h1, h2⟩ := own_cells (a.own p hp)
  have hl : (c p).length = n p := by simpa using (a.own p hp).1
  refine ⟨V, cap, h1, fun q hq => ?_⟩
  obtain ⟨g, e1, e2, e3⟩ := h2 q hq
  exact ⟨g, _, e1, by rw [e2]; exact List.getElem?_eq_getElem (by omega), e3⟩

/-- the second pass: those below p have grown; the long list -/
structure TwoInts (n0 : Nat) (w wr : World) (M : Nat) (u : Nat → Value) (n : Nat → Nat) (X : Nat → Prop) (p : Nat) (L : Value) (v : Nat → Value) (m : Nat → Nat) (c : Nat → List Value) : Prop where
  many : Many n0 w.heap.size 3 wr M u v n m c (fun g => X g ∨ blk L g)
  done : ∀ j, j < p → m j = n j + 16 ∧ c j = lst (vpInts j) (n j) ++ lst (vnInts j) 16
  rest : ∀ j, p < j → j < M → v j = u j ∧ m j = n j ∧ c j = lst (vpInts j) (n j)
  long : wr.ownsRow w.heap.size 86 1 L p (lst v p)
  chg : Chg (goneInts M u) w wr
def TwoOutInts (n0 : Nat) (w wr : World) (M : Nat) (u : Nat → Value) (n : Nat → Nat) (X : Nat → Prop) (p : Nat) (L : Value) : Prop :=
  ∃ v m c, TwoInts n0 w wr M u n X p L v m c ∧ (p < M → v p = u p ∧ m p = n p ∧ c p = lst (vpInts p) (n p))
def TwoInInts (n0 : Nat) (w wr : World) (M : Nat) (u : Nat → Value) (n : Nat → Nat) (X : Nat → Prop) (p : Nat) (L : Value) (k : Nat) (x : Value) : Prop :=
  ∃ v m c, TwoInts n0 w wr M u n X p L v m c ∧ x = v p ∧ m p = n p + k ∧ c p = lst (vpInts p) (n p) ++ lst (vnInts p) k
theorem OneInts.two {n0 : Nat} {w wr : World} {M : Nat} {u : Nat → Value} {n : Nat → Nat} {X : Nat → Prop} (h : OneInts n0 w wr M u n X M) : TwoOutInts n0 w wr M u n X 0 (.slice none 0 0) := by
  obtain ⟨c, a, b, d⟩ := h
  refine ⟨u, n, c, ⟨?_, fun j hj => by omega, fun j _ hj => ⟨rfl, rfl, b j hj⟩, World.ownsRow_nil _ _ _ _, d⟩, fun hp => ⟨rfl, rfl, b 0 hp⟩⟩
  refine a.many.shut fun g _ hg => ?_
  rcases hg with hg | hg
  · exact hg
  · cases hg
theorem TwoOutInts.inn {n0 : Nat} {w wr : World} {M : Nat} {u : Nat → Value} {n : Nat → Nat} {X : Nat → Prop} {p : Nat} {L : Value} (h : TwoOutInts n0 w wr M u n X p L) (hp : p < M) : TwoInInts n0 w wr M u n X p L 0 (u p) := by
  obtain ⟨v, m, c, h1, h2⟩ := h
  obtain ⟨a, b, d⟩ := h2 hp
  exact ⟨v, m, c, h1, a.symm, b, by rw [d]; simp [lst]⟩
theorem TwoOutInts.chg {n0 : Nat} {w wr : World} {M : Nat} {u : Nat → Value} {n : Nat → Nat} {X : Nat → Prop} {p : Nat} {L : Value} (h : TwoOutInts n0 w wr M u n X p L) : Chg (goneInts M u) w wr := by
  obtain ⟨v, m, c, h1, h2⟩ := h
  exact h1.chg
theorem TwoInInts.chg {n0 : Nat} {w wr : World} {M : Nat} {u : Nat → Value} {n : Nat → Nat} {X : Nat → Prop} {p k : Nat} {L x : Value} (h : TwoInInts n0 w wr M u n X p L k x) : Chg (goneInts M u) w wr := by
  obtain ⟨v, m, c, h1, _⟩ := h
  exact h1.chg
theorem TwoInInts.form {n0 : Nat} {w wr : World} {M : Nat} {u : Nat → Value} {n : Nat → Nat} {X : Nat → Prop} {p k : Nat} {L x : Value} (h : TwoInInts n0 w wr M u n X p L k x) (hp : p < M) : ∃ V cap, u p = .slice V (n p) cap := by
  obtain ⟨v, m, c, h1, _⟩ := h
  obtain ⟨V, cap, e, _⟩ := (h1.many.held p hp).form
  exact ⟨V, cap, e⟩
theorem TwoInInts.long {n0 : Nat} {w wr : World} {M : Nat} {u : Nat → Value} {n : Nat → Nat} {X : Nat → Prop} {p k : Nat} {L x : Value} (h : TwoInInts n0 w wr M u n X p L k x) : ∃ v : Nat → Value, wr.ownsRow w.heap.size 86 1 L p (lst v p) ∧ x = v p := by
  obtain ⟨v, m, c, h1, h2, _⟩ := h
  exact ⟨v, h1.long, h2⟩
theorem TwoInInts.own {n0 : Nat} {w wr : World} {M : Nat} {u : Nat → Value} {n : Nat → Nat} {X : Nat → Prop} {p k : Nat} {L x : Value} (h : TwoInInts n0 w wr M u n X p L k x) (hp : p < M) : wr.ownsRow n0 3 1 x (n p + k) (lst (vpInts p) (n p) ++ lst (vnInts p) k) := by
  obtain ⟨v, m, c, h1, h2, h3, h4⟩ := h
  have := (h1.many.held p hp).own
  rw [h3, h4, ← h2] at this; exact this
/-- a step of the walk that only makes memory -/
theorem TwoInInts.keep {n0 : Nat} {w wr w' : World} {M : Nat} {u : Nat → Value} {n : Nat → Nat} {X : Nat → Prop} {p k : Nat} {L x : Value} (h : TwoInInts n0 w wr M u n X p L k x) (hb : Below wr.heap.size wr w') : TwoInInts n0 w w' M u n X p L k x := by
  obtain ⟨v, m, c, h1, h2, h3, h4⟩ := h
  have hc : Chg (fun _ => False) wr w' := .of_below hb
  exact ⟨v, m, c, ⟨h1.many.keep hc (fun g _ hg => hg.elim), h1.done, h1.rest, own_below h1.long hb, h1.chg.trans hc (fun _ _ h => h.elim)⟩, h2, h3, h4⟩
theorem TwoInInts.push {n0 : Nat} {w wr w' : World} {M : Nat} {u : Nat → Value} {n : Nat → Nat} {X : Nat → Prop} {p k : Nat} {L x x' : Value} (h : TwoInInts n0 w wr M u n X p L k x) (hp : p < M) (hX : ∀ g, X g → g < w.heap.size)
    (ho : w'.ownsRow n0 3 1 x' (n p + k + 1) (lst (vpInts p) (n p) ++ lst (vnInts p) k ++ [vnInts p k])) (hor : (wr.grownBy w' x.ownBlock ∧ x'.ownBlock = x.ownBlock) ∨ (wr.grownBy w' none ∧ ∃ g, x'.ownBlock = some g ∧ wr.heap.size ≤ g)) :
    TwoInInts n0 w w' M u n X p L (k + 1) x' := by
  obtain ⟨v, m, c, h1, rfl, h3, h4⟩ := h
  have hX' : ∀ g, X g ∨ blk L g → g < wr.heap.size := by
    intro g hg
    rcases hg with hg | hg
    · exact Nat.lt_of_lt_of_le (hX g hg) h1.chg.size
    · exact (row_lt h1.long hg).2
  have hch := push_chg hor
  rw [← h4, ← h3] at ho
  have h5 := h1.many.push hX' h1.chg.size p hp ho hor
  refine ⟨turn v p x', turn m p (m p + 1), turn c p (c p ++ [vnInts p k]), ⟨h5, fun j hj => ?_, fun j hj hjM => ?_, ?_, ?_⟩, (turn_same _ _ _).symm, by rw [turn_same, h3]; omega, ?_⟩
  · rw [turn_other _ _ _ _ (by omega), turn_other _ _ _ _ (by omega)]; exact h1.done j hj
  · rw [turn_other _ _ _ _ (by omega), turn_other _ _ _ _ (by omega), turn_other _ _ _ _ (by omega)]; exact h1.rest j hj hjM
  · have : lst (turn v p x') p = lst v p := lst_congr fun j hj => turn_other _ _ _ _ (by omega)
    rw [this]
    exact own_chg h1.long hch (fun g hg hg' => h1.many.out p hp g (.inr hg') (.inr hg))
  · refine h1.chg.trans hch fun g hg hg' => ?_
    rcases h1.many.new p hp g hg' with h | h
    · exact ⟨p, hp, h⟩
    · omega
  · rw [turn_same, h4, List.append_assoc, ← lst_succ]
theorem TwoInInts.out {n0 : Nat} {w wr w' : World} {M : Nat} {u : Nat → Value} {n : Nat → Nat} {X : Nat → Prop} {p : Nat} {L L' x : Value} (h : TwoInInts n0 w wr M u n X p L 16 x) (hp : p < M)
    (hl : ∀ v : Nat → Value, x = v p → wr.ownsRow w.heap.size 86 1 L p (lst v p) → w'.ownsRow w.heap.size 86 1 L' (p + 1) (lst v p ++ [x])) (hor : (wr.grownBy w' L.ownBlock ∧ L'.ownBlock = L.ownBlock) ∨ (wr.grownBy w' none ∧ ∃ g, L'.ownBlock = some g ∧ wr.heap.size ≤ g)) :
    TwoOutInts n0 w w' M u n X (p + 1) L' := by
  obtain ⟨v, m, c, h1, h2, h3, h4⟩ := h
  have hch := push_chg hor
  have h5 := h1.many.shut (Y := fun g => X g ∨ blk L' g) (by
    intro g hg hY
    rcases hY with hY | hY
    · exact .inl hY
    · rcases push_blk hor hY with h | h
      · exact .inr h
      · omega)
  have h6 : Many n0 w.heap.size 3 w' M u v n m c (fun g => X g ∨ blk L' g) := by
    have h7 := h1.many.keep hch (fun g _ hg => .inr hg)
    exact ⟨h7.held, h7.apart, fun i hi g hg hY => h5.out i hi g hg hY, h7.new⟩
  have hlong := hl v h2 h1.long
  rw [h2, ← lst_succ] at hlong
  refine ⟨v, m, c, ⟨h6, fun j hj => ?_, fun j hj hjM => h1.rest j (by omega) hjM, hlong, ?_⟩, fun hp' => h1.rest (p + 1) (by omega) hp'⟩
  · by_cases e : j = p
    · subst e; exact ⟨h3, h4⟩
    · exact h1.done j (by omega)
  · refine h1.chg.trans hch fun g hg hg' => ?_
    have := (row_lt h1.long hg').1
    omega
/-- the third pass reads -/
theorem TwoOutInts.drewN {n0 : Nat} {w wr : World} {M : Nat} {u : Nat → Value} {n : Nat → Nat} {X : Nat → Prop} {p : Nat} {L : Value} (h : TwoOutInts n0 w wr M u n X p L) (q : Nat) : TwoOutInts n0 w (wr.drewN q) M u n X p L := by
  obtain ⟨v, m, c, h1, h2⟩ := h
  have hb : Below wr.heap.size wr (wr.drewN q) := below_drewN (Below.refl _ _) q
  have hc : Chg (fun _ => False) wr (wr.drewN q) := .of_below hb
  exact ⟨v, m, c, ⟨h1.many.keep hc (fun g _ hg => hg.elim), h1.done, h1.rest, own_below h1.long hb, h1.chg.trans hc (fun _ _ h => h.elim)⟩, h2⟩
theorem TwoOutInts.read {n0 : Nat} {w wr : World} {M : Nat} {u : Nat → Value} {n : Nat → Nat} {X : Nat → Prop} {L : Value} (h : TwoOutInts n0 w wr M u n X M L) (p : Nat) (hp : p < M) :
    ∃ U cu V cv G cl, u p = .slice U (n p) cu ∧ L = .slice (some ⟨G, 0, none⟩) M cl ∧ wr.cell? ⟨G, p, none⟩ = some (.slice V (n p + 16) cv) ∧ (∀ k, k < n p → ∃ g, U = some ⟨g, 0, none⟩ ∧ wr.cell? ⟨g, k, none⟩ = some (vpInts p k)) ∧
      (∃ g, V = some ⟨g, 0, none⟩ ∧ (∀ k, k < n p → wr.cell? ⟨g, k, none⟩ = some (vpInts p k)) ∧ ∀ k, k < 16 → wr.cell? ⟨g, n p + k, none⟩ = some (vnInts p k)) := by
  obtain ⟨v, m, c, h1, h2⟩ := h
  obtain ⟨hm, hc⟩ := h1.done p hp
  have hh := h1.many.held p hp
  rw [hm, hc] at hh
  obtain ⟨U, cu, e1, e2⟩ := hh.form
  obtain ⟨V, cv, f1, f2⟩ := own_cells hh.own
  obtain ⟨W, cl, g1, g2⟩ := own_cells h1.long
  obtain ⟨G, rfl, g3, _⟩ := g2 p hp
  obtain ⟨g, rfl, _⟩ := f2 (n p) (by omega)
  have hpos : ∀ k, k < n p + 16 → wr.cell? ⟨g, k, none⟩ = (lst (vpInts p) (n p) ++ lst (vnInts p) 16)[k]? := fun k hk => by
    obtain ⟨g', e, e', _⟩ := f2 k hk
    cases e; exact e'
  refine ⟨U, cu, _, cv, G, cl, e1, g1, by rw [g3, lst_get _ _ _ hp, f1], fun k hk => ?_, g, rfl, fun k hk => ?_, fun k hk => ?_⟩
  · obtain ⟨g', e, e'⟩ := e2 k hk
    exact ⟨g', e, by rw [e', List.getElem?_append_left (by rw [lst_length]; exact hk), lst_get _ _ _ hk]⟩
  · rw [hpos k (by omega), List.getElem?_append_left (by rw [lst_length]; exact hk), lst_get _ _ _ hk]
  · rw [hpos (n p + k) (by omega), List.getElem?_append_right (by rw [lst_length]; omega), lst_length, show n p + k - n p = k by omega, lst_get _ _ _ hk]
set_option maxRecDepth 100000 in
set_option maxHeartbeats 4000000 in
theorem own_Ints (n0 : Nat) (A : Option Addr) (cc M : Nat) (u : Nat → Value) (n : Nat → Nat) (cs : Nat → List Value) (w : World) (hA : At w A (lst u M)) (hM : M ≤ 1000000000000) (hn : ∀ i, i < M → n i ≤ 1000000000000)
    (h : Apart n0 3 w M u n cs (fun g => ∃ a, A = some a ∧ g = a.block)) (hXl : ∀ a, A = some a → a.block < w.heap.size) (hn0 : n0 ≤ w.heap.size) :
    Calls Try.prog 97 #[.slice A M cc] w fun e w' => e = .returned (.bool true) ∧ Chg (goneInts M u) w w' := by
  have hXo : ∀ a, A = some a → ¬ goneInts M u a.block := by
    rintro a ha ⟨i, hi, hg⟩
    exact h.out i hi _ hg ⟨a, ha, rfl⟩
  have hstart : OneInts n0 w w M u n (fun g => ∃ a, A = some a ∧ g = a.block) 0 := ⟨cs, h, fun j hj => by omega, Chg.refl _ _⟩
  have hXl' : ∀ g, (∃ a, A = some a ∧ g = a.block) → g < w.heap.size := by rintro g ⟨a, ha, rfl⟩; exact hXl a ha
  have HXL := Lib.hid hXl'
  have HXO := Lib.hid hXo
  have HN := Lib.hid hn
  have HA := Lib.hid hA
  have HN0 := Lib.hid hn0
  clear hXl hXl' hXo hn hA h hn0
  go_enter Try.func97, Try.ntmps97
  go_wp2
  go_loopw [3] (fun i wr => ∃ p : Nat, p ≤ M ∧ i = .int .i64 p ∧ OneInts n0 w wr M u n (fun g => ∃ a, A = some a ∧ g = a.block) p) (fun i _ => M - (intOf i).toNat)
  case atStart => exact ⟨0, by omega, rfl, hstart⟩
  case round =>
    clear hstart
    obtain ⟨p, hp, rfl, hO⟩ := hrel
    by_cases hlt : p < M
    · obtain ⟨wo, rfl⟩ : ∃ wo : World, wo = wr := ⟨_, rfl⟩
      have hI := hO.inn
      have hnp := HN.out p hlt
      go_wp2
      go_loopw [4] (fun i wr => ∃ k : Nat, k ≤ n p ∧ i = .int .i64 k ∧ OneInInts n0 w wr M u n (fun g => ∃ a, A = some a ∧ g = a.block) p k) (fun i _ => n p - (intOf i).toNat)
      case atStart => exact ⟨0, by omega, rfl, hI⟩
      case round =>
        clear hI hO
        obtain ⟨k, hk, rfl, hI⟩ := hrel
        obtain ⟨V, cap, hu, hcell⟩ := hI.form hlt
        have hch : Chg (goneInts M u) w wr := by obtain ⟨_, _, _, _, e⟩ := hI; exact e
        obtain ⟨b, o, rfl, hco⟩ := outer_cell HA.out hch HXO.out p hlt
        rw [hu] at hco
        have HU := Lib.hid hu
        clear hu hch
        by_cases hkl : k < n p
        · obtain ⟨g, x, rfl, hcx, hfx⟩ := hcell k hkl
          clear hcell
          have hst := hI.step hlt hkl HU.out
          unfold vpInts at hst
          go_wp2
          go_roundw
          case rel => exact ⟨k + 1, by omega, by go_num, hst⟩
          case measure => simp [intOf]; omega
        · obtain rfl : k = n p := by omega
          clear hcell
          have hout := hI.out hlt
          go_wp2
          go_roundw
          case rel => exact ⟨p + 1, by omega, by go_num, hout⟩
          case measure => simp [intOf]; omega
    · obtain rfl : M = p := by omega
      have hT := hO.two
      clear hO
      go_wp2
      go_loopw [5, 6] (fun L i wr => ∃ p : Nat, p ≤ M ∧ i = .int .i64 p ∧ TwoOutInts n0 w wr M u n (fun g => ∃ a, A = some a ∧ g = a.block) p L) (fun _ i _ => M - (intOf i).toNat)
      case atStart => exact ⟨0, by omega, rfl, hT⟩
      case round =>
        clear hT
        obtain ⟨p, hp, rfl, hT⟩ := hrel
        by_cases hlt : p < M
        · obtain ⟨wo, rfl⟩ : ∃ wo : World, wo = wr := ⟨_, rfl⟩
          have hI := hT.inn hlt
          have hnp := HN.out p hlt
          obtain ⟨b, o, rfl, hco⟩ := outer_cell HA.out hT.chg HXO.out p hlt
          obtain ⟨V, cap, hu⟩ := hI.form hlt
          rw [hu] at hco hI
          clear hu hT
          go_wp2
          go_loopw [7, 8] (fun x i wr => ∃ k : Nat, k ≤ 16 ∧ i = .int .i64 k ∧ TwoInInts n0 w wr M u n (fun g => ∃ a, (some (⟨b, o, none⟩ : Addr)) = some a ∧ g = a.block) p u5 k x) (fun _ i _ => 16 - (intOf i).toNat)
          case atStart => exact ⟨0, by omega, rfl, hI⟩
          case round =>
            clear hI
            obtain ⟨k, hk, rfl, hI⟩ := hrel
            by_cases hkl : k < 16
            · have hI1 := hI.keep (below_alloc0 (Below.refl _ _) (.cells #[vnInts p k] 3))
              have hAt : At (wr.alloc (.cells #[vnInts p k] 3)) (some ⟨wr.heap.size, 0, none⟩) [vnInts p k] := At.box wr (vnInts p k) 3 wr.heap.size rfl
              have hn0 : n0 ≤ (wr.alloc (.cells #[vnInts p k] 3)).heap.size := Nat.le_trans HN0.out (Nat.le_trans hI.chg.size (by simp))
              unfold vnInts at hI1 hAt hn0
              go_wp2_with (at_builtin; go_loud (refine wp_append2 rfl (.tmp 52) (.tmp 58) 86 3 (.int .i64 0) 1 8 rfl Try.underlying86 Try.info3 rfl (by decide) n0 u7 (n p + k) _ rfl (hI1.own hlt) (some ⟨wr.heap.size, 0, none⟩) 1 1 _ rfl rfl hAt (by simp) (by simp [Value.oneCell']) (by omega) (by omega) hn0 ?_); intro v1 w1 ho1 hor1)
              have hI2 := hI1.push hlt (HXL.out) ho1 hor1
              go_roundw
              case rel => exact ⟨k + 1, by omega, by go_num, hI2⟩
              case measure => simp [intOf]; omega
            · obtain rfl : k = 16 := by omega
              obtain ⟨V2, cap2, rfl, _⟩ := own_cells (hI.own hlt)
              obtain ⟨v2, hl2, hx3⟩ := hI.long
              have hl3 := own_below hl2 (below_alloc0 (Below.refl _ _) (.cells #[.slice V2 (n p + 16) cap2] 86))
              have hAt : At (wr.alloc (.cells #[.slice V2 (n p + 16) cap2] 86)) (some ⟨wr.heap.size, 0, none⟩) [.slice V2 (n p + 16) cap2] := At.box wr _ 86 wr.heap.size rfl
              have hn0 : w.heap.size ≤ (wr.alloc (.cells #[.slice V2 (n p + 16) cap2] 86)).heap.size := Nat.le_trans hI.chg.size (by simp)
              have hI1 := hI.keep (below_alloc0 (Below.refl _ _) (.cells #[.slice V2 (n p + 16) cap2] 86))
              clear hx3
              go_wp2_with (at_builtin; go_loud (refine wp_append2 rfl (.tmp 60) (.tmp 62) 45 86 (.slice none 0 0) 1 24 rfl Try.underlying45 Try.info86 rfl (by decide) w.heap.size u5 p _ rfl hl3 (some ⟨wr.heap.size, 0, none⟩) 1 1 _ rfl rfl hAt (by simp) (by simp [Value.oneCell']) (by omega) (by omega) hn0 ?_); intro v1 w1 ho1 hor1)
              have hI2 := hI1.out hlt (fun v hx hv => by rw [own_unique hv hl3]; exact ho1) hor1
              go_roundw
              case rel => exact ⟨p + 1, by omega, by go_num, hI2⟩
              case measure => simp [intOf]; omega
        · obtain rfl : M = p := by omega
          go_wp2
          go_loopw [9] (fun i wr => ∃ p : Nat, p ≤ M ∧ i = .int .i64 p ∧ TwoOutInts n0 w wr M u n (fun g => ∃ a, A = some a ∧ g = a.block) M u5) (fun i _ => M - (intOf i).toNat)
          case atStart => exact ⟨0, by omega, rfl, hT⟩
          case round =>
            clear hT
            obtain ⟨p, hp, rfl, hT⟩ := hrel
            by_cases hlt : p < M
            · obtain ⟨wo, rfl⟩ : ∃ wo : World, wo = wr := ⟨_, rfl⟩
              have hnp := HN.out p hlt
              have hco := outer_cell HA.out hT.chg HXO.out p hlt
              obtain ⟨b, o, rfl, hco⟩ := hco
              obtain ⟨U, cu, V, cv, G, cl, e1, e2, e3, e4, e5⟩ := hT.read p hlt
              rw [e1] at hco
              subst e2
              clear e1 e3 e4 e5
              go_wp2
              go_loopw [11] (fun i wr => ∃ k : Nat, k ≤ n p ∧ i = .int .i64 k ∧ TwoOutInts n0 w wr M u n (fun g => ∃ a, (some (⟨b, o, none⟩ : Addr)) = some a ∧ g = a.block) M (.slice (some ⟨G, 0, none⟩) M cl)) (fun i _ => n p - (intOf i).toNat)
              case atStart => exact ⟨0, by omega, rfl, hT⟩
              case round =>
                clear hT
                obtain ⟨k, hk, rfl, hT⟩ := hrel
                by_cases hkl : k < n p
                · obtain ⟨b', o', hbo, hco⟩ := outer_cell HA.out hT.chg HXO.out p hlt
                  obtain ⟨rfl, rfl⟩ : b = b' ∧ o = o' := by cases hbo; exact ⟨rfl, rfl⟩
                  clear hbo
                  obtain ⟨U, cu, V, cv, G', cl', e1, e2, e3, e4, e5⟩ := hT.read p hlt
                  obtain ⟨rfl, rfl⟩ : G = G' ∧ cl = cl' := by cases e2; exact ⟨rfl, rfl⟩
                  clear e2
                  rw [e1] at hco
                  obtain ⟨g1, rfl, e6⟩ := e4 k hkl
                  obtain ⟨g2, rfl, e7, e8⟩ := e5
                  replace e7 := e7 k hkl
                  clear e1 e4 e8
                  unfold vpInts at e6 e7
                  go_wp2
                  go_roundw
                  case rel => exact ⟨k + 1, by omega, by go_num, hT⟩
                  case measure => simp [intOf]; omega
                · obtain rfl : k = n p := by omega
                  go_wp2
                  go_loopw [12] (fun i wr => ∃ k : Nat, k ≤ 16 ∧ i = .int .i64 k ∧ TwoOutInts n0 w wr M u n (fun g => ∃ a, (some (⟨b, o, none⟩ : Addr)) = some a ∧ g = a.block) M (.slice (some ⟨G, 0, none⟩) M cl)) (fun i _ => 16 - (intOf i).toNat)
                  case atStart => exact ⟨0, by omega, rfl, hT⟩
                  case round =>
                    clear hT
                    obtain ⟨k, hk, rfl, hT⟩ := hrel
                    by_cases hkl : k < 16
                    · obtain ⟨b', o', hbo, hco⟩ := outer_cell HA.out hT.chg HXO.out p hlt
                      obtain ⟨rfl, rfl⟩ : b = b' ∧ o = o' := by cases hbo; exact ⟨rfl, rfl⟩
                      clear hbo
                      obtain ⟨U, cu, V, cv, G', cl', e1, e2, e3, e4, e5⟩ := hT.read p hlt
                      obtain ⟨rfl, rfl⟩ : G = G' ∧ cl = cl' := by cases e2; exact ⟨rfl, rfl⟩
                      clear e2
                      rw [e1] at hco
                      obtain ⟨g2, rfl, e7, e8⟩ := e5
                      replace e8 := e8 k hkl
                      clear e1 e4 e7
                      unfold vnInts at e8
                      go_wp2
                      go_roundw
                      case rel => exact ⟨k + 1, by omega, by go_num, hT⟩
                      case measure => simp [intOf]; omega
                    · obtain rfl : k = 16 := by omega
                      go_wp2
                      go_roundw
                      case rel => exact ⟨p + 1, by omega, by go_num, hT⟩
                      case measure => simp [intOf]; omega
            · obtain rfl : M = p := by omega
              have hch := hT.chg
              go_wp2
              go_ret
              exact ⟨rfl, hch⟩
end Go.Proofs.Ytfbjjblgcgjndaa
