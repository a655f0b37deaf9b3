/- Joined texts: RPool5, Quad, Load, PoolPl, RPool6, RPool7, Quad2, QuadPl, Quad3, Open, Open2, OpenA, Open4, Open5, Open6, LentBo, Quad4. -/
import Derived.Laws.IdiomCopy
import Derived.BigQuiet
import Derived.ProofKit
import Derived.OpenShut
import Derived.ShutString
import Derived.ChangeOld
import Derived.Test.YtfbjjblgcgjndaaGreatRows
import Derived.SizedLaws
import Derived.Deep.Slices
import Derived.Test.YtfbjjblgcgjndaaGreatPz1
import Derived.Test.YtfbjjblgcgjndaaGreatPz4
import Derived.Test.YtfbjjblgcgjndaaGreatPz5
import Derived.Test.YtfbjjblgcgjndaaGreatPz6
set_option linter.unusedVariables false
set_option linter.unusedSimpArgs false

/- The reference's pool over its disk: as one, its inside out of sight. -/
namespace Go.Proofs.YtfbjjblgcgjndaaGreat
open Go.RowKit

def rfoot (pp : Nat) (A : Option Addr) (Y : Nat → Prop) (g : Nat) : Prop := g = pp ∨ (∃ a, A = some a ∧ g = a.block) ∨ Y g
/-- the reference's pool at pp over the disk at r; all its blocks are Q -/
def RP (n0 : Nat) (w : World) (pp r most : Nat) (L : List Hand) (Q : Nat → Prop) : Prop :=
  (∃ M Lv A cap Y, RPIn n0 w pp r most M Lv A cap Y ∧ M.map (·.1) = L ∧ ∀ g, rfoot pp A Y g → Q g) ∧ ∀ g, Q g → n0 ≤ g ∧ g < w.heap.size
theorem RP.keep {n0 : Nat} {w w' : World} {pp r most : Nat} {L : List Hand} {Q G : Nat → Prop} (h : RP n0 w pp r most L Q) (hc : Chg G w w') (hG : ∀ g, Q g → ¬ G g) : RP n0 w' pp r most L Q := by
  obtain ⟨⟨M, Lv, A, cap, Y, h1, h2, h3⟩, h4⟩ := h
  exact ⟨⟨M, Lv, A, cap, Y, h1.keep hc (hG _ (h3 _ (.inl rfl))) (fun a ha => hG _ (h3 _ (.inr (.inl ⟨a, ha, rfl⟩)))) (fun g hg => hG g (h3 g (.inr (.inr hg)))), h2, h3⟩, fun g hg => ⟨(h4 g hg).1, Nat.lt_of_lt_of_le (h4 g hg).2 hc.size⟩⟩
theorem RP.below {n0 : Nat} {w w' : World} {pp r most : Nat} {L : List Hand} {Q : Nat → Prop} (h : RP n0 w pp r most L Q) (hb : Below w.heap.size w w') : RP n0 w' pp r most L Q :=
  h.keep (G := fun _ => False) (.of_below hb) (fun _ _ h => h)
theorem RPIn.moreY {n0 : Nat} {w : World} {pp r most : Nat} {M : List (Hand × Value)} {Lv : Value} {A : Option Addr} {cap : Nat} {Y Z : Nat → Prop} (h : RPIn n0 w pp r most M Lv A cap Y) (hZ : ∀ g, Z g → n0 ≤ g ∧ g < w.heap.size ∧ g ≠ pp ∧ ∀ a, A = some a → g ≠ a.block) : RPIn n0 w pp r most M Lv A cap (fun g => Y g ∨ Z g) :=
  ⟨h.rcd, h.list, fun p hp => (h.rows p hp).mono (fun _ h => .inl h), h.ok, h.nodup, h.base, h.lb, fun g hg => hg.elim (h.yb g) (hZ g)⟩
/-- behind a step on the pool alone -/
theorem RPIn.now {n0 : Nat} {w w' : World} {pp r most : Nat} {M M' : List (Hand × Value)} {Lv Lv' : Value} {A A' : Option Addr} {cap cap' : Nat} {Y Y' : Nat → Prop} {Q : Nat → Prop} (h : RPIn n0 w pp r most M Lv A cap Y) (hQ : ∀ g, rfoot pp A Y g → Q g) (hlt : ∀ g, Q g → n0 ≤ g ∧ g < w.heap.size)
    (h' : RPIn n0 w' pp r most M' Lv' A' cap' Y') (hc : Chg Q w w') (hA : ∀ a', A' = some a' → (∃ a, A = some a ∧ a.block = a'.block) ∨ w.heap.size ≤ a'.block) (hY : ∀ g, Y' g → Y g ∨ w.heap.size ≤ g) : RP n0 w' pp r most (M'.map (·.1)) (fun g => Q g ∨ (w.heap.size ≤ g ∧ g < w'.heap.size)) := by
  have hn : n0 ≤ w.heap.size := by have := (hlt pp (hQ pp (.inl rfl))); omega
  have hs : w.heap.size ≤ w'.heap.size := hc.size
  refine ⟨⟨M', Lv', A', cap', Y', h', rfl, fun g hg => ?_⟩, fun g hg => ?_⟩
  · rcases hg with rfl | ⟨a, ha, rfl⟩ | hg
    · exact .inl (hQ _ (.inl rfl))
    · rcases hA a ha with ⟨a2, e, e2⟩ | e
      · exact .inl (hQ _ (.inr (.inl ⟨a2, e, e2.symm⟩)))
      · exact .inr ⟨e, h'.list.lt a ha⟩
    · rcases hY g hg with e | e
      · exact .inl (hQ _ (.inr (.inr e)))
      · exact .inr ⟨e, (h'.yb g hg).2.1⟩
  · rcases hg with hg | hg
    · exact ⟨(hlt g hg).1, Nat.lt_of_lt_of_le (hlt g hg).2 hs⟩
    · exact ⟨by omega, hg.2⟩
/-- the pool and its disk: all their blocks are Z -/
def RQ (n0 : Nat) (w : World) (q r most : Nat) (D : Dsk) (L : List Hand) (Z : Nat → Prop) : Prop := ∃ S Q, RD n0 w r D S ∧ RP n0 w q r most L Q ∧ (∀ g, S g → ¬ Q g) ∧ ∀ g, Z g ↔ S g ∨ Q g
def RQNow (n0 : Nat) (w : World) (q r most : Nat) (D' : Dsk) (L' : List Hand) (Z : Nat → Prop) (w' : World) : Prop := ∃ Z', RQ n0 w' q r most D' L' Z' ∧ Grows w Z Z' ∧ Chg Z w w'
section
variable {n0 : Nat} {w w' : World} {q r most : Nat} {D : Dsk} {L : List Hand} {Z : Nat → Prop}
theorem RQ.lt (h : RQ n0 w q r most D L Z) : ∀ g, Z g → n0 ≤ g ∧ g < w.heap.size := by
  obtain ⟨S, Q, h1, h2, h3, h4⟩ := h
  exact fun g hg => ((h4 g).1 hg).elim (h1.2.2 g) (h2.2 g)
theorem RQ.keep {G : Nat → Prop} (h : RQ n0 w q r most D L Z) (hc : Chg G w w') (hG : ∀ g, Z g → ¬ G g) : RQ n0 w' q r most D L Z := by
  obtain ⟨S, Q, h1, h2, h3, h4⟩ := h
  exact ⟨S, Q, h1.keep hc (fun g hg => hG g ((h4 g).2 (.inl hg))), h2.keep hc (fun g hg => hG g ((h4 g).2 (.inr hg))), h3, h4⟩
theorem RQ.below (h : RQ n0 w q r most D L Z) (hb : Below w.heap.size w w') : RQ n0 w' q r most D L Z :=
  h.keep (G := fun _ => False) (.of_below hb) (fun _ _ h => h)
theorem RQ.here (h : RQ n0 w q r most D L Z) : Z q ∧ Z r := by
  obtain ⟨S, Q, ⟨_, ⟨x, Y, _, h1⟩, _⟩, ⟨⟨M, Lv, A, cap, Y2, _, _, h2⟩, _⟩, h3, h4⟩ := h
  exact ⟨(h4 q).2 (.inr (h2 q (.inl rfl))), (h4 r).2 (.inl (h1 r (.inr (.inl rfl))))⟩
theorem RQ.n_le (h : RQ n0 w q r most D L Z) : n0 ≤ w.heap.size := by
  have := h.lt q h.here.1; omega
/-- the disk is worked on -/
theorem RQ.disk (h : RQ n0 w q r most D L Z) : ∃ S, RD n0 w r D S ∧ (∀ g, S g → Z g) ∧ (∀ w' D', RNow n0 w r S D' w' → RQNow n0 w q r most D' L Z w') := by
  obtain ⟨S, Q, h1, h2, h3, h4⟩ := h
  refine ⟨S, h1, fun g hg => (h4 g).2 (.inl hg), fun w' D' ⟨S', g1, g2, g3⟩ => ⟨fun g => S' g ∨ Q g, ⟨S', Q, g1, h2.keep g3 (fun g hg e => h3 g e hg), fun g hg e => ?_, fun g => Iff.rfl⟩, fun g hg => ?_, g3.mono (fun g _ hg => (h4 g).2 (.inl hg))⟩⟩
  · rcases g2 g hg with a | a
    · exact h3 g a e
    · have := (h2.2 g e).2; omega
  · rcases hg with hg | hg
    · exact (g2 g hg).imp (fun e => (h4 g).2 (.inl e)) id
    · exact .inl ((h4 g).2 (.inr hg))
/-- the pool is worked on -/
theorem RQ.pool (h : RQ n0 w q r most D L Z) : ∃ Q, RP n0 w q r most L Q ∧ (∀ g, Q g → Z g) ∧ (∀ w' L', RP n0 w' q r most L' (fun g => Q g ∨ (w.heap.size ≤ g ∧ g < w'.heap.size)) → Chg Q w w' → RQ n0 w' q r most D L' (fun g => Z g ∨ (w.heap.size ≤ g ∧ g < w'.heap.size)) ∧ Chg Z w w') := by
  obtain ⟨S, Q, h1, h2, h3, h4⟩ := h
  refine ⟨Q, h2, fun g hg => (h4 g).2 (.inr hg), fun w' L' g1 g3 => ⟨⟨S, _, h1.keep g3 (fun g hg e => h3 g hg e), g1, fun g hg e => ?_, fun g => ?_⟩, g3.mono (fun g _ hg => (h4 g).2 (.inr hg))⟩⟩
  · rcases e with a | a
    · exact h3 g hg a
    · have := (h1.2.2 g hg).2; omega
  · show (Z g ∨ _) ↔ _
    rw [h4 g]
    constructor
    · rintro ((a | a) | a)
      · exact .inl a
      · exact .inr (.inl a)
      · exact .inr (.inr a)
    · rintro (a | a | a)
      · exact .inl (.inl a)
      · exact .inl (.inr a)
      · exact .inr a
theorem RQ.made {w' : World} {D' : Dsk} {L' : List Hand} (h : RQ n0 w' q r most D' L' (fun g => Z g ∨ (w.heap.size ≤ g ∧ g < w'.heap.size)) ∧ Chg Z w w') : RQNow n0 w q r most D' L' Z w' := ⟨_, h.1, fun g hg => hg.elim .inl (fun e => .inr e.1), h.2⟩
theorem RQNow.trans {w1 : World} {D2 : Dsk} {L2 : List Hand} {Z1 : Nat → Prop} (hg : Grows w Z Z1) (hc : Chg Z w w1) (h : RQNow n0 w1 q r most D2 L2 Z1 w') : RQNow n0 w q r most D2 L2 Z w' := by
  obtain ⟨Z', h1, h2, h3⟩ := h
  exact ⟨Z', h1, hg.trans h2 hc.size, hc.trans h3 (fun g hg' e => (hg g e).elim id (fun e2 => by omega))⟩
theorem RQ.now (h : RQ n0 w' q r most D L Z) (hc : Chg Z w w') : RQNow n0 w q r most D L Z w' := ⟨Z, h, Grows.refl _ _, hc⟩
end
end Go.Proofs.YtfbjjblgcgjndaaGreat

/- A pool and its disk, the reference's beside them, and the book: what a step on one of them leaves of all. -/
namespace Go.Proofs.YtfbjjblgcgjndaaGreat
open Go.RowKit Go.Maps

theorem PoolX.keepN {n0 : Nat} {w w' : World} {P d most : Nat} {D : Dsk} {L : List Hand} {c : Nat} {X : Nat → Prop} (h : PoolX n0 w P d most D L c X) {G : Nat → Prop} (hc : Chg G w w') (hG : ∀ g, g < w.heap.size → G g → X g) : PoolX n0 w' P d most D L c (fun g => X g ∨ (w.heap.size ≤ g ∧ g < w'.heap.size)) := by
  obtain ⟨S, T, h, hx⟩ := h
  have hc' : Chg (fun g => G g ∧ g < w.heap.size) w w' := ⟨hc.os, hc.tape, hc.output, hc.size, fun k hk hF => hc.block k hk (fun e => hF ⟨e, hk⟩)⟩
  have hG' : ∀ g, G g ∧ g < w.heap.size → X g := fun g hg => hG g hg.2 hg.1
  refine ⟨S, T, ⟨h.disk.keep hc' (fun g hg e => (hx g (hG' g e)).2.1 hg), h.pool.keep hc' (fun g hg e => (hx g (hG' g e)).2.2 hg), h.sep⟩, fun g hg => ?_⟩
  rcases hg with hg | ⟨a, b⟩
  · exact ⟨Nat.lt_of_lt_of_le (hx g hg).1 hc.size, (hx g hg).2⟩
  · exact ⟨b, fun e => by have := h.disk.top g e; omega, fun e => by have := (h.pool.2 g e).2; omega⟩
theorem PoolX.lt {n0 : Nat} {w : World} {P d most : Nat} {D : Dsk} {L : List Hand} {c : Nat} {X : Nat → Prop} (h : PoolX n0 w P d most D L c X) : ∀ g, X g → g < w.heap.size := by
  obtain ⟨S, T, _, hx⟩ := h
  exact fun g hg => (hx g hg).1
structure QuadOk (n0 : Nat) (w : World) (P d q r b most : Nat) (D : Dsk) (L : List Hand) (E : Dsk) (M : List Hand) (c K : Nat) (Z B X : Nat → Prop) : Prop where
  pool : PoolX n0 w P d most D L c (fun g => Z g ∨ B g ∨ X g)
  ref : RQ n0 w q r most E M Z
  book : BookOk n0 w b K B B
  blt : ∀ g, B g → n0 ≤ g
  sep : (∀ g, Z g → ¬ B g ∧ ¬ X g) ∧ ∀ g, B g → ¬ X g
/-- Z: the reference's blocks; X: blocks aside -/
def QuadX (n0 : Nat) (w : World) (P d q r b most : Nat) (D : Dsk) (L : List Hand) (E : Dsk) (M : List Hand) (c K : Nat) (Z X : Nat → Prop) : Prop := ∃ B, QuadOk n0 w P d q r b most D L E M c K Z B X
section
variable {n0 : Nat} {w w' : World} {P d q r b most : Nat} {D : Dsk} {L : List Hand} {E : Dsk} {M : List Hand} {c K : Nat} {Z X : Nat → Prop}
theorem QuadX.n_le (h : QuadX n0 w P d q r b most D L E M c K Z X) : n0 ≤ w.heap.size := by
  obtain ⟨B, h⟩ := h
  exact h.pool.n_le
theorem QuadX.less (h : QuadX n0 w P d q r b most D L E M c K Z X) {X' : Nat → Prop} (hX : ∀ g, X' g → X g) : QuadX n0 w P d q r b most D L E M c K Z X' := by
  obtain ⟨B, h⟩ := h
  exact ⟨B, h.pool.less (fun g hg => hg.imp id (Or.imp id (hX g))), h.ref, h.book, h.blt, fun g hg => ⟨(h.sep.1 g hg).1, fun e => (h.sep.1 g hg).2 (hX g e)⟩, fun g hg e => h.sep.2 g hg (hX g e)⟩
theorem QuadX.lt (h : QuadX n0 w P d q r b most D L E M c K Z X) : ∀ g, X g → g < w.heap.size := by
  obtain ⟨B, h⟩ := h
  exact fun g hg => h.pool.lt g (.inr (.inr hg))
theorem QuadX.keep (h : QuadX n0 w P d q r b most D L E M c K Z X) {G : Nat → Prop} (hc : Chg G w w') (hG : ∀ g, g < w.heap.size → G g → X g) : QuadX n0 w' P d q r b most D L E M c K Z X := by
  obtain ⟨B, h⟩ := h
  have hc' : Chg (fun g => G g ∧ g < w.heap.size) w w' := ⟨hc.os, hc.tape, hc.output, hc.size, fun k hk hF => hc.block k hk (fun e => hF ⟨e, hk⟩)⟩
  exact ⟨B, h.pool.keep hc (fun g hl hg => .inr (.inr (hG g hl hg))), h.ref.keep hc' (fun g hg e => (h.sep.1 g hg).2 (hG g e.2 e.1)), h.book.keep hc' (fun g _ hg e => h.sep.2 g (hg.elim id id) (hG g e.2 e.1)), h.blt, h.sep⟩
theorem QuadX.below (h : QuadX n0 w P d q r b most D L E M c K Z X) (hb : Below w.heap.size w w') : QuadX n0 w' P d q r b most D L E M c K Z X :=
  h.keep (G := fun _ => False) (.of_below hb) (fun _ _ h => h.elim)
theorem QuadX.also (h : QuadX n0 w P d q r b most D L E M c K Z X) (hb : Below w.heap.size w w') {Y : Nat → Prop} (hY : ∀ g, Y g → w.heap.size ≤ g ∧ g < w'.heap.size) : QuadX n0 w' P d q r b most D L E M c K Z (fun g => X g ∨ Y g) := by
  obtain ⟨B, h⟩ := h
  refine ⟨B, (h.pool.also hb hY).less (fun g hg => ?_), h.ref.below hb, h.book.below hb, h.blt, fun g hg => ⟨(h.sep.1 g hg).1, fun e => e.elim (h.sep.1 g hg).2 (fun e => ?_)⟩, fun g hg e => e.elim (h.sep.2 g hg) (fun e => ?_)⟩
  · rcases hg with hg | hg | hg | hg
    · exact .inl (.inl hg)
    · exact .inl (.inr (.inl hg))
    · exact .inl (.inr (.inr hg))
    · exact .inr hg
  · have := (h.ref.lt g hg).2; have := hY g e; omega
  · have := h.pool.lt g (.inr (.inl hg)); have := hY g e; omega
theorem QuadX.moreC (h : QuadX n0 w P d q r b most D L E M c K Z X) {c' : Nat} (hc : c ≤ c') : QuadX n0 w P d q r b most D L E M c' K Z X := by
  obtain ⟨B, h⟩ := h
  exact ⟨B, h.pool.moreC hc, h.ref, h.book, h.blt, h.sep⟩
/-- the pool is worked on -/
theorem QuadX.pool (h : QuadX n0 w P d q r b most D L E M c K Z X) : ∃ X1, PoolX n0 w P d most D L c X1 ∧ (∀ g, X g → X1 g) ∧ (∀ g, Z g → X1 g) ∧ (∀ w' D' L' c' (Y : Nat → Prop), PoolX n0 w' P d most D' L' c' (fun g => X1 g ∨ Y g) → Step n0 X1 w w' → (∀ g, Y g → w.heap.size ≤ g) → QuadX n0 w' P d q r b most D' L' E M c' K Z (fun g => X g ∨ Y g) ∧ Step n0 X w w') ∧
    ∀ w' D' L' c', PoolX n0 w' P d most D' L' c' X1 → Step n0 X1 w w' → QuadX n0 w' P d q r b most D' L' E M c' K Z X ∧ Step n0 X w w' := by
  obtain ⟨B, h⟩ := h
  have key : ∀ w' D' L' c' (Y : Nat → Prop), PoolX n0 w' P d most D' L' c' (fun g => (Z g ∨ B g ∨ X g) ∨ Y g) → Step n0 (fun g => Z g ∨ B g ∨ X g) w w' → (∀ g, Y g → w.heap.size ≤ g) → QuadX n0 w' P d q r b most D' L' E M c' K Z (fun g => X g ∨ Y g) ∧ Step n0 X w w' := by
    intro w' D' L' c' Y hp hs hY
    refine ⟨⟨B, hp.less (fun g hg => ?_), h.ref.keep hs.1 (fun g hg e => e (.inl hg)), h.book.keep hs.1 (fun g _ hg e => e (.inr (.inl (hg.elim id id)))), h.blt, fun g hg => ⟨(h.sep.1 g hg).1, fun e => e.elim (h.sep.1 g hg).2 (fun e => ?_)⟩, fun g hg e => e.elim (h.sep.2 g hg) (fun e => ?_)⟩, hs.1.mono (fun g _ e hg => e (.inr (.inr hg))), hs.2⟩
    · rcases hg with hg | hg | hg | hg
      · exact .inl (.inl hg)
      · exact .inl (.inr (.inl hg))
      · exact .inl (.inr (.inr hg))
      · exact .inr hg
    · have := (h.ref.lt g hg).2; have := hY g e; omega
    · have := h.pool.lt g (.inr (.inl hg)); have := hY g e; omega
  refine ⟨_, h.pool, fun g hg => .inr (.inr hg), fun g hg => .inl hg, key, fun w' D' L' c' hp hs => ?_⟩
  obtain ⟨k1, k2⟩ := key w' D' L' c' (fun _ => False) (hp.less (fun g hg => hg.elim id (fun e => e.elim))) hs (fun _ h => h.elim)
  exact ⟨k1.less (fun g hg => .inl hg), k2⟩
/-- the reference is worked on -/
theorem QuadX.ref (h : QuadX n0 w P d q r b most D L E M c K Z X) : RQ n0 w q r most E M Z ∧ (∀ g, X g → ¬ Z g) ∧ ∀ w' E' M' Z', RQ n0 w' q r most E' M' Z' → Grows w Z Z' → Chg Z w w' → QuadX n0 w' P d q r b most D L E' M' c K Z' X ∧ Step n0 X w w' := by
  obtain ⟨B, h⟩ := h
  refine ⟨h.ref, fun g hg e => (h.sep.1 g e).2 hg, fun w' E' M' Z' hq hg hc => ⟨⟨B, (h.pool.keepN hc (fun g _ hz => .inl hz)).less (fun g hx => ?_), hq, h.book.keep hc (fun g _ hx e => (h.sep.1 g e).1 (hx.elim id id)), h.blt, fun g hz => ?_, h.sep.2⟩, hc.mono (fun g _ e hx => (h.sep.1 g e).2 hx), hc.below h.pool.n_le (fun g hz => (h.ref.lt g hz).1)⟩⟩
  · rcases hx with hx | hx | hx
    · rcases hg g hx with e | e
      · exact .inl (.inl e)
      · exact .inr ⟨e, (hq.lt g hx).2⟩
    · exact .inl (.inr (.inl hx))
    · exact .inl (.inr (.inr hx))
  · rcases hg g hz with e | e
    · exact h.sep.1 g e
    · exact ⟨fun e2 => by have := h.pool.lt g (.inr (.inl e2)); omega, fun e2 => by have := h.pool.lt g (.inr (.inr e2)); omega⟩
/-- bytes are put into the book -/
theorem QuadX.put (h : QuadX n0 w P d q r b most D L E M c K Z X) {fn : FuncId} (v : Value) (X0 : Nat → Prop) (hX0 : ∀ g, X0 g → X g ∧ ¬ blk v g) (hv : ∀ g, blk v g → n0 ≤ g ∧ X g)
    (hcall : ∀ B, BookOk n0 w b K B B → (∀ g, blk v g → ¬ (B g ∨ B g)) → n0 ≤ w.heap.size → Calls Tryz.prog fn #[.pointer (some ⟨b, 0, none⟩), v] w (BookPut n0 w b K B B v)) :
    Calls Tryz.prog fn #[.pointer (some ⟨b, 0, none⟩), v] w fun e w' => e = .returned (.tuple #[]) ∧ QuadX n0 w' P d q r b most D L E M c (K + 1) Z X0 ∧ Step n0 (fun g => X g ∨ Z g) w w' := by
  obtain ⟨B, h⟩ := h
  have hn : n0 ≤ w.heap.size := h.pool.n_le
  refine (hcall B h.book (fun g hg e => h.sep.2 g (e.elim id id) (hv g hg).2) hn).mono ?_
  rintro e w' ⟨rfl, hb, hc, hbl⟩
  refine ⟨rfl, ⟨fun g => More B w.heap.size w'.heap.size g ∨ Also B v g, (h.pool.keepN hc (fun g _ hz => .inr (.inl hz))).less (fun g hg => ?_), h.ref.keep hc (fun g hg e => (h.sep.1 g hg).1 e), hb.mono (fun g _ _ e => .inl e) (fun g _ _ e => .inr e), fun g hg => ?_, fun g hg => ⟨fun e => ?_, fun e => (h.sep.1 g hg).2 (hX0 g e).1⟩, fun g hg e => ?_⟩, hc.mono (fun g _ e hx => hx.elim (h.sep.2 g e) (fun hz => (h.sep.1 g hz).1 e)), hbl⟩
  · rcases hg with hg | ((hg | hg) | hg | hg) | hg
    · exact .inl (.inl hg)
    · exact .inl (.inr (.inl hg))
    · exact .inr hg
    · exact .inl (.inr (.inl hg))
    · exact .inl (.inr (.inr (hv g hg).2))
    · exact .inl (.inr (.inr (hX0 g hg).1))
  · rcases hg with (hg | hg) | hg | hg
    · exact h.blt g hg
    · omega
    · exact h.blt g hg
    · exact (hv g hg).1
  · rcases e with (e | e) | e | e
    · exact (h.sep.1 g hg).1 e
    · have := (h.ref.lt g hg).2; omega
    · exact (h.sep.1 g hg).1 e
    · exact (h.sep.1 g hg).2 (hv g e).2
  · rcases hg with (hg | hg) | hg | hg
    · exact h.sep.2 g hg (hX0 g e).1
    · have := h.pool.lt g (.inr (.inr (hX0 g e).1)); omega
    · exact h.sep.2 g hg (hX0 g e).1
    · exact (hX0 g e).2 hg
end
end Go.Proofs.YtfbjjblgcgjndaaGreat

/- Contract of the disk's Load. -/
namespace Go.Proofs.YtfbjjblgcgjndaaGreat
open Go.RowKit Go.Maps

def part128 (l : List Nat) (i : Nat) : List Nat := (l.drop (128 * i)).take 128
theorem part128_len {l : List Nat} {i : Nat} (h : 128 * (i + 1) ≤ l.length) : (part128 l i).length = 128 := by
  unfold part128; rw [List.length_take, List.length_drop]; omega
/-- the first j sectors are laid -/
def loaded (img : List Nat) (n : Nat) : Nat → List (List Nat)
  | 0 => List.replicate n zeroSect
  | j + 1 => (loaded img n j).set j (part128 img j)
theorem loaded_length (img : List Nat) (n j : Nat) : (loaded img n j).length = n := by
  induction j with
  | zero => simp [loaded]
  | succ j ih => simp [loaded, ih]
theorem getD_set8 {α : Type} (l : List α) (i j : Nat) (x d : α) : (l.set i x).getD j d = if j = i ∧ i < l.length then x else l.getD j d := by
  rw [List.getD_eq_getElem?_getD, List.getD_eq_getElem?_getD, List.getElem?_set]
  by_cases h : i = j
  · subst h
    by_cases h2 : i < l.length
    · simp [h2]
    · simp [h2]
  · rw [if_neg h, if_neg (fun e => h e.1.symm)]
theorem loaded_get (img : List Nat) (n j i : Nat) (hj : j ≤ n) (hi : i < j) : (loaded img n j).getD i [] = part128 img i := by
  induction j with
  | zero => omega
  | succ j ih =>
    rw [loaded, getD_set8, loaded_length]
    by_cases e : i = j
    · rw [if_pos ⟨e, by omega⟩, e]
    · rw [if_neg (fun h => e h.1)]; exact ih (by omega) (by omega)
theorem loaded_all (img : List Nat) (n : Nat) : loaded img n n = (List.range n).map (part128 img) := by
  apply List.ext_getElem
  · rw [loaded_length]; simp
  · intro i h1 h2
    rw [loaded_length] at h1
    have := loaded_get img n n i (Nat.le_refl _) h1
    rw [List.getD_eq_getElem?_getD, List.getElem?_eq_getElem (by rw [loaded_length]; exact h1)] at this
    simpa using this
theorem parts_flat (l : List Nat) (n : Nat) (h : 128 * n ≤ l.length) : ((List.range n).map (part128 l)).flatten = l.take (128 * n) := by
  induction n with
  | zero => simp
  | succ n ih =>
    rw [List.range_succ, List.map_append, List.flatten_append, ih (by omega)]
    simp only [List.map_cons, List.map_nil, List.flatten_cons, List.flatten_nil, List.append_nil, part128]
    rw [show 128 * (n + 1) = 128 * n + 128 by omega, List.take_add]
theorem loaded_ok {img : List Nat} (hb : Bytes img) {n j : Nat} (hj : j ≤ n) (h : 128 * n ≤ img.length) : ∀ s ∈ loaded img n j, sectOk s := by
  induction j with
  | zero => intro s hs; rw [(List.mem_replicate.1 hs).2]; exact zeroSect_ok
  | succ j ih =>
    intro s hs
    rcases List.mem_or_eq_of_mem_set hs with hs | rfl
    · exact ih (by omega) s hs
    · exact ⟨part128_len (by omega), (hb.drop _).take _⟩
def Dsk.loads (img : List Nat) (p j : Nat) : Dsk := { Dsk.new p with last := loaded img (8 * p) j }
def Dsk.load (img : List Nat) : Dsk := Dsk.loads img (img.length / 1024) (8 * (img.length / 1024))
theorem Dsk.load_flat (img : List Nat) (h : img.length % 1024 = 0) : (Dsk.load img).last.flatten = img := by
  show (loaded img _ _).flatten = img
  rw [loaded_all, parts_flat img _ (by omega), List.take_of_length_le (by omega)]
theorem Dsk.loads_ok {img : List Nat} (hb : Bytes img) {p j : Nat} (h1 : 1 ≤ p) (h2 : p ≤ 16384) (hj : j ≤ 8 * p) (hl : 1024 * p ≤ img.length) : (Dsk.loads img p j).Ok :=
  ⟨loaded_ok hb hj (by omega), fun x hx => by simp [Dsk.loads, Dsk.new] at hx, ⟨p, loaded_length _ _ _, h1, h2⟩, by simp [Dsk.loads, Dsk.new], fun j => by simp [Dsk.loads, Dsk.new], fun j => by simp [Dsk.loads, Dsk.new]⟩
theorem DG.lay {n0 : Nat} {w : World} {p : Nat} {D : Dsk} {S : Nat → Prop} (h : DG n0 w p D S) (i : Nat) (hi : i < D.last.length) (s : List Nat) (hs : sectOk s) :
    ∃ b, w.cell? ⟨p, 0, none⟩ = some (.slice (some ⟨b, 0, none⟩) D.last.length D.last.length) ∧ S b ∧ (∀ j, j < 128 → (w.cell? ⟨b, i * 128 + j, none⟩).isSome = true ∧ w.frozen? ⟨b, i * 128 + j, none⟩ = false) ∧
      DG n0 (w.setCells b (i * 128) (ns .u8 s)) p { D with last := D.last.set i s } S ∧ Chg S w (w.setCells b (i * 128) (ns .u8 s)) := by
  obtain ⟨⟨ok, q, M, hin, hft⟩, hlt⟩ := h
  obtain ⟨h1, h2⟩ := hin.lay (fun s hs => (ok.last s hs).1) i hi s hs.1
  have hSb := hft q.b (.inr (.inl rfl))
  refine ⟨q.b, hin.rcd.cell 0 (by omega), hSb, fun j hj => ?_, ⟨⟨⟨?_, fun x hx => by rw [List.length_set]; exact ok.cache x hx, ?_, ok.trip, ok.f, ok.n⟩, q, M, h1, hft⟩, fun g hg => ⟨(hlt g hg).1, Nat.lt_of_lt_of_le (hlt g hg).2 h2.size⟩⟩, h2.mono (fun g _ e => by rw [show g = q.b from e]; exact hSb)⟩
  · have := hin.last.there (i * 128 + j) (by have : (i + 1) * 128 ≤ D.last.length * 128 := Nat.mul_le_mul_right _ hi; omega)
    simpa using this
  · intro t ht
    rcases List.mem_or_eq_of_mem_set ht with ht | rfl
    · exact ok.last t ht
    · exact hs
  · obtain ⟨k, a, b⟩ := ok.pages
    exact ⟨k, by rw [← a]; exact List.length_set .., b⟩
theorem At.cellj {w : World} {A : Option Addr} {xs : List Value} (h : At w A xs) (hne : xs ≠ []) : ∃ b o, A = some ⟨b, o, none⟩ ∧ w.rangeAt b o xs := h hne
theorem wpList_copyrun {P : Program} (w : World) {ops : Array Oper} {rest : List Oper} {o : Oper} {a : Act} {Q : Exit → Act → World → Prop} (hgd : o.guard = none) (d s : Operand) (t t' : TypeId)
    (ho : o.op = .call { callee := .builtin .copy, args := #[d, s], argTypes := #[t, t'] }) (v u : Value) (hd : a.eval d = v) (hs : a.eval s = u) {v' : Value} {w' : World}
    (hr : (Builtin.copy_ #[t, t'] o.type #[v, u]).run P w = .ok v' w') (h : wpList P ops Q rest (a.put o.dst v') w') : wpList P ops Q (o :: rest) a w := by
  refine wpList_plain hgd fun _ hK => ?_
  unfold Oper.wp execOp
  simp only [ho, resolve, invoke, builtin, Sem.run_bind, Sem.run_pure, Result.andThen_ok, List.map_toArray, List.map_cons, List.map_nil, hd, hs, hr]
  exact hK _ _ h
def LoadGives (img : List Nat) (w : World) (e : Ending) (w' : World) : Prop :=
  (∃ p S, e = .returned (.tuple #[.pointer (some ⟨p, 0, none⟩), .int .u16 0]) ∧ DG w.heap.size w' p (Dsk.load img) S ∧ Below w.heap.size w w' ∧ img.length % 1024 = 0 ∧ 1 ≤ img.length / 1024 ∧ img.length / 1024 ≤ 16384)
def LoadFails (w : World) (e : Ending) (w' : World) : Prop := e = .returned (.tuple #[.pointer none, .int .u16 70]) ∧ Below w.heap.size w w'
end Go.Proofs.YtfbjjblgcgjndaaGreat

/- Pool, plain laws: what the disk's pages hold, and what the pages at hand say of them. -/
namespace Go.Proofs.YtfbjjblgcgjndaaGreat

theorem lastWrite_puts (c : List (Nat × List Nat)) (a : Nat) (b : List Nat) (k x : Nat) : lastWrite (c ++ puts a b k) x = if a ≤ x ∧ x < a + k then some ((b.drop (128 * (x - a))).take 128) else lastWrite c x := by
  induction k with
  | zero => rw [if_neg (by omega)]; simp [puts]
  | succ k ih =>
    simp only [puts, ← List.append_assoc]
    rw [lastWrite_append, ih]
    by_cases h : a + k = x
    · subst h
      rw [if_pos rfl, if_pos (by omega), show a + k - a = k by omega]
    · rw [if_neg h]
      by_cases h2 : a ≤ x ∧ x < a + k
      · rw [if_pos h2, if_pos (by omega)]
      · rw [if_neg h2, if_neg (by omega)]
theorem sec_put (D : Dsk) (a : Nat) (b : List Nat) (k x : Nat) : (D.put a b k).sec x = if a ≤ x ∧ x < a + k then (b.drop (128 * (x - a))).take 128 else D.sec x := by
  unfold Dsk.sec Dsk.put
  simp only
  rw [lastWrite_puts]
  by_cases h : a ≤ x ∧ x < a + k
  · rw [if_pos h, if_pos h]
  · rw [if_neg h, if_neg h]
theorem secs_congr {D E : Dsk} {a k : Nat} (h : ∀ i, i < k → D.sec (a + i) = E.sec (a + i)) : D.secs a k = E.secs a k := by
  unfold Dsk.secs
  congr 1
  exact List.map_congr_left fun i hi => h i (List.mem_range.1 hi)
def pageOf (D : Dsk) (n : Nat) : List Nat := D.secs (8 * n) 8
theorem page_put (D : Dsk) (n m : Nat) (b : List Nat) (hb : b.length = 1024) : pageOf (D.put (8 * n) b 8) m = if m = n then b else pageOf D m := by
  unfold pageOf
  by_cases h : m = n
  · subst h
    rw [if_pos rfl]
    have : (D.put (8 * m) b 8).secs (8 * m) 8 = ((List.range 8).map (part128 b)).flatten := by
      unfold Dsk.secs
      congr 1
      refine List.map_congr_left fun i hi => ?_
      have hi' := List.mem_range.1 hi
      rw [sec_put, if_pos (by omega), show 8 * m + i - 8 * m = i by omega]
      rfl
    rw [this, parts_flat b 8 (by omega), List.take_of_length_le (by omega)]
  · rw [if_neg h]
    refine secs_congr fun i hi => ?_
    rw [sec_put, if_neg (by omega)]
/-- the same bytes -/
def SameD (D E : Dsk) : Prop := E.last = D.last ∧ E.cache = D.cache
theorem SameD.refl (D : Dsk) : SameD D D := ⟨rfl, rfl⟩
theorem SameD.trans {D E F : Dsk} (h : SameD D E) (k : SameD E F) : SameD D F := ⟨k.1.trans h.1, k.2.trans h.2⟩
theorem SameD.page {D E : Dsk} (h : SameD D E) (n : Nat) : pageOf E n = pageOf D n := by
  unfold pageOf
  refine secs_congr fun i _ => ?_
  unfold Dsk.sec
  rw [h.1, h.2]
theorem SameD.pages {D E : Dsk} (h : SameD D E) : E.pages = D.pages := by unfold Dsk.pages; rw [h.1]
theorem same_begin (D : Dsk) (k : Nat) : SameD D (D.begin k).2 := D.begin_last k
theorem same_read (D : Dsk) (n : Int) : SameD D (D.read n).2.2 := by
  unfold Dsk.read
  split
  · exact same_begin D 1
  · split <;> exact ⟨rfl, rfl⟩
theorem read_good {D : Dsk} {n : Nat} (h : (D.read (n : Int)).1 = 0) : (D.read (n : Int)).2.1 = pageOf D n ∧ n < D.pages := by
  unfold Dsk.read at h ⊢
  split at h
  · rename_i h1; exact absurd h h1
  · rename_i h1
    rw [if_neg h1]
    split at h
    · cases h
    · rename_i h2
      rw [if_neg h2]
      exact ⟨by rw [Int.toNat_natCast]; rfl, by omega⟩
theorem write_bad {D : Dsk} {n : Int} {b : List Nat} (h : (D.write n b).1 ≠ 0) : SameD D (D.write n b).2 := by
  unfold Dsk.write at h ⊢
  split
  · exact same_begin D 2
  · split
    · exact ⟨rfl, rfl⟩
    · split
      · exact ⟨rfl, rfl⟩
      · rename_i h1 h2 h3
        rw [if_neg h1, if_neg h2, if_neg h3] at h
        exact absurd rfl h
theorem pl_write_yes {D : Dsk} {pg : Int} {l : List Nat} (h : (D.write pg l).1 = 0) : (D.begin 2).1 = 0 ∧ ∃ n : Nat, pg = (n : Int) ∧ n < D.pages ∧ (l.length = 1024 ∨ l.length = 128) ∧ D.write pg l = (0, (D.go 2).put (8 * n) l (l.length / 128)) := by
  by_cases hb : (D.begin 2).1 = 0
  · refine ⟨hb, ?_⟩
    have hrd : D.write pg l = if pg < 0 ∨ (D.pages : Int) ≤ pg then (2, D.go 2) else if l.length ≠ 1024 ∧ l.length ≠ 128 then (1, D.go 2) else (0, (D.go 2).put (8 * pg.toNat) l (l.length / 128)) := by unfold Dsk.write; rw [if_neg (by simpa using hb)]
    rw [hrd] at h ⊢
    split at h
    · cases h
    · rename_i h1
      split at h
      · cases h
      · rename_i h2
        refine ⟨pg.toNat, by omega, by omega, by omega, ?_⟩
        rw [if_neg h1, if_neg h2]
  · exfalso
    have hrd : D.write pg l = D.begin 2 := by unfold Dsk.write; rw [if_pos hb]
    rw [hrd] at h
    exact hb h
theorem write_good {D : Dsk} {n : Nat} {b : List Nat} (h : (D.write (n : Int) b).1 = 0) (hb : b.length = 1024) : n < D.pages ∧ (∀ m, pageOf (D.write (n : Int) b).2 m = if m = n then b else pageOf D m) ∧ (D.write (n : Int) b).2.pages = D.pages := by
  obtain ⟨_, m, e1, e2, _, e3⟩ := pl_write_yes h
  obtain rfl : n = m := by omega
  rw [e3]
  refine ⟨e2, fun m => ?_, rfl⟩
  simp only [hb]
  rw [show 1024 / 128 = 8 from rfl, page_put _ _ _ _ hb]
  split
  · rfl
  · exact (show SameD D (D.go 2) from ⟨rfl, rfl⟩).page m
/-- what a page holds -/
def Holds (D : Dsk) (n : Nat) : Option (Nat × List Nat) → Prop
  | some x => pageOf D n = sealed x.1 n x.2 ∧ SealOk x.1 x.2
  | none => ¬ IsPage n (pageOf D n)
theorem Holds.same {D E : Dsk} {n : Nat} {o : Option (Nat × List Nat)} (h : Holds D n o) (he : pageOf E n = pageOf D n) : Holds E n o := by
  cases o with
  | none => unfold Holds at *; rw [he]; exact h
  | some x => unfold Holds at *; rw [he]; exact h
/-- the pages at hand are as the disk has them -/
structure Coh (most : Nat) (D : Dsk) (L : List Hand) (C : Nat → Option (Nat × List Nat)) : Prop where
  page : ∀ n, n < D.pages → Holds D n (C n)
  hand : ∀ h, h ∈ L → h.num < D.pages ∧ C h.num = some (h.kind, h.pay)
  len : L.length ≤ most
theorem mem_forget {n : Nat} {L : List Hand} {h : Hand} (hm : h ∈ forget n L) : h ∈ L := (List.mem_filter.1 hm).1
theorem forget_len (n : Nat) (L : List Hand) : (forget n L).length ≤ L.length := List.length_filter_le _ _
theorem forget_len_lt {n : Nat} {L : List Hand} {h : Hand} (hm : h ∈ L) (hn : h.num = n) : (forget n L).length < L.length := by
  unfold forget
  exact List.length_filter_lt_length_iff_exists.2 ⟨h, hm, by simp [hn]⟩
theorem use_len {most : Nat} (h : Hand) {L : List Hand} (hl : L.length ≤ most) (hm : 1 ≤ most) : (usePage most h L).length ≤ most := by
  have := forget_len h.num L
  unfold usePage
  split
  · rw [List.length_drop]; simp; omega
  · omega
theorem mem_use {most : Nat} {h x : Hand} {L : List Hand} (hx : x ∈ usePage most h L) : x = h ∨ (x ∈ L ∧ x.num ≠ h.num) := by
  have key : x ∈ forget h.num L ++ [h] := by
    unfold usePage at hx
    split at hx
    · exact List.mem_of_mem_drop hx
    · exact hx
  rcases List.mem_append.1 key with k | k
  · exact .inr ⟨mem_forget k, forget_num x k⟩
  · exact .inl (by simpa using k)
theorem find_mem {n : Nat} {L : List Hand} {x : Hand} (h : findPage n L = some x) : x ∈ L ∧ x.num = n := by
  unfold findPage at h
  exact ⟨List.mem_of_find?_eq_some h, by have := List.find?_some h; simpa using this⟩
theorem open_sealed {k n : Nat} {p : List Nat} (h : SealOk k p) : IsPage n (sealed k n p) ∧ openKind n (sealed k n p) = k ∧ openPay n (sealed k n p) = p := by
  have hp := isPage_sealed k n p h
  obtain ⟨a, _, b, _⟩ := sealed_parts k n p h.2.2
  refine ⟨hp, ?_, ?_⟩
  · unfold openKind; rw [if_pos hp, a]
  · unfold openPay; rw [if_pos hp, b]
/-- what a read tells, if the disk does not fail -/
def tells (D : Dsk) (C : Nat → Option (Nat × List Nat)) (n : Nat) : Nat × List Nat × Nat :=
  if D.pages ≤ n then (0, [], 2) else match C n with
    | some x => (x.1, x.2, 0)
    | none => (0, [], 100)
theorem coh_read {most : Nat} {D : Dsk} {L : List Hand} {C : Nat → Option (Nat × List Nat)} (h : Coh most D L C) (hm : 1 ≤ most) (n : Nat) :
    Coh most (plRead most D L n).D (plRead most D L n).L C ∧ SameD D (plRead most D L n).D ∧
    (((plRead most D L n).kind, (plRead most D L n).pay, (plRead most D L n).err) = tells D C n ∨ (n < D.pages ∧ findPage n L = none ∧ (D.read (n : Int)).1 ≠ 0 ∧ plRead most D L n = ⟨0, [], (D.read (n : Int)).1, (D.read (n : Int)).2.2, L⟩)) := by
  have keep : ∀ E L', SameD D E → (∀ x, x ∈ L' → x ∈ L ∨ (x.num < D.pages ∧ C x.num = some (x.kind, x.pay))) → L'.length ≤ most → Coh most E L' C := fun E L' hs hL hl =>
    ⟨fun m hm' => (h.page m (by rw [← hs.pages]; exact hm')).same (hs.page m), fun x hx => by
      rw [hs.pages]
      rcases hL x hx with k | k
      · exact h.hand x k
      · exact k, hl⟩
  unfold plRead tells
  by_cases hp : D.pages ≤ n
  · rw [if_pos hp, if_pos hp]
    exact ⟨h, SameD.refl _, .inl rfl⟩
  · rw [if_neg hp, if_neg hp]
    cases hf : findPage n L with
    | some x =>
      obtain ⟨hx, hxn⟩ := find_mem hf
      obtain ⟨_, hc⟩ := h.hand x hx
      rw [hxn] at hc
      refine ⟨keep _ _ (SameD.refl _) (fun y hy => ?_) ?_, SameD.refl _, .inl ?_⟩
      · rcases List.mem_append.1 hy with k | k
        · exact .inl (mem_forget k)
        · have : y = x := by simpa using k
          rw [this]; exact .inl hx
      · have := forget_len_lt hx hxn
        have := h.len
        simp; omega
      · simp only [hc]
    | none =>
      simp only
      by_cases hr : (D.read (n : Int)).1 = 0
      · rw [if_neg (by simpa using hr)]
        obtain ⟨r1, r2⟩ := read_good hr
        rw [r1]
        have hh := h.page n r2
        have hs := same_read D (n : Int)
        cases hc : C n with
        | none =>
          rw [hc] at hh
          rw [if_neg hh]
          exact ⟨keep _ _ hs (fun y hy => .inl hy) h.len, hs, .inl rfl⟩
        | some x =>
          rw [hc] at hh
          obtain ⟨hh1, hh2⟩ := hh
          rw [hh1]
          obtain ⟨o1, o2, o3⟩ := open_sealed (n := n) hh2
          rw [if_pos o1, o2, o3]
          refine ⟨keep _ _ hs (fun y hy => ?_) (use_len _ h.len hm), hs, .inl rfl⟩
          rcases mem_use hy with k | k
          · rw [k]; exact .inr ⟨by simp only; omega, hc⟩
          · exact .inl k.1
      · rw [if_pos hr]
        exact ⟨keep _ _ (same_read D (n : Int)) (fun y hy => .inl hy) h.len, same_read D (n : Int), .inr ⟨by omega, by first | rfl | trivial, hr, rfl⟩⟩
theorem coh_forget {most : Nat} {D : Dsk} {L : List Hand} {C : Nat → Option (Nat × List Nat)} (h : Coh most D L C) (n : Nat) : Coh most D (forget n L) C :=
  ⟨h.page, fun x hx => h.hand x (mem_forget hx), Nat.le_trans (forget_len _ _) h.len⟩
theorem coh_same {most : Nat} {D E : Dsk} {L : List Hand} {C : Nat → Option (Nat × List Nat)} (h : Coh most D L C) (hs : SameD D E) : Coh most E L C :=
  ⟨fun m hm' => (h.page m (by rw [← hs.pages]; exact hm')).same (hs.page m), fun x hx => by rw [hs.pages]; exact h.hand x hx, h.len⟩
theorem coh_write {most : Nat} {D : Dsk} {L : List Hand} {C : Nat → Option (Nat × List Nat)} (h : Coh most D L C) (hm : 1 ≤ most) (n k : Nat) (p : List Nat) :
    Coh most (plWrite most D L n k p).D (plWrite most D L n k p).L (if (plWrite most D L n k p).err = 0 then turn C n (some (k, p)) else C) ∧ (plWrite most D L n k p).D.pages = D.pages := by
  unfold plWrite
  by_cases hs : SealOk k p
  · rw [if_pos hs]
    by_cases hp : D.pages ≤ n
    · rw [if_pos hp]
      exact ⟨by simpa using h, rfl⟩
    · rw [if_neg hp]
      by_cases hw : (D.write (n : Int) (sealed k n p)).1 = 0
      · rw [if_neg (by simpa using hw)]
        obtain ⟨w1, w2, w3⟩ := write_good hw (sealed_length _ _ _ hs.2.2)
        simp only [if_true]
        refine ⟨⟨fun m hm' => ?_, fun x hx => ?_, use_len _ h.len hm⟩, w3⟩
        · rw [w3] at hm'
          by_cases e : m = n
          · subst e
            rw [turn_same]
            exact ⟨by rw [w2 m, if_pos rfl], hs⟩
          · rw [turn_other _ _ _ _ e]
            exact (h.page m hm').same (by rw [w2 m, if_neg e])
        · rw [w3]
          rcases mem_use hx with e | ⟨e1, e2⟩
          · rw [e]; exact ⟨w1, by rw [turn_same]⟩
          · rw [turn_other _ _ _ _ e2]; exact h.hand x e1
      · rw [if_pos hw]
        have hsd := write_bad hw
        simp only [if_neg hw]
        exact ⟨coh_same (coh_forget h n) hsd, hsd.pages⟩
  · rw [if_neg hs]
    exact ⟨by simpa using h, rfl⟩
/-- a new disk's pages are none -/
theorem zero_noPage (n : Nat) : ¬ IsPage n (List.replicate 1024 0) := by
  rintro ⟨_, _, h, _⟩
  have : kindOf (List.replicate 1024 0) = 0 := by decide
  unfold SealOk at h
  omega
theorem new_page (p n : Nat) (h : n < p) : pageOf (Dsk.new p) n = List.replicate 1024 0 := by
  unfold pageOf
  rw [secs_last _ rfl]
  have : ((List.range 8).map fun i => (Dsk.new p).last.getD (8 * n + i) []) = List.replicate 8 zeroSect := by
    apply List.ext_getElem
    · simp
    · intro i h1 h2
      have hi : i < 8 := by simpa using h1
      have hl : 8 * n + i < 8 * p := by omega
      rw [List.getElem_map, List.getElem_replicate, List.getElem_range]
      simp [Dsk.new, List.getD_eq_getElem?_getD, hl]
  rw [this]
  unfold zeroSect
  rw [List.flatten_replicate_replicate]
theorem coh_new (most p : Nat) (h1 : 1 ≤ p) (h2 : p ≤ 16384) : Coh most (Dsk.new p) [] (fun _ => none) :=
  ⟨fun n hn => by
    have hp : (Dsk.new p).pages = p := Dsk.new_pages p
    rw [hp] at hn
    unfold Holds
    rw [new_page p n hn]
    exact zero_noPage n, fun x hx => by simp at hx, Nat.zero_le _⟩
end Go.Proofs.YtfbjjblgcgjndaaGreat

/- Contracts of the reference's pool: Forget, Read (13). -/
namespace Go.Proofs.YtfbjjblgcgjndaaGreat
open Go.RowKit Go.Maps

theorem find_idx_some {M : List (Hand × Value)} {n i : Nat} (h : M.findIdx? (fun p => p.1.num == n) = some i) : ∃ x v, M[i]? = some (x, v) ∧ findPage n (M.map (·.1)) = some x ∧ x.num = n := by
  obtain ⟨h1, h2, h3⟩ := List.findIdx?_eq_some_iff_getElem.1 h
  refine ⟨M[i].1, M[i].2, by rw [List.getElem?_eq_getElem h1], ?_, by simpa using h2⟩
  unfold findPage
  rw [List.find?_eq_some_iff_getElem]
  refine ⟨h2, i, by simpa using h1, by simp, fun j hj => ?_⟩
  have := h3 j hj
  simpa using this
theorem find_idx_none {M : List (Hand × Value)} {n : Nat} (h : M.findIdx? (fun p => p.1.num == n) = none) : findPage n (M.map (·.1)) = none := by
  unfold findPage
  rw [List.find?_eq_none]
  intro x hx
  obtain ⟨p, hp, rfl⟩ := List.mem_map.1 hx
  have := List.findIdx?_eq_none_iff.1 h p hp
  simpa using this
theorem use_hit {most n : Nat} {x : Hand} {L : List Hand} (hl : L.length ≤ most) (hf : findPage n L = some x) : usePage most x L = forget n L ++ [x] := by
  obtain ⟨h1, h2⟩ := find_mem hf
  have h3 := forget_len_lt h1 h2
  unfold usePage
  rw [h2, if_neg (by simp only [List.length_append, List.length_cons, List.length_nil]; omega)]
section
variable {n0 : Nat} {w w' : World} {q r most : Nat} {D : Dsk} {L : List Hand} {Z : Nat → Prop}
theorem rq_forget (h : RQ n0 w q r most D L Z) (n : Nat) (hn : n < 4294967296) (hL : L.length ≤ 100000000) :
    Calls Tryz.prog 22 #[.pointer (some ⟨q, 0, none⟩), .int .u32 (n : Int)] w fun e w' => e = .returned (.tuple #[]) ∧ RQNow n0 w q r most D (forget n L) Z w' := by
  obtain ⟨Q, hp, hQZ, st⟩ := h.pool
  obtain ⟨⟨M, Lv, A, cap, Y, h1, rfl, h3⟩, h4⟩ := hp
  rw [List.length_map] at hL
  refine (rforget_any h1 n hn (by omega)).mono ?_
  rintro e w' ⟨rfl, M', Lv', A', cap', hI, hf, hc, hlen, hmem, hA⟩
  rw [← hf]
  exact ⟨rfl, RQ.made (st w' _ (RPIn.now h1 h3 h4 hI (hc.mono (fun g _ e => by rw [show g = q from e]; exact h3 _ (.inl rfl))) (fun a' ha => (hA a' ha).elim (fun e => .inl ⟨a', e, rfl⟩) .inr) (fun g hg => .inl hg)) (hc.mono (fun g _ e => by rw [show g = q from e]; exact h3 _ (.inl rfl))))⟩
def RqRead (n0 : Nat) (w : World) (q r most : Nat) (Z : Nat → Prop) (rd : Rd) (e : Ending) (w' : World) : Prop :=
  ∃ A cap Z', e = .returned (.tuple #[.int .u8 (rd.kind : Nat), .slice A rd.pay.length cap, .int .u16 (rd.err : Nat)]) ∧ RowIn w' Z' (.slice A rd.pay.length cap) rd.pay ∧ RQ n0 w' q r most rd.D rd.L Z' ∧ Grows w Z Z' ∧ Chg Z w w'
theorem RqRead.stay (h : RQNow n0 w q r most D L Z w') (x : Nat) : RqRead n0 w q r most Z ⟨0, [], x, D, L⟩ (.returned (.tuple #[.int .u8 0, .slice none 0 0, .int .u16 (x : Nat)])) w' := by
  obtain ⟨Z', a, b, c⟩ := h
  exact ⟨none, 0, Z', rfl, ⟨none, 0, rfl, fun h => (h rfl).elim, fun _ => rfl, fun a ha => by cases ha⟩, a, b, c⟩
theorem RQ.cell0 (h : RQ n0 w q r most D L Z) : w.cell? ⟨q, 0, none⟩ = some (.pointer (some ⟨r, 0, none⟩)) := by
  obtain ⟨S, Q, _, ⟨⟨M, Lv, A, cap, Y, h1, _⟩, _⟩, _⟩ := h
  exact h1.rc.1
theorem RQ.pages (h : RQ n0 w q r most D L Z) : Calls Tryz.prog 42 #[.pointer (some ⟨r, 0, none⟩)] w fun e w' => e = .returned (.int .i64 (D.pages : Int)) ∧ w = w' := by
  obtain ⟨S, Q, hd, _⟩ := h
  exact rpages_any hd
theorem RQ.ok (h : RQ n0 w q r most D L Z) : D.Ok := by
  obtain ⟨S, Q, hd, _⟩ := h
  exact hd.1
theorem RQ.find_no (h : RQ n0 w q r most D L Z) (n : Nat) (hn : n < 4294967296) (hL : L.length ≤ 100000000) (hf : findPage n L = none) : Calls Tryz.prog 50 #[.pointer (some ⟨q, 0, none⟩), .int .u32 (n : Int)] w fun e w' => e = .returned (.int .i64 (-1)) ∧ w = w' := by
  obtain ⟨S, Q, _, ⟨⟨M, Lv, A, cap, Y, h1, rfl, _⟩, _⟩, _⟩ := h
  rw [List.length_map] at hL
  have := rfind_any h1 n hn (by omega)
  cases hp : M.findIdx? (fun p => p.1.num == n) with
  | none => rw [placeOf_none hp] at this; exact this
  | some i =>
    obtain ⟨x, v, _, hfp, _⟩ := find_idx_some hp
    rw [hfp] at hf
    cases hf
set_option maxRecDepth 100000 in
/-- beyond the disk -/
theorem rread_out (h : RQ n0 w q r most D L Z) (n : Nat) (hn : n < 4294967296) (hp : D.pages ≤ n) :
    Calls Tryz.prog 13 #[.pointer (some ⟨q, 0, none⟩), .int .u32 (n : Int)] w (RqRead n0 w q r most Z ⟨0, [], 2, D, L⟩) := by
  have HPG := Lib.hid h.pages
  have c0 := h.cell0
  have hpb : D.pages ≤ 16384 := by
    obtain ⟨k, a, _, b⟩ := h.ok.pages
    unfold Dsk.pages; omega
  have H := Lib.hid h
  have hcmp : (D.pages : Int) ≤ (n : Int) := by omega
  clear h
  generalize D.pages = N at *
  go_enter Tryz.func13, Tryz.ntmps13
  go_wp2_with fail
  refine HPG.out.mono ?_
  rintro e0 w0 ⟨rfl, rfl⟩
  go_wp2_with fail
  go_ret3
  exact RqRead.stay (H.out.now (Chg.refl _ _)) 2
set_option maxRecDepth 100000 in
set_option maxHeartbeats 4000000 in
/-- it is at hand -/
theorem rread_hit (h : RQ n0 w q r most D L Z) (n : Nat) (hn : n < 4294967296) (hp : n < D.pages) (x : Hand) (hf : findPage n L = some x) (h1m : 1 ≤ most) (hm : most ≤ 9223372036854775807) (hl : L.length ≤ most) (hL : L.length ≤ 100000000) :
    Calls Tryz.prog 13 #[.pointer (some ⟨q, 0, none⟩), .int .u32 (n : Int)] w (RqRead n0 w q r most Z ⟨x.kind, x.pay, 0, D, forget n L ++ [x]⟩) := by
  have HPG := Lib.hid h.pages
  have HUS := Lib.hid (use_hit hl hf)
  have hpb : D.pages ≤ 16384 := by
    obtain ⟨k, a, _, b⟩ := h.ok.pages
    unfold Dsk.pages; omega
  obtain ⟨Q, hp', hQZ, st⟩ := h.pool
  obtain ⟨⟨M, Lv, A, cap, Y, h1, rfl, h3⟩, h4⟩ := hp'
  rw [List.length_map] at hL
  have hfi := rfind_any h1 n hn (by omega)
  cases hidx : M.findIdx? (fun p => p.1.num == n) with
  | none => rw [find_idx_none hidx] at hf; cases hf
  | some i =>
    obtain ⟨x0, v, hx, hfp, hxn⟩ := find_idx_some hidx
    rw [hfp] at hf
    obtain rfl : x0 = x := Option.some.inj hf
    rw [placeOf_some hidx] at hfi
    have hi := idx_lt hidx
    obtain ⟨g, o, rfl, d0, d1, d2⟩ := h1.list.get i x0 v hx
    have hrow := h1.rows (x0, v) (List.mem_of_getElem? hx)
    have hok := h1.ok (x0, v) (List.mem_of_getElem? hx)
    obtain ⟨V, vc, hv, hVat, hVn, hVY⟩ := hrow
    simp only at hv hVat hok
    subst hv
    obtain ⟨c0, _, c2⟩ := h1.rc
    obtain ⟨w7, hw7⟩ : ∃ w7, w7 = w.alloc (.cells #[.int .u32 (x0.num : Int), .int .u8 (x0.kind : Int), .slice V x0.pay.length vc] 95) := ⟨_, rfl⟩
    have hb7 : Below w.heap.size w w7 := by rw [hw7]; exact below_alloc0 (Below.refl _ _) _
    have h7 := h1.keep (G := fun _ => False) (.of_below hb7) (fun h => h) (fun _ _ h => h) (fun _ _ h => h)
    have hat : w7.heap[w.heap.size]? = some (.cells #[.int .u32 (x0.num : Int), .int .u8 (x0.kind : Int), .slice V x0.pay.length vc] 95 (0, 0)) := by rw [hw7]; exact heap_alloc_new w _
    have he : ∀ k, k < 3 → w7.cell? ⟨w.heap.size, k, none⟩ = #[.int .u32 (x0.num : Int), .int .u8 (x0.kind : Int), .slice V x0.pay.length vc][k]? := fun k hk => cell_of_row _ w.heap.size k _ 95 (0, 0) hat
    have HRW := Lib.hid (show RowIn w Y (.slice V x0.pay.length vc) x0.pay from ⟨V, vc, rfl, hVat, hVn, hVY⟩)
    have HU := Lib.hid (ruse_any h7 x0 (.slice V x0.pay.length vc) hok (HRW.out.keep (G := fun _ => False) (.of_below hb7) (fun _ _ h => h)) (by omega) h1m hm)
    have hxk := hok.kind
    have hxn2 := hok.num
    have HF := Lib.hid hfi
    have H1 := Lib.hid h1
    have H3 := Lib.hid h3
    have H4 := Lib.hid h4
    have HE := Lib.hid he
    have HB7 := Lib.hid hb7
    have HW7 := Lib.hid hw7
    have HST := Lib.hid st
    have HQZ := Lib.hid hQZ
    have hi3 : (i : Int) < (M.length : Int) := by omega
    have hcmp : ¬ (D.pages : Int) ≤ (n : Int) := by omega
    have hi0 : (0 : Int) ≤ (i : Int) := by omega
    clear hxn h hf h1 h3 h4 hfi hidx hfp hx hat he hb7 h7 hw7 st hQZ hok hVat hVn hVY
    generalize D.pages = N at *
    go_enter Tryz.func13, Tryz.ntmps13
    go_wp2_with fail
    refine HPG.out.mono ?_
    rintro e0 w0 ⟨rfl, rfl⟩
    go_wp2_with fail
    refine HF.out.mono ?_
    rintro e0 w0 ⟨rfl, rfl⟩
    go_wp2_with fail
    rw [← HW7.out]
    refine HU.out.mono ?_
    rintro e0 w8 ⟨rfl, M', Lv', A', cap', hI, hus, hc8, hA8⟩
    have hnb : ¬ (w.heap.size = q ∨ ∃ a, some (⟨g, o, none⟩ : Addr) = some a ∧ w.heap.size = a.block) := by
      rintro (e | ⟨a, e, e2⟩)
      · have := H1.out.rcd.lt; omega
      · have := H1.out.list.lt a e; omega
    have b1 : w8.cell? ⟨w.heap.size, 1, none⟩ = some (.int .u8 (x0.kind : Int)) := hc8.cell (HE.out 1 (by omega)) hnb
    have b2 : w8.cell? ⟨w.heap.size, 2, none⟩ = some (.slice V x0.pay.length vc) := hc8.cell (HE.out 2 (by omega)) hnb
    have hc08 : Chg (fun g' => g' = q ∨ ∃ a, some (⟨g, o, none⟩ : Addr) = some a ∧ g' = a.block) w w8 := (Chg.of_below HB7.out).trans hc8 (fun _ _ h => h)
    have HC8 := Lib.hid hc08
    have HI := Lib.hid hI
    have HUS8 := Lib.hid hus
    have HA8 := Lib.hid hA8
    clear hc8 hc08 hI hus hA8 hnb
    go_wp2_with fail
    go_quiet (fail)
    go_wp2_with fail
    go_ret3
    have hb9 := below_drewN (Below.refl w8.heap.size w8) nq
    have hcd : Chg (fun g' => g' = q ∨ ∃ a, some (⟨g, o, none⟩ : Addr) = some a ∧ g' = a.block) w (w8.drewN nq) := HC8.out.trans (Chg.of_below (F := fun g' => g' = q ∨ ∃ a, some (⟨g, o, none⟩ : Addr) = some a ∧ g' = a.block) hb9) (fun _ _ h => h)
    have hI9 := HI.out.keep (G := fun _ => False) (.of_below hb9) (fun h => h) (fun _ _ h => h) (fun _ _ h => h)
    generalize w8.drewN nq = w9 at *
    have hcQ : Chg Q w w9 := hcd.mono (fun g' _ e => by
      rcases e with rfl | ⟨a, e, rfl⟩
      · exact H3.out _ (.inl rfl)
      · exact H3.out _ (.inr (.inl ⟨a, e, rfl⟩)))
    have hp8 := RPIn.now H1.out H3.out H4.out hI9 hcQ (fun a' ha => (HA8.out a' ha).imp id (fun e => Nat.le_trans HB7.out.size e)) (fun g' hg => .inl hg)
    rw [HUS8.out, HUS.out] at hp8
    have hfin := HST.out w9 _ hp8 hcQ
    exact ⟨V, vc, (fun g => Z g ∨ (w.heap.size ≤ g ∧ g < w9.heap.size)), rfl, (HRW.out.keep hcd (fun g' hg e => e.elim (H1.out.yb g' hg).2.2.1 (fun ⟨a, ha, e⟩ => (H1.out.yb g' hg).2.2.2 a ha e))).mono (fun g' hg => Or.inl (HQZ.out g' (H3.out g' (.inr (.inr hg))))), hfin.1, fun g' hg => hg.elim Or.inl (fun e => Or.inr e.1), hfin.2⟩
set_option maxRecDepth 100000 in
set_option maxHeartbeats 4000000 in
/-- it is not at hand -/
theorem rread_miss (h : RQ n0 w q r most D L Z) (n : Nat) (hn : n < 4294967296) (hp : n < D.pages) (hf : findPage n L = none) (hcl : D.cache.length ≤ 1000000000000) (hdn : D.n 1 ≤ 4611686018427387904) (h1m : 1 ≤ most) (hm : most ≤ 9223372036854775807) (hL : L.length ≤ 100000000) :
    Calls Tryz.prog 13 #[.pointer (some ⟨q, 0, none⟩), .int .u32 (n : Int)] w (RqRead n0 w q r most Z (plRead most D L n)) := by
  have HPG := Lib.hid h.pages
  have HF := Lib.hid (h.find_no n hn hL hf)
  have c0 := h.cell0
  have hpb : D.pages ≤ 16384 := by
    obtain ⟨k, a, _, b⟩ := h.ok.pages
    unfold Dsk.pages; omega
  have HB := Lib.hid (read_bytes h.ok (n : Int))
  have HN0 := Lib.hid h.n_le
  obtain ⟨S, hd, hSZ, hst⟩ := h.disk
  have HRD := Lib.hid (rread_any hd (n : Int) hcl hdn)
  have HST := Lib.hid hst
  have hpl : plRead most D L n = if (D.read (n : Int)).1 ≠ 0 then ⟨0, [], (D.read (n : Int)).1, (D.read (n : Int)).2.2, L⟩
      else if IsPage n (D.read (n : Int)).2.1 then ⟨openKind n (D.read (n : Int)).2.1, openPay n (D.read (n : Int)).2.1, 0, (D.read (n : Int)).2.2, usePage most ⟨n, openKind n (D.read (n : Int)).2.1, openPay n (D.read (n : Int)).2.1⟩ L⟩
      else ⟨0, [], 100, (D.read (n : Int)).2.2, L⟩ := by
    unfold plRead
    rw [if_neg (by omega), hf]
  rw [hpl]
  have hcmp : ¬ (D.pages : Int) ≤ (n : Int) := by omega
  generalize D.read (n : Int) = rd at *
  obtain ⟨x, l, D'⟩ := rd
  simp only at HRD HB ⊢
  clear h hd hst hpl hf hcl hdn
  generalize D.pages = N at *
  by_cases hx : x = 0
  · subst hx
    simp only [ne_eq, not_true_eq_false, if_false]
    by_cases hpg : IsPage n l
    · rw [if_pos hpg]
      have hoe : openErr n l = 0 := by unfold openErr; rw [if_pos hpg]
      have HOE := Lib.hid hoe
      clear hpg hoe
      go_enter Tryz.func13, Tryz.ntmps13
      go_wp2_with fail
      refine HPG.out.mono ?_
      rintro e0 w0 ⟨rfl, rfl⟩
      go_wp2_with fail
      refine HF.out.mono ?_
      rintro e0 w0 ⟨rfl, rfl⟩
      go_wp2_with fail
      refine HRD.out.mono ?_
      rintro e0 w1 ⟨A1, c1, rfl, hv1, hd1, hc1⟩
      obtain ⟨Z1, hq1, hg1, hz1⟩ := HST.out w1 D' ⟨S, hd1, Grows.refl _ _, hc1⟩
      obtain ⟨hl1, hok1⟩ := buf_ok hv1 HB.out.1 (Nat.le_trans HB.out.2 (by omega))
      have hop := ropen_call n ⟨A1, l, c1⟩ w1 hok1 (Nat.le_trans HB.out.2 (by omega)) hn
      simp only at hop
      rw [HOE.out] at hop
      have HOP := Lib.hid hop
      have HQ1 := Lib.hid hq1
      have HG1 := Lib.hid hg1
      have HZ1 := Lib.hid hz1
      have HOK := Lib.hid (show Hand.Ok ⟨n, openKind n l, openPay n l⟩ from ⟨hn, openKind_lt n l HB.out.1, openPay_bytes n l HB.out.1, openPay_length n l⟩)
      generalize openKind n l = k at *
      generalize openPay n l = p at *
      clear hv1 hd1 hc1 hq1 hg1 hz1 hl1 hok1 hop HRD HST c0
      go_wp2_with fail
      refine HOP.out.mono ?_
      rintro e0 w2 ⟨A2, c2, rfl, hv2, hb2⟩
      obtain ⟨Q, hp', hQZ, st⟩ := HQ1.out.pool
      obtain ⟨⟨M, Lv, A, cap, Y, h1, rfl, h3⟩, h4⟩ := hp'
      rw [List.length_map] at hL
      have hrow2 : RowIn w2 (fun g => Y g ∨ blk (.slice A2 p.length c2) g) (.slice A2 p.length c2) p := by
        obtain ⟨A', c', e', z1, z2, _⟩ := hv2.at
        injection e' with e1 e2 e3
        subst e1 e3
        exact ⟨A2, c2, rfl, z1, z2, fun a ha => .inr (by rw [ha]; rfl)⟩
      have h2 := (h1.keep (G := fun _ => False) (.of_below hb2) (fun h => h) (fun _ _ h => h) (fun _ _ h => h)).moreY (Z := blk (.slice A2 p.length c2)) (fun g hg => by
        have := row_lt hv2 hg
        have h5 := h1.rcd.lt
        exact ⟨Nat.le_trans HQ1.out.n_le this.1, this.2, by omega, fun a ha e => by have := h1.list.lt a ha; omega⟩)
      have HU := Lib.hid (ruse_any h2 ⟨n, k, p⟩ (.slice A2 p.length c2) HOK.out hrow2 hL h1m hm)
      have H1 := Lib.hid h1
      have H3 := Lib.hid h3
      have H4 := Lib.hid h4
      have HST := Lib.hid st
      have HQZ := Lib.hid hQZ
      have HV2 := Lib.hid hv2
      have HB2 := Lib.hid hb2
      have HR2 := Lib.hid hrow2
      clear hQZ st h1 h3 h4 hrow2 h2 hv2 hb2 HOP
      go_wp2_with fail
      refine HU.out.mono ?_
      rintro e0 w3 ⟨rfl, M', Lv', A', cap', hI, hus, hc3, hA3⟩
      have hcQ : Chg Q w1 w3 := (Chg.of_below (F := Q) HB2.out).trans hc3 (fun g' _ e => by
        rcases e with rfl | ⟨a, e, rfl⟩
        · exact H3.out _ (.inl rfl)
        · exact H3.out _ (.inr (.inl ⟨a, e, rfl⟩)))
      have hp8 := RPIn.now H1.out H3.out H4.out hI hcQ (fun a' ha => (hA3 a' ha).imp id (fun e => Nat.le_trans HB2.out.size e)) (fun g' hg => hg.imp id (fun e => (row_lt HV2.out e).1))
      rw [hus] at hp8
      have hfin := HST.out w3 _ hp8 hcQ
      have HFIN := Lib.hid hfin
      have HR3 := Lib.hid (HR2.out.keep hc3 (fun g' hg e => by
        rcases hg with hg | hg
        · exact e.elim (H1.out.yb g' hg).2.2.1 (fun ⟨a, ha, e⟩ => (H1.out.yb g' hg).2.2.2 a ha e)
        · have h6 := row_lt HV2.out hg
          rcases e with rfl | ⟨a, ha, rfl⟩
          · have := H1.out.rcd.lt; omega
          · have := H1.out.list.lt a ha; omega))
      have HS3 := Lib.hid hc3.size
      clear hI hus hc3 hA3 hcQ hp8 hfin HU
      go_wp2_with fail
      go_ret3
      refine ⟨A2, c2, (fun g => Z1 g ∨ (w1.heap.size ≤ g ∧ g < w3.heap.size)), rfl, HR3.out.mono (fun g' hg => ?_), HFIN.out.1, fun g' hg => ?_, HZ1.out.trans HFIN.out.2 (fun g' hg e => (HG1.out g' e).elim id (fun e2 => by omega))⟩
      · rcases hg with hg | hg
        · exact .inl (HQZ.out g' (H3.out g' (.inr (.inr hg))))
        · have h6 := row_lt HV2.out hg
          exact .inr ⟨h6.1, by have := HS3.out; omega⟩
      · rcases hg with hg | hg
        · exact HG1.out g' hg
        · exact .inr (by have := HZ1.out.size; omega)
    · rw [if_neg hpg]
      have hoe : openErr n l = 80 := by unfold openErr; rw [if_neg hpg]
      have HOE := Lib.hid hoe
      clear hpg hoe
      go_enter Tryz.func13, Tryz.ntmps13
      go_wp2_with fail
      refine HPG.out.mono ?_
      rintro e0 w0 ⟨rfl, rfl⟩
      go_wp2_with fail
      refine HF.out.mono ?_
      rintro e0 w0 ⟨rfl, rfl⟩
      go_wp2_with fail
      refine HRD.out.mono ?_
      rintro e0 w1 ⟨A1, c1, rfl, hv1, hd1, hc1⟩
      obtain ⟨Z1, hq1, hg1, hz1⟩ := HST.out w1 D' ⟨S, hd1, Grows.refl _ _, hc1⟩
      obtain ⟨hl1, hok1⟩ := buf_ok hv1 HB.out.1 (Nat.le_trans HB.out.2 (by omega))
      have hop := ropen_call n ⟨A1, l, c1⟩ w1 hok1 (Nat.le_trans HB.out.2 (by omega)) hn
      simp only at hop
      rw [HOE.out] at hop
      have HOP := Lib.hid hop
      have HQ1 := Lib.hid hq1
      have HG1 := Lib.hid hg1
      have HZ1 := Lib.hid hz1
      generalize openKind n l = k at *
      generalize openPay n l = p at *
      clear hv1 hd1 hc1 hq1 hg1 hz1 hl1 hok1 hop HRD HST c0
      go_wp2_with fail
      refine HOP.out.mono ?_
      rintro e0 w2 ⟨A2, c2, rfl, hv2, hb2⟩
      have HB2 := Lib.hid hb2
      clear hv2 hb2 HOP
      go_wp2_with fail
      go_ret3
      exact RqRead.stay ⟨Z1, HQ1.out.below HB2.out, HG1.out, HZ1.out.trans (Chg.of_below (F := Z) HB2.out) (fun _ _ h => h)⟩ 100
  · have hx1 : ((x : Int) != 0) = true := by simp; omega
    have hx2 : (x != 0) = true := by simpa using hx
    rw [if_pos hx]
    clear hx
    go_enter Tryz.func13, Tryz.ntmps13
    go_wp2_with fail
    refine HPG.out.mono ?_
    rintro e0 w0 ⟨rfl, rfl⟩
    go_wp2_with fail
    refine HF.out.mono ?_
    rintro e0 w0 ⟨rfl, rfl⟩
    go_wp2_with fail
    refine HRD.out.mono ?_
    rintro e0 w1 ⟨A1, c1, rfl, hv1, hd1, hc1⟩
    have HQ1 := Lib.hid (HST.out w1 D' ⟨S, hd1, Grows.refl _ _, hc1⟩)
    clear hv1 hd1 hc1 HRD HST c0
    go_wp2_with fail
    go_ret3
    exact RqRead.stay HQ1.out x
/-- the whole of it -/
theorem rq_read (h : RQ n0 w q r most D L Z) (n : Nat) (hn : n < 4294967296) (hcl : D.cache.length ≤ 1000000000000) (hdn : D.n 1 ≤ 4611686018427387904) (h1m : 1 ≤ most) (hm : most ≤ 9223372036854775807) (hl : L.length ≤ most) (hL : L.length ≤ 100000000) :
    Calls Tryz.prog 13 #[.pointer (some ⟨q, 0, none⟩), .int .u32 (n : Int)] w (RqRead n0 w q r most Z (plRead most D L n)) := by
  by_cases hp : D.pages ≤ n
  · have : plRead most D L n = ⟨0, [], 2, D, L⟩ := by unfold plRead; rw [if_pos hp]
    rw [this]
    exact rread_out h n hn hp
  · cases hf : findPage n L with
    | none => exact rread_miss h n hn (by omega) hf hcl hdn h1m hm hL
    | some x =>
      have : plRead most D L n = ⟨x.kind, x.pay, 0, D, forget n L ++ [x]⟩ := by unfold plRead; rw [if_neg hp, hf]
      rw [this]
      exact rread_hit h n hn (by omega) x hf h1m hm hl hL
end
end Go.Proofs.YtfbjjblgcgjndaaGreat

/- Contract of the reference's pool: Write (20). -/
namespace Go.Proofs.YtfbjjblgcgjndaaGreat
open Go.RowKit Go.Maps

def RqWrite (n0 : Nat) (w : World) (q r most : Nat) (Z : Nat → Prop) (wr : Wr) (e : Ending) (w' : World) : Prop :=
  e = .returned (.int .u16 (wr.err : Nat)) ∧ RQNow n0 w q r most wr.D wr.L Z w'
section
variable {n0 : Nat} {w w' : World} {q r most : Nat} {D : Dsk} {L : List Hand} {Z : Nat → Prop}
set_option maxRecDepth 100000 in
set_option maxHeartbeats 4000000 in
theorem rq_write (h : RQ n0 w q r most D L Z) (n kd : Nat) (hn : n < 4294967296) (hkd : kd < 256) (s : Inner) (hok : ∀ w', Below n0 w w' → s.Ok w') (hcl : D.cache.length ≤ 1000000000000) (hdn : D.n 2 ≤ 4611686018427387904) (h1m : 1 ≤ most) (hm : most ≤ 9223372036854775807) (hL : L.length ≤ 100000000) :
    Calls Tryz.prog 20 #[.pointer (some ⟨q, 0, none⟩), .int .u32 (n : Int), .int .u8 (kd : Int), .slice s.A s.l.length s.c] w (RqWrite n0 w q r most Z (plWrite most D L n kd s.l)) := by
  obtain ⟨A, pay, cap⟩ := s
  have hs0 := hok w (Below.refl _ _)
  have hbp : Bytes pay := hs0.bytes
  have hnil : A = none → cap = 0 := hs0.nil
  have HSL := Lib.hid (rseal_call kd n A cap pay w hkd hn hbp hs0.lies hnil)
  have HOKS := Lib.hid hok
  have c0 := h.cell0
  have hpb : D.pages ≤ 16384 := by
    obtain ⟨k, a, _, b⟩ := h.ok.pages
    unfold Dsk.pages; omega
  obtain ⟨m, hpm⟩ : ∃ m, m = pay.length := ⟨_, rfl⟩
  simp only
  have HPM := Lib.hid hpm
  rw [← hpm] at HSL ⊢
  by_cases hs : SealOk kd pay
  · have e1 : sealErr kd pay = 0 := by unfold sealErr; rw [if_pos hs]
    have e2 : sealOut kd n pay = sealed kd n pay := by unfold sealOut; rw [if_pos hs]
    have hx : Hand.Ok ⟨n, kd, pay⟩ := ⟨hn, hkd, hbp, hs.2.2⟩
    have hpl : plWrite most D L n kd pay = if D.pages ≤ n then ⟨2, D, L⟩
      else if (D.write (n : Int) (sealed kd n pay)).1 ≠ 0 then ⟨(D.write (n : Int) (sealed kd n pay)).1, (D.write (n : Int) (sealed kd n pay)).2, forget n L⟩
      else ⟨0, (D.write (n : Int) (sealed kd n pay)).2, usePage most ⟨n, kd, pay⟩ L⟩ := by unfold plWrite; rw [if_pos hs]
    rw [hpl]
    rw [e1, e2] at HSL
    have hsb : Bytes (sealed kd n pay) ∧ (sealed kd n pay).length = 1024 := ⟨sealed_bytes _ _ _ hkd hbp, by rw [sealed_length _ _ _ hs.2.2]⟩
    generalize sealed kd n pay = sl at *
    have HSB := Lib.hid hsb
    have HH := Lib.hid h
    have HX := Lib.hid hx
    have HNIL := Lib.hid hnil
    have HN0 := Lib.hid h.n_le
    have hm8 : m ≤ 1008 := by rw [hpm]; exact hs.2.2
    clear hsb hpl e1 e2 hs h hx hnil hpm hbp hs0 hok
    by_cases hp : D.pages ≤ n
    · rw [if_pos hp]
      have hcmp : (D.pages : Int) ≤ (n : Int) := by omega
      clear hp
      go_enter Tryz.func20, Tryz.ntmps20
      go_wp2_with fail
      refine HSL.out.mono ?_
      rintro e0 w1 ⟨A1, c1, rfl, hv1, hb1⟩
      have HQ1 := Lib.hid (HH.out.below hb1)
      have HB1 := Lib.hid hb1
      have HPG := Lib.hid HQ1.out.pages
      have d0 := HQ1.out.cell0
      clear hv1 hb1 c0
      generalize D.pages = N at *
      go_wp2_with fail
      refine HPG.out.mono ?_
      rintro e0 w2 ⟨rfl, rfl⟩
      go_wp2_with fail
      go_ret
      exact ⟨rfl, HQ1.out.now (.of_below HB1.out)⟩
    · rw [if_neg hp]
      have hcmp : ¬ (D.pages : Int) ≤ (n : Int) := by omega
      obtain ⟨x, D', hq⟩ : ∃ x D', D.write (n : Int) sl = (x, D') := ⟨_, _, rfl⟩
      rw [hq]
      have HQ := Lib.hid hq
      clear hq hp
      by_cases hx0 : x = 0
      · subst hx0
        simp only [ne_eq, not_true_eq_false, if_false]
        go_enter Tryz.func20, Tryz.ntmps20
        go_wp2_with fail
        refine HSL.out.mono ?_
        rintro e0 w1 ⟨A1, c1, rfl, hv1, hb1⟩
        have HQ1 := Lib.hid (HH.out.below hb1)
        have HB1 := Lib.hid hb1
        have HPG := Lib.hid HQ1.out.pages
        have d0 := HQ1.out.cell0
        obtain ⟨S, hd, hSZ, hst⟩ := HQ1.out.disk
        obtain ⟨hl1, hok1⟩ := buf_ok hv1 HSB.out.1 (by rw [HSB.out.2]; omega)
        have hwr := rwrite_any hd (n : Int) A1 c1 sl HQ1.out.n_le (fun w' hc => hok1.lies.chg hc (fun a ha e => by
          have h5 := (row_lt hv1 (show blk (.slice A1 sl.length c1) a.block by rw [show A1 = some a from ha]; rfl)).1
          have h6 := (HH.out.lt _ (hSZ _ e)).2
          omega)) hok1.le HSB.out.1 (by rw [HSB.out.2]; omega) hcl hdn
        rw [HQ.out] at hwr
        have HWR := Lib.hid hwr
        have HST := Lib.hid hst
        clear hv1 hb1 hd hSZ hst hl1 hok1 hwr c0
        simp only at HWR
        generalize D.pages = N at *
        go_wp2_with fail
        refine HPG.out.mono ?_
        rintro e0 w2 ⟨rfl, rfl⟩
        go_wp2_with fail
        refine HWR.out.mono ?_
        rintro e0 w2 ⟨rfl, hN⟩
        obtain ⟨Z2, hq2, hg2, hz2⟩ := HST.out w2 D' hN
        have hb2 : Below n0 w w2 := (Step.of_below (X := fun _ => False) HB1.out HN0.out).2.trans (hz2.below HQ1.out.n_le (fun g hg => (HQ1.out.lt g hg).1))
        have hin2 := HOKS.out w2 hb2
        have HAT := Lib.hid (show At w2 A (ns .u8 pay) from hin2.lies)
        have HLN := Lib.hid (show (ns .u8 pay).length = m * 1 by rw [HPM.out]; simp [ns])
        have HQ2 := Lib.hid hq2
        have HG2 := Lib.hid hg2
        have HZ2 := Lib.hid hz2
        clear hN hq2 hg2 hz2 hb2 hin2 HWR HST d0 HPG
        go_wp2_with (at_builtin; go_loud (refine wp_append2 rfl (.tmp 47) (.tmp 48) 22 5 (.int .u8 0) 1 1 rfl Tryz.underlying22 Tryz.info5 rfl (by decide) w2.heap.size (.slice none 0 0) 0 [] rfl (World.ownsRow_nil _ _ _ _) A m cap (ns .u8 pay) rfl HLN.out HAT.out HNIL.out (ns_one _ _) (by omega) (by omega) (Nat.le_refl _) ?_); intro v3 w3 ho3 hor3; rw [Nat.zero_add, List.nil_append] at ho3; obtain ⟨A3, c3, rfl, hz1, hz2, _⟩ := At.own ho3; have hb3 : Below w2.heap.size w2 w3 := below_of_grown (hor3.elim (fun h => h.1) (fun h => h.1)); have HB3 := Lib.hid hb3; have HV3 := Lib.hid ho3; have HZA := Lib.hid (And.intro hz1 hz2); clear hor3 ho3 hb3 hz1 hz2)
        obtain ⟨Q, hp', hQZ, st⟩ := HQ2.out.pool
        obtain ⟨⟨M, Lv, A0, cap0, Y, h1, rfl, h3⟩, h4⟩ := hp'
        rw [List.length_map] at hL
        have hrow3 : RowIn w3 (fun g => Y g ∨ blk (.slice A3 m c3) g) (.slice A3 pay.length c3) pay := ⟨A3, c3, rfl, HZA.out.1, HZA.out.2, fun a ha => .inr (by rw [ha]; rfl)⟩
        have h2 := (h1.keep (G := fun _ => False) (.of_below HB3.out) (fun h => h) (fun _ _ h => h) (fun _ _ h => h)).moreY (Z := blk (.slice A3 m c3)) (fun g hg => by
          have := row_lt HV3.out hg
          have h5 := h1.rcd.lt
          exact ⟨Nat.le_trans HQ2.out.n_le this.1, this.2, by omega, fun a ha e => by have := h1.list.lt a ha; omega⟩)
        have hu := ruse_any h2 ⟨n, kd, pay⟩ (.slice A3 pay.length c3) HX.out hrow3 hL h1m hm
        simp only at hu
        rw [← HPM.out] at hu
        have HU := Lib.hid hu
        have H1 := Lib.hid h1
        have H3 := Lib.hid h3
        have H4 := Lib.hid h4
        have HST := Lib.hid st
        clear hQZ st h1 h3 h4 hrow3 h2 hu
        refine HU.out.mono ?_
        rintro e0 w4 ⟨rfl, M', Lv', A', cap', hI, hus, hc4, hA4⟩
        have hcQ : Chg Q w2 w4 := (Chg.of_below (F := Q) HB3.out).trans hc4 (fun g' _ e => by
          rcases e with rfl | ⟨a, e, rfl⟩
          · exact H3.out _ (.inl rfl)
          · exact H3.out _ (.inr (.inl ⟨a, e, rfl⟩)))
        have hp8 := RPIn.now H1.out H3.out H4.out hI hcQ (fun a' ha => (hA4 a' ha).imp id (fun e => Nat.le_trans HB3.out.size e)) (fun g' hg => hg.imp id (fun e => (row_lt HV3.out e).1))
        rw [hus] at hp8
        have HFIN := Lib.hid (RQ.made (HST.out w4 _ hp8 hcQ))
        clear hI hus hc4 hA4 hcQ hp8 HU
        go_wp2_with fail
        go_ret
        exact ⟨rfl, RQNow.trans (fun g hg => (HG2.out g hg).imp id (fun e => by have := HB1.out.size; omega)) ((Chg.of_below (F := Z) HB1.out).trans HZ2.out (fun _ _ h => h)) HFIN.out⟩
      · have hx1 : ((x : Int) != 0) = true := by simp; omega
        have hx2 : (x != 0) = true := by simpa using hx0
        have hx9 : ¬ (x : Int) = 0 := by omega
        rw [if_pos hx0]
        clear hx0
        go_enter Tryz.func20, Tryz.ntmps20
        go_wp2_with fail
        refine HSL.out.mono ?_
        rintro e0 w1 ⟨A1, c1, rfl, hv1, hb1⟩
        have HQ1 := Lib.hid (HH.out.below hb1)
        have HB1 := Lib.hid hb1
        have HPG := Lib.hid HQ1.out.pages
        have d0 := HQ1.out.cell0
        obtain ⟨S, hd, hSZ, hst⟩ := HQ1.out.disk
        obtain ⟨hl1, hok1⟩ := buf_ok hv1 HSB.out.1 (by rw [HSB.out.2]; omega)
        have hwr := rwrite_any hd (n : Int) A1 c1 sl HQ1.out.n_le (fun w' hc => hok1.lies.chg hc (fun a ha e => by
          have h5 := (row_lt hv1 (show blk (.slice A1 sl.length c1) a.block by rw [show A1 = some a from ha]; rfl)).1
          have h6 := (HH.out.lt _ (hSZ _ e)).2
          omega)) hok1.le HSB.out.1 (by rw [HSB.out.2]; omega) hcl hdn
        rw [HQ.out] at hwr
        have HWR := Lib.hid hwr
        have HST := Lib.hid hst
        clear hv1 hb1 hd hSZ hst hl1 hok1 hwr c0
        simp only at HWR
        generalize D.pages = N at *
        go_wp2_with fail
        refine HPG.out.mono ?_
        rintro e0 w2 ⟨rfl, rfl⟩
        go_wp2_with fail
        refine HWR.out.mono ?_
        rintro e0 w2 ⟨rfl, hN⟩
        obtain ⟨Z2, hq2, hg2, hz2⟩ := HST.out w2 D' hN
        have HQ2 := Lib.hid hq2
        have HG2 := Lib.hid hg2
        have HZ2 := Lib.hid hz2
        have HFG := Lib.hid (rq_forget hq2 n hn hL)
        clear hN hq2 hg2 hz2 HWR HST d0 HPG
        go_wp2_with fail
        refine HFG.out.mono ?_
        rintro e0 w3 ⟨rfl, hf3⟩
        have HFIN := Lib.hid hf3
        clear hf3
        go_wp2_with fail
        go_ret
        exact ⟨rfl, RQNow.trans (fun g hg => (HG2.out g hg).imp id (fun e => by have := HB1.out.size; omega)) ((Chg.of_below (F := Z) HB1.out).trans HZ2.out (fun _ _ h => h)) HFIN.out⟩
  · have e1 : sealErr kd pay = 80 := by unfold sealErr; rw [if_neg hs]
    have hpl : plWrite most D L n kd pay = ⟨80, D, L⟩ := by unfold plWrite; rw [if_neg hs]
    rw [hpl]
    rw [e1] at HSL
    generalize sealOut kd n pay = sl at *
    have HH := Lib.hid h
    clear hpl e1 hs h hnil hpm hbp hs0 hok c0
    go_enter Tryz.func20, Tryz.ntmps20
    go_wp2_with fail
    refine HSL.out.mono ?_
    rintro e0 w1 ⟨A1, c1, rfl, hv1, hb1⟩
    have HB1 := Lib.hid hb1
    clear hv1 hb1
    go_wp2_with fail
    go_ret
    exact ⟨rfl, (HH.out.below HB1.out).now (.of_below HB1.out)⟩
end
end Go.Proofs.YtfbjjblgcgjndaaGreat

/- The calls over a pool, the reference's and the book: what each tells and leaves. -/
namespace Go.Proofs.YtfbjjblgcgjndaaGreat
open Go.RowKit Go.Maps

section
variable {n0 : Nat} {w : World} {P d q r b most : Nat} {D : Dsk} {L : List Hand} {E : Dsk} {M : List Hand} {c K k : Nat} {Z X : Nat → Prop}
def QxGives (n0 : Nat) (w : World) (P d q r b most : Nat) (D : Dsk) (L : List Hand) (E : Dsk) (M : List Hand) (c K : Nat) (X : Nat → Prop) (v : Value) (e : Ending) (w' : World) : Prop :=
  e = .returned v ∧ ∃ Z', QuadX n0 w' P d q r b most D L E M c K Z' X ∧ Step n0 X w w'
def QxRead (n0 : Nat) (w : World) (P d q r b most c K : Nat) (E : Dsk) (M : List Hand) (Z X : Nat → Prop) (rd : Rd) (e : Ending) (w' : World) : Prop :=
  ∃ A cap, e = .returned (.tuple #[.int .u8 (rd.kind : Nat), .slice A rd.pay.length cap, .int .u16 (rd.err : Nat)]) ∧ Buf w.heap.size w' (.slice A rd.pay.length cap) rd.pay ∧ QuadX n0 w' P d q r b most rd.D rd.L E M (c + 1) K Z (fun g => X g ∨ blk (.slice A rd.pay.length cap) g) ∧ Step n0 X w w'
theorem qx_read (h : QuadX n0 w P d q r b most D L E M c K Z X) (n : Nat) (hn : n < 4294967296) (hs : Small D k) (hk : k ≤ 100000000) (hm : most ≤ 9223372036854775807) (hc : c ≤ 1000000000) :
    Calls Tryz.prog 12 #[.pointer (some ⟨P, 0, none⟩), .int .u32 (n : Int)] w (QxRead n0 w P d q r b most c K E M Z X (plRead most D L n)) := by
  obtain ⟨X1, hp, hX, hZ, st, st2⟩ := h.pool
  refine (plread_any hp n hn (hs.c hk) (hs.m hk 1) hm hc).mono ?_
  rintro e w' ⟨A, cap, rfl, hb, hx, hs'⟩
  obtain ⟨a, b⟩ := st w' _ _ _ (blk (.slice A (plRead most D L n).pay.length cap)) hx hs' (fun g hg => (row_lt hb hg).1)
  exact ⟨A, cap, rfl, hb, a, b⟩
def QxRRead (n0 : Nat) (w : World) (P d q r b most c K : Nat) (D : Dsk) (L : List Hand) (X : Nat → Prop) (rd : Rd) (e : Ending) (w' : World) : Prop :=
  ∃ A cap Z', e = .returned (.tuple #[.int .u8 (rd.kind : Nat), .slice A rd.pay.length cap, .int .u16 (rd.err : Nat)]) ∧ RowIn w' Z' (.slice A rd.pay.length cap) rd.pay ∧ QuadX n0 w' P d q r b most D L rd.D rd.L c K Z' X ∧ Step n0 X w w'
theorem qx_rread (h : QuadX n0 w P d q r b most D L E M c K Z X) (n : Nat) (hn : n < 4294967296) (hs : Small E k) (hk : k ≤ 100000000) (h1 : 1 ≤ most) (hm : most ≤ 9223372036854775807) (hl : M.length ≤ most) (hM : M.length ≤ 100000000) :
    Calls Tryz.prog 13 #[.pointer (some ⟨q, 0, none⟩), .int .u32 (n : Int)] w (QxRRead n0 w P d q r b most c K D L X (plRead most E M n)) := by
  obtain ⟨hq, hXZ, st⟩ := h.ref
  refine (rq_read hq n hn (hs.c hk) (hs.m hk 1) h1 hm hl hM).mono ?_
  rintro e w' ⟨A, cap, Z', rfl, hr, hq', hg, hc⟩
  obtain ⟨a, b⟩ := st w' _ _ Z' hq' hg hc
  exact ⟨A, cap, Z', rfl, hr, a, b⟩
theorem qx_bytes (h : QuadX n0 w P d q r b most D L E M c K Z X) (A : Option Addr) (n cp : Nat) (xs : List Value) (X0 : Nat → Prop) (hX0 : ∀ g, X0 g → X g ∧ ¬ blk (.slice A n cp) g) (hv : ∀ g, blk (.slice A n cp) g → n0 ≤ g ∧ X g) (hr : Rw n0 5 w (.slice A n cp) n xs) (hn : n ≤ 1000000000000) (hK : K < 1000000000000) :
    Calls Tryz.prog 14 #[.pointer (some ⟨b, 0, none⟩), .slice A n cp] w fun e w' => e = .returned (.tuple #[]) ∧ QuadX n0 w' P d q r b most D L E M c (K + 1) Z X0 ∧ Step n0 (fun g => X g ∨ Z g) w w' :=
  h.put (.slice A n cp) X0 hX0 hv fun B hb hG hn0 => bytes_putc A n cp xs hb hr hG hn hn0 hK
theorem qx_write (h : QuadX n0 w P d q r b most D L E M c K Z X) (n kd : Nat) (hn : n < 4294967296) (hkd : kd < 256) (pay : List Nat) (A : Option Addr) (cap m : Nat) (hpm : m = pay.length) (hA : At w A (ns .u8 pay)) (hAX : ∀ a, A = some a → X a.block) (hnil : A = none → cap = 0) (hbp : Bytes pay) (hs : Small D k) (hk : k ≤ 100000000) (hm : most ≤ 9223372036854775807) (hc : c ≤ 1000000000) :
    Calls Tryz.prog 17 #[.pointer (some ⟨P, 0, none⟩), .int .u32 (n : Int), .int .u8 (kd : Int), .slice A m cap] w (QxGives n0 w P d q r b most (plWrite most D L n kd pay).D (plWrite most D L n kd pay).L E M (c + 1) K X (.int .u16 ((plWrite most D L n kd pay).err : Nat))) := by
  obtain ⟨X1, hp, hX, hZ, st, st2⟩ := h.pool
  refine (plwrite_any hp n kd hn hkd pay A cap m hpm (fun w' hs' => hA.chg hs'.1 (fun a ha e => e (hX _ (hAX a ha)))) hnil hbp (hs.c hk) (hs.m hk 2) hm hc).mono ?_
  rintro e w' ⟨rfl, hx, hs'⟩
  exact ⟨rfl, Z, st2 w' _ _ _ hx hs'⟩
theorem qx_rwrite (h : QuadX n0 w P d q r b most D L E M c K Z X) (n kd : Nat) (hn : n < 4294967296) (hkd : kd < 256) (s : Inner) (hok : ∀ w', Below n0 w w' → s.Ok w') (hs : Small E k) (hk : k ≤ 100000000) (h1 : 1 ≤ most) (hm : most ≤ 9223372036854775807) (hl : M.length ≤ most) (hM : M.length ≤ 100000000) :
    Calls Tryz.prog 20 #[.pointer (some ⟨q, 0, none⟩), .int .u32 (n : Int), .int .u8 (kd : Int), .slice s.A s.l.length s.c] w (QxGives n0 w P d q r b most D L (plWrite most E M n kd s.l).D (plWrite most E M n kd s.l).L c K X (.int .u16 ((plWrite most E M n kd s.l).err : Nat))) := by
  obtain ⟨hq, hXZ, st⟩ := h.ref
  refine (rq_write hq n kd hn hkd s hok (hs.c hk) (hs.m hk 2) h1 hm hM).mono ?_
  rintro e w' ⟨rfl, Z', hq', hg, hc⟩
  exact ⟨rfl, Z', st w' _ _ Z' hq' hg hc⟩
theorem qx_forget (h : QuadX n0 w P d q r b most D L E M c K Z X) (n : Nat) (hn : n < 4294967296) :
    Calls Tryz.prog 21 #[.pointer (some ⟨P, 0, none⟩), .int .u32 (n : Int)] w (QxGives n0 w P d q r b most D (forget n L) E M c K X (.tuple #[])) := by
  obtain ⟨X1, hp, hX, hZ, st, st2⟩ := h.pool
  refine (plforget_any hp n hn).mono ?_
  rintro e w' ⟨rfl, hx, hs'⟩
  exact ⟨rfl, Z, st2 w' _ _ _ hx hs'⟩
theorem qx_rforget (h : QuadX n0 w P d q r b most D L E M c K Z X) (n : Nat) (hn : n < 4294967296) (hM : M.length ≤ 100000000) :
    Calls Tryz.prog 22 #[.pointer (some ⟨q, 0, none⟩), .int .u32 (n : Int)] w (QxGives n0 w P d q r b most D L E (forget n M) c K X (.tuple #[])) := by
  obtain ⟨hq, hXZ, st⟩ := h.ref
  refine (rq_forget hq n hn hM).mono ?_
  rintro e w' ⟨rfl, Z', hq', hg, hc⟩
  exact ⟨rfl, Z', st w' _ _ Z' hq' hg hc⟩
theorem qx_sync (h : QuadX n0 w P d q r b most D L E M c K Z X) (hs : Small D k) (hk : k ≤ 100000000) : Calls Tryz.prog 23 #[.pointer (some ⟨P, 0, none⟩)] w (QxGives n0 w P d q r b most D.sync.2 L E M c K X (.int .u16 (D.sync.1 : Nat))) := by
  obtain ⟨X1, hp, hX, hZ, st, st2⟩ := h.pool
  refine (plsync_any hp (hs.c hk) (hs.m hk 3)).mono ?_
  rintro e w' ⟨rfl, hx, hs'⟩
  exact ⟨rfl, Z, st2 w' _ _ _ hx hs'⟩
theorem qx_rsync (h : QuadX n0 w P d q r b most D L E M c K Z X) (hs : Small E k) (hk : k ≤ 100000000) : Calls Tryz.prog 24 #[.pointer (some ⟨r, 0, none⟩)] w (QxGives n0 w P d q r b most D L E.sync.2 M c K X (.int .u16 (E.sync.1 : Nat))) := by
  obtain ⟨hq, hXZ, st⟩ := h.ref
  obtain ⟨S, hd, hSZ, hst⟩ := hq.disk
  refine (rsync_any hd (hs.c hk) (hs.m hk 3)).mono ?_
  rintro e w' ⟨rfl, h1, h2⟩
  obtain ⟨Z', hq', hg, hc⟩ := hst w' _ ⟨S, h1, Grows.refl _ _, h2⟩
  exact ⟨rfl, Z', st w' _ _ Z' hq' hg hc⟩
theorem qx_fail (h : QuadX n0 w P d q r b most D L E M c K Z X) (o n : Int) (hn : n ≤ 9223372036854775807) : Calls Tryz.prog 25 #[.pointer (some ⟨d, 0, none⟩), .int .i64 o, .int .i64 n] w (QxGives n0 w P d q r b most (D.setFail o n).2 L E M c K X (.int .u16 ((D.setFail o n).1 : Nat))) := by
  obtain ⟨X1, hp, hX, hZ, st, st2⟩ := h.pool
  obtain ⟨S, hd, hXS, hst, _⟩ := hp.disk
  refine (dg_fail hd hd.new_n o n hn).mono ?_
  rintro e w' ⟨rfl, hN⟩
  obtain ⟨hx, hs'⟩ := hst w' _ hN
  exact ⟨rfl, Z, st2 w' _ _ _ hx hs'⟩
theorem qx_rfail (h : QuadX n0 w P d q r b most D L E M c K Z X) (o n : Int) (hn : n ≤ 9223372036854775807) : Calls Tryz.prog 26 #[.pointer (some ⟨r, 0, none⟩), .int .i64 o, .int .i64 n] w (QxGives n0 w P d q r b most D L (E.setFail o n).2 M c K X (.int .u16 ((E.setFail o n).1 : Nat))) := by
  obtain ⟨hq, hXZ, st⟩ := h.ref
  obtain ⟨S, hd, hSZ, hst⟩ := hq.disk
  refine (rfail_any hd o n hn).mono ?_
  rintro e w' ⟨rfl, h1, h2⟩
  obtain ⟨Z', hq', hg, hc⟩ := hst w' _ ⟨S, h1, Grows.refl _ _, h2⟩
  exact ⟨rfl, Z', st w' _ _ Z' hq' hg hc⟩
theorem qx_cut (h : QuadX n0 w P d q r b most D L E M c K Z X) (A : Option Addr) (cap : Nat) (bl : List Bool) (hok : ∀ w', Below n0 w w' → At w' A (bl.map .bool)) (hs : Small D k) (hk : k ≤ 100000000) :
    Calls Tryz.prog 27 #[.pointer (some ⟨d, 0, none⟩), .slice A bl.length cap] w (QxGives n0 w P d q r b most (D.cut bl) L E M c K X (.tuple #[])) := by
  obtain ⟨X1, hp, hX, hZ, st, st2⟩ := h.pool
  obtain ⟨S, hd, hXS, hst, _⟩ := hp.disk
  refine (dg_cut hd hd.new_n A cap bl (hs.c hk) (fun w' hc => hok w' (hc.below hd.new_n (fun g hg => (hd.lt g hg).1)))).mono ?_
  rintro e w' ⟨rfl, hN⟩
  obtain ⟨hx, hs'⟩ := hst w' _ hN
  exact ⟨rfl, Z, st2 w' _ _ _ hx hs'⟩
theorem qx_rcut (h : QuadX n0 w P d q r b most D L E M c K Z X) (A : Option Addr) (cap : Nat) (bl : List Bool) (hok : ∀ w', Below n0 w w' → At w' A (bl.map .bool)) (hbl : bl.length ≤ 140737488355328) (hs : Small E k) (hk : k ≤ 100000000) :
    Calls Tryz.prog 28 #[.pointer (some ⟨r, 0, none⟩), .slice A bl.length cap] w (QxGives n0 w P d q r b most D L (E.cut bl) M c K X (.tuple #[])) := by
  obtain ⟨hq, hXZ, st⟩ := h.ref
  obtain ⟨S, hd, hSZ, hst⟩ := hq.disk
  refine (rcut_any hd A cap bl h.n_le (hs.c hk) (fun w' hc => hok w' (hc.below h.n_le (fun g hg => (hq.lt g (hSZ g hg)).1))) hbl).mono ?_
  rintro e w' ⟨rfl, hN⟩
  obtain ⟨Z', hq', hg, hc⟩ := hst w' _ hN
  exact ⟨rfl, Z', st w' _ _ Z' hq' hg hc⟩
theorem qx_counts (h : QuadX n0 w P d q r b most D L E M c K Z X) : Calls Tryz.prog 29 #[.pointer (some ⟨d, 0, none⟩)] w fun e w' => e = .returned (.agg #[.int .i64 (D.n 1), .int .i64 (D.n 2), .int .i64 (D.n 3)]) ∧ Below w.heap.size w w' := by
  obtain ⟨X1, hp, _⟩ := h.pool
  obtain ⟨S, hd, _⟩ := hp.disk
  exact dg_counts hd
theorem qx_len (h : QuadX n0 w P d q r b most D L E M c K Z X) : Calls Tryz.prog 30 #[.pointer (some ⟨P, 0, none⟩)] w fun x w' => x = .returned (.int .i64 (L.length : Int)) ∧ w = w' := by
  obtain ⟨X1, hp, _⟩ := h.pool
  exact pllen_any hp
theorem qx_has (h : QuadX n0 w P d q r b most D L E M c K Z X) (n : Nat) (hn : n < 4294967296) : Calls Tryz.prog 32 #[.pointer (some ⟨P, 0, none⟩), .int .u32 (n : Int)] w fun x w' => x = .returned (.bool (isHand n L)) ∧ w = w' := by
  obtain ⟨X1, hp, _⟩ := h.pool
  exact plhas_any hp n hn
theorem qx_image (h : QuadX n0 w P d q r b most D L E M c K Z X) : Calls Tryz.prog 33 #[.pointer (some ⟨d, 0, none⟩)] w (GivesFill D.last.flatten w) := by
  obtain ⟨X1, hp, _⟩ := h.pool
  obtain ⟨S, hd, _⟩ := hp.disk
  exact dg_image hd
theorem qx_rimage (h : QuadX n0 w P d q r b most D L E M c K Z X) : Calls Tryz.prog 34 #[.pointer (some ⟨r, 0, none⟩)] w (GivesFill E.last.flatten w) := by
  obtain ⟨hq, hXZ, st⟩ := h.ref
  obtain ⟨S, hd, _⟩ := hq.disk
  exact rimage_any hd
theorem qx_own (h : QuadX n0 w P d q r b most D L E M c K Z X) (hK : K ≤ 1000000000000) : Calls Tryz.prog 35 #[.pointer (some ⟨b, 0, none⟩)] w fun e w' => e = .returned (.bool true) ∧ Below n0 w w' := by
  obtain ⟨B, hh⟩ := h
  refine (own_ok hh.book hh.pool.n_le hK).mono ?_
  rintro e w' ⟨rfl, _, hb⟩
  exact ⟨rfl, hb⟩
/-- what is read of the reference: its counts, its list -/
theorem qx_counted (h : QuadX n0 w P d q r b most D L E M c K Z X) : w.cell? ⟨r, 5, none⟩ = some (.int .i64 (E.n 1)) ∧ w.cell? ⟨r, 6, none⟩ = some (.int .i64 (E.n 2)) ∧ w.cell? ⟨r, 7, none⟩ = some (.int .i64 (E.n 3)) := by
  obtain ⟨hq, _⟩ := h.ref
  obtain ⟨S, hd, _⟩ := hq.disk
  obtain ⟨_, ⟨x, Y, hin, _⟩, _⟩ := hd
  exact ⟨hin.rcd.cell 5 (by omega), hin.rcd.cell 6 (by omega), hin.rcd.cell 7 (by omega)⟩
theorem qx_list (h : QuadX n0 w P d q r b most D L E M c K Z X) : ∃ A cap, w.cell? ⟨q, 2, none⟩ = some (.slice A M.length cap) ∧ ∀ i x, M[i]? = some x → x.num < 4294967296 ∧ ∃ g o, A = some ⟨g, o, none⟩ ∧ w.cell? ⟨g, o + i * 3, none⟩ = some (.int .u32 (x.num : Int)) := by
  obtain ⟨hq, _⟩ := h.ref
  obtain ⟨Q, hp, _⟩ := hq.pool
  obtain ⟨⟨M0, Lv, A, cap, Y, h1, rfl, h3⟩, _⟩ := hp
  refine ⟨A, cap, by have := h1.rc.2.2; rwa [← List.length_map (f := fun p : Hand × Value => p.1)] at this, fun i x hx => ?_⟩
  rw [List.getElem?_map] at hx
  obtain ⟨⟨x0, v⟩, hp, rfl⟩ := Option.map_eq_some_iff.1 hx
  obtain ⟨g, o, e, h5, _⟩ := h1.list.get i x0 v hp
  exact ⟨(h1.ok (x0, v) (List.mem_of_getElem? hp)).num, g, o, e, h5⟩
set_option maxRecDepth 100000 in
theorem qx_pages (h : QuadX n0 w P d q r b most D L E M c K Z X) : Calls Tryz.prog 31 #[.pointer (some ⟨P, 0, none⟩)] w fun e w' => e = .returned (.int .i64 (D.pages : Int)) ∧ w = w' := by
  obtain ⟨X1, h, _⟩ := h.pool
  have c0 := h.cell0.1
  obtain ⟨S, T, h, _⟩ := h
  have HP := Lib.hid (pages_any h.disk.disk)
  clear h
  generalize D.pages = N at *
  go_enter Tryz.func31, Tryz.ntmps31
  go_wp2_with fail
  refine HP.out.mono ?_
  rintro e w1 ⟨rfl, rfl⟩
  go_wp2_with fail
  go_ret
  exact ⟨rfl, rfl⟩
end
end Go.Proofs.YtfbjjblgcgjndaaGreat

/- What a pool's round keeps, in plain data. -/
namespace Go.Proofs.YtfbjjblgcgjndaaGreat

/-- behind j acts -/
structure Fit (N most j : Nat) (D : Dsk) (L : List Hand) : Prop where
  pages : D.pages = N
  small : Small D (60 + j)
  len : L.length ≤ most
  few : L.length ≤ j
theorem write_pages (D : Dsk) (pg : Int) (l : List Nat) : (D.write pg l).2.pages = D.pages := by
  by_cases h : (D.write pg l).1 = 0
  · obtain ⟨_, n, _, _, _, e⟩ := pl_write_yes h
    rw [e]
    rfl
  · exact (write_bad h).pages
theorem read_pages (D : Dsk) (pg : Int) : (D.read pg).2.2.pages = D.pages := (same_read D pg).pages
theorem sync_pages (D : Dsk) : D.sync.2.pages = D.pages := by
  unfold Dsk.sync
  split
  · exact (same_begin D 3).pages
  · exact (Dsk.settle_pages _ _).trans rfl
theorem setFail_pages (D : Dsk) (i n : Int) : (D.setFail i n).2.pages = D.pages := by
  unfold Dsk.setFail
  split
  · rfl
  · split <;> rfl
theorem use_len1 (most : Nat) (h : Hand) (L : List Hand) : (usePage most h L).length ≤ L.length + 1 := by
  have := forget_len h.num L
  unfold usePage
  split <;> simp only [List.length_drop, List.length_append, List.length_cons, List.length_nil] <;> omega
variable {N most j : Nat} {D : Dsk} {L : List Hand}
theorem Fit.mono {j' : Nat} (h : Fit N most j D L) (hj : j ≤ j') : Fit N most j' D L := ⟨h.pages, h.small.mono (by omega), h.len, by have := h.few; omega⟩
theorem Fit.read (h : Fit N most j D L) (hm : 1 ≤ most) (n : Nat) : Fit N most (j + 1) (plRead most D L n).D (plRead most D L n).L := by
  have hr : Small (D.read (n : Int)).2.2 (60 + (j + 1)) := h.small.read _
  have hp := (read_pages D (n : Int)).trans h.pages
  have h1 := h.mono (show j ≤ j + 1 by omega)
  unfold plRead
  split
  · exact h1
  · split
    · rename_i x hx
      have h2 := forget_len_lt (find_mem hx).1 (find_mem hx).2
      have h3 := h.len
      have h4 := h.few
      exact ⟨h1.pages, h1.small, by simp only [List.length_append, List.length_cons, List.length_nil]; omega, by simp only [List.length_append, List.length_cons, List.length_nil]; omega⟩
    · split
      · exact ⟨hp, hr, h1.len, h1.few⟩
      · split
        · exact ⟨hp, hr, use_len _ h.len hm, Nat.le_trans (use_len1 _ _ _) (by have := h.few; omega)⟩
        · exact ⟨hp, hr, h1.len, h1.few⟩
theorem Fit.write (h : Fit N most j D L) (hm : 1 ≤ most) (n k : Nat) (p : List Nat) : Fit N most (j + 1) (plWrite most D L n k p).D (plWrite most D L n k p).L := by
  have hr : Small (D.write (n : Int) (sealed k n p)).2 (60 + (j + 1)) := h.small.write _ _
  have hp := (write_pages D (n : Int) (sealed k n p)).trans h.pages
  have h1 := h.mono (show j ≤ j + 1 by omega)
  unfold plWrite
  split
  · split
    · exact h1
    · split
      · exact ⟨hp, hr, Nat.le_trans (forget_len _ _) h.len, Nat.le_trans (forget_len _ _) h1.few⟩
      · exact ⟨hp, hr, use_len _ h.len hm, Nat.le_trans (use_len1 _ _ _) (by have := h.few; omega)⟩
  · exact h1
theorem Fit.forget (h : Fit N most j D L) (n : Nat) : Fit N most (j + 1) D (forget n L) := ⟨h.pages, h.small.mono (by omega), Nat.le_trans (forget_len _ _) h.len, Nat.le_trans (forget_len _ _) (by have := h.few; omega)⟩
theorem Fit.sync (h : Fit N most j D L) : Fit N most (j + 1) D.sync.2 L := ⟨(sync_pages D).trans h.pages, h.small.sync, h.len, by have := h.few; omega⟩
theorem Fit.fail (h : Fit N most j D L) (i n : Int) : Fit N most (j + 1) (D.setFail i n).2 L := ⟨(setFail_pages D i n).trans h.pages, (h.small.setFail i n).mono (by omega), h.len, by have := h.few; omega⟩
theorem Fit.cut (h : Fit N most j D L) (bs : List Bool) : Fit N most (j + 1) (D.cut bs) L := ⟨(Dsk.cut_pages D bs).trans h.pages, (h.small.cut bs).mono (by omega), h.len, by have := h.few; omega⟩
end Go.Proofs.YtfbjjblgcgjndaaGreat

/- The quad made: the reference's New (11), a book; the image that is written ahead. -/
namespace Go.Proofs.YtfbjjblgcgjndaaGreat
open Go.RowKit Go.Maps

theorem RD.lift {n0 n1 : Nat} {w : World} {p : Nat} {D : Dsk} {S : Nat → Prop} (h : RD n1 w p D S) (hn : n0 ≤ n1) : RD n0 w p D S := by
  obtain ⟨ok, ⟨q, Y, hin, hS⟩, hlt⟩ := h
  exact ⟨ok, ⟨q, Y, ⟨hin.rcd, own_down hin.last hn, hin.rows, own_down hin.cache hn, hin.crows, own_down hin.faults hn, Nat.le_trans hn hin.base, hin.sep, hin.apart, fun g hg => ⟨Nat.le_trans hn (hin.lt g hg).1, (hin.lt g hg).2⟩⟩, hS⟩, fun g hg => ⟨Nat.le_trans hn (hlt g hg).1, (hlt g hg).2⟩⟩
def bookCells : Array Value := #[.slice none 0 0, .slice none 0 0, .slice none 0 0, .slice none 0 0, .slice none 0 0, .slice none 0 0, .slice none 0 0, .slice none 0 0, .slice none 0 0, .slice none 0 0, .slice none 0 0, .slice none 0 0, .slice none 0 0, .slice none 0 0, .slice none 0 0, .slice none 0 0, .slice none 0 0, .slice none 0 0, .slice none 0 0, .slice none 0 0, .slice none 0 0, .slice none 0 0, .slice none 0 0]
def qcells (r m : Nat) : Array Value := #[.pointer (some ⟨r, 0, none⟩), .int .i64 (m : Int), .slice none 0 0]
theorem rpnew_no (dv : Value) (m : Int) (w : World) (h : m < 1) : Calls Tryz.prog 11 #[dv, .int .i64 m] w fun e w' => e = .returned (.tuple #[.pointer none, .int .u16 1]) ∧ w = w' := by
  go_enter Tryz.func11, Tryz.ntmps11
  go_wp2
  go_ret2
  exact ⟨rfl, rfl⟩
set_option maxRecDepth 100000 in
theorem rpnew_run (r m : Nat) (w : World) (h : 1 ≤ m) (hm : m ≤ 9223372036854775807) : Calls Tryz.prog 11 #[.pointer (some ⟨r, 0, none⟩), .int .i64 (m : Int)] w fun e w' => e = .returned (.tuple #[.pointer (some ⟨w.heap.size, 0, none⟩), .int .u16 0]) ∧ w' = w.alloc (.cells (qcells r m) 92) := by
  have h1 : ¬ (m : Int) < 1 := by omega
  unfold qcells
  go_enter Tryz.func11, Tryz.ntmps11
  go_wp2_with fail
  go_ret2
  exact ⟨rfl, rfl⟩
theorem quad_made {n0 : Nat} {w : World} {P d r m : Nat} {D E : Dsk} {Sr : Nat → Prop} (hp : PoolX n0 w P d m D [] 0 Sr) (hr : RD n0 w r E Sr) (w' : World) (hw : w' = (w.alloc (.cells (qcells r m) 92)).alloc (.cells bookCells 66)) :
    (∃ Z, QuadX n0 w' P d w.heap.size r (w.heap.size + 1) m D [] E [] 0 0 Z (fun _ => False)) ∧ Below w.heap.size w w' := by
  subst hw
  have hbl : Below w.heap.size w ((w.alloc (.cells (qcells r m) 92)).alloc (.cells bookCells 66)) := below_alloc0 (below_alloc0 (Below.refl _ _) _) _
  have hsz : ((w.alloc (.cells (qcells r m) 92)).alloc (.cells bookCells 66)).heap.size = w.heap.size + 2 := by simp only [sz_alloc]
  have hn := hp.n_le
  refine ⟨⟨fun g => Sr g ∨ g = w.heap.size, fun g => g = w.heap.size + 1, ⟨?_, ?_, ?_, fun g hg => by omega, fun g hg => ⟨fun e => ?_, fun e => e⟩, fun g hg e => e⟩⟩, hbl⟩
  · refine (hp.also hbl (Y := fun g => g = w.heap.size ∨ g = w.heap.size + 1) (fun g hg => by omega)).less (fun g hg => ?_)
    rcases hg with (hg | hg) | hg | hg
    · exact .inl hg
    · exact .inr (.inl hg)
    · exact .inr (.inr hg)
    · exact hg.elim
  · refine ⟨Sr, fun g => g = w.heap.size, hr.below hbl, ⟨⟨[], .slice none 0 0, none, 0, fun _ => False, ⟨?_, ⟨rfl, fun h => (h rfl).elim, fun _ => ⟨rfl, rfl⟩, (fun a ha => by cases ha), ⟨Nat.le_refl _, by simp only [maxLen]; omega⟩⟩, (fun p hp => by cases hp), (fun p hp => by cases hp), List.nodup_nil, hn, (fun a ha => by cases ha), (fun g hg => hg.elim)⟩, rfl, fun g hg => ?_⟩, fun g hg => by omega⟩, fun g hg e => by have := hr.top g hg; omega, fun g => Iff.rfl⟩
    · refine RecAt.of (cs := qcells r m) ?_ (by simp [lst, pcell, qcells, List.range_succ])
      rw [hp_alloc, sz_alloc, if_neg (by omega)]
      exact heap_alloc_new w _
    · rcases hg with hg | ⟨a, ha, _⟩ | hg
      · exact hg
      · cases ha
      · exact hg.elim
  · have h1 := BookOk.new n0 (w.alloc (.cells (qcells r m) 92)) (by simp only [sz_alloc]; omega)
    rw [lst_nil_book] at h1
    simp only [sz_alloc] at h1
    exact h1.mono (fun g _ _ e => e) (fun g _ _ e => e.elim)
  · rcases hg with hg | hg
    · have := hr.top g hg; omega
    · omega
/-- behind k pages of the image -/
def ImgAt (n0 : Nat) (w : World) (d r N k : Nat) (wr : World) : Prop := ∃ D Sd Sr, DG n0 wr d D Sd ∧ RD n0 wr r D Sr ∧ (∀ g, Sd g → ¬ Sr g) ∧ D.pages = N ∧ Small D k ∧ Below n0 w wr
theorem ImgAt.disk {n0 : Nat} {w : World} {d r N k : Nat} {wr : World} (h : ImgAt n0 w d r N k wr) (hk : k ≤ 1000) (s : Inner) (hok : ∀ w', Below n0 w w' → s.Ok w') (hA : ∀ a, s.A = some a → a.block < n0) (pg : Nat) :
    Calls Tryz.prog 8 #[.pointer (some ⟨d, 0, none⟩), .int .i64 (pg : Int), .slice s.A s.l.length s.c] wr fun e w' => (∃ v, e = .returned v) ∧ (Calls Tryz.prog 9 #[.pointer (some ⟨r, 0, none⟩), .int .i64 (pg : Int), .slice s.A s.l.length s.c] w' fun e w'' => (∃ v, e = .returned v) ∧ ImgAt n0 w d r N (k + 1) w'') := by
  obtain ⟨A, l, c⟩ := s
  obtain ⟨D, Sd, Sr, hd, hr, hs, hp, hsm, hb⟩ := h
  have hs0 := hok wr hb
  refine (dg_write hd hd.new_n (pg : Int) A c l hs0 (fun a ha e => by have := hA a ha; have := (hd.lt _ e).1; omega) (hsm.c (by omega)) (hsm.m (by omega) 2)).mono ?_
  rintro e w1 ⟨rfl, Sd', hd1, hg1, hc1⟩
  refine ⟨⟨_, rfl⟩, ?_⟩
  have hb1 : Below n0 w w1 := hb.trans (hc1.below hd.new_n (fun g hg => (hd.lt g hg).1))
  have hr1 := hr.keep hc1 (fun g hg e => hs g e hg)
  have hs1 : ∀ g, Sd' g → ¬ Sr g := fun g hg e => by
    rcases hg1 g hg with a | a
    · exact hs g a e
    · have := hr.top g e; omega
  refine (rwrite_any hr1 (pg : Int) A c l hd1.new_n (fun w' hc => (hok w' (hb1.trans (hc.below hd1.new_n (fun g hg => (hr1.2.2 g hg).1)))).lies) hs0.le hs0.bytes (Nat.le_trans hs0.small (by omega)) (hsm.c (by omega)) (hsm.m (by omega) 2)).mono ?_
  rintro e w2 ⟨rfl, Sr', hr2, hg2, hc2⟩
  refine ⟨⟨_, rfl⟩, (D.write (pg : Int) l).2, Sd', Sr', hd1.keep hc2 (fun g hg e => hs1 g hg e), hr2, fun g hg e => ?_, (write_pages D _ _).trans hp, hsm.write _ _, hb1.trans (hc2.below hd1.new_n (fun g hg => (hr1.2.2 g hg).1))⟩
  rcases hg2 g e with a | a
  · exact hs1 g hg a
  · have := hd1.top g hg; omega
end Go.Proofs.YtfbjjblgcgjndaaGreat

/- What a statement's arguments are, as the walks ask it. -/
namespace Go.Proofs.YtfbjjblgcgjndaaGreat
open Go.ChangeShapes Go.WideShapes Go.ChangeAt Go.RowKit

theorem Tryz.own : ownKnob Tryz.prog.godebug = none := by kernel_rfl
theorem Tryz.laidOut : laidOutB Tryz.prog = true := by kernel_rfl

/-- A slice of integers that came in: it is nil; or it leads to a row of 'cap' cells, the numbers 'zs', each fitting its kind. -/
def IsRow (k : IntKind) (w : World) (a : Option Addr) (len cap : Nat) (zs : List Int) : Prop :=
  (a = none ∧ len = 0 ∧ cap = 0 ∧ zs = []) ∨
  ∃ x, a = some x ∧ len ≤ cap ∧ cap ≤ maxLen ∧ zs.length = cap ∧ (∀ i, i < zs.length → w.cell? (x.add i) = some (.int k (zs.getD i 0))) ∧ ∀ n ∈ zs, (Lit.int k n).wf = true

theorem wf_u8 {n : Int} (h : (Lit.int .u8 n).wf = true) : 0 ≤ n ∧ n < 256 := by
  simp [Lit.wf, IntKind.min, IntKind.max, IntKind.bits, IntKind.signed] at h; omega
theorem wf_u16 {n : Int} (h : (Lit.int .u16 n).wf = true) : 0 ≤ n ∧ n < 65536 := by
  simp [Lit.wf, IntKind.min, IntKind.max, IntKind.bits, IntKind.signed] at h; omega
theorem wf_u32 {n : Int} (h : (Lit.int .u32 n).wf = true) : 0 ≤ n ∧ n < 4294967296 := by
  simp [Lit.wf, IntKind.min, IntKind.max, IntKind.bits, IntKind.signed] at h; omega
theorem wf_u64 {n : Int} (h : (Lit.int .u64 n).wf = true) : 0 ≤ n ∧ n < 18446744073709551616 := by
  simp [Lit.wf, IntKind.min, IntKind.max, IntKind.bits, IntKind.signed] at h; omega
theorem wf_i64 {n : Int} (h : (Lit.int .i64 n).wf = true) : -9223372036854775808 ≤ n ∧ n ≤ 9223372036854775807 := by
  simp [Lit.wf, IntKind.min, IntKind.max, IntKind.bits, IntKind.signed] at h; omega

theorem nat_of {n : Int} {k : IntKind} (h : 0 ≤ n) : Value.int k n = .int k ((n.toNat : Nat) : Int) := by rw [Int.toNat_of_nonneg h]

theorem row_nat (k : IntKind) (M : Nat) (hk : ∀ n, (Lit.int k n).wf = true → 0 ≤ n ∧ n < M) {w : World} {a : Option Addr} {len cap : Nat} {zs : List Int} (h : IsRow k w a len cap zs) :
    ∃ l : List Nat, l.length = len ∧ At w a (ns k l) ∧ (a = none → cap = 0) ∧ len ≤ cap ∧ cap ≤ maxLen ∧ ∀ c ∈ l, c < M := by
  rcases h with ⟨rfl, rfl, rfl, rfl⟩ | ⟨x, rfl, h1, h2, h3, h4, h5⟩
  · exact ⟨[], rfl, At.nil _ _, fun _ => rfl, Nat.le_refl _, Nat.zero_le _, fun c hc => by simp at hc⟩
  · refine ⟨(zs.take len).map Int.toNat, by simp; omega, ?_, fun e => (by cases e), h1, h2, ?_⟩
    · intro hn
      have h0 : 0 < len := by
        rcases Nat.eq_zero_or_pos len with h | h
        · subst h; simp [ns] at hn
        · exact h
      have hc0 := h4 0 (by omega)
      obtain ⟨b, o, sp⟩ := x
      have hsp : sp = none := by
        cases sp with
        | none => rfl
        | some s => simp [Addr.add, World.cell?] at hc0; split at hc0 <;> simp at hc0
      subst hsp
      refine ⟨b, o, rfl, fun j v hv => ?_⟩
      have hj : j < len := by
        have := (List.getElem?_eq_some_iff.1 hv).1
        simp [ns] at this; omega
      have hc := h4 j (by omega)
      rw [Addr.add_mid] at hc
      rw [hc]
      have hz : zs[j]? = some (zs.getD j 0) := by simp [List.getElem?_eq_getElem (show j < zs.length by omega)]
      have hm : zs.getD j 0 ∈ zs := List.mem_of_getElem? hz
      have hb := hk _ (h5 _ hm)
      simp only [ns, List.map_map, List.getElem?_map, List.getElem?_take, if_pos hj, hz] at hv
      simp only [Option.map_some, Function.comp, Int.toNat_of_nonneg hb.1] at hv
      exact hv
    · intro c hc
      simp only [List.mem_map] at hc
      obtain ⟨n, hn, rfl⟩ := hc
      have := hk _ (h5 _ (List.mem_of_mem_take hn))
      omega
theorem row_bytes {w : World} {a : Option Addr} {len cap : Nat} {zs : List Int} (h : IsRow .u8 w a len cap zs) :
    ∃ l : List Nat, l.length = len ∧ At w a (ns .u8 l) ∧ (a = none → cap = 0) ∧ len ≤ cap ∧ cap ≤ maxLen ∧ Bytes l := row_nat .u8 256 (fun _ h => wf_u8 h) h
end Go.Proofs.YtfbjjblgcgjndaaGreat

/- One frame for all statements 'for every input the law returns true, and its arguments read as they did', and openings of nested arguments. -/
namespace Go.Proofs.YtfbjjblgcgjndaaGreat
open Go.ChangeShapes Go.WideShapes Go.ChangeAt Go.RowKit

section
variable {H : Type} {enc : TypeId × Value → H}
theorem trodAll_below {W W' : World} (hb : Below W.heap.size W W') : ∀ (ts : List TypeId) (vs : List Value) (ds : List (DataW H)) (ps : List MemPlace),
    DataW.TrodAll enc Tryz.prog W 0 (fun _ => true) true ts vs ds ps → (∀ t ∈ ts, Tryz.prog.readableRec t = true ∧ t < Tryz.prog.types.size) → (∀ x ∈ ps, x.block < W.heap.size) →
    DataW.TrodAll enc Tryz.prog W' 0 (fun b => decide (b < W.heap.size)) true ts vs ds ps := by
  intro ts
  induction ts with
  | nil =>
    intro vs ds ps h _ _
    cases vs <;> cases ds <;> first | exact h | exact h.elim
  | cons t ts ih =>
    intro vs ds ps h ht hlt
    cases vs with
    | nil => cases ds <;> exact h.elim
    | cons v vs =>
      cases ds with
      | nil => exact h.elim
      | cons d ds =>
        obtain ⟨p, q, h1, h2, rfl⟩ := h
        have hr := ht t (by simp)
        exact ⟨p, q, Below.trod Tryz.laidOut hr.1 hr.2 h1 hb (fun x hx => hlt x (by simp [hx])), ih vs ds q h2 (fun u hu => ht u (by simp [hu])) (fun x hx => hlt x (by simp [hx])), rfl⟩

set_option maxRecDepth 100000 in
theorem law_lifted (f : FuncId) (fn : Func) (s : ChangeSpec) (os : Os) (started : os.Started) (noInit : Tryz.prog.inits.idxOf? f = none) (hfn : Tryz.prog.funcs[f]? = some fn)
    (hvars : s.vars = []) (hspec : ∀ ds : List (DataW H), ds.length = fn.params.size → s.fn H (ds ++ []) = { results := [.lit (.bool true)], args := ds })
    (hres : fn.resultTypes = #[4]) (hty : ∀ t ∈ fn.params.toList, Tryz.prog.readableRec t = true ∧ t < Tryz.prog.types.size)
    (witness : ∃ (w : World) (tape : Tape) (i : Input), w.os = os ∧ (w.forCall tape i).Shaped Tryz.checked.prog ∧ i.vars = [] ∧ Input.okWide Tryz.checked.prog (w.forCall tape i) .any w.heap.size f i ∧
      s.pre6 enc Tryz.checked.prog fn [] false (w.forCall tape i).memory i.args ∧ ({} : Assume).holds Tryz.checked.prog (lone (Frame.enter Tryz.checked.prog f i.args .normal) [] (w.forCall tape i)))
    (contract : ∀ (W : World) (base : Nat) (args : Array Value) (ds : List (DataW H)) (p : List MemPlace),
      (∀ (j : Nat) t v, fn.params[j]? = some t → args[j]? = some v → Value.okWide Tryz.prog W .any base t v) →
      DataW.TrodAll enc Tryz.prog W 0 (fun _ => true) true fn.params.toList args.toList ds p →
      (DataW.weightsEach Tryz.prog fn.params.toList ds).all (· ≤ reachBytes) = true →
      Calls Tryz.prog f args W fun e W' => e = .returned (.bool true) ∧ Below W.heap.size W W') :
    ReturnsInHanded {} Tryz.checked os f .any (s.pre6 enc Tryz.prog fn [] false) (s.post enc Tryz.prog fn false true false false) := by
  refine returnsInHanded_of_change_sized (C := Tryz.checked) Tryz.own started noInit hfn witness ?_
  intro W base args ds gs before hval0 hW _ hsz0 _
  have hW' := hW
  obtain ⟨p, q, hA0, hV, rfl, hfz, hnd⟩ := hW
  have hA : DataW.TrodAll enc Tryz.prog W 0 (fun _ => true) true fn.params.toList args.toList ds p := hA0
  have hgs : gs = [] ∧ q = [] := by
    rw [hvars] at hV
    exact trodVars_none hV
  obtain ⟨rfl, rfl⟩ := hgs
  have hvt : s.plain.varTypes Tryz.checked.prog = [] := by
    unfold DataSpec.varTypes ChangeSpec.plain
    simp only [hvars, List.map_nil, List.filterMap_nil]
  have hsz : (DataW.weightsEach Tryz.prog fn.params.toList ds).all (· ≤ reachBytes) = true := by
    rw [hvt, List.append_nil, List.append_nil] at hsz0; exact hsz0
  have hlen : ds.length = fn.params.size := by
    have : ∀ (ts : List TypeId) (vs : List Value) (ds : List (DataW H)) (ps : List MemPlace), DataW.TrodAll enc Tryz.prog W 0 (fun _ => true) true ts vs ds ps → ds.length = ts.length := by
      intro ts
      induction ts with
      | nil => intro vs ds ps h; cases vs <;> cases ds <;> first | rfl | exact h.elim
      | cons t ts ih =>
        intro vs ds ps h
        cases vs with
        | nil => cases ds <;> exact h.elim
        | cons v vs => cases ds with
          | nil => exact h.elim
          | cons d ds => obtain ⟨p, q, h1, h2, rfl⟩ := h; simp [ih vs ds q h2]
    simpa using this _ _ _ _ hA
  have hlt : ∀ x ∈ p, x.block < W.heap.size := fun x hx => DataW.TrodAll.lt hA x hx
  refine (contract W base args ds p hval0 hA hsz).mono fun e W' ⟨he, bel⟩ => ?_
  subst he
  have hsp := hspec ds hlen
  refine ⟨_, rfl, ds, [], p ++ [], [], p, [], hW', ?_, ?_, ?_, bel.frame _, fun h => by cases h⟩
  · rw [hsp, hres]
    exact trodAll_mk1 (shut_bool Tryz.underlying4 _)
  · rw [hsp]
    exact trodAll_below bel _ _ _ _ hA hty hlt
  · rw [hsp, hvars]; rfl

theorem Tryz.cells5 : Tryz.prog.cellsOf 5 = 1 := by kernel_rfl
theorem Tryz.cells22 : Tryz.prog.cellsOf 22 = 1 := by kernel_rfl
theorem Tryz.bytes5 : Tryz.prog.bytesOf 5 = 1 := by kernel_rfl
theorem Tryz.bytes22 : Tryz.prog.bytesOf 22 = 24 := by kernel_rfl
theorem reach_num : reachBytes = 140737488351232 := by decide

theorem open_inner {W : World} {n : Nat} {v : Value} {d : DataW H} {pl : List MemPlace} (h : DataW.trod enc Tryz.prog W 0 (fun _ => true) true n 22 [v] = some (d, pl)) (hw : ∀ x ∈ d.weights Tryz.prog 22, x ≤ reachBytes) :
    ∃ r : Inner, v = r.val ∧ r.Ok W := by
  rcases open_ints Tryz.underlying22 Tryz.underlying5 Tryz.cells5 h with ⟨hcs, _⟩ | ⟨x, len, cap, zs, hcs, _, hl, hm, hz, hx, hcell, hwz⟩
  · injection hcs with hv
    subst hv
    exact ⟨⟨none, [], 0⟩, rfl, ⟨At.nil _ _, fun _ => rfl, Nat.le_refl _, by simp, Bytes.nil⟩⟩
  · injection hcs with hv
    subst hv
    injection hx with hd _
    subst hd
    have hz' : zs.length = cap := by simpa using hz
    have hrow : IsRow .u8 W (some x) len cap zs := .inr ⟨x, rfl, hl, hm, hz', hcell, hwz⟩
    obtain ⟨l, rfl, hA, hnil, hc, hcm, hb⟩ := row_bytes hrow
    refine ⟨⟨some x, l, cap⟩, rfl, ⟨hA, fun e => (by cases e), hc, ?_, hb⟩⟩
    have := hw cap (by
      simp only [DataW.weights, Tryz.underlying22, Tryz.bytes5, lits, List.length_map, List.length_take, List.length_drop]
      refine List.mem_cons.2 (.inl ?_)
      omega)
    rw [reach_num] at this
    exact Nat.le_trans hc this

theorem weights_elem {P : Program} {t e : TypeId} (hu : P.underlying t = some (.slice e)) {elems spare : List (DataW H)} {d : DataW H} (hd : d ∈ elems ∨ d ∈ spare) : ∀ x ∈ d.weights P e, x ∈ (DataW.slice elems spare).weights P t := by
  have key : ∀ (l : List (DataW H)), d ∈ l → ∀ x ∈ d.weights P e, x ∈ DataW.weightsAll P e l := by
    intro l
    induction l with
    | nil => intro h; simp at h
    | cons a l ih =>
      intro h x hx
      simp only [DataW.weightsAll, List.mem_append]
      rcases List.mem_cons.1 h with rfl | h
      · exact .inl hx
      · exact .inr (ih h x hx)
  intro x hx
  simp only [DataW.weights, hu, List.mem_cons, List.mem_append]
  rcases hd with hd | hd
  · exact .inr (.inl (key _ hd x hx))
  · exact .inr (.inr (key _ hd x hx))

theorem addr_plain {w : World} {x : Addr} {v : Value} (h : w.cell? x = some v) : x = ⟨x.block, x.off, none⟩ := by
  obtain ⟨b, o, sp⟩ := x
  cases sp with
  | none => rfl
  | some s => simp [World.cell?] at h; split at h <;> simp at h

/-- a slice whose elements are one cell each: its cells, each with its own reading -/
theorem open_one {W : World} {t e : TypeId} {v : Value} {d : DataW H} {pl : List MemPlace} (ht : Tryz.prog.underlying t = some (.slice e)) (hc : Tryz.prog.cellsOf e = 1) (h : DataW.Trod enc Tryz.prog W 0 (fun _ => true) true t v d pl) (hv : v.cells.toList = [v])
    (hw : ∀ x ∈ d.weights Tryz.prog t, x ≤ reachBytes) (R : Value → Prop) (hR : ∀ n v d pl, DataW.trod enc Tryz.prog W 0 (fun _ => true) true n e [v] = some (d, pl) → (∀ x ∈ d.weights Tryz.prog e, x ≤ reachBytes) → R v) :
    ∃ (A : Option Addr) (c : Nat) (vs : List Value), v = .slice A vs.length c ∧ At W A vs ∧ (∀ u ∈ vs, R u) ∧ (A = none → c = 0) ∧ vs.length ≤ c ∧ c * Tryz.prog.bytesOf e ≤ reachBytes := by
  obtain ⟨fuel, hf⟩ := h
  rw [hv] at hf
  rcases Deep.open_slice1 ht hc hf with ⟨hcs, _⟩ | ⟨a, len, cap, m, n, V, D, Pl, hcs, _, hl, hm, hmm, hx, hcell⟩
  · injection hcs with hv'
    subst hv'
    exact ⟨none, 0, [], rfl, At.nil _ _, fun u hu => by simp at hu, fun _ => rfl, Nat.le_refl _, by simp⟩
  · injection hcs with hv'
    subst hv'
    have hmm' : m = cap := by simpa using hmm
    subst hmm'
    injection hx with hd _
    refine ⟨some a, m, (List.range len).map V, by simp, ?_, ?_, fun e => (by cases e), by simpa using hl, ?_⟩
    · intro hn
      have h0 : 0 < len := by
        rcases Nat.eq_zero_or_pos len with h | h
        · subst h; simp at hn
        · exact h
      have hc0 := (hcell 0 (by omega)).1
      have ha : a = ⟨a.block, a.off, none⟩ := by
        refine addr_plain (w := W) (v := V 0) ?_
        simpa [Addr.add] using hc0
      refine ⟨a.block, a.off, by rw [← ha], fun j u hu => ?_⟩
      have hj : j < len := by simpa using (List.getElem?_eq_some_iff.1 hu).1
      have := (hcell j (by omega)).1
      rw [ha, Addr.add_mid] at this
      rw [this]
      simpa [hj] using hu
    · intro u hu
      simp only [List.mem_map, List.mem_range] at hu
      obtain ⟨i, hi, rfl⟩ := hu
      have hc := hcell i (by omega)
      refine hR n (V i) (D i) (Pl i) hc.2 fun x hx => hw x ?_
      rw [hd]
      exact weights_elem ht (.inl (List.mem_map.2 ⟨i, List.mem_range.2 hi, rfl⟩)) x hx
    · have := hw (m * Tryz.prog.bytesOf e) (by
        rw [hd]
        simp only [DataW.weights, ht, List.length_map, List.length_range]
        refine List.mem_cons.2 (.inl ?_)
        rw [show len + (m - len) = m from by omega])
      exact this
theorem open_rows {W : World} {v : Value} {d : DataW H} {pl : List MemPlace} (h : DataW.Trod enc Tryz.prog W 0 (fun _ => true) true 42 v d pl) (hv : v.cells.toList = [v]) (hw : ∀ x ∈ d.weights Tryz.prog 42, x ≤ reachBytes) :
    ∃ (A : Option Addr) (c : Nat) (rs : List Inner), v = .slice A rs.length c ∧ At W A (rs.map Inner.val) ∧ (∀ r ∈ rs, r.Ok W) ∧ (A = none → c = 0) ∧ rs.length ≤ c ∧ c * 24 ≤ reachBytes := by
  obtain ⟨A, c, vs, rfl, hA, hR, hn, hl, hb⟩ := open_one Tryz.underlying42 Tryz.cells22 h hv hw (fun v => ∃ r : Inner, v = r.val ∧ r.Ok W) (fun n v d pl h hw => open_inner h hw)
  obtain ⟨rs, hrs⟩ : ∃ rs : List Inner, vs = rs.map Inner.val ∧ ∀ r ∈ rs, r.Ok W := by
    clear hA hl hb h hv hw
    induction vs with
    | nil => exact ⟨[], rfl, fun r hr => by simp at hr⟩
    | cons v vs ih =>
      obtain ⟨r, rfl, hr⟩ := hR v (by simp)
      obtain ⟨rs, rfl, h⟩ := ih (fun u hu => hR u (by simp [hu]))
      exact ⟨r :: rs, rfl, fun q hq => by
        rcases List.mem_cons.1 hq with rfl | hq
        · exact hr
        · exact h q hq⟩
  obtain ⟨rfl, hok⟩ := hrs
  rw [Tryz.bytes22] at hb
  refine ⟨A, c, rs, by simp, hA, hok, hn, by simpa using hl, hb⟩
end
end Go.Proofs.YtfbjjblgcgjndaaGreat

/- Openings of arguments, one law a type: numbers, bytes. -/
namespace Go.Proofs.YtfbjjblgcgjndaaGreat
open Go.ChangeShapes Go.WideShapes Go.ChangeAt Go.RowKit Go.Deep

section
variable {H : Type} {enc : TypeId × Value → H} {W : World} {r : Reach} {b0 : Nat} {v : Value} {d : DataW H} {p : List MemPlace}
set_option maxRecDepth 100000 in
theorem open_u8 (hv : Value.okWide Tryz.prog W r b0 5 v) (h : DataW.Trod enc Tryz.prog W 0 (fun _ => true) true 5 v d p) : ∃ n : Nat, v = .int .u8 (n : Int) ∧ n < 256 := by
  obtain ⟨a, rfl, _, _, w⟩ := open_int Tryz.underlying5 hv h
  obtain ⟨h1, h2⟩ := wf_u8 w
  obtain ⟨n, rfl⟩ := Int.eq_ofNat_of_zero_le h1
  exact ⟨n, rfl, by omega⟩
set_option maxRecDepth 100000 in
theorem open_u16 (hv : Value.okWide Tryz.prog W r b0 27 v) (h : DataW.Trod enc Tryz.prog W 0 (fun _ => true) true 27 v d p) : ∃ n : Nat, v = .int .u16 (n : Int) ∧ n < 65536 := by
  obtain ⟨a, rfl, _, _, w⟩ := open_int Tryz.underlying27 hv h
  obtain ⟨h1, h2⟩ := wf_u16 w
  obtain ⟨n, rfl⟩ := Int.eq_ofNat_of_zero_le h1
  exact ⟨n, rfl, by omega⟩
set_option maxRecDepth 100000 in
theorem open_u32 (hv : Value.okWide Tryz.prog W r b0 67 v) (h : DataW.Trod enc Tryz.prog W 0 (fun _ => true) true 67 v d p) : ∃ n : Nat, v = .int .u32 (n : Int) ∧ n < 4294967296 := by
  obtain ⟨a, rfl, _, _, w⟩ := open_int Tryz.underlying67 hv h
  obtain ⟨h1, h2⟩ := wf_u32 w
  obtain ⟨n, rfl⟩ := Int.eq_ofNat_of_zero_le h1
  exact ⟨n, rfl, by omega⟩
set_option maxRecDepth 100000 in
theorem open_i64 (hv : Value.okWide Tryz.prog W r b0 3 v) (h : DataW.Trod enc Tryz.prog W 0 (fun _ => true) true 3 v d p) : ∃ n : Int, v = .int .i64 n ∧ -9223372036854775808 ≤ n ∧ n ≤ 9223372036854775807 := by
  obtain ⟨a, rfl, _, _, w⟩ := open_int Tryz.underlying3 hv h
  exact ⟨a, rfl, wf_i64 w⟩
set_option maxRecDepth 100000 in
theorem open_bytes (hv : Value.okWide Tryz.prog W r b0 22 v) (h : DataW.Trod enc Tryz.prog W 0 (fun _ => true) true 22 v d p) (hw : ∀ x ∈ d.weights Tryz.prog 22, x ≤ reachBytes) : ∃ r : Inner, v = r.val ∧ r.Ok W := by
  obtain ⟨a, n, c, rfl⟩ := okWide_slice Tryz.underlying22 hv
  obtain ⟨fuel, hf⟩ := h
  exact open_inner hf hw
end
end Go.Proofs.YtfbjjblgcgjndaaGreat

/- Openings of arguments: lists of bools, of words, of shorts. -/
namespace Go.Proofs.YtfbjjblgcgjndaaGreat
open Go.ChangeShapes Go.WideShapes Go.ChangeAt Go.RowKit Go.Deep

/-- a list that lies in memory, one cell an element -/
structure Lies (α : Type) where
  A : Option Addr
  l : List α
  c : Nat
def Lies.val {α : Type} (r : Lies α) : Value := .slice r.A r.l.length r.c
structure Lies.Ok {α : Type} (f : α → Value) (p : α → Prop) (W : World) (r : Lies α) : Prop where
  lies : At W r.A (r.l.map f)
  nil : r.A = none → r.c = 0
  le : r.l.length ≤ r.c
  small : r.l.length ≤ 140737488351232
  all : ∀ x ∈ r.l, p x
theorem Lies.Ok.below {α : Type} {f : α → Value} {p : α → Prop} {w w' : World} {r : Lies α} (h : r.Ok f p w) (hb : Below w.heap.size w w') : r.Ok f p w' := ⟨h.lies.below hb, h.nil, h.le, h.small, h.all⟩
theorem map_all {α : Type} {f : α → Value} {p : α → Prop} : ∀ (vs : List Value), (∀ u ∈ vs, ∃ a, u = f a ∧ p a) → ∃ l : List α, vs = l.map f ∧ ∀ x ∈ l, p x
  | [], _ => ⟨[], rfl, fun x hx => by simp at hx⟩
  | v :: vs, h => by
    obtain ⟨a, rfl, ha⟩ := h v (by simp)
    obtain ⟨l, rfl, hl⟩ := map_all vs (fun u hu => h u (by simp [hu]))
    exact ⟨a :: l, rfl, fun x hx => by
      rcases List.mem_cons.1 hx with rfl | hx
      · exact ha
      · exact hl x hx⟩
section
variable {H : Type} {enc : TypeId × Value → H} {W : World} {r : Reach} {b0 : Nat} {v : Value} {d : DataW H} {p : List MemPlace}
set_option maxRecDepth 100000 in
theorem open_lies {α : Type} {t e : TypeId} (f : α → Value) (q : α → Prop) (ht : Tryz.prog.underlying t = some (.slice e)) (hc : Tryz.prog.cellsOf e = 1) (hb1 : 1 ≤ Tryz.prog.bytesOf e)
    (hR : ∀ n v (d : DataW H) pl, DataW.trod enc Tryz.prog W 0 (fun _ => true) true n e [v] = some (d, pl) → ∃ a, v = f a ∧ q a)
    (hv : Value.okWide Tryz.prog W r b0 t v) (h : DataW.Trod enc Tryz.prog W 0 (fun _ => true) true t v d p) (hw : ∀ x ∈ d.weights Tryz.prog t, x ≤ reachBytes) :
    ∃ s : Lies α, v = s.val ∧ s.Ok f q W := by
  obtain ⟨a, n, c, rfl⟩ := okWide_slice ht hv
  obtain ⟨A, c, vs, hvs, hA, hR', hn, hl, hb⟩ := open_one ht hc h rfl hw (fun v => ∃ a, v = f a ∧ q a) (fun n v d pl h _ => hR n v d pl h)
  obtain ⟨l, rfl, hq⟩ := map_all vs hR'
  injection hvs with e1 e2 e3
  subst e1 e2 e3
  rw [List.length_map] at hl
  refine ⟨⟨a, l, c⟩, by simp [Lies.val], hA, hn, hl, ?_, hq⟩
  have := Nat.le_trans (Nat.le_mul_of_pos_right c hb1) hb
  rw [reach_num] at this
  exact Nat.le_trans hl this
theorem Tryz.cells4' : Tryz.prog.cellsOf 4 = 1 := by kernel_rfl
theorem Tryz.cells27' : Tryz.prog.cellsOf 27 = 1 := by kernel_rfl
theorem Tryz.cells67' : Tryz.prog.cellsOf 67 = 1 := by kernel_rfl
theorem Tryz.bytes4' : Tryz.prog.bytesOf 4 = 1 := by kernel_rfl
theorem Tryz.bytes27' : Tryz.prog.bytesOf 27 = 2 := by kernel_rfl
theorem Tryz.bytes67' : Tryz.prog.bytesOf 67 = 4 := by kernel_rfl
abbrev BoolsOk (W : World) (s : Lies Bool) : Prop := s.Ok Value.bool (fun _ => True) W
abbrev ShortsOk (W : World) (s : Lies Nat) : Prop := s.Ok (fun n : Nat => .int .u16 (n : Int)) (fun n : Nat => n < 65536) W
abbrev WordsOk (W : World) (s : Lies Nat) : Prop := s.Ok (fun n : Nat => .int .u32 (n : Int)) (fun n : Nat => n < 4294967296) W
set_option maxRecDepth 100000 in
theorem open_bools (hv : Value.okWide Tryz.prog W r b0 68 v) (h : DataW.Trod enc Tryz.prog W 0 (fun _ => true) true 68 v d p) (hw : ∀ x ∈ d.weights Tryz.prog 68, x ≤ reachBytes) : ∃ s : Lies Bool, v = s.val ∧ BoolsOk W s := by
  refine open_lies Value.bool (fun _ => True) Tryz.underlying68 Tryz.cells4' (by rw [Tryz.bytes4']; omega) ?_ hv h hw
  intro n u y pl hu
  obtain ⟨b, h1, h2⟩ := DataW.trod_bool Tryz.underlying4 hu
  exact ⟨b, by simpa using h1, trivial⟩
set_option maxRecDepth 100000 in
theorem open_words (hv : Value.okWide Tryz.prog W r b0 167 v) (h : DataW.Trod enc Tryz.prog W 0 (fun _ => true) true 167 v d p) (hw : ∀ x ∈ d.weights Tryz.prog 167, x ≤ reachBytes) : ∃ s : Lies Nat, v = s.val ∧ WordsOk W s := by
  refine open_lies (fun n : Nat => .int .u32 (n : Int)) (fun n => n < 4294967296) Tryz.underlying167 Tryz.cells67' (by rw [Tryz.bytes67']; omega) ?_ hv h hw
  intro n u y pl hu
  obtain ⟨a, h1, _, w⟩ := DataW.trod_int Tryz.underlying67 hu
  injection h1 with h1
  obtain ⟨l1, l2⟩ := wf_u32 w
  obtain ⟨m, rfl⟩ := Int.eq_ofNat_of_zero_le l1
  exact ⟨m, h1, by omega⟩
end
end Go.Proofs.YtfbjjblgcgjndaaGreat

/- Openings of arguments: the acts of the disk laws. -/
namespace Go.Proofs.YtfbjjblgcgjndaaGreat
open Go.ChangeShapes Go.WideShapes Go.ChangeAt Go.RowKit Go.Deep

theorem flat_get {α β : Type} (f : α → List β) (n : Nat) (hf : ∀ x, (f x).length = n) : ∀ (l : List α) (i : Nat) (a : α), l[i]? = some a → ∀ j, j < n → (l.flatMap f)[i * n + j]? = (f a)[j]?
  | [], i, a, h, j, hj => by simp at h
  | x :: l, 0, a, h, j, hj => by
    simp at h; subst h
    rw [List.flatMap_cons, List.getElem?_append_left (by rw [hf]; omega)]
    simp
  | x :: l, i + 1, a, h, j, hj => by
    have := flat_get f n hf l i a (by simpa using h) j hj
    rw [List.flatMap_cons, List.getElem?_append_right (by rw [hf, Nat.succ_mul]; omega), hf, show (i + 1) * n + j - n = i * n + j by rw [Nat.succ_mul]; omega]
    exact this
theorem flat_len {α β : Type} (f : α → List β) (n : Nat) (hf : ∀ x, (f x).length = n) : ∀ (l : List α), (l.flatMap f).length = l.length * n
  | [] => by simp
  | x :: l => by rw [List.flatMap_cons, List.length_append, flat_len f n hf l, hf, List.length_cons, Nat.succ_mul]; omega
section
variable {H : Type} {enc : TypeId × Value → H} {W : World} {r : Reach} {b0 : Nat} {v : Value} {d : DataW H} {p : List MemPlace}
theorem addr_add_plain (a : Addr) (h : a = ⟨a.block, a.off, none⟩) (i : Nat) : a.add i = ⟨a.block, a.off + i, none⟩ := by rw [h, Addr.add_mid]
set_option maxRecDepth 100000 in
/-- a slice whose elements are many cells each -/
theorem open_many {α : Type} {t e : TypeId} {k : Nat} (cells : α → List Value) (q : α → Prop) (ht : Tryz.prog.underlying t = some (.slice e)) (hk : Tryz.prog.cellsOf e = k) (hk0 : 0 < k) (hb1 : 1 ≤ Tryz.prog.bytesOf e) (hcl : ∀ a, (cells a).length = k)
    (hR : ∀ n cs (d : DataW H) pl, DataW.trod enc Tryz.prog W 0 (fun _ => true) true n e cs = some (d, pl) → (∀ x ∈ d.weights Tryz.prog e, x ≤ reachBytes) → ∃ a, cs = cells a ∧ q a)
    (hv : Value.okWide Tryz.prog W r b0 t v) (h : DataW.Trod enc Tryz.prog W 0 (fun _ => true) true t v d p) (hw : ∀ x ∈ d.weights Tryz.prog t, x ≤ reachBytes) :
    ∃ (A : Option Addr) (l : List α) (c : Nat), v = .slice A l.length c ∧ At W A (l.flatMap cells) ∧ (∀ a ∈ l, q a) ∧ (A = none → c = 0) ∧ l.length ≤ c ∧ l.length ≤ 140737488351232 := by
  obtain ⟨a, n, c, rfl⟩ := okWide_slice ht hv
  obtain ⟨fuel, hf⟩ := h
  rw [show (Value.slice a n c).cells.toList = [.slice a n c] from rfl] at hf
  rcases Deep.open_slice ht hf with ⟨hcs, _⟩ | ⟨ad, len, cap, m, n', D, Pl, hcs, _, hl, hm, hmm, hx, hcell⟩
  · injection hcs with hv'
    injection hv' with e1 e2 e3
    subst e1 e2 e3
    exact ⟨none, [], 0, rfl, At.nil _ _, fun a ha => by simp at ha, fun _ => rfl, Nat.le_refl _, by simp⟩
  · injection hcs with hv'
    injection hv' with e1 e2 e3
    subst e1 e2 e3
    have hmm' : m = c := by simpa using hmm
    subst hmm'
    injection hx with hd _
    rw [hk] at hcell
    have hel : ∀ i, i < n → ∃ x, q x ∧ W.cells? 0 (ad.add (i * k)) k = some (cells x) := fun i hi => by
      obtain ⟨cs, h1, h2⟩ := hcell i (by omega)
      obtain ⟨x, rfl, hq⟩ := hR n' cs (D i) (Pl i) h2 (fun y hy => hw y (by
        rw [hd]
        exact weights_elem ht (.inl (List.mem_map.2 ⟨i, List.mem_range.2 hi, rfl⟩)) y hy))
      exact ⟨x, hq, h1⟩
    have hall : ∀ j, j ≤ n → ∃ l : List α, l.length = j ∧ (∀ a ∈ l, q a) ∧ ∀ i a, l[i]? = some a → W.cells? 0 (ad.add (i * k)) k = some (cells a) := by
      intro j
      induction j with
      | zero => exact fun _ => ⟨[], rfl, fun a ha => by simp at ha, fun i a ha => by simp at ha⟩
      | succ j ih =>
        intro hj
        obtain ⟨l, h1, h2, h3⟩ := ih (by omega)
        obtain ⟨x, hx1, hx2⟩ := hel j (by omega)
        refine ⟨l ++ [x], by simp [h1], fun a ha => ?_, fun i a ha => ?_⟩
        · rcases List.mem_append.1 ha with ha | ha
          · exact h2 a ha
          · rw [List.mem_singleton.1 ha]; exact hx1
        · by_cases hi : i < l.length
          · rw [List.getElem?_append_left hi] at ha
            exact h3 i a ha
          · have hil := (List.getElem?_eq_some_iff.1 ha).1
            simp at hil
            obtain rfl : i = l.length := by omega
            simp at ha
            subst ha
            rw [h1]; exact hx2
    obtain ⟨l, rfl, h2, h3⟩ := hall n (Nat.le_refl _)
    refine ⟨some ad, l, m, rfl, ?_, h2, fun e => (by cases e), hl, ?_⟩
    · intro hne
      have hl0 : 0 < l.length := by
        rcases Nat.eq_zero_or_pos l.length with h | h
        · rw [List.eq_nil_of_length_eq_zero h] at hne; simp at hne
        · exact h
      obtain ⟨_, _, hc0⟩ := World.cells?_some (h3 0 l[0] (List.getElem?_eq_getElem hl0))
      have hc00 := hc0 0 hk0
      have hcc : (cells l[0])[0]? = some ((cells l[0])[0]'(by rw [hcl]; exact hk0)) := List.getElem?_eq_getElem (by rw [hcl]; exact hk0)
      rw [hcc, Nat.zero_mul] at hc00
      have ha : ad = ⟨ad.block, ad.off, none⟩ := by
        refine addr_plain (w := W) (v := (cells l[0])[0]'(by rw [hcl]; exact hk0)) ?_
        have : (ad.add 0).add 0 = ad := by simp [Addr.add]
        rw [this] at hc00; exact hc00
      refine ⟨ad.block, ad.off, by rw [← ha], fun j u hu => ?_⟩
      have hj : j < (l.flatMap cells).length := (List.getElem?_eq_some_iff.1 hu).1
      have hlen : (l.flatMap cells).length = l.length * k := flat_len cells k hcl l
      rw [hlen] at hj
      have hi : j / k < l.length := (Nat.div_lt_iff_lt_mul hk0).2 hj
      have hjk : j % k < k := Nat.mod_lt _ hk0
      have hdm : j / k * k + j % k = j := by rw [Nat.mul_comm]; exact Nat.div_add_mod j k
      obtain ⟨_, _, hce⟩ := World.cells?_some (h3 (j / k) l[j / k] (List.getElem?_eq_getElem hi))
      have := hce (j % k) hjk
      rw [addr_add_plain ad ha, Addr.add_mid, show ad.off + j / k * k + j % k = ad.off + j by omega] at this
      rw [this, ← flat_get cells k hcl l (j / k) _ (List.getElem?_eq_getElem hi) (j % k) hjk, hdm]
      exact hu
    · have := hw (m * Tryz.prog.bytesOf e) (by
        rw [hd]
        simp only [DataW.weights, ht, List.length_map, List.length_range]
        refine List.mem_cons.2 (.inl ?_)
        rw [show l.length + (m - l.length) = m from by omega])
      rw [reach_num] at this
      exact Nat.le_trans hl (Nat.le_trans (Nat.le_mul_of_pos_right m hb1) this)
end

/-- an act -/
structure ActD where
  kind : Nat
  num : Int
  of_ : Int
  data : Inner
  keep : Lies Bool
def ActD.cells (a : ActD) : List Value := [.int .u8 (a.kind : Int), .int .i64 a.num, .int .i64 a.of_, a.data.val, a.keep.val]
structure ActD.Ok (W : World) (a : ActD) : Prop where
  kind : a.kind < 256
  num : -9223372036854775808 ≤ a.num ∧ a.num ≤ 9223372036854775807
  of_ : -9223372036854775808 ≤ a.of_ ∧ a.of_ ≤ 9223372036854775807
  data : a.data.Ok W
  keep : BoolsOk W a.keep
theorem ActD.Ok.below {w w' : World} {a : ActD} (h : a.Ok w) (hb : Below w.heap.size w w') : a.Ok w' := ⟨h.kind, h.num, h.of_, h.data.below hb, h.keep.below hb⟩
/-- acts that lie in memory -/
structure Acts where
  A : Option Addr
  l : List ActD
  c : Nat
def Acts.val (s : Acts) : Value := .slice s.A s.l.length s.c
structure Acts.Ok (W : World) (s : Acts) : Prop where
  lies : At W s.A (s.l.flatMap ActD.cells)
  all : ∀ a ∈ s.l, a.Ok W
  nil : s.A = none → s.c = 0
  le : s.l.length ≤ s.c
  small : s.l.length ≤ 140737488351232
theorem act_cell {w : World} {A : Option Addr} {l : List ActD} (h : At w A (l.flatMap ActD.cells)) (i : Nat) (a : ActD) (ha : l[i]? = some a) : ∃ b o, A = some ⟨b, o, none⟩ ∧ ∀ j, j < 5 → w.cell? ⟨b, o + i * 5 + j, none⟩ = a.cells[j]? := by
  have hg := flat_get ActD.cells 5 (fun _ => rfl) l i a ha
  obtain ⟨b, o, e, hr⟩ := h (by
    intro e
    have := hg 0 (by omega)
    rw [e] at this; simp [ActD.cells] at this)
  refine ⟨b, o, e, fun j hj => ?_⟩
  have h5 : a.cells[j]? = some (a.cells[j]'hj) := List.getElem?_eq_getElem (show j < a.cells.length from hj)
  rw [Nat.add_assoc, h5]
  exact hr _ _ (by rw [hg j hj]; exact h5)
section
variable {H : Type} {enc : TypeId × Value → H} {W : World} {r : Reach} {b0 : Nat} {v : Value} {d : DataW H} {p : List MemPlace}
theorem Tryz.cells5' : Tryz.prog.cellsOf 5 = 1 := by kernel_rfl
theorem Tryz.cells3' : Tryz.prog.cellsOf 3 = 1 := by kernel_rfl
theorem Tryz.cells22' : Tryz.prog.cellsOf 22 = 1 := by kernel_rfl
theorem Tryz.cells68' : Tryz.prog.cellsOf 68 = 1 := by kernel_rfl
set_option maxRecDepth 100000 in
theorem lies_of {α : Type} {t e : TypeId} (f : α → Value) (q : α → Prop) (ht : Tryz.prog.underlying t = some (.slice e)) (hc : Tryz.prog.cellsOf e = 1) (hb1 : 1 ≤ Tryz.prog.bytesOf e)
    (hR : ∀ n v (d : DataW H) pl, DataW.trod enc Tryz.prog W 0 (fun _ => true) true n e [v] = some (d, pl) → ∃ a, v = f a ∧ q a)
    {n : Nat} (h : DataW.trod enc Tryz.prog W 0 (fun _ => true) true n t [v] = some (d, p)) (hw : ∀ x ∈ d.weights Tryz.prog t, x ≤ reachBytes) :
    ∃ s : Lies α, v = s.val ∧ s.Ok f q W := by
  have hsl : v.cells.toList = [v] := by
    rcases DataW.trod_slice ht h with ⟨hcs, _⟩ | ⟨a, len, cap, elems, rest, n', _, hcs, _⟩
    · injection hcs with h1; rw [h1]; rfl
    · injection hcs with h1; rw [h1]; rfl
  obtain ⟨A, c, vs, hvs, hA, hR', hn, hl, hb⟩ := open_one ht hc ⟨n, by rw [hsl]; exact h⟩ hsl hw (fun v => ∃ a, v = f a ∧ q a) (fun n v d pl h _ => hR n v d pl h)
  obtain ⟨l, rfl, hq⟩ := map_all vs hR'
  subst hvs
  rw [List.length_map] at hl
  refine ⟨⟨A, l, c⟩, by simp [Lies.val], hA, hn, hl, ?_, hq⟩
  have := Nat.le_trans (Nat.le_mul_of_pos_right c hb1) hb
  rw [reach_num] at this
  exact Nat.le_trans hl this
set_option maxRecDepth 100000 in
theorem bools_of {n : Nat} (h : DataW.trod enc Tryz.prog W 0 (fun _ => true) true n 68 [v] = some (d, p)) (hw : ∀ x ∈ d.weights Tryz.prog 68, x ≤ reachBytes) : ∃ s : Lies Bool, v = s.val ∧ BoolsOk W s := by
  refine lies_of Value.bool (fun _ => True) Tryz.underlying68 Tryz.cells4' (by rw [Tryz.bytes4']; omega) ?_ h hw
  intro n u y pl hu
  obtain ⟨b, h1, h2⟩ := DataW.trod_bool Tryz.underlying4 hu
  exact ⟨b, by simpa using h1, trivial⟩
set_option maxRecDepth 100000 in
theorem i64_of {n : Nat} (h : DataW.trod enc Tryz.prog W 0 (fun _ => true) true n 3 [v] = some (d, p)) : ∃ x : Int, v = .int .i64 x ∧ -9223372036854775808 ≤ x ∧ x ≤ 9223372036854775807 := by
  obtain ⟨a, h1, _, w⟩ := DataW.trod_int Tryz.underlying3 h
  injection h1 with h1
  exact ⟨a, h1, wf_i64 w⟩
set_option maxRecDepth 100000 in
theorem u8_of {n : Nat} (h : DataW.trod enc Tryz.prog W 0 (fun _ => true) true n 5 [v] = some (d, p)) : ∃ x : Nat, v = .int .u8 (x : Int) ∧ x < 256 := by
  obtain ⟨a, h1, _, w⟩ := DataW.trod_int Tryz.underlying5 h
  injection h1 with h1
  obtain ⟨l1, l2⟩ := wf_u8 w
  obtain ⟨m, rfl⟩ := Int.eq_ofNat_of_zero_le l1
  exact ⟨m, h1, by omega⟩
end
end Go.Proofs.YtfbjjblgcgjndaaGreat

/- Openings of arguments: the acts of the pool laws; much of them. -/
namespace Go.Proofs.YtfbjjblgcgjndaaGreat
open Go.ChangeShapes Go.WideShapes Go.ChangeAt Go.RowKit Go.Deep

/-- an act of the pool laws -/
structure PActD where
  kind : Nat
  num : Nat
  of_ : Nat
  n : Int
  data : Inner
  keep : Lies Bool
def PActD.cells (a : PActD) : List Value := [.int .u8 (a.kind : Int), .int .u32 (a.num : Int), .int .u8 (a.of_ : Int), .int .i64 a.n, a.data.val, a.keep.val]
structure PActD.Ok (W : World) (a : PActD) : Prop where
  kind : a.kind < 256
  num : a.num < 4294967296
  of_ : a.of_ < 256
  n : -9223372036854775808 ≤ a.n ∧ a.n ≤ 9223372036854775807
  data : a.data.Ok W
  keep : BoolsOk W a.keep
theorem PActD.Ok.below {w w' : World} {a : PActD} (h : a.Ok w) (hb : Below w.heap.size w w') : a.Ok w' := ⟨h.kind, h.num, h.of_, h.n, h.data.below hb, h.keep.below hb⟩
structure PActs where
  A : Option Addr
  l : List PActD
  c : Nat
def PActs.val (s : PActs) : Value := .slice s.A s.l.length s.c
structure PActs.Ok (W : World) (s : PActs) : Prop where
  lies : At W s.A (s.l.flatMap PActD.cells)
  all : ∀ a ∈ s.l, a.Ok W
  nil : s.A = none → s.c = 0
  le : s.l.length ≤ s.c
  small : s.l.length ≤ 140737488351232
theorem PActs.Ok.below {w w' : World} {s : PActs} (h : s.Ok w) (hb : Below w.heap.size w w') : s.Ok w' := ⟨h.lies.below hb, fun a ha => (h.all a ha).below hb, h.nil, h.le, h.small⟩
theorem pact_cell {w : World} {A : Option Addr} {l : List PActD} (h : At w A (l.flatMap PActD.cells)) (i : Nat) (a : PActD) (ha : l[i]? = some a) : ∃ b o, A = some ⟨b, o, none⟩ ∧ ∀ j, j < 6 → w.cell? ⟨b, o + i * 6 + j, none⟩ = a.cells[j]? := by
  have hg := flat_get PActD.cells 6 (fun _ => rfl) l i a ha
  obtain ⟨b, o, e, hr⟩ := h (by
    intro e
    have := hg 0 (by omega)
    rw [e] at this; simp [PActD.cells] at this)
  refine ⟨b, o, e, fun j hj => ?_⟩
  have h5 : a.cells[j]? = some (a.cells[j]'hj) := List.getElem?_eq_getElem (show j < a.cells.length from hj)
  rw [Nat.add_assoc, h5]
  exact hr _ _ (by rw [hg j hj]; exact h5)
section
variable {H : Type} {enc : TypeId × Value → H} {W : World} {r : Reach} {b0 : Nat} {v : Value} {d : DataW H} {p : List MemPlace}
theorem Tryz.cells70 : Tryz.prog.cellsOf 70 = 6 := by kernel_rfl
theorem Tryz.bytes70 : 1 ≤ Tryz.prog.bytesOf 70 := of_decide_eq_true (by kernel_rfl)
set_option maxRecDepth 100000 in
theorem u32_of {n : Nat} (h : DataW.trod enc Tryz.prog W 0 (fun _ => true) true n 67 [v] = some (d, p)) : ∃ x : Nat, v = .int .u32 (x : Int) ∧ x < 4294967296 := by
  obtain ⟨a, h1, _, w⟩ := DataW.trod_int Tryz.underlying67 h
  injection h1 with h1
  obtain ⟨l1, l2⟩ := wf_u32 w
  obtain ⟨m, rfl⟩ := Int.eq_ofNat_of_zero_le l1
  exact ⟨m, h1, by omega⟩
set_option maxRecDepth 100000 in
theorem pact_of {n : Nat} {cs : List Value} (h : DataW.trod enc Tryz.prog W 0 (fun _ => true) true n 70 cs = some (d, p)) (hw : ∀ x ∈ d.weights Tryz.prog 70, x ≤ reachBytes) : ∃ a : PActD, cs = a.cells ∧ a.Ok W := by
  obtain ⟨xs, n', _, hx, hlen, hsz, hg⟩ := DataW.trod_struct Tryz.underlying70 h
  rw [Tryz.cells70] at hlen
  match cs, hlen with
  | [c0, c1, c2, c3, c4, c5], _ =>
    match xs, hsz with
    | [y0, y1, y2, y3, y4, y5], _ =>
      have g0 := hg 0 _ rfl
      have g1 := hg 1 _ rfl
      have g2 := hg 2 _ rfl
      have g3 := hg 3 _ rfl
      have g4 := hg 4 _ rfl
      have g5 := hg 5 _ rfl
      simp only [Tryz.cells5', Tryz.cells67', Tryz.cells3', Tryz.cells22', Tryz.cells68', List.drop_succ_cons, List.drop_zero, List.take_succ_cons, List.take_zero, List.getElem?_cons_zero, List.getElem?_cons_succ] at g0 g1 g2 g3 g4 g5
      injection hx with hd _
      have hww : ∀ t (y : DataW H), (t, y) ∈ [(5, y0.1), (67, y1.1), (5, y2.1), (3, y3.1), (22, y4.1), (68, y5.1)] → ∀ x ∈ y.weights Tryz.prog t, x ≤ reachBytes := by
        intro t y hy x hx
        refine hw x ?_
        rw [hd]
        simp only [DataW.weights, Tryz.underlying70, List.map_cons, List.map_nil, DataW.weightsEach, List.mem_append]
        simp only [List.mem_cons, Prod.mk.injEq, List.not_mem_nil, or_false] at hy
        rcases hy with ⟨rfl, rfl⟩ | ⟨rfl, rfl⟩ | ⟨rfl, rfl⟩ | ⟨rfl, rfl⟩ | ⟨rfl, rfl⟩ | ⟨rfl, rfl⟩ <;> simp [hx]
      obtain ⟨x0, rfl, b0⟩ := u8_of g0
      obtain ⟨x1, rfl, b1⟩ := u32_of g1
      obtain ⟨x2, rfl, b2⟩ := u8_of g2
      obtain ⟨x3, rfl, b3⟩ := i64_of g3
      obtain ⟨x4, rfl, b4⟩ := open_inner g4 (hww 22 y4.1 (by simp))
      obtain ⟨x5, rfl, b5⟩ := bools_of g5 (hww 68 y5.1 (by simp))
      exact ⟨⟨x0, x1, x2, x3, x4, x5⟩, rfl, b0, b1, b2, b3, b4, b5⟩
set_option maxRecDepth 100000 in
theorem open_pacts {r : Reach} {b0 : Nat} (hv : Value.okWide Tryz.prog W r b0 23 v) (h : DataW.Trod enc Tryz.prog W 0 (fun _ => true) true 23 v d p) (hw : ∀ x ∈ d.weights Tryz.prog 23, x ≤ reachBytes) : ∃ s : PActs, v = s.val ∧ s.Ok W := by
  obtain ⟨A, l, c, rfl, h1, h2, h3, h4, h5⟩ := open_many (k := 6) PActD.cells (PActD.Ok W) Tryz.underlying23 Tryz.cells70 (by omega) Tryz.bytes70 (fun _ => rfl) (fun n cs d pl h hw => pact_of h hw) hv h hw
  exact ⟨⟨A, l, c⟩, rfl, h1, h2, h3, h4, h5⟩
end
/-- where the acts are not many -/
def PSmall (l : List PActD) : Prop := l.length ≤ 200 ∧ ∀ a ∈ l, a.data.l.length ≤ 200000
def PMuch (l : List PActD) (w : World) (e : Ending) (w' : World) : Prop := ∃ b, e = .returned (.bool b) ∧ (b = false → PSmall l) ∧ Below w.heap.size w w'
def PSum (l : List PActD) (k m : Nat) : Prop := ∀ i a, i < k → l[i]? = some a → a.data.l.length ≤ m
theorem PSum.zero (l : List PActD) (m : Nat) : PSum l 0 m := fun i a hi => by omega
theorem PSum.succ {l : List PActD} {k m m' x : Nat} {a : PActD} (h : PSum l k m) (ha : l[k]? = some a) (hx : x = a.data.l.length) (h1 : m ≤ m') (h2 : x ≤ m') : PSum l (k + 1) m' := fun i a' hi ha' => by
  by_cases e : i = k
  · subst e
    rw [ha] at ha'
    cases ha'
    omega
  · have := h i a' (by omega) ha'
    omega
theorem PSum.all {l : List PActD} {m : Nat} (h : PSum l l.length m) (hm : m ≤ 200000) : ∀ a ∈ l, a.data.l.length ≤ 200000 := fun a ha => by
  obtain ⟨i, hi, e⟩ := List.getElem_of_mem ha
  have := h i a hi (by rw [List.getElem?_eq_getElem hi, e])
  omega
theorem pact_mem {l : List PActD} {k : Nat} (h : k < l.length) : ∃ a, l[k]? = some a ∧ a ∈ l := ⟨l[k], List.getElem?_eq_getElem h, List.getElem_mem _⟩
set_option maxRecDepth 100000 in
set_option maxHeartbeats 1000000 in
theorem much10_any (s : PActs) (w : World) (hs : s.Ok w) : Calls Tryz.prog 5 #[.slice s.A s.l.length s.c] w (PMuch s.l w) := by
  obtain ⟨A, l, c⟩ := s
  have hsm := hs.small
  simp only at hsm ⊢
  have HAT := Lib.hid hs.lies
  have HAL := Lib.hid hs.all
  clear hs
  go_enter Tryz.func5, Tryz.ntmps5
  go_wp2_with fail
  go_loopw [3, 4] (fun n i wr => ∃ k : Nat, k ≤ l.length ∧ i = .int .i64 k ∧ (∃ m : Nat, n = .int .i64 (m : Int) ∧ m ≤ 1000000000000000 ∧ PSum l k m) ∧ Below w.heap.size w wr) (fun _ i _ => l.length - (intOf i).toNat)
  case atStart => exact ⟨0, by omega, rfl, ⟨l.length, rfl, by omega, PSum.zero l _⟩, Below.refl _ _⟩
  case round =>
    obtain ⟨k, hk, rfl, ⟨m, rfl, hm, hso⟩, hb⟩ := hrel
    by_cases hlt : k < l.length ∧ m ≤ 200000
    · obtain ⟨h1, h2⟩ := hlt
      obtain ⟨a, ha, hmem⟩ := pact_mem h1
      have hok := HAL.out a hmem
      obtain ⟨b, o, rfl, hcell⟩ := pact_cell (HAT.out.below hb) k a ha
      have c4 : wr.cell? ⟨b, o + k * 6 + 4, none⟩ = some (.slice a.data.A a.data.l.length a.data.c) := hcell 4 (by omega)
      have c5 : wr.cell? ⟨b, o + k * 6 + 5, none⟩ = some (.slice a.keep.A a.keep.l.length a.keep.c) := hcell 5 (by omega)
      have d1 := hok.data.small
      have d2 := hok.keep.small
      obtain ⟨x, hx⟩ : ∃ x, x = a.data.l.length := ⟨_, rfl⟩
      obtain ⟨y, hy⟩ : ∃ y, y = a.keep.l.length := ⟨_, rfl⟩
      have HSO := Lib.hid (fun (m' : Nat) (h1 : m ≤ m') (h2 : x ≤ m') => hso.succ ha hx h1 h2)
      clear hso
      rw [← hx] at c4 d1
      rw [← hy] at c5 d2
      have h3 : (k : Int) < (l.length : Int) := by omega
      have h4 : (m : Int) ≤ 200000 := by omega
      have e1 : IntKind.i64.wrap ((x : Int) + (y : Int)) = (x : Int) + (y : Int) := by rw [IntKind.wrap_i64]; omega
      have e3 : IntKind.i64.wrap ((m : Int) + ((x : Int) + (y : Int))) = (m : Int) + ((x : Int) + (y : Int)) := by rw [IntKind.wrap_i64]; omega
      have HB := Lib.hid hb
      clear hb hcell hok ha hmem hx hy
      go_wp2_with fail
      go_quiet (fail)
      go_wp2_with fail
      case roundEnd => exact ⟨⟨k + 1, by omega, by go_num, ⟨m + (x + y), by push_cast; rfl, by omega, HSO.out _ (by omega) (by omega)⟩, below_drewN HB.out _⟩, by simp only [intOf]; omega⟩
    · have hfin : ¬ (200000 < m) → ∀ a ∈ l, a.data.l.length ≤ 200000 := fun h => by
        obtain rfl : k = l.length := by omega
        exact hso.all (by omega)
      have HF := Lib.hid hfin
      clear hfin hso
      by_cases hm2 : m ≤ 200000
      · have h6 : ¬ (200000 : Int) < (m : Int) := by omega
        have h7 : (m : Int) ≤ 200000 := by omega
        have h8 : ¬ (k : Int) < (l.length : Int) := by omega
        go_wp2_with fail
        go_ret
        exact ⟨_, rfl, fun h => ⟨by have := of_decide_eq_false h; omega, HF.out (by omega)⟩, hb⟩
      · have h6 : (200000 : Int) < (m : Int) := by omega
        have h7 : ¬ (m : Int) ≤ 200000 := by omega
        go_wp2_with fail
        all_goals
          go_ret
          exact ⟨_, rfl, fun h => (by cases h), hb⟩
end Go.Proofs.YtfbjjblgcgjndaaGreat

/- Contracts of the small helpers on lists of bools: SameBools, LentBools, WholeBools, SpoilBools. -/
namespace Go.Proofs.YtfbjjblgcgjndaaGreat
open Go.RowKit

theorem Tryz.info4 : (Tryz.prog.info? 4).map (fun i => (i.zero, i.size, i.bytes)) = some (some (.bool false), 1, 1) := by kernel_rfl
/-- bools as cells -/
def bs (l : List Bool) : List Value := l.map Value.bool
theorem bs_append (l m : List Bool) : bs (l ++ m) = bs l ++ bs m := by simp [bs]
theorem bs_one (l : List Bool) : ∀ v ∈ bs l, v.oneCell' = true := by
  intro v hv
  simp [bs] at hv
  rcases hv with ⟨_, rfl⟩ | ⟨_, rfl⟩ <;> rfl
theorem At.bool {w : World} {A : Option Addr} {l : List Bool} (h : At w A (bs l)) (i : Nat) (hi : i < l.length) : ∃ b o, A = some ⟨b, o, none⟩ ∧ w.cell? ⟨b, o + i, none⟩ = some (.bool (l.getD i false)) := by
  obtain ⟨b, o, e, hr⟩ := h (by intro hn; have := congrArg List.length hn; simp [bs] at this; subst this; simp at hi)
  exact ⟨b, o, e, hr i _ (by simp [bs, List.getD_eq_getElem?_getD, List.getElem?_eq_getElem hi])⟩
theorem bool_ext {l m : List Bool} (h : l.length = m.length) (hk : ∀ i, i < l.length → l.getD i false = m.getD i false) : l = m := by
  apply List.ext_getElem h
  intro i h1 h2
  have := hk i h1
  simpa [List.getD_eq_getElem?_getD, List.getElem?_eq_getElem h1, List.getElem?_eq_getElem h2] using this
/-- all places below k are the same -/
def AgreeB (l m : List Bool) (k : Nat) : Prop := ∀ i, i < k → l.getD i false = m.getD i false
theorem AgreeB.zero (l m : List Bool) : AgreeB l m 0 := fun i hi => by omega
theorem AgreeB.succ {l m : List Bool} {k : Nat} (h : AgreeB l m k) (e : l.getD k false = m.getD k false) : AgreeB l m (k + 1) := fun i hi => by
  by_cases h1 : i = k
  · subst h1; exact e
  · exact h i (by omega)

/-- the block of a lent list: it, and two marks behind -/
def LentBo (w : World) (b : Nat) (l : List Bool) : Prop := w.heap[b]? = some (.cells (bs (l ++ [true, false])).toArray 4 (0, 0))
theorem LentBo.below {w w' : World} {b : Nat} {l : List Bool} (h : LentBo w b l) (hb : Below w.heap.size w w') : LentBo w' b l := by
  have : b < w.heap.size := (Array.getElem?_eq_some_iff.1 h).1
  unfold LentBo; rw [hb.block b this]; exact h
theorem LentBo.at {w : World} {b : Nat} {l : List Bool} (h : LentBo w b l) : At w (some ⟨b, 0, none⟩) (bs l) := by
  have h1 : At w (some ⟨b, 0, none⟩) (bs l ++ bs [true, false]) := by rw [← bs_append]; exact At.whole h
  exact h1.pre

end Go.Proofs.YtfbjjblgcgjndaaGreat

/- The law's round: what it keeps; boxes of acts. -/
namespace Go.Proofs.YtfbjjblgcgjndaaGreat
open Go.RowKit Go.Maps

theorem BookOk.more {n0 : Nat} {w : World} {b K K' : Nat} {S R : Nat → Prop} (h : BookOk n0 w b K S R) (hK : K ≤ K') : BookOk n0 w b K' S R := by
  obtain ⟨F, k, u, n, c, h1, h2, h3, h4, h5, h6⟩ := h
  exact ⟨F, k, u, n, c, h1, h2, fun j => Nat.le_trans (h3 j) hK, h4, h5, h6⟩
theorem LentB.step {n0 : Nat} {X : Nat → Prop} {w w' : World} {b : Nat} {l : List Nat} (h : LentB w b l) (hs : Step n0 X w w') (hb : X b) : LentB w' b l := by
  have : b < w.heap.size := (Array.getElem?_eq_some_iff.1 h).1
  unfold LentB; rw [hs.1.block b this (fun e => e hb)]; exact h
def bcell (a : PActD) : Nat → Value
  | 0 => .int .u8 (a.kind : Int)
  | 1 => .int .u32 (a.num : Int)
  | 2 => .int .u8 (a.of_ : Int)
  | 3 => .int .i64 a.n
  | 4 => .slice a.data.A a.data.l.length a.data.c
  | _ => .slice a.keep.A a.keep.l.length a.keep.c
def PActAt (w : World) (q : Nat) (a : PActD) : Prop := RecAt w q 70 6 (bcell a)
theorem PActAt.below {w w' : World} {q : Nat} {a : PActD} (h : PActAt w q a) (hb : Below w.heap.size w w') : PActAt w' q a := RecAt.keep (G := fun _ => False) h (.of_below hb) (fun e => e)
theorem PActAt.step {n0 : Nat} {X : Nat → Prop} {w w' : World} {q : Nat} {a : PActD} (h : PActAt w q a) (hs : Step n0 X w w') (hq : X q) : PActAt w' q a := RecAt.keep h hs.1 (fun e => e hq)
theorem pact_box (w : World) (a : PActD) (w1 : World) (hw : w1 = w.alloc (.cells #[.int .u8 (a.kind : Int), .int .u32 (a.num : Int), .int .u8 (a.of_ : Int), .int .i64 a.n, .slice a.data.A a.data.l.length a.data.c, .slice a.keep.A a.keep.l.length a.keep.c] 70)) :
    PActAt w1 w.heap.size a ∧ Below w.heap.size w w1 ∧ w1.heap.size = w.heap.size + 1 := by
  refine ⟨RecAt.of (by rw [hw]; exact heap_alloc_new w _) (by simp [lst, bcell, List.range_succ]), by rw [hw]; exact below_alloc0 (Below.refl _ _) _, by rw [hw]; simp⟩
theorem plRead_len {most : Nat} {D : Dsk} {L : List Hand} (h : ∀ x, x ∈ L → x.pay.length ≤ 1008) (n : Nat) : (plRead most D L n).pay.length ≤ 1008 := by
  unfold plRead
  split
  · simp
  · split
    · rename_i x hx
      exact h x (find_mem hx).1
    · split
      · simp
      · split
        · exact openPay_length _ _
        · simp
section
variable {n0 : Nat} {w w' : World} {P d q r b most : Nat} {D : Dsk} {L : List Hand} {E : Dsk} {M : List Hand} {c K k : Nat} {Z X : Nat → Prop}
theorem QuadX.moreK (h : QuadX n0 w P d q r b most D L E M c K Z X) {K' : Nat} (hK : K ≤ K') : QuadX n0 w P d q r b most D L E M c K' Z X := by
  obtain ⟨B, h⟩ := h
  exact ⟨B, h.pool, h.ref, h.book.more hK, h.blt, h.sep⟩
theorem QuadX.hands (h : QuadX n0 w P d q r b most D L E M c K Z X) : ∀ x, x ∈ M → x.pay.length ≤ 1008 := by
  obtain ⟨hq, _⟩ := h.ref
  obtain ⟨Q, hp, _⟩ := hq.pool
  obtain ⟨⟨M0, Lv, A, cap, Y, h1, rfl, h3⟩, _⟩ := hp
  intro x hx
  obtain ⟨p, hp, rfl⟩ := List.mem_map.1 hx
  exact (h1.ok p hp).len
end
theorem quad_made2 {n0 : Nat} {w w6 : World} {P d r m : Nat} {D E : Dsk} {Sr : Nat → Prop} (hp : PoolX n0 w P d m D [] 0 Sr) (hr : RD n0 w r E Sr) (hw : w6 = w.alloc (.cells (qcells r m) 92)) :
    (∃ Z, QuadX n0 (w6.alloc (.cells bookCells 66)) P d w.heap.size r w6.heap.size m D [] E [] 0 0 Z (fun _ => False)) ∧ Below w.heap.size w (w6.alloc (.cells bookCells 66)) := by
  subst hw
  have := quad_made (d := d) hp hr _ rfl
  simpa only [sz_alloc] using this
/-- behind j acts -/
def DoesAt (n0 : Nat) (w : World) (P d q r b most N j : Nat) (wr : World) : Prop := ∃ D L Z, Fit N most j D L ∧ QuadX n0 wr P d q r b most D L D L j j Z (fun _ => False) ∧ Below n0 w wr
theorem DoesAt.of {n0 : Nat} {w : World} {P d q r b most N j c K : Nat} {D : Dsk} {L : List Hand} {Z X : Nat → Prop} {wr : World} (hf : Fit N most j D L) (h : QuadX n0 wr P d q r b most D L D L c K Z X) (hc : c ≤ j) (hK : K ≤ j) (hb : Below n0 w wr) : DoesAt n0 w P d q r b most N j wr :=
  ⟨D, L, Z, hf, ((h.less (fun g h => h.elim)).moreC hc).moreK hK, hb⟩
end Go.Proofs.YtfbjjblgcgjndaaGreat
