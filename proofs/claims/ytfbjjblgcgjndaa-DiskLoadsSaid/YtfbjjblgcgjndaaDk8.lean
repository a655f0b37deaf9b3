/- Joined texts: Pair, Open, Open2, OpenA, Open4, Open5, LentBo, Pair2, Does0, Does1, Does1b, Does2. -/
import Derived.ProofKit
import Derived.OpenShut
import Derived.ShutString
import Derived.ChangeOld
import Derived.Test.YtfbjjblgcgjndaaRows
import Derived.SizedLaws
import Derived.Deep.Slices
import Derived.StillTailTactics
import Derived.Test.YtfbjjblgcgjndaaDk1
import Derived.Test.YtfbjjblgcgjndaaDk2
import Derived.Test.YtfbjjblgcgjndaaDk5
import Derived.Test.YtfbjjblgcgjndaaDk7
set_option linter.unusedVariables false
set_option linter.unusedSimpArgs false

/- A disk, the reference's beside it, and the book: what a step on one of them leaves of all. -/
namespace Go.Proofs.Ytfbjjblgcgjndaa
open Go.RowKit

def pcell (d r b : Nat) : Nat → Value
  | 0 => .pointer (some ⟨d, 0, none⟩)
  | 1 => .pointer (some ⟨r, 0, none⟩)
  | _ => .pointer (some ⟨b, 0, none⟩)
structure PairOk (n0 : Nat) (w : World) (pp d r b : Nat) (D E : Dsk) (K : Nat) (Sd Sr B : Nat → Prop) : Prop where
  rcd : RecAt w pp 103 3 (pcell d r b)
  base : n0 ≤ pp
  disk : DG n0 w d D Sd
  ref : RD n0 w r E Sr
  book : BookOk n0 w b K B B
  blt : ∀ g, B g → n0 ≤ g ∧ g < w.heap.size
  sep : ¬ Sd pp ∧ ¬ Sr pp ∧ ¬ B pp ∧ (∀ g, Sd g → ¬ Sr g ∧ ¬ B g) ∧ ∀ g, Sr g → ¬ B g
/-- the pair, and blocks X aside of it -/
def PairX (n0 : Nat) (w : World) (pp d r b : Nat) (D E : Dsk) (K : Nat) (X : Nat → Prop) : Prop :=
  ∃ Sd Sr B, PairOk n0 w pp d r b D E K Sd Sr B ∧ ∀ g, X g → g < w.heap.size ∧ g ≠ pp ∧ ¬ Sd g ∧ ¬ Sr g ∧ ¬ B g
/-- a step that leaves X -/
def Step (n0 : Nat) (X : Nat → Prop) (w w' : World) : Prop := Chg (fun g => ¬ X g) w w' ∧ Below n0 w w'
theorem Step.trans {n0 : Nat} {X Y : Nat → Prop} {w w1 w2 : World} (h : Step n0 X w w1) (k : Step n0 Y w1 w2) (hY : ∀ g, X g → Y g) : Step n0 X w w2 :=
  ⟨h.1.trans k.1 (fun g _ hg e => hg (hY g e)), h.2.trans k.2⟩
theorem Step.of_below {n0 : Nat} {X : Nat → Prop} {w w' : World} (h : Below w.heap.size w w') (hn : n0 ≤ w.heap.size) : Step n0 X w w' :=
  ⟨.of_below h, ⟨h.os, h.tape, h.output, h.size, fun i hi => h.block i (Nat.lt_of_lt_of_le hi hn)⟩⟩
section
variable {n0 : Nat} {w w' : World} {pp d r b : Nat} {D E : Dsk} {K : Nat} {X : Nat → Prop}
theorem PairX.n_le (h : PairX n0 w pp d r b D E K X) : n0 ≤ w.heap.size := by
  obtain ⟨Sd, Sr, B, h, _⟩ := h
  have := h.rcd.lt; have := h.base; omega
theorem PairX.cells (h : PairX n0 w pp d r b D E K X) : w.cell? ⟨pp, 0, none⟩ = some (.pointer (some ⟨d, 0, none⟩)) ∧ w.cell? ⟨pp, 1, none⟩ = some (.pointer (some ⟨r, 0, none⟩)) ∧ w.cell? ⟨pp, 2, none⟩ = some (.pointer (some ⟨b, 0, none⟩)) := by
  obtain ⟨Sd, Sr, B, h, _⟩ := h
  exact ⟨h.rcd.cell 0 (by omega), h.rcd.cell 1 (by omega), h.rcd.cell 2 (by omega)⟩
theorem PairX.less (h : PairX n0 w pp d r b D E K X) {X' : Nat → Prop} (hX : ∀ g, X' g → X g) : PairX n0 w pp d r b D E K X' := by
  obtain ⟨Sd, Sr, B, h, hx⟩ := h
  exact ⟨Sd, Sr, B, h, fun g hg => hx g (hX g hg)⟩
theorem PairX.keep (h : PairX n0 w pp d r b D E K X) {G : Nat → Prop} (hc : Chg G w w') (hG : ∀ g, g < w.heap.size → G g → X g) : PairX n0 w' pp d r b D E K X := by
  obtain ⟨Sd, Sr, B, h, hx⟩ := h
  have hc' : Chg (fun g => G g ∧ g < w.heap.size) w w' := ⟨hc.os, hc.tape, hc.output, hc.size, fun k hk hF => hc.block k hk (fun e => hF ⟨e, hk⟩)⟩
  have hG' : ∀ g, G g ∧ g < w.heap.size → X g := fun g hg => hG g hg.2 hg.1
  refine ⟨Sd, Sr, B, ⟨h.rcd.keep hc' (fun e => (hx _ (hG' _ e)).2.1 rfl), h.base, h.disk.keep hc' (fun g hg e => (hx g (hG' g e)).2.2.1 hg), h.ref.keep hc' (fun g hg e => (hx g (hG' g e)).2.2.2.1 hg), h.book.keep hc' (fun g _ hg e => (hx g (hG' g e)).2.2.2.2 (hg.elim id id)), fun g hg => ⟨(h.blt g hg).1, Nat.lt_of_lt_of_le (h.blt g hg).2 hc.size⟩, h.sep⟩, fun g hg => ⟨Nat.lt_of_lt_of_le (hx g hg).1 hc.size, (hx g hg).2⟩⟩
theorem PairX.below (h : PairX n0 w pp d r b D E K X) (hb : Below w.heap.size w w') : PairX n0 w' pp d r b D E K X :=
  h.keep (G := fun _ => False) (.of_below hb) (fun _ _ h => h.elim)
/-- new blocks lie aside -/
theorem PairX.also (h : PairX n0 w pp d r b D E K X) (hb : Below w.heap.size w w') {Y : Nat → Prop} (hY : ∀ g, Y g → w.heap.size ≤ g ∧ g < w'.heap.size) : PairX n0 w' pp d r b D E K (fun g => X g ∨ Y g) := by
  obtain ⟨Sd, Sr, B, h1, hx⟩ := h
  refine ⟨Sd, Sr, B, ⟨h1.rcd.keep (G := fun _ => False) (.of_below hb) (fun h => h), h1.base, h1.disk.below hb, h1.ref.below hb, h1.book.below hb, fun g hg => ⟨(h1.blt g hg).1, Nat.lt_of_lt_of_le (h1.blt g hg).2 hb.size⟩, h1.sep⟩, fun g hg => ?_⟩
  rcases hg with hg | hg
  · exact ⟨Nat.lt_of_lt_of_le (hx g hg).1 hb.size, (hx g hg).2⟩
  · obtain ⟨a, c⟩ := hY g hg
    exact ⟨c, fun e => by have := h1.rcd.lt; omega, fun e => by have := h1.disk.top g e; omega, fun e => by have := h1.ref.top g e; omega, fun e => by have := (h1.blt g e).2; omega⟩
/-- the disk is worked on -/
theorem PairX.disk (h : PairX n0 w pp d r b D E K X) : ∃ S, DG n0 w d D S ∧ (∀ g, X g → ¬ S g) ∧ (∀ w' D', Now n0 w d S D' w' → PairX n0 w' pp d r b D' E K X ∧ Step n0 X w w') ∧
    ∀ w' D' (Y : Nat → Prop), DG n0 w' d D' S → Chg S w w' → (∀ g, Y g → w.heap.size ≤ g ∧ g < w'.heap.size) → PairX n0 w' pp d r b D' E K (fun g => X g ∨ Y g) ∧ Step n0 X w w' := by
  obtain ⟨Sd, Sr, B, h, hx⟩ := h
  obtain ⟨s1, s2, s3, s4, s5⟩ := h.sep
  have hn : n0 ≤ w.heap.size := h.disk.new_n
  have st : ∀ w', Chg Sd w w' → Step n0 X w w' := fun w' hc => ⟨hc.mono (fun g _ e hg => (hx g hg).2.2.1 e), hc.below hn (fun g hg => (h.disk.lt g hg).1)⟩
  have rest : ∀ w' D' S', DG n0 w' d D' S' → Grows w Sd S' → Chg Sd w w' → PairOk n0 w' pp d r b D' E K S' Sr B := fun w' D' S' hd hg hc => by
    have ap : ∀ g, g < w.heap.size → S' g → Sd g := fun g hl hs => (hg g hs).elim id (fun e => by omega)
    refine ⟨h.rcd.keep hc s1, h.base, hd, h.ref.keep hc (fun g hr e => (s4 g e).1 hr), h.book.keep hc (fun g _ hg' e => (s4 g e).2 (hg'.elim id id)), fun g hg' => ⟨(h.blt g hg').1, Nat.lt_of_lt_of_le (h.blt g hg').2 hc.size⟩, fun e => s1 (ap _ h.rcd.lt e), s2, s3, fun g hg' => ⟨fun e => (s4 g (ap g (h.ref.top g e) hg')).1 e, fun e => (s4 g (ap g (h.blt g e).2 hg')).2 e⟩, s5⟩
  refine ⟨Sd, h.disk, fun g hg => (hx g hg).2.2.1, fun w' D' hN => ?_, fun w' D' Y hd hc hY => ?_⟩
  · obtain ⟨S', hd, hg, hc⟩ := hN
    refine ⟨⟨S', Sr, B, rest w' D' S' hd hg hc, fun g hg' => ?_⟩, st w' hc⟩
    obtain ⟨a1, a2, a3, a4⟩ := hx g hg'
    exact ⟨Nat.lt_of_lt_of_le a1 hc.size, a2, fun e => (hg g e).elim a3 (fun e => by omega), a4⟩
  · refine ⟨⟨Sd, Sr, B, rest w' D' Sd hd (Grows.refl _ _) hc, fun g hg' => ?_⟩, st w' hc⟩
    rcases hg' with hg' | hg'
    · exact ⟨Nat.lt_of_lt_of_le (hx g hg').1 hc.size, (hx g hg').2⟩
    · obtain ⟨a, c⟩ := hY g hg'
      exact ⟨c, fun e => by have := h.rcd.lt; omega, fun e => by have := h.disk.top g e; omega, fun e => by have := h.ref.top g e; omega, fun e => by have := (h.blt g e).2; omega⟩
/-- the reference's disk is worked on -/
theorem PairX.ref (h : PairX n0 w pp d r b D E K X) : ∃ S, RD n0 w r E S ∧ (∀ g, X g → ¬ S g) ∧ (∀ g, S g → n0 ≤ g) ∧ (∀ w' E', RNow n0 w r S E' w' → PairX n0 w' pp d r b D E' K X ∧ Step n0 X w w') ∧
    ∀ w' E' (Y : Nat → Prop), RD n0 w' r E' S → Chg S w w' → (∀ g, Y g → w.heap.size ≤ g ∧ g < w'.heap.size) → PairX n0 w' pp d r b D E' K (fun g => X g ∨ Y g) ∧ Step n0 X w w' := by
  obtain ⟨Sd, Sr, B, h, hx⟩ := h
  obtain ⟨s1, s2, s3, s4, s5⟩ := h.sep
  have hn : n0 ≤ w.heap.size := h.disk.new_n
  have st : ∀ w', Chg Sr w w' → Step n0 X w w' := fun w' hc => ⟨hc.mono (fun g _ e hg => (hx g hg).2.2.2.1 e), hc.below hn (fun g hg => (h.ref.2.2 g hg).1)⟩
  have rest : ∀ w' E' S', RD n0 w' r E' S' → Grows w Sr S' → Chg Sr w w' → PairOk n0 w' pp d r b D E' K Sd S' B := fun w' E' S' hd hg hc => by
    have ap : ∀ g, g < w.heap.size → S' g → Sr g := fun g hl hs => (hg g hs).elim id (fun e => by omega)
    refine ⟨h.rcd.keep hc s2, h.base, h.disk.keep hc (fun g hr e => (s4 g hr).1 e), hd, h.book.keep hc (fun g _ hg' e => s5 g e (hg'.elim id id)), fun g hg' => ⟨(h.blt g hg').1, Nat.lt_of_lt_of_le (h.blt g hg').2 hc.size⟩, s1, fun e => s2 (ap _ h.rcd.lt e), s3, fun g hg' => ⟨fun e => (s4 g hg').1 (ap g (h.disk.top g hg') e), (s4 g hg').2⟩, fun g hg' e => s5 g (ap g (h.blt g e).2 hg') e⟩
  refine ⟨Sr, h.ref, fun g hg => (hx g hg).2.2.2.1, fun g hg => (h.ref.2.2 g hg).1, fun w' E' hN => ?_, fun w' E' Y hd hc hY => ?_⟩
  · obtain ⟨S', hd, hg, hc⟩ := hN
    refine ⟨⟨Sd, S', B, rest w' E' S' hd hg hc, fun g hg' => ?_⟩, st w' hc⟩
    obtain ⟨a1, a2, a3, a4, a5⟩ := hx g hg'
    exact ⟨Nat.lt_of_lt_of_le a1 hc.size, a2, a3, fun e => (hg g e).elim a4 (fun e => by omega), a5⟩
  · refine ⟨⟨Sd, Sr, B, rest w' E' Sr hd (Grows.refl _ _) hc, fun g hg' => ?_⟩, st w' hc⟩
    rcases hg' with hg' | hg'
    · exact ⟨Nat.lt_of_lt_of_le (hx g hg').1 hc.size, (hx g hg').2⟩
    · obtain ⟨a, c⟩ := hY g hg'
      exact ⟨c, fun e => by have := h.rcd.lt; omega, fun e => by have := h.disk.top g e; omega, fun e => by have := h.ref.top g e; omega, fun e => by have := (h.blt g e).2; omega⟩
/-- a list is put into the book -/
theorem PairX.put (h : PairX n0 w pp d r b D E K X) {fn : FuncId} (v : Value) (X0 : Nat → Prop) (hX0 : ∀ g, X0 g → X g ∧ ¬ blk v g) (hv : ∀ g, blk v g → n0 ≤ g ∧ X g)
    (hcall : ∀ B, BookOk n0 w b K B B → (∀ g, blk v g → ¬ (B g ∨ B g)) → n0 ≤ w.heap.size → Calls Try.prog fn #[.pointer (some ⟨b, 0, none⟩), v] w (BookPut n0 w b K B B v)) :
    Calls Try.prog fn #[.pointer (some ⟨b, 0, none⟩), v] w fun e w' => e = .returned (.tuple #[]) ∧ PairX n0 w' pp d r b D E (K + 1) X0 ∧ Step n0 X w w' := by
  obtain ⟨Sd, Sr, B, h, hx⟩ := h
  obtain ⟨s1, s2, s3, s4, s5⟩ := h.sep
  have hn : n0 ≤ w.heap.size := h.disk.new_n
  refine (hcall B h.book (fun g hg e => (hx g (hv g hg).2).2.2.2.2 (e.elim id id)) hn).mono ?_
  rintro e w' ⟨rfl, hb, hc, hbl⟩
  refine ⟨rfl, ?_, hc.mono (fun g _ e hg => (hx g hg).2.2.2.2 e), hbl⟩
  have hnew : ∀ g, g < w.heap.size → (More B w.heap.size w'.heap.size g ∨ Also B v g) → B g ∨ blk v g := fun g hl hg => by
    rcases hg with (hg | hg) | hg | hg
    · exact .inl hg
    · omega
    · exact .inl hg
    · exact .inr hg
  refine ⟨Sd, Sr, fun g => More B w.heap.size w'.heap.size g ∨ Also B v g, ⟨h.rcd.keep hc s3, h.base, h.disk.keep hc (fun g hg e => (s4 g hg).2 e), h.ref.keep hc (fun g hg e => s5 g hg e), hb.mono (fun g _ _ e => .inl e) (fun g _ _ e => .inr e), fun g hg => ?_, s1, s2, fun e => ?_, fun g hg => ⟨(s4 g hg).1, fun e => ?_⟩, fun g hg e => ?_⟩, fun g hg => ?_⟩
  · rcases hg with (hg | hg) | hg | hg
    · exact ⟨(h.blt g hg).1, Nat.lt_of_lt_of_le (h.blt g hg).2 hc.size⟩
    · exact ⟨by omega, hg.2⟩
    · exact ⟨(h.blt g hg).1, Nat.lt_of_lt_of_le (h.blt g hg).2 hc.size⟩
    · exact ⟨(hv g hg).1, Nat.lt_of_lt_of_le (hx g (hv g hg).2).1 hc.size⟩
  · rcases hnew _ h.rcd.lt e with e | e
    · exact s3 e
    · exact (hx _ (hv _ e).2).2.1 rfl
  · rcases hnew _ (h.disk.top g hg) e with e | e
    · exact (s4 g hg).2 e
    · exact (hx _ (hv _ e).2).2.2.1 hg
  · rcases hnew _ (h.ref.top g hg) e with e | e
    · exact s5 g hg e
    · exact (hx _ (hv _ e).2).2.2.2.1 hg
  · obtain ⟨a1, a2, a3, a4, a5⟩ := hx g (hX0 g hg).1
    refine ⟨Nat.lt_of_lt_of_le a1 hc.size, a2, a3, a4, fun e => ?_⟩
    rcases hnew g a1 e with e | e
    · exact a5 e
    · exact (hX0 g hg).2 e
end
/-- a clipped list as a row -/
theorem Clip.rw {n0 : Nat} {w : World} {A : Option Addr} {l : List Nat} (h : Clip n0 w A l) : Rw n0 5 w (.slice A l.length l.length) l.length (ns .u8 l) := by
  refine ⟨by simp [ns], ?_⟩
  rcases h with ⟨rfl, rfl⟩ | ⟨g, cur, rfl, h1, h2, h3, h4, h5⟩
  · exact .inl ⟨rfl, rfl⟩
  · exact .inr ⟨g, l.length, cur, rfl, h1, h2, Nat.le_refl _, by omega, h3, .inl rfl, h5⟩
end Go.Proofs.Ytfbjjblgcgjndaa

/- What a statement's arguments are, as the walks ask it. -/
namespace Go.Proofs.Ytfbjjblgcgjndaa
open Go.ChangeShapes Go.WideShapes Go.ChangeAt Go.RowKit

theorem Try.own : ownKnob Try.prog.godebug = none := by kernel_rfl
theorem Try.laidOut : laidOutB Try.prog = true := by kernel_rfl

/-- A slice of integers that came in: it is nil; or it leads to a row of 'cap' cells, the numbers 'zs', each fitting its kind. -/
def IsRow (k : IntKind) (w : World) (a : Option Addr) (len cap : Nat) (zs : List Int) : Prop :=
  (a = none ∧ len = 0 ∧ cap = 0 ∧ zs = []) ∨
  ∃ x, a = some x ∧ len ≤ cap ∧ cap ≤ maxLen ∧ zs.length = cap ∧ (∀ i, i < zs.length → w.cell? (x.add i) = some (.int k (zs.getD i 0))) ∧ ∀ n ∈ zs, (Lit.int k n).wf = true

theorem wf_u8 {n : Int} (h : (Lit.int .u8 n).wf = true) : 0 ≤ n ∧ n < 256 := by
  simp [Lit.wf, IntKind.min, IntKind.max, IntKind.bits, IntKind.signed] at h; omega
theorem wf_u16 {n : Int} (h : (Lit.int .u16 n).wf = true) : 0 ≤ n ∧ n < 65536 := by
  simp [Lit.wf, IntKind.min, IntKind.max, IntKind.bits, IntKind.signed] at h; omega
theorem wf_u32 {n : Int} (h : (Lit.int .u32 n).wf = true) : 0 ≤ n ∧ n < 4294967296 := by
  simp [Lit.wf, IntKind.min, IntKind.max, IntKind.bits, IntKind.signed] at h; omega
theorem wf_u64 {n : Int} (h : (Lit.int .u64 n).wf = true) : 0 ≤ n ∧ n < 18446744073709551616 := by
  simp [Lit.wf, IntKind.min, IntKind.max, IntKind.bits, IntKind.signed] at h; omega
theorem wf_i64 {n : Int} (h : (Lit.int .i64 n).wf = true) : -9223372036854775808 ≤ n ∧ n ≤ 9223372036854775807 := by
  simp [Lit.wf, IntKind.min, IntKind.max, IntKind.bits, IntKind.signed] at h; omega

theorem nat_of {n : Int} {k : IntKind} (h : 0 ≤ n) : Value.int k n = .int k ((n.toNat : Nat) : Int) := by rw [Int.toNat_of_nonneg h]

theorem row_nat (k : IntKind) (M : Nat) (hk : ∀ n, (Lit.int k n).wf = true → 0 ≤ n ∧ n < M) {w : World} {a : Option Addr} {len cap : Nat} {zs : List Int} (h : IsRow k w a len cap zs) :
    ∃ l : List Nat, l.length = len ∧ At w a (ns k l) ∧ (a = none → cap = 0) ∧ len ≤ cap ∧ cap ≤ maxLen ∧ ∀ c ∈ l, c < M := by
  rcases h with ⟨rfl, rfl, rfl, rfl⟩ | ⟨x, rfl, h1, h2, h3, h4, h5⟩
  · exact ⟨[], rfl, At.nil _ _, fun _ => rfl, Nat.le_refl _, Nat.zero_le _, fun c hc => by simp at hc⟩
  · refine ⟨(zs.take len).map Int.toNat, by simp; omega, ?_, fun e => (by cases e), h1, h2, ?_⟩
    · intro hn
      have h0 : 0 < len := by
        rcases Nat.eq_zero_or_pos len with h | h
        · subst h; simp [ns] at hn
        · exact h
      have hc0 := h4 0 (by omega)
      obtain ⟨b, o, sp⟩ := x
      have hsp : sp = none := by
        cases sp with
        | none => rfl
        | some s => simp [Addr.add, World.cell?] at hc0; split at hc0 <;> simp at hc0
      subst hsp
      refine ⟨b, o, rfl, fun j v hv => ?_⟩
      have hj : j < len := by
        have := (List.getElem?_eq_some_iff.1 hv).1
        simp [ns] at this; omega
      have hc := h4 j (by omega)
      rw [Addr.add_mid] at hc
      rw [hc]
      have hz : zs[j]? = some (zs.getD j 0) := by simp [List.getElem?_eq_getElem (show j < zs.length by omega)]
      have hm : zs.getD j 0 ∈ zs := List.mem_of_getElem? hz
      have hb := hk _ (h5 _ hm)
      simp only [ns, List.map_map, List.getElem?_map, List.getElem?_take, if_pos hj, hz] at hv
      simp only [Option.map_some, Function.comp, Int.toNat_of_nonneg hb.1] at hv
      exact hv
    · intro c hc
      simp only [List.mem_map] at hc
      obtain ⟨n, hn, rfl⟩ := hc
      have := hk _ (h5 _ (List.mem_of_mem_take hn))
      omega
theorem row_bytes {w : World} {a : Option Addr} {len cap : Nat} {zs : List Int} (h : IsRow .u8 w a len cap zs) :
    ∃ l : List Nat, l.length = len ∧ At w a (ns .u8 l) ∧ (a = none → cap = 0) ∧ len ≤ cap ∧ cap ≤ maxLen ∧ Bytes l := row_nat .u8 256 (fun _ h => wf_u8 h) h
end Go.Proofs.Ytfbjjblgcgjndaa

/- One frame for all statements 'for every input the law returns true, and its arguments read as they did', and openings of nested arguments. -/
namespace Go.Proofs.Ytfbjjblgcgjndaa
open Go.ChangeShapes Go.WideShapes Go.ChangeAt Go.RowKit

section
variable {H : Type} {enc : TypeId × Value → H}
theorem trodAll_below {W W' : World} (hb : Below W.heap.size W W') : ∀ (ts : List TypeId) (vs : List Value) (ds : List (DataW H)) (ps : List MemPlace),
    DataW.TrodAll enc Try.prog W 0 (fun _ => true) true ts vs ds ps → (∀ t ∈ ts, Try.prog.readableRec t = true ∧ t < Try.prog.types.size) → (∀ x ∈ ps, x.block < W.heap.size) →
    DataW.TrodAll enc Try.prog W' 0 (fun b => decide (b < W.heap.size)) true ts vs ds ps := by
  intro ts
  induction ts with
  | nil =>
    intro vs ds ps h _ _
    cases vs <;> cases ds <;> first | exact h | exact h.elim
  | cons t ts ih =>
    intro vs ds ps h ht hlt
    cases vs with
    | nil => cases ds <;> exact h.elim
    | cons v vs =>
      cases ds with
      | nil => exact h.elim
      | cons d ds =>
        obtain ⟨p, q, h1, h2, rfl⟩ := h
        have hr := ht t (by simp)
        exact ⟨p, q, Below.trod Try.laidOut hr.1 hr.2 h1 hb (fun x hx => hlt x (by simp [hx])), ih vs ds q h2 (fun u hu => ht u (by simp [hu])) (fun x hx => hlt x (by simp [hx])), rfl⟩

set_option maxRecDepth 100000 in
theorem law_lifted (f : FuncId) (fn : Func) (s : ChangeSpec) (os : Os) (started : os.Started) (noInit : Try.prog.inits.idxOf? f = none) (hfn : Try.prog.funcs[f]? = some fn)
    (hvars : s.vars = []) (hspec : ∀ ds : List (DataW H), ds.length = fn.params.size → s.fn H (ds ++ []) = { results := [.lit (.bool true)], args := ds })
    (hres : fn.resultTypes = #[4]) (hty : ∀ t ∈ fn.params.toList, Try.prog.readableRec t = true ∧ t < Try.prog.types.size)
    (witness : ∃ (w : World) (tape : Tape) (i : Input), w.os = os ∧ (w.forCall tape i).Shaped Try.checked.prog ∧ i.vars = [] ∧ Input.okWide Try.checked.prog (w.forCall tape i) .any w.heap.size f i ∧
      s.pre6 enc Try.checked.prog fn [] false (w.forCall tape i).memory i.args ∧ ({} : Assume).holds Try.checked.prog (lone (Frame.enter Try.checked.prog f i.args .normal) [] (w.forCall tape i)))
    (contract : ∀ (W : World) (base : Nat) (args : Array Value) (ds : List (DataW H)) (p : List MemPlace),
      (∀ (j : Nat) t v, fn.params[j]? = some t → args[j]? = some v → Value.okWide Try.prog W .any base t v) →
      DataW.TrodAll enc Try.prog W 0 (fun _ => true) true fn.params.toList args.toList ds p →
      (DataW.weightsEach Try.prog fn.params.toList ds).all (· ≤ reachBytes) = true →
      Calls Try.prog f args W fun e W' => e = .returned (.bool true) ∧ Below W.heap.size W W') :
    ReturnsInHanded {} Try.checked os f .any (s.pre6 enc Try.prog fn [] false) (s.post enc Try.prog fn false true false false) := by
  refine returnsInHanded_of_change_sized (C := Try.checked) Try.own started noInit hfn witness ?_
  intro W base args ds gs before hval0 hW _ hsz0 _
  have hW' := hW
  obtain ⟨p, q, hA0, hV, rfl, hfz, hnd⟩ := hW
  have hA : DataW.TrodAll enc Try.prog W 0 (fun _ => true) true fn.params.toList args.toList ds p := hA0
  have hgs : gs = [] ∧ q = [] := by
    rw [hvars] at hV
    exact trodVars_none hV
  obtain ⟨rfl, rfl⟩ := hgs
  have hvt : s.plain.varTypes Try.checked.prog = [] := by
    unfold DataSpec.varTypes ChangeSpec.plain
    simp only [hvars, List.map_nil, List.filterMap_nil]
  have hsz : (DataW.weightsEach Try.prog fn.params.toList ds).all (· ≤ reachBytes) = true := by
    rw [hvt, List.append_nil, List.append_nil] at hsz0; exact hsz0
  have hlen : ds.length = fn.params.size := by
    have : ∀ (ts : List TypeId) (vs : List Value) (ds : List (DataW H)) (ps : List MemPlace), DataW.TrodAll enc Try.prog W 0 (fun _ => true) true ts vs ds ps → ds.length = ts.length := by
      intro ts
      induction ts with
      | nil => intro vs ds ps h; cases vs <;> cases ds <;> first | rfl | exact h.elim
      | cons t ts ih =>
        intro vs ds ps h
        cases vs with
        | nil => cases ds <;> exact h.elim
        | cons v vs => cases ds with
          | nil => exact h.elim
          | cons d ds => obtain ⟨p, q, h1, h2, rfl⟩ := h; simp [ih vs ds q h2]
    simpa using this _ _ _ _ hA
  have hlt : ∀ x ∈ p, x.block < W.heap.size := fun x hx => DataW.TrodAll.lt hA x hx
  refine (contract W base args ds p hval0 hA hsz).mono fun e W' ⟨he, bel⟩ => ?_
  subst he
  have hsp := hspec ds hlen
  refine ⟨_, rfl, ds, [], p ++ [], [], p, [], hW', ?_, ?_, ?_, bel.frame _, fun h => by cases h⟩
  · rw [hsp, hres]
    exact trodAll_mk1 (shut_bool Try.underlying4 _)
  · rw [hsp]
    exact trodAll_below bel _ _ _ _ hA hty hlt
  · rw [hsp, hvars]; rfl

theorem Try.cells5 : Try.prog.cellsOf 5 = 1 := by kernel_rfl
theorem Try.cells23 : Try.prog.cellsOf 23 = 1 := by kernel_rfl
theorem Try.bytes5 : Try.prog.bytesOf 5 = 1 := by kernel_rfl
theorem Try.bytes23 : Try.prog.bytesOf 23 = 24 := by kernel_rfl
theorem reach_num : reachBytes = 140737488351232 := by decide

theorem open_inner {W : World} {n : Nat} {v : Value} {d : DataW H} {pl : List MemPlace} (h : DataW.trod enc Try.prog W 0 (fun _ => true) true n 23 [v] = some (d, pl)) (hw : ∀ x ∈ d.weights Try.prog 23, x ≤ reachBytes) :
    ∃ r : Inner, v = r.val ∧ r.Ok W := by
  rcases open_ints Try.underlying23 Try.underlying5 Try.cells5 h with ⟨hcs, _⟩ | ⟨x, len, cap, zs, hcs, _, hl, hm, hz, hx, hcell, hwz⟩
  · injection hcs with hv
    subst hv
    exact ⟨⟨none, [], 0⟩, rfl, ⟨At.nil _ _, fun _ => rfl, Nat.le_refl _, by simp, Bytes.nil⟩⟩
  · injection hcs with hv
    subst hv
    injection hx with hd _
    subst hd
    have hz' : zs.length = cap := by simpa using hz
    have hrow : IsRow .u8 W (some x) len cap zs := .inr ⟨x, rfl, hl, hm, hz', hcell, hwz⟩
    obtain ⟨l, rfl, hA, hnil, hc, hcm, hb⟩ := row_bytes hrow
    refine ⟨⟨some x, l, cap⟩, rfl, ⟨hA, fun e => (by cases e), hc, ?_, hb⟩⟩
    have := hw cap (by
      simp only [DataW.weights, Try.underlying23, Try.bytes5, lits, List.length_map, List.length_take, List.length_drop]
      refine List.mem_cons.2 (.inl ?_)
      omega)
    rw [reach_num] at this
    exact Nat.le_trans hc this

theorem weights_elem {P : Program} {t e : TypeId} (hu : P.underlying t = some (.slice e)) {elems spare : List (DataW H)} {d : DataW H} (hd : d ∈ elems ∨ d ∈ spare) : ∀ x ∈ d.weights P e, x ∈ (DataW.slice elems spare).weights P t := by
  have key : ∀ (l : List (DataW H)), d ∈ l → ∀ x ∈ d.weights P e, x ∈ DataW.weightsAll P e l := by
    intro l
    induction l with
    | nil => intro h; simp at h
    | cons a l ih =>
      intro h x hx
      simp only [DataW.weightsAll, List.mem_append]
      rcases List.mem_cons.1 h with rfl | h
      · exact .inl hx
      · exact .inr (ih h x hx)
  intro x hx
  simp only [DataW.weights, hu, List.mem_cons, List.mem_append]
  rcases hd with hd | hd
  · exact .inr (.inl (key _ hd x hx))
  · exact .inr (.inr (key _ hd x hx))

theorem addr_plain {w : World} {x : Addr} {v : Value} (h : w.cell? x = some v) : x = ⟨x.block, x.off, none⟩ := by
  obtain ⟨b, o, sp⟩ := x
  cases sp with
  | none => rfl
  | some s => simp [World.cell?] at h; split at h <;> simp at h

/-- a slice whose elements are one cell each: its cells, each with its own reading -/
theorem open_one {W : World} {t e : TypeId} {v : Value} {d : DataW H} {pl : List MemPlace} (ht : Try.prog.underlying t = some (.slice e)) (hc : Try.prog.cellsOf e = 1) (h : DataW.Trod enc Try.prog W 0 (fun _ => true) true t v d pl) (hv : v.cells.toList = [v])
    (hw : ∀ x ∈ d.weights Try.prog t, x ≤ reachBytes) (R : Value → Prop) (hR : ∀ n v d pl, DataW.trod enc Try.prog W 0 (fun _ => true) true n e [v] = some (d, pl) → (∀ x ∈ d.weights Try.prog e, x ≤ reachBytes) → R v) :
    ∃ (A : Option Addr) (c : Nat) (vs : List Value), v = .slice A vs.length c ∧ At W A vs ∧ (∀ u ∈ vs, R u) ∧ (A = none → c = 0) ∧ vs.length ≤ c ∧ c * Try.prog.bytesOf e ≤ reachBytes := by
  obtain ⟨fuel, hf⟩ := h
  rw [hv] at hf
  rcases Deep.open_slice1 ht hc hf with ⟨hcs, _⟩ | ⟨a, len, cap, m, n, V, D, Pl, hcs, _, hl, hm, hmm, hx, hcell⟩
  · injection hcs with hv'
    subst hv'
    exact ⟨none, 0, [], rfl, At.nil _ _, fun u hu => by simp at hu, fun _ => rfl, Nat.le_refl _, by simp⟩
  · injection hcs with hv'
    subst hv'
    have hmm' : m = cap := by simpa using hmm
    subst hmm'
    injection hx with hd _
    refine ⟨some a, m, (List.range len).map V, by simp, ?_, ?_, fun e => (by cases e), by simpa using hl, ?_⟩
    · intro hn
      have h0 : 0 < len := by
        rcases Nat.eq_zero_or_pos len with h | h
        · subst h; simp at hn
        · exact h
      have hc0 := (hcell 0 (by omega)).1
      have ha : a = ⟨a.block, a.off, none⟩ := by
        refine addr_plain (w := W) (v := V 0) ?_
        simpa [Addr.add] using hc0
      refine ⟨a.block, a.off, by rw [← ha], fun j u hu => ?_⟩
      have hj : j < len := by simpa using (List.getElem?_eq_some_iff.1 hu).1
      have := (hcell j (by omega)).1
      rw [ha, Addr.add_mid] at this
      rw [this]
      simpa [hj] using hu
    · intro u hu
      simp only [List.mem_map, List.mem_range] at hu
      obtain ⟨i, hi, rfl⟩ := hu
      have hc := hcell i (by omega)
      refine hR n (V i) (D i) (Pl i) hc.2 fun x hx => hw x ?_
      rw [hd]
      exact weights_elem ht (.inl (List.mem_map.2 ⟨i, List.mem_range.2 hi, rfl⟩)) x hx
    · have := hw (m * Try.prog.bytesOf e) (by
        rw [hd]
        simp only [DataW.weights, ht, List.length_map, List.length_range]
        refine List.mem_cons.2 (.inl ?_)
        rw [show len + (m - len) = m from by omega])
      exact this
theorem open_rows {W : World} {v : Value} {d : DataW H} {pl : List MemPlace} (h : DataW.Trod enc Try.prog W 0 (fun _ => true) true 30 v d pl) (hv : v.cells.toList = [v]) (hw : ∀ x ∈ d.weights Try.prog 30, x ≤ reachBytes) :
    ∃ (A : Option Addr) (c : Nat) (rs : List Inner), v = .slice A rs.length c ∧ At W A (rs.map Inner.val) ∧ (∀ r ∈ rs, r.Ok W) ∧ (A = none → c = 0) ∧ rs.length ≤ c ∧ c * 24 ≤ reachBytes := by
  obtain ⟨A, c, vs, rfl, hA, hR, hn, hl, hb⟩ := open_one Try.underlying30 Try.cells23 h hv hw (fun v => ∃ r : Inner, v = r.val ∧ r.Ok W) (fun n v d pl h hw => open_inner h hw)
  obtain ⟨rs, hrs⟩ : ∃ rs : List Inner, vs = rs.map Inner.val ∧ ∀ r ∈ rs, r.Ok W := by
    clear hA hl hb h hv hw
    induction vs with
    | nil => exact ⟨[], rfl, fun r hr => by simp at hr⟩
    | cons v vs ih =>
      obtain ⟨r, rfl, hr⟩ := hR v (by simp)
      obtain ⟨rs, rfl, h⟩ := ih (fun u hu => hR u (by simp [hu]))
      exact ⟨r :: rs, rfl, fun q hq => by
        rcases List.mem_cons.1 hq with rfl | hq
        · exact hr
        · exact h q hq⟩
  obtain ⟨rfl, hok⟩ := hrs
  rw [Try.bytes23] at hb
  refine ⟨A, c, rs, by simp, hA, hok, hn, by simpa using hl, hb⟩
end
end Go.Proofs.Ytfbjjblgcgjndaa

/- Openings of arguments, one law a type: numbers, bytes. -/
namespace Go.Proofs.Ytfbjjblgcgjndaa
open Go.ChangeShapes Go.WideShapes Go.ChangeAt Go.RowKit Go.Deep

section
variable {H : Type} {enc : TypeId × Value → H} {W : World} {r : Reach} {b0 : Nat} {v : Value} {d : DataW H} {p : List MemPlace}
set_option maxRecDepth 100000 in
theorem open_u8 (hv : Value.okWide Try.prog W r b0 5 v) (h : DataW.Trod enc Try.prog W 0 (fun _ => true) true 5 v d p) : ∃ n : Nat, v = .int .u8 (n : Int) ∧ n < 256 := by
  obtain ⟨a, rfl, _, _, w⟩ := open_int Try.underlying5 hv h
  obtain ⟨h1, h2⟩ := wf_u8 w
  obtain ⟨n, rfl⟩ := Int.eq_ofNat_of_zero_le h1
  exact ⟨n, rfl, by omega⟩
set_option maxRecDepth 100000 in
theorem open_u16 (hv : Value.okWide Try.prog W r b0 36 v) (h : DataW.Trod enc Try.prog W 0 (fun _ => true) true 36 v d p) : ∃ n : Nat, v = .int .u16 (n : Int) ∧ n < 65536 := by
  obtain ⟨a, rfl, _, _, w⟩ := open_int Try.underlying36 hv h
  obtain ⟨h1, h2⟩ := wf_u16 w
  obtain ⟨n, rfl⟩ := Int.eq_ofNat_of_zero_le h1
  exact ⟨n, rfl, by omega⟩
set_option maxRecDepth 100000 in
theorem open_u32 (hv : Value.okWide Try.prog W r b0 22 v) (h : DataW.Trod enc Try.prog W 0 (fun _ => true) true 22 v d p) : ∃ n : Nat, v = .int .u32 (n : Int) ∧ n < 4294967296 := by
  obtain ⟨a, rfl, _, _, w⟩ := open_int Try.underlying22 hv h
  obtain ⟨h1, h2⟩ := wf_u32 w
  obtain ⟨n, rfl⟩ := Int.eq_ofNat_of_zero_le h1
  exact ⟨n, rfl, by omega⟩
set_option maxRecDepth 100000 in
theorem open_i64 (hv : Value.okWide Try.prog W r b0 3 v) (h : DataW.Trod enc Try.prog W 0 (fun _ => true) true 3 v d p) : ∃ n : Int, v = .int .i64 n ∧ -9223372036854775808 ≤ n ∧ n ≤ 9223372036854775807 := by
  obtain ⟨a, rfl, _, _, w⟩ := open_int Try.underlying3 hv h
  exact ⟨a, rfl, wf_i64 w⟩
set_option maxRecDepth 100000 in
theorem open_bytes (hv : Value.okWide Try.prog W r b0 23 v) (h : DataW.Trod enc Try.prog W 0 (fun _ => true) true 23 v d p) (hw : ∀ x ∈ d.weights Try.prog 23, x ≤ reachBytes) : ∃ r : Inner, v = r.val ∧ r.Ok W := by
  obtain ⟨a, n, c, rfl⟩ := okWide_slice Try.underlying23 hv
  obtain ⟨fuel, hf⟩ := h
  exact open_inner hf hw
end
end Go.Proofs.Ytfbjjblgcgjndaa

/- Openings of arguments: lists of bools, of words, of shorts. -/
namespace Go.Proofs.Ytfbjjblgcgjndaa
open Go.ChangeShapes Go.WideShapes Go.ChangeAt Go.RowKit Go.Deep

/-- a list that lies in memory, one cell an element -/
structure Lies (α : Type) where
  A : Option Addr
  l : List α
  c : Nat
def Lies.val {α : Type} (r : Lies α) : Value := .slice r.A r.l.length r.c
structure Lies.Ok {α : Type} (f : α → Value) (p : α → Prop) (W : World) (r : Lies α) : Prop where
  lies : At W r.A (r.l.map f)
  nil : r.A = none → r.c = 0
  le : r.l.length ≤ r.c
  small : r.l.length ≤ 140737488351232
  all : ∀ x ∈ r.l, p x
theorem Lies.Ok.below {α : Type} {f : α → Value} {p : α → Prop} {w w' : World} {r : Lies α} (h : r.Ok f p w) (hb : Below w.heap.size w w') : r.Ok f p w' := ⟨h.lies.below hb, h.nil, h.le, h.small, h.all⟩
theorem map_all {α : Type} {f : α → Value} {p : α → Prop} : ∀ (vs : List Value), (∀ u ∈ vs, ∃ a, u = f a ∧ p a) → ∃ l : List α, vs = l.map f ∧ ∀ x ∈ l, p x
  | [], _ => ⟨[], rfl, fun x hx => by simp at hx⟩
  | v :: vs, h => by
    obtain ⟨a, rfl, ha⟩ := h v (by simp)
    obtain ⟨l, rfl, hl⟩ := map_all vs (fun u hu => h u (by simp [hu]))
    exact ⟨a :: l, rfl, fun x hx => by
      rcases List.mem_cons.1 hx with rfl | hx
      · exact ha
      · exact hl x hx⟩
section
variable {H : Type} {enc : TypeId × Value → H} {W : World} {r : Reach} {b0 : Nat} {v : Value} {d : DataW H} {p : List MemPlace}
set_option maxRecDepth 100000 in
theorem open_lies {α : Type} {t e : TypeId} (f : α → Value) (q : α → Prop) (ht : Try.prog.underlying t = some (.slice e)) (hc : Try.prog.cellsOf e = 1) (hb1 : 1 ≤ Try.prog.bytesOf e)
    (hR : ∀ n v (d : DataW H) pl, DataW.trod enc Try.prog W 0 (fun _ => true) true n e [v] = some (d, pl) → ∃ a, v = f a ∧ q a)
    (hv : Value.okWide Try.prog W r b0 t v) (h : DataW.Trod enc Try.prog W 0 (fun _ => true) true t v d p) (hw : ∀ x ∈ d.weights Try.prog t, x ≤ reachBytes) :
    ∃ s : Lies α, v = s.val ∧ s.Ok f q W := by
  obtain ⟨a, n, c, rfl⟩ := okWide_slice ht hv
  obtain ⟨A, c, vs, hvs, hA, hR', hn, hl, hb⟩ := open_one ht hc h rfl hw (fun v => ∃ a, v = f a ∧ q a) (fun n v d pl h _ => hR n v d pl h)
  obtain ⟨l, rfl, hq⟩ := map_all vs hR'
  injection hvs with e1 e2 e3
  subst e1 e2 e3
  rw [List.length_map] at hl
  refine ⟨⟨a, l, c⟩, by simp [Lies.val], hA, hn, hl, ?_, hq⟩
  have := Nat.le_trans (Nat.le_mul_of_pos_right c hb1) hb
  rw [reach_num] at this
  exact Nat.le_trans hl this
theorem Try.cells4' : Try.prog.cellsOf 4 = 1 := by kernel_rfl
theorem Try.cells36' : Try.prog.cellsOf 36 = 1 := by kernel_rfl
theorem Try.cells22' : Try.prog.cellsOf 22 = 1 := by kernel_rfl
theorem Try.bytes4' : Try.prog.bytesOf 4 = 1 := by kernel_rfl
theorem Try.bytes36' : Try.prog.bytesOf 36 = 2 := by kernel_rfl
theorem Try.bytes22' : Try.prog.bytesOf 22 = 4 := by kernel_rfl
abbrev BoolsOk (W : World) (s : Lies Bool) : Prop := s.Ok Value.bool (fun _ => True) W
abbrev ShortsOk (W : World) (s : Lies Nat) : Prop := s.Ok (fun n : Nat => .int .u16 (n : Int)) (fun n : Nat => n < 65536) W
abbrev WordsOk (W : World) (s : Lies Nat) : Prop := s.Ok (fun n : Nat => .int .u32 (n : Int)) (fun n : Nat => n < 4294967296) W
set_option maxRecDepth 100000 in
theorem open_bools (hv : Value.okWide Try.prog W r b0 73 v) (h : DataW.Trod enc Try.prog W 0 (fun _ => true) true 73 v d p) (hw : ∀ x ∈ d.weights Try.prog 73, x ≤ reachBytes) : ∃ s : Lies Bool, v = s.val ∧ BoolsOk W s := by
  refine open_lies Value.bool (fun _ => True) Try.underlying73 Try.cells4' (by rw [Try.bytes4']; omega) ?_ hv h hw
  intro n u y pl hu
  obtain ⟨b, h1, h2⟩ := DataW.trod_bool Try.underlying4 hu
  exact ⟨b, by simpa using h1, trivial⟩
set_option maxRecDepth 100000 in
theorem open_shorts (hv : Value.okWide Try.prog W r b0 84 v) (h : DataW.Trod enc Try.prog W 0 (fun _ => true) true 84 v d p) (hw : ∀ x ∈ d.weights Try.prog 84, x ≤ reachBytes) : ∃ s : Lies Nat, v = s.val ∧ ShortsOk W s := by
  refine open_lies (fun n : Nat => .int .u16 (n : Int)) (fun n => n < 65536) Try.underlying84 Try.cells36' (by rw [Try.bytes36']; omega) ?_ hv h hw
  intro n u y pl hu
  obtain ⟨a, h1, _, w⟩ := DataW.trod_int Try.underlying36 hu
  injection h1 with h1
  obtain ⟨l1, l2⟩ := wf_u16 w
  obtain ⟨m, rfl⟩ := Int.eq_ofNat_of_zero_le l1
  exact ⟨m, h1, by omega⟩
set_option maxRecDepth 100000 in
theorem open_words (hv : Value.okWide Try.prog W r b0 34 v) (h : DataW.Trod enc Try.prog W 0 (fun _ => true) true 34 v d p) (hw : ∀ x ∈ d.weights Try.prog 34, x ≤ reachBytes) : ∃ s : Lies Nat, v = s.val ∧ WordsOk W s := by
  refine open_lies (fun n : Nat => .int .u32 (n : Int)) (fun n => n < 4294967296) Try.underlying34 Try.cells22' (by rw [Try.bytes22']; omega) ?_ hv h hw
  intro n u y pl hu
  obtain ⟨a, h1, _, w⟩ := DataW.trod_int Try.underlying22 hu
  injection h1 with h1
  obtain ⟨l1, l2⟩ := wf_u32 w
  obtain ⟨m, rfl⟩ := Int.eq_ofNat_of_zero_le l1
  exact ⟨m, h1, by omega⟩
end
end Go.Proofs.Ytfbjjblgcgjndaa

/- Openings of arguments: the acts of the disk laws. -/
namespace Go.Proofs.Ytfbjjblgcgjndaa
open Go.ChangeShapes Go.WideShapes Go.ChangeAt Go.RowKit Go.Deep

theorem flat_get {α β : Type} (f : α → List β) (n : Nat) (hf : ∀ x, (f x).length = n) : ∀ (l : List α) (i : Nat) (a : α), l[i]? = some a → ∀ j, j < n → (l.flatMap f)[i * n + j]? = (f a)[j]?
  | [], i, a, h, j, hj => by simp at h
  | x :: l, 0, a, h, j, hj => by
    simp at h; subst h
    rw [List.flatMap_cons, List.getElem?_append_left (by rw [hf]; omega)]
    simp
  | x :: l, i + 1, a, h, j, hj => by
    have := flat_get f n hf l i a (by simpa using h) j hj
    rw [List.flatMap_cons, List.getElem?_append_right (by rw [hf, Nat.succ_mul]; omega), hf, show (i + 1) * n + j - n = i * n + j by rw [Nat.succ_mul]; omega]
    exact this
theorem flat_len {α β : Type} (f : α → List β) (n : Nat) (hf : ∀ x, (f x).length = n) : ∀ (l : List α), (l.flatMap f).length = l.length * n
  | [] => by simp
  | x :: l => by rw [List.flatMap_cons, List.length_append, flat_len f n hf l, hf, List.length_cons, Nat.succ_mul]; omega
section
variable {H : Type} {enc : TypeId × Value → H} {W : World} {r : Reach} {b0 : Nat} {v : Value} {d : DataW H} {p : List MemPlace}
theorem addr_add_plain (a : Addr) (h : a = ⟨a.block, a.off, none⟩) (i : Nat) : a.add i = ⟨a.block, a.off + i, none⟩ := by rw [h, Addr.add_mid]
set_option maxRecDepth 100000 in
/-- a slice whose elements are many cells each -/
theorem open_many {α : Type} {t e : TypeId} {k : Nat} (cells : α → List Value) (q : α → Prop) (ht : Try.prog.underlying t = some (.slice e)) (hk : Try.prog.cellsOf e = k) (hk0 : 0 < k) (hb1 : 1 ≤ Try.prog.bytesOf e) (hcl : ∀ a, (cells a).length = k)
    (hR : ∀ n cs (d : DataW H) pl, DataW.trod enc Try.prog W 0 (fun _ => true) true n e cs = some (d, pl) → (∀ x ∈ d.weights Try.prog e, x ≤ reachBytes) → ∃ a, cs = cells a ∧ q a)
    (hv : Value.okWide Try.prog W r b0 t v) (h : DataW.Trod enc Try.prog W 0 (fun _ => true) true t v d p) (hw : ∀ x ∈ d.weights Try.prog t, x ≤ reachBytes) :
    ∃ (A : Option Addr) (l : List α) (c : Nat), v = .slice A l.length c ∧ At W A (l.flatMap cells) ∧ (∀ a ∈ l, q a) ∧ (A = none → c = 0) ∧ l.length ≤ c ∧ l.length ≤ 140737488351232 := by
  obtain ⟨a, n, c, rfl⟩ := okWide_slice ht hv
  obtain ⟨fuel, hf⟩ := h
  rw [show (Value.slice a n c).cells.toList = [.slice a n c] from rfl] at hf
  rcases Deep.open_slice ht hf with ⟨hcs, _⟩ | ⟨ad, len, cap, m, n', D, Pl, hcs, _, hl, hm, hmm, hx, hcell⟩
  · injection hcs with hv'
    injection hv' with e1 e2 e3
    subst e1 e2 e3
    exact ⟨none, [], 0, rfl, At.nil _ _, fun a ha => by simp at ha, fun _ => rfl, Nat.le_refl _, by simp⟩
  · injection hcs with hv'
    injection hv' with e1 e2 e3
    subst e1 e2 e3
    have hmm' : m = c := by simpa using hmm
    subst hmm'
    injection hx with hd _
    rw [hk] at hcell
    have hel : ∀ i, i < n → ∃ x, q x ∧ W.cells? 0 (ad.add (i * k)) k = some (cells x) := fun i hi => by
      obtain ⟨cs, h1, h2⟩ := hcell i (by omega)
      obtain ⟨x, rfl, hq⟩ := hR n' cs (D i) (Pl i) h2 (fun y hy => hw y (by
        rw [hd]
        exact weights_elem ht (.inl (List.mem_map.2 ⟨i, List.mem_range.2 hi, rfl⟩)) y hy))
      exact ⟨x, hq, h1⟩
    have hall : ∀ j, j ≤ n → ∃ l : List α, l.length = j ∧ (∀ a ∈ l, q a) ∧ ∀ i a, l[i]? = some a → W.cells? 0 (ad.add (i * k)) k = some (cells a) := by
      intro j
      induction j with
      | zero => exact fun _ => ⟨[], rfl, fun a ha => by simp at ha, fun i a ha => by simp at ha⟩
      | succ j ih =>
        intro hj
        obtain ⟨l, h1, h2, h3⟩ := ih (by omega)
        obtain ⟨x, hx1, hx2⟩ := hel j (by omega)
        refine ⟨l ++ [x], by simp [h1], fun a ha => ?_, fun i a ha => ?_⟩
        · rcases List.mem_append.1 ha with ha | ha
          · exact h2 a ha
          · rw [List.mem_singleton.1 ha]; exact hx1
        · by_cases hi : i < l.length
          · rw [List.getElem?_append_left hi] at ha
            exact h3 i a ha
          · have hil := (List.getElem?_eq_some_iff.1 ha).1
            simp at hil
            obtain rfl : i = l.length := by omega
            simp at ha
            subst ha
            rw [h1]; exact hx2
    obtain ⟨l, rfl, h2, h3⟩ := hall n (Nat.le_refl _)
    refine ⟨some ad, l, m, rfl, ?_, h2, fun e => (by cases e), hl, ?_⟩
    · intro hne
      have hl0 : 0 < l.length := by
        rcases Nat.eq_zero_or_pos l.length with h | h
        · rw [List.eq_nil_of_length_eq_zero h] at hne; simp at hne
        · exact h
      obtain ⟨_, _, hc0⟩ := World.cells?_some (h3 0 l[0] (List.getElem?_eq_getElem hl0))
      have hc00 := hc0 0 hk0
      have hcc : (cells l[0])[0]? = some ((cells l[0])[0]'(by rw [hcl]; exact hk0)) := List.getElem?_eq_getElem (by rw [hcl]; exact hk0)
      rw [hcc, Nat.zero_mul] at hc00
      have ha : ad = ⟨ad.block, ad.off, none⟩ := by
        refine addr_plain (w := W) (v := (cells l[0])[0]'(by rw [hcl]; exact hk0)) ?_
        have : (ad.add 0).add 0 = ad := by simp [Addr.add]
        rw [this] at hc00; exact hc00
      refine ⟨ad.block, ad.off, by rw [← ha], fun j u hu => ?_⟩
      have hj : j < (l.flatMap cells).length := (List.getElem?_eq_some_iff.1 hu).1
      have hlen : (l.flatMap cells).length = l.length * k := flat_len cells k hcl l
      rw [hlen] at hj
      have hi : j / k < l.length := (Nat.div_lt_iff_lt_mul hk0).2 hj
      have hjk : j % k < k := Nat.mod_lt _ hk0
      have hdm : j / k * k + j % k = j := by rw [Nat.mul_comm]; exact Nat.div_add_mod j k
      obtain ⟨_, _, hce⟩ := World.cells?_some (h3 (j / k) l[j / k] (List.getElem?_eq_getElem hi))
      have := hce (j % k) hjk
      rw [addr_add_plain ad ha, Addr.add_mid, show ad.off + j / k * k + j % k = ad.off + j by omega] at this
      rw [this, ← flat_get cells k hcl l (j / k) _ (List.getElem?_eq_getElem hi) (j % k) hjk, hdm]
      exact hu
    · have := hw (m * Try.prog.bytesOf e) (by
        rw [hd]
        simp only [DataW.weights, ht, List.length_map, List.length_range]
        refine List.mem_cons.2 (.inl ?_)
        rw [show l.length + (m - l.length) = m from by omega])
      rw [reach_num] at this
      exact Nat.le_trans hl (Nat.le_trans (Nat.le_mul_of_pos_right m hb1) this)
end

/-- an act -/
structure ActD where
  kind : Nat
  num : Int
  of_ : Int
  data : Inner
  keep : Lies Bool
def ActD.cells (a : ActD) : List Value := [.int .u8 (a.kind : Int), .int .i64 a.num, .int .i64 a.of_, a.data.val, a.keep.val]
structure ActD.Ok (W : World) (a : ActD) : Prop where
  kind : a.kind < 256
  num : -9223372036854775808 ≤ a.num ∧ a.num ≤ 9223372036854775807
  of_ : -9223372036854775808 ≤ a.of_ ∧ a.of_ ≤ 9223372036854775807
  data : a.data.Ok W
  keep : BoolsOk W a.keep
theorem ActD.Ok.below {w w' : World} {a : ActD} (h : a.Ok w) (hb : Below w.heap.size w w') : a.Ok w' := ⟨h.kind, h.num, h.of_, h.data.below hb, h.keep.below hb⟩
/-- acts that lie in memory -/
structure Acts where
  A : Option Addr
  l : List ActD
  c : Nat
def Acts.val (s : Acts) : Value := .slice s.A s.l.length s.c
structure Acts.Ok (W : World) (s : Acts) : Prop where
  lies : At W s.A (s.l.flatMap ActD.cells)
  all : ∀ a ∈ s.l, a.Ok W
  nil : s.A = none → s.c = 0
  le : s.l.length ≤ s.c
  small : s.l.length ≤ 140737488351232
theorem act_cell {w : World} {A : Option Addr} {l : List ActD} (h : At w A (l.flatMap ActD.cells)) (i : Nat) (a : ActD) (ha : l[i]? = some a) : ∃ b o, A = some ⟨b, o, none⟩ ∧ ∀ j, j < 5 → w.cell? ⟨b, o + i * 5 + j, none⟩ = a.cells[j]? := by
  have hg := flat_get ActD.cells 5 (fun _ => rfl) l i a ha
  obtain ⟨b, o, e, hr⟩ := h (by
    intro e
    have := hg 0 (by omega)
    rw [e] at this; simp [ActD.cells] at this)
  refine ⟨b, o, e, fun j hj => ?_⟩
  have h5 : a.cells[j]? = some (a.cells[j]'hj) := List.getElem?_eq_getElem (show j < a.cells.length from hj)
  rw [Nat.add_assoc, h5]
  exact hr _ _ (by rw [hg j hj]; exact h5)
section
variable {H : Type} {enc : TypeId × Value → H} {W : World} {r : Reach} {b0 : Nat} {v : Value} {d : DataW H} {p : List MemPlace}
theorem Try.cells109 : Try.prog.cellsOf 109 = 5 := by kernel_rfl
theorem Try.bytes109' : Try.prog.bytesOf 109 = 72 := by kernel_rfl
theorem Try.cells5' : Try.prog.cellsOf 5 = 1 := by kernel_rfl
theorem Try.cells3' : Try.prog.cellsOf 3 = 1 := by kernel_rfl
theorem Try.cells23' : Try.prog.cellsOf 23 = 1 := by kernel_rfl
theorem Try.cells73' : Try.prog.cellsOf 73 = 1 := by kernel_rfl
set_option maxRecDepth 100000 in
theorem lies_of {α : Type} {t e : TypeId} (f : α → Value) (q : α → Prop) (ht : Try.prog.underlying t = some (.slice e)) (hc : Try.prog.cellsOf e = 1) (hb1 : 1 ≤ Try.prog.bytesOf e)
    (hR : ∀ n v (d : DataW H) pl, DataW.trod enc Try.prog W 0 (fun _ => true) true n e [v] = some (d, pl) → ∃ a, v = f a ∧ q a)
    {n : Nat} (h : DataW.trod enc Try.prog W 0 (fun _ => true) true n t [v] = some (d, p)) (hw : ∀ x ∈ d.weights Try.prog t, x ≤ reachBytes) :
    ∃ s : Lies α, v = s.val ∧ s.Ok f q W := by
  have hsl : v.cells.toList = [v] := by
    rcases DataW.trod_slice ht h with ⟨hcs, _⟩ | ⟨a, len, cap, elems, rest, n', _, hcs, _⟩
    · injection hcs with h1; rw [h1]; rfl
    · injection hcs with h1; rw [h1]; rfl
  obtain ⟨A, c, vs, hvs, hA, hR', hn, hl, hb⟩ := open_one ht hc ⟨n, by rw [hsl]; exact h⟩ hsl hw (fun v => ∃ a, v = f a ∧ q a) (fun n v d pl h _ => hR n v d pl h)
  obtain ⟨l, rfl, hq⟩ := map_all vs hR'
  subst hvs
  rw [List.length_map] at hl
  refine ⟨⟨A, l, c⟩, by simp [Lies.val], hA, hn, hl, ?_, hq⟩
  have := Nat.le_trans (Nat.le_mul_of_pos_right c hb1) hb
  rw [reach_num] at this
  exact Nat.le_trans hl this
set_option maxRecDepth 100000 in
theorem bools_of {n : Nat} (h : DataW.trod enc Try.prog W 0 (fun _ => true) true n 73 [v] = some (d, p)) (hw : ∀ x ∈ d.weights Try.prog 73, x ≤ reachBytes) : ∃ s : Lies Bool, v = s.val ∧ BoolsOk W s := by
  refine lies_of Value.bool (fun _ => True) Try.underlying73 Try.cells4' (by rw [Try.bytes4']; omega) ?_ h hw
  intro n u y pl hu
  obtain ⟨b, h1, h2⟩ := DataW.trod_bool Try.underlying4 hu
  exact ⟨b, by simpa using h1, trivial⟩
set_option maxRecDepth 100000 in
theorem i64_of {n : Nat} (h : DataW.trod enc Try.prog W 0 (fun _ => true) true n 3 [v] = some (d, p)) : ∃ x : Int, v = .int .i64 x ∧ -9223372036854775808 ≤ x ∧ x ≤ 9223372036854775807 := by
  obtain ⟨a, h1, _, w⟩ := DataW.trod_int Try.underlying3 h
  injection h1 with h1
  exact ⟨a, h1, wf_i64 w⟩
set_option maxRecDepth 100000 in
theorem u8_of {n : Nat} (h : DataW.trod enc Try.prog W 0 (fun _ => true) true n 5 [v] = some (d, p)) : ∃ x : Nat, v = .int .u8 (x : Int) ∧ x < 256 := by
  obtain ⟨a, h1, _, w⟩ := DataW.trod_int Try.underlying5 h
  injection h1 with h1
  obtain ⟨l1, l2⟩ := wf_u8 w
  obtain ⟨m, rfl⟩ := Int.eq_ofNat_of_zero_le l1
  exact ⟨m, h1, by omega⟩
set_option maxRecDepth 100000 in
theorem act_of {n : Nat} {cs : List Value} (h : DataW.trod enc Try.prog W 0 (fun _ => true) true n 109 cs = some (d, p)) (hw : ∀ x ∈ d.weights Try.prog 109, x ≤ reachBytes) : ∃ a : ActD, cs = a.cells ∧ a.Ok W := by
  obtain ⟨xs, n', _, hx, hlen, hsz, hg⟩ := DataW.trod_struct Try.underlying109 h
  rw [Try.cells109] at hlen
  match cs, hlen with
  | [c0, c1, c2, c3, c4], _ =>
    match xs, hsz with
    | [y0, y1, y2, y3, y4], _ =>
      have g0 := hg 0 _ rfl
      have g1 := hg 1 _ rfl
      have g2 := hg 2 _ rfl
      have g3 := hg 3 _ rfl
      have g4 := hg 4 _ rfl
      simp only [Try.cells5', Try.cells3', Try.cells23', Try.cells73', List.drop_succ_cons, List.drop_zero, List.take_succ_cons, List.take_zero, List.getElem?_cons_zero, List.getElem?_cons_succ] at g0 g1 g2 g3 g4
      injection hx with hd _
      have hww : ∀ t (y : DataW H), (t, y) ∈ [(5, y0.1), (3, y1.1), (3, y2.1), (23, y3.1), (73, y4.1)] → ∀ x ∈ y.weights Try.prog t, x ≤ reachBytes := by
        intro t y hy x hx
        refine hw x ?_
        rw [hd]
        simp only [DataW.weights, Try.underlying109, List.map_cons, List.map_nil, DataW.weightsEach, List.mem_append]
        simp only [List.mem_cons, Prod.mk.injEq, List.not_mem_nil, or_false] at hy
        rcases hy with ⟨rfl, rfl⟩ | ⟨rfl, rfl⟩ | ⟨rfl, rfl⟩ | ⟨rfl, rfl⟩ | ⟨rfl, rfl⟩ <;> simp [hx]
      obtain ⟨x0, rfl, b0⟩ := u8_of g0
      obtain ⟨x1, rfl, b1⟩ := i64_of g1
      obtain ⟨x2, rfl, b2⟩ := i64_of g2
      obtain ⟨x3, rfl, b3⟩ := open_inner g3 (hww 23 y3.1 (by simp))
      obtain ⟨x4, rfl, b4⟩ := bools_of g4 (hww 73 y4.1 (by simp))
      exact ⟨⟨x0, x1, x2, x3, x4⟩, rfl, b0, b1, b2, b3, b4⟩
set_option maxRecDepth 100000 in
theorem open_acts {r : Reach} {b0 : Nat} (hv : Value.okWide Try.prog W r b0 96 v) (h : DataW.Trod enc Try.prog W 0 (fun _ => true) true 96 v d p) (hw : ∀ x ∈ d.weights Try.prog 96, x ≤ reachBytes) : ∃ s : Acts, v = s.val ∧ s.Ok W := by
  obtain ⟨A, l, c, rfl, h1, h2, h3, h4, h5⟩ := open_many (k := 5) ActD.cells (ActD.Ok W) Try.underlying96 Try.cells109 (by omega) (by rw [Try.bytes109']; omega) (fun _ => rfl) (fun n cs d pl h hw => act_of h hw) hv h hw
  exact ⟨⟨A, l, c⟩, rfl, h1, h2, h3, h4, h5⟩
end
end Go.Proofs.Ytfbjjblgcgjndaa

/- Contracts of the small helpers on lists of bools: SameBools, LentBools, WholeBools, SpoilBools. -/
namespace Go.Proofs.Ytfbjjblgcgjndaa
open Go.RowKit

theorem Try.info4 : (Try.prog.info? 4).map (fun i => (i.zero, i.size, i.bytes)) = some (some (.bool false), 1, 1) := by kernel_rfl
/-- bools as cells -/
def bs (l : List Bool) : List Value := l.map Value.bool
theorem bs_append (l m : List Bool) : bs (l ++ m) = bs l ++ bs m := by simp [bs]
theorem bs_one (l : List Bool) : ∀ v ∈ bs l, v.oneCell' = true := by
  intro v hv
  simp [bs] at hv
  rcases hv with ⟨_, rfl⟩ | ⟨_, rfl⟩ <;> rfl
theorem At.bool {w : World} {A : Option Addr} {l : List Bool} (h : At w A (bs l)) (i : Nat) (hi : i < l.length) : ∃ b o, A = some ⟨b, o, none⟩ ∧ w.cell? ⟨b, o + i, none⟩ = some (.bool (l.getD i false)) := by
  obtain ⟨b, o, e, hr⟩ := h (by intro hn; have := congrArg List.length hn; simp [bs] at this; subst this; simp at hi)
  exact ⟨b, o, e, hr i _ (by simp [bs, List.getD_eq_getElem?_getD, List.getElem?_eq_getElem hi])⟩
theorem bool_ext {l m : List Bool} (h : l.length = m.length) (hk : ∀ i, i < l.length → l.getD i false = m.getD i false) : l = m := by
  apply List.ext_getElem h
  intro i h1 h2
  have := hk i h1
  simpa [List.getD_eq_getElem?_getD, List.getElem?_eq_getElem h1, List.getElem?_eq_getElem h2] using this
/-- all places below k are the same -/
def AgreeB (l m : List Bool) (k : Nat) : Prop := ∀ i, i < k → l.getD i false = m.getD i false
theorem AgreeB.zero (l m : List Bool) : AgreeB l m 0 := fun i hi => by omega
theorem AgreeB.succ {l m : List Bool} {k : Nat} (h : AgreeB l m k) (e : l.getD k false = m.getD k false) : AgreeB l m (k + 1) := fun i hi => by
  by_cases h1 : i = k
  · subst h1; exact e
  · exact h i (by omega)

set_option maxRecDepth 100000 in
set_option maxHeartbeats 400000 in
theorem samebo_any (A B : Option Addr) (c d : Nat) (l m : List Bool) (w : World) (hl : l.length ≤ 140737488355328) (hm : m.length ≤ 140737488355328) (hA : At w A (bs l)) (hB : At w B (bs m)) :
    Calls Try.prog 170 #[.slice A l.length c, .slice B m.length d] w fun e w' => e = .returned (.bool (decide (l = m))) ∧ Below w.heap.size w w' := by
  by_cases hlen : l.length = m.length
  · have h0 : ((l.length : Int) != (m.length : Int)) = false := by simp [hlen]
    have h0' : (l.length == m.length) = true := by simp [hlen]
    have HL := Lib.hid hlen
    clear hlen
    go_enter Try.func170, Try.ntmps170
    go_wp2
    go_loopw [5] (fun i wr => ∃ k : Nat, k ≤ l.length ∧ i = .int .i64 k ∧ AgreeB l m k ∧ Below w.heap.size w wr) (fun i _ => l.length - (intOf i).toNat)
    case atStart => exact ⟨0, by omega, rfl, AgreeB.zero l m, Below.refl _ _⟩
    case round =>
      clear h0 h0'
      obtain ⟨k, hk, rfl, hag, hb⟩ := hrel
      by_cases hlt : k < l.length
      · obtain ⟨b1, o1, rfl, hc1⟩ := (hA.below hb).bool k hlt
        have hlt' : k < m.length := by have := HL.out; omega
        obtain ⟨b2, o2, rfl, hc2⟩ := (hB.below hb).bool k hlt'
        have hagS := Lib.hid (fun e => hag.succ e)
        generalize hX : l.getD k false = x at *
        generalize hY : m.getD k false = y at *
        have HX := Lib.hid hX
        have HY := Lib.hid hY
        clear hX hY
        by_cases he : x = y
        · have hne : (!(x == y)) = false := by simp [he]
          have HE := Lib.hid he
          clear he
          go_wp2
          go_quiet (fail)
          go_wp2
          case roundEnd => exact ⟨⟨k + 1, by omega, by go_num, hagS.out HE.out, below_drewN hb _⟩, by simp only [intOf]; omega⟩
        · have hne : (!(x == y)) = true := by simpa using he
          have hfin : decide (l = m) = false := by
            rw [decide_eq_false_iff_not]; intro e; exact he (by rw [← HX.out, ← HY.out, e])
          have HF := Lib.hid hfin
          clear he hfin
          go_wp2
          go_quiet (fail)
          go_wp2
          go_ret
          exact ⟨by rw [HF.out]; rfl, below_drewN hb _⟩
      · obtain rfl : k = l.length := by omega
        have hfin : decide (l = m) = true := by
          rw [decide_eq_true_eq]; exact bool_ext HL.out hag
        have HF := Lib.hid hfin
        clear hfin
        go_wp2
        go_ret
        exact ⟨by rw [HF.out]; rfl, hb⟩
  · have h0 : ((l.length : Int) != (m.length : Int)) = true := by simp; omega
    have h0' : (l.length == m.length) = false := by simp; omega
    have hfin : decide (l = m) = false := by
      rw [decide_eq_false_iff_not]; intro e; exact hlen (by rw [e])
    have HF := Lib.hid hfin
    clear hlen hfin
    go_enter Try.func170, Try.ntmps170
    go_wp2
    go_ret
    exact ⟨by rw [HF.out]; rfl, Below.refl _ _⟩

/-- the block of a lent list: it, and two marks behind -/
def LentBo (w : World) (b : Nat) (l : List Bool) : Prop := w.heap[b]? = some (.cells (bs (l ++ [true, false])).toArray 4 (0, 0))
theorem LentBo.below {w w' : World} {b : Nat} {l : List Bool} (h : LentBo w b l) (hb : Below w.heap.size w w') : LentBo w' b l := by
  have : b < w.heap.size := (Array.getElem?_eq_some_iff.1 h).1
  unfold LentBo; rw [hb.block b this]; exact h
theorem LentBo.at {w : World} {b : Nat} {l : List Bool} (h : LentBo w b l) : At w (some ⟨b, 0, none⟩) (bs l) := by
  have h1 : At w (some ⟨b, 0, none⟩) (bs l ++ bs [true, false]) := by rw [← bs_append]; exact At.whole h
  exact h1.pre

set_option maxRecDepth 100000 in
set_option maxHeartbeats 400000 in
theorem lentbo_any (A : Option Addr) (c : Nat) (l : List Bool) (w : World) (hl : l.length ≤ 1000000000) (hA : At w A (bs l)) (hnil : A = none → c = 0) :
    Calls Try.prog 154 #[.slice A l.length c] w fun e w' => e = .returned (.slice (some ⟨w.heap.size, 0, none⟩) l.length (l.length + 2)) ∧ LentBo w' w.heap.size l ∧ Below w.heap.size w w' := by
  go_enter Try.func154, Try.ntmps154
  go_wp2_with (first
    | (with_reducible refine wp_make0 rfl _ _ 73 4 (.bool false) 1 1 rfl Try.underlying73 Try.info4 w.heap.size .i64 .i64 _ (l.length + 2) rfl rfl (by omega) (by omega) (by omega) (Nat.le_refl _) ?_; intro w1 ho1 hg1; have hb1 := below_of_grown hg1)
    | (at_builtin; (refine wp_append_fits rfl (.tmp 8) (.tmp 9) 73 4 (.bool false) 1 1 rfl Try.underlying73 Try.info4 (by decide) w.heap.size w.heap.size 0 (l.length + 2) [] rfl ho1 A l.length c (bs l) rfl (by simp [bs]) (hA.below hb1) hnil (bs_one l) (by omega) ?_); intro w2 ho2 hg2; simp only [Nat.zero_add, List.nil_append] at ho2 ⊢)
    | (at_builtin; (refine wp_append_fits rfl (.tmp 11) (.tmp 12) 73 4 (.bool false) 1 1 rfl Try.underlying73 Try.info4 (by decide) w.heap.size w.heap.size l.length (l.length + 2) (bs l) rfl (ho2.alloc _) (some ⟨w2.heap.size, 0, none⟩) 2 2 [.bool true, .bool false] rfl (by simp) (At.whole (heap_alloc_new w2 _)) (by simp) (bs_one [true, false]) (by omega) ?_); intro w3 ho3 hg3))
  go_ret
  refine ⟨rfl, ?_, ?_⟩
  · have := own_full ho3
    unfold LentBo
    rw [this, bs_append]; rfl
  · exact below_grown (below_alloc0 (below_grown hb1 hg2 hb1.size (by simp)) _) hg3 (by have := hg2.size; have := hg1.size; simp; omega) (by simp)

set_option maxRecDepth 100000 in
set_option maxHeartbeats 400000 in
theorem wholebo_any (b : Nat) (B : Option Addr) (d : Nat) (l : List Bool) (w : World) (hl : l.length ≤ 1000000000) (hb : LentBo w b l) (hB : At w B (bs l)) :
    Calls Try.prog 156 #[.slice (some ⟨b, 0, none⟩) l.length (l.length + 2), .slice B l.length d] w fun e w' => e = .returned (.bool true) ∧ Below w.heap.size w w' := by
  have hlen : (bs (l ++ [true, false])).length = l.length + 2 := by simp [bs]
  have h1 : w.cell? ⟨b, l.length, none⟩ = some (.bool true) := by
    rw [cell_of_row w b l.length _ 4 (0, 0) hb]; simp [bs]
  have h2 : w.cell? ⟨b, l.length + 1, none⟩ = some (.bool false) := by
    rw [cell_of_row w b (l.length + 1) _ 4 (0, 0) hb]; simp [bs]
  clear hlen
  have HA := hb.at
  have hs := Lib.hid (samebo_any (some ⟨b, 0, none⟩) B (l.length + 2) d l l w (by omega) (by omega) HA hB)
  go_enter Try.func156, Try.ntmps156
  go_wp2_with (go_at_call 170; refine hs.out.mono ?_; rintro e w1 ⟨rfl, hbel⟩)
  go_ret
  exact ⟨by simp, hbel⟩

set_option maxRecDepth 100000 in
set_option maxHeartbeats 400000 in
theorem spoilbo_any (b n : Nat) (cs : Array Value) (w : World) (hn : n ≤ 1000000000) (hb : w.heap[b]? = some (.cells cs 4 (0, 0))) (hc : cs.size = n + 2) :
    Calls Try.prog 157 #[.slice (some ⟨b, 0, none⟩) n (n + 2)] w fun e w' => e = .returned (.tuple #[]) ∧ w.grownBy w' (some b) := by
  go_enter Try.func157, Try.ntmps157
  go_wp2
  go_loopw [3] (fun i wr => ∃ k : Nat, k ≤ n + 2 ∧ i = .int .i64 k ∧ (∃ cs : Array Value, wr.heap[b]? = some (.cells cs 4 (0, 0)) ∧ cs.size = n + 2) ∧ w.grownBy wr (some b)) (fun i _ => n + 2 - (intOf i).toNat)
  case atStart => exact ⟨0, by omega, rfl, ⟨cs, hb, hc⟩, World.grownBy.refl _ _⟩
  case round =>
    clear hb hc
    obtain ⟨k, hk, rfl, ⟨cs, hb, hc⟩, hg⟩ := hrel
    by_cases hlt : k < n + 2
    · obtain ⟨u, hcell⟩ : ∃ u, wr.cell? ⟨b, k, none⟩ = some u := ⟨cs[k], by rw [cell_of_row wr b k _ 4 (0, 0) hb]; exact Array.getElem?_eq_getElem (by omega)⟩
      have hfr := frozen_of_row wr b k cs 4 hb
      have HB := Lib.hid hb
      have HC := Lib.hid hc
      clear hb hc
      go_wp2
      go_roundw
      case rel =>
        refine ⟨k + 1, by omega, by go_num, ⟨_, heap_setCell_same wr b k cs 4 _ HB.out, by rw [Array.size_setIfInBounds]; exact HC.out⟩, ?_⟩
        exact ⟨hg.os, hg.tape, hg.output, by simp [World.setCell]; exact hg.size, fun i hi hne => by
          rw [Below.heap_setCell _ _ _ _ (by intro e; exact hne (by rw [e]))]; exact hg.block i hi hne⟩
      case measure => simp [intOf]; omega
    · obtain rfl : k = n + 2 := by omega
      go_wp2
      go_end0
      exact ⟨rfl, hg⟩
end Go.Proofs.Ytfbjjblgcgjndaa

/- The pair's calls: what each tells and leaves. -/
namespace Go.Proofs.Ytfbjjblgcgjndaa
open Go.RowKit

def ArgIn (n0 : Nat) (w : World) (a : ActD) : Prop := ∃ w0, a.Ok w0 ∧ w0.heap.size ≤ n0 ∧ Below w0.heap.size w0 w
theorem ArgIn.ok {n0 : Nat} {w : World} {a : ActD} (h : ArgIn n0 w a) : a.Ok w := by
  obtain ⟨w0, h1, _, h3⟩ := h
  exact h1.below h3
theorem ArgIn.step {n0 : Nat} {w w' : World} {a : ActD} (h : ArgIn n0 w a) (hb : Below n0 w w') : ArgIn n0 w' a := by
  obtain ⟨w0, h1, h2, h3⟩ := h
  exact ⟨w0, h1, h2, h3.trans ⟨hb.os, hb.tape, hb.output, hb.size, fun i hi => hb.block i (Nat.lt_of_lt_of_le hi h2)⟩⟩
/-- the act's box -/
def acell (a : ActD) : Nat → Value
  | 0 => .int .u8 (a.kind : Int)
  | 1 => .int .i64 a.num
  | 2 => .int .i64 a.of_
  | 3 => .slice a.data.A a.data.l.length a.data.c
  | _ => .slice a.keep.A a.keep.l.length a.keep.c
def ActAt (w : World) (q : Nat) (a : ActD) : Prop := RecAt w q 109 5 (acell a)
theorem ActAt.step {n0 : Nat} {X : Nat → Prop} {w w' : World} {q : Nat} {a : ActD} (h : ActAt w q a) (hs : Step n0 X w w') (hq : X q) : ActAt w' q a := RecAt.keep h hs.1 (fun e => e hq)
theorem ActAt.below {w w' : World} {q : Nat} {a : ActD} (h : ActAt w q a) (hb : Below w.heap.size w w') : ActAt w' q a := RecAt.keep (G := fun _ => False) h (.of_below hb) (fun e => e)
section
variable {n0 : Nat} {w : World} {pp d r b : Nat} {D E : Dsk} {K k : Nat} {X : Nat → Prop}
def PxRead (n0 : Nat) (w : World) (pp d r b : Nat) (E : Dsk) (K : Nat) (X : Nat → Prop) (q : Nat × List Nat × Dsk) (e : Ending) (w' : World) : Prop :=
  ∃ A, e = .returned (.tuple #[.slice A q.2.1.length q.2.1.length, .int .u16 (q.1 : Nat)]) ∧ Clip w.heap.size w' A q.2.1 ∧ PairX n0 w' pp d r b q.2.2 E K (fun g => X g ∨ blk (.slice A q.2.1.length q.2.1.length) g) ∧ Step n0 X w w'
theorem clip_new {n0 : Nat} {w : World} {A : Option Addr} {l : List Nat} {n c : Nat} (h : Clip n0 w A l) : ∀ g, blk (.slice A n c) g → n0 ≤ g ∧ g < w.heap.size := fun g hg => by
  cases A with
  | none => cases hg
  | some a => cases hg; exact h.base a rfl
theorem px_read (h : PairX n0 w pp d r b D E K X) (pg : Int) (hs : Small D k) (hk : k ≤ 100000000) : Calls Try.prog 52 #[.pointer (some ⟨d, 0, none⟩), .int .i64 pg] w (PxRead n0 w pp d r b E K X (D.read pg)) := by
  obtain ⟨S, hd, _, _, hst⟩ := h.disk
  refine (dg_read hd pg (hs.c hk) (hs.m hk 1)).mono ?_
  rintro e w' ⟨A, rfl, hcl, hd', hc⟩
  obtain ⟨h1, h2⟩ := hst w' _ (blk (.slice A (D.read pg).2.1.length (D.read pg).2.1.length)) hd' hc (clip_new hcl)
  exact ⟨A, rfl, hcl, h1, h2⟩
def PxRRead (n0 : Nat) (w : World) (pp d r b : Nat) (D : Dsk) (K : Nat) (X : Nat → Prop) (q : Nat × List Nat × Dsk) (e : Ending) (w' : World) : Prop :=
  ∃ A c, e = .returned (.tuple #[.slice A q.2.1.length c, .int .u16 (q.1 : Nat)]) ∧ Buf w.heap.size w' (.slice A q.2.1.length c) q.2.1 ∧ PairX n0 w' pp d r b D q.2.2 K (fun g => X g ∨ blk (.slice A q.2.1.length c) g) ∧ Step n0 X w w'
theorem px_rread (h : PairX n0 w pp d r b D E K X) (pg : Int) (hs : Small E k) (hk : k ≤ 100000000) : Calls Try.prog 151 #[.pointer (some ⟨r, 0, none⟩), .int .i64 pg] w (PxRRead n0 w pp d r b D K X (E.read pg)) := by
  obtain ⟨S, hd, _, _, _, hst⟩ := h.ref
  refine (rread_any hd pg (hs.c hk) (hs.m hk 1)).mono ?_
  rintro e w' ⟨A, c, rfl, hcl, hd', hc⟩
  obtain ⟨h1, h2⟩ := hst w' _ (blk (.slice A (E.read pg).2.1.length c)) hd' hc (fun g hg => row_lt hcl hg)
  exact ⟨A, c, rfl, hcl, h1, h2⟩
theorem px_bytes (h : PairX n0 w pp d r b D E K X) (A : Option Addr) (n c : Nat) (xs : List Value) (X0 : Nat → Prop) (hX0 : ∀ g, X0 g → X g ∧ ¬ blk (.slice A n c) g) (hv : ∀ g, blk (.slice A n c) g → n0 ≤ g ∧ X g) (hr : Rw n0 5 w (.slice A n c) n xs) (hn : n ≤ 1000000000000) (hK : K < 1000000000000) :
    Calls Try.prog 65 #[.pointer (some ⟨b, 0, none⟩), .slice A n c] w fun e w' => e = .returned (.tuple #[]) ∧ PairX n0 w' pp d r b D E (K + 1) X0 ∧ Step n0 X w w' :=
  h.put (.slice A n c) X0 hX0 hv fun B hb hG hn0 => bytes_putc A n c xs hb hr hG hn hn0 hK
theorem px_ints (h : PairX n0 w pp d r b D E K X) (A : Option Addr) (n c : Nat) (xs : List Value) (X0 : Nat → Prop) (hX0 : ∀ g, X0 g → X g ∧ ¬ blk (.slice A n c) g) (hv : ∀ g, blk (.slice A n c) g → n0 ≤ g ∧ X g) (hr : w.ownsRow n0 3 1 (.slice A n c) n xs) (hn : n ≤ 1000000000000) (hK : K < 1000000000000) :
    Calls Try.prog 158 #[.pointer (some ⟨b, 0, none⟩), .slice A n c] w fun e w' => e = .returned (.tuple #[]) ∧ PairX n0 w' pp d r b D E (K + 1) X0 ∧ Step n0 X w w' :=
  h.put (.slice A n c) X0 hX0 hv fun B hb hG hn0 => ints_put A n c xs hb hr hG hn hn0 hK
def PxGives (n0 : Nat) (w : World) (pp d r b : Nat) (D E : Dsk) (K : Nat) (X : Nat → Prop) (v : Value) (e : Ending) (w' : World) : Prop := e = .returned v ∧ PairX n0 w' pp d r b D E K X ∧ Step n0 X w w'
theorem px_write (h : PairX n0 w pp d r b D E K X) (pg : Int) (A : Option Addr) (c : Nat) (l : List Nat) (hr : Inner.Ok w ⟨A, l, c⟩) (hA : ∀ a, A = some a → X a.block) (hs : Small D k) (hk : k ≤ 100000000) :
    Calls Try.prog 48 #[.pointer (some ⟨d, 0, none⟩), .int .i64 pg, .slice A l.length c] w (PxGives n0 w pp d r b (D.write pg l).2 E K X (.int .u16 ((D.write pg l).1 : Nat))) := by
  obtain ⟨S, hd, hx, hst, _⟩ := h.disk
  refine (dg_write hd hd.new_n pg A c l hr (fun a ha => hx _ (hA a ha)) (hs.c hk) (hs.m hk 2)).mono ?_
  rintro e w' ⟨rfl, hN⟩
  obtain ⟨h1, h2⟩ := hst w' _ hN
  exact ⟨rfl, h1, h2⟩
theorem px_rwrite (h : PairX n0 w pp d r b D E K X) (pg : Int) (a : ActD) (ha : ArgIn n0 w a) (hs : Small E k) (hk : k ≤ 100000000) :
    Calls Try.prog 152 #[.pointer (some ⟨r, 0, none⟩), .int .i64 pg, .slice a.data.A a.data.l.length a.data.c] w (PxGives n0 w pp d r b D (E.write pg a.data.l).2 K X (.int .u16 ((E.write pg a.data.l).1 : Nat))) := by
  obtain ⟨S, hd, hx, hSn, hst, _⟩ := h.ref
  have hok := ha.ok.data
  refine (rwrite_any hd pg a.data.A a.data.c a.data.l h.n_le (fun w' hc => (ha.step (hc.below h.n_le hSn)).ok.data.lies) hok.le hok.bytes (Nat.le_trans hok.small (by omega)) (hs.c hk) (hs.m hk 2)).mono ?_
  rintro e w' ⟨rfl, hN⟩
  obtain ⟨h1, h2⟩ := hst w' _ hN
  exact ⟨rfl, h1, h2⟩
theorem px_sync (h : PairX n0 w pp d r b D E K X) (hs : Small D k) (hk : k ≤ 100000000) : Calls Try.prog 50 #[.pointer (some ⟨d, 0, none⟩)] w (PxGives n0 w pp d r b D.sync.2 E K X (.int .u16 (D.sync.1 : Nat))) := by
  obtain ⟨S, hd, hx, hst, _⟩ := h.disk
  refine (dg_sync hd hd.new_n (hs.c hk) (hs.m hk 3)).mono ?_
  rintro e w' ⟨rfl, hN⟩
  exact ⟨rfl, hst w' _ hN⟩
theorem RD.rnow {n0 : Nat} {w w' : World} {r : Nat} {E : Dsk} {S : Nat → Prop} (h : RD n0 w' r E S) (hc : Chg S w w') : RNow n0 w r S E w' := ⟨S, h, Grows.refl _ _, hc⟩
theorem px_rsync (h : PairX n0 w pp d r b D E K X) (hs : Small E k) (hk : k ≤ 100000000) : Calls Try.prog 153 #[.pointer (some ⟨r, 0, none⟩)] w (PxGives n0 w pp d r b D E.sync.2 K X (.int .u16 (E.sync.1 : Nat))) := by
  obtain ⟨S, hd, hx, _, hst, _⟩ := h.ref
  refine (rsync_any hd (hs.c hk) (hs.m hk 3)).mono ?_
  rintro e w' ⟨rfl, h1, h2⟩
  exact ⟨rfl, hst w' _ (h1.rnow h2)⟩
theorem px_cut (h : PairX n0 w pp d r b D E K X) (A : Option Addr) (c : Nat) (bl : List Bool) (hB : At w A (bs bl)) (hA : ∀ a, A = some a → X a.block) (hs : Small D k) (hk : k ≤ 100000000) :
    Calls Try.prog 51 #[.pointer (some ⟨d, 0, none⟩), .slice A bl.length c] w (PxGives n0 w pp d r b (D.cut bl) E K X (.tuple #[])) := by
  obtain ⟨S, hd, hx, hst, _⟩ := h.disk
  refine (dg_cut hd hd.new_n A c bl (hs.c hk) (fun w' hc => hB.chg hc (fun a ha => hx _ (hA a ha)))).mono ?_
  rintro e w' ⟨rfl, hN⟩
  exact ⟨rfl, hst w' _ hN⟩
theorem px_rcut (h : PairX n0 w pp d r b D E K X) (a : ActD) (ha : ArgIn n0 w a) (hs : Small E k) (hk : k ≤ 100000000) :
    Calls Try.prog 155 #[.pointer (some ⟨r, 0, none⟩), .slice a.keep.A a.keep.l.length a.keep.c] w (PxGives n0 w pp d r b D (E.cut a.keep.l) K X (.tuple #[])) := by
  obtain ⟨S, hd, hx, hSn, hst, _⟩ := h.ref
  refine (rcut_any hd a.keep.A a.keep.c a.keep.l h.n_le (hs.c hk) (fun w' hc => (ha.step (hc.below h.n_le hSn)).ok.keep.lies) (Nat.le_trans ha.ok.keep.small (by omega))).mono ?_
  rintro e w' ⟨rfl, hN⟩
  exact ⟨rfl, hst w' _ hN⟩
theorem px_trip (h : PairX n0 w pp d r b D E K X) (n : Int) (hn : n ≤ 9223372036854775807) : Calls Try.prog 53 #[.pointer (some ⟨d, 0, none⟩), .int .i64 n] w (PxGives n0 w pp d r b (D.setTrip n).2 E K X (.int .u16 ((D.setTrip n).1 : Nat))) := by
  obtain ⟨S, hd, hx, hst, _⟩ := h.disk
  refine (dg_trip hd hd.new_n n hn).mono ?_
  rintro e w' ⟨rfl, hN⟩
  exact ⟨rfl, hst w' _ hN⟩
theorem px_rtrip (h : PairX n0 w pp d r b D E K X) (n : Int) (hn : n ≤ 9223372036854775807) : Calls Try.prog 161 #[.pointer (some ⟨r, 0, none⟩), .int .i64 n] w (PxGives n0 w pp d r b D (E.setTrip n).2 K X (.int .u16 ((E.setTrip n).1 : Nat))) := by
  obtain ⟨S, hd, hx, _, hst, _⟩ := h.ref
  refine (rtrip_any hd n hn).mono ?_
  rintro e w' ⟨rfl, h1, h2⟩
  exact ⟨rfl, hst w' _ (h1.rnow h2)⟩
theorem px_fail (h : PairX n0 w pp d r b D E K X) (o n : Int) (hn : n ≤ 9223372036854775807) : Calls Try.prog 58 #[.pointer (some ⟨d, 0, none⟩), .int .i64 o, .int .i64 n] w (PxGives n0 w pp d r b (D.setFail o n).2 E K X (.int .u16 ((D.setFail o n).1 : Nat))) := by
  obtain ⟨S, hd, hx, hst, _⟩ := h.disk
  refine (dg_fail hd hd.new_n o n hn).mono ?_
  rintro e w' ⟨rfl, hN⟩
  exact ⟨rfl, hst w' _ hN⟩
theorem px_rfail (h : PairX n0 w pp d r b D E K X) (o n : Int) (hn : n ≤ 9223372036854775807) : Calls Try.prog 162 #[.pointer (some ⟨r, 0, none⟩), .int .i64 o, .int .i64 n] w (PxGives n0 w pp d r b D (E.setFail o n).2 K X (.int .u16 ((E.setFail o n).1 : Nat))) := by
  obtain ⟨S, hd, hx, _, hst, _⟩ := h.ref
  refine (rfail_any hd o n hn).mono ?_
  rintro e w' ⟨rfl, h1, h2⟩
  exact ⟨rfl, hst w' _ (h1.rnow h2)⟩
end
end Go.Proofs.Ytfbjjblgcgjndaa

/- Walk of the pair's does: a read. -/
namespace Go.Proofs.Ytfbjjblgcgjndaa
open Go.RowKit

def DoesGives (n0 : Nat) (w : World) (pp d r b K k : Nat) (e : Ending) (w' : World) : Prop :=
  e = .returned (.bool true) ∧ ∃ D, Small D k ∧ PairX n0 w' pp d r b D D K (fun _ => False) ∧ Below n0 w w'
def actV (a : ActD) : Value := .agg #[.int .u8 (a.kind : Int), .int .i64 a.num, .int .i64 a.of_, .slice a.data.A a.data.l.length a.data.c, .slice a.keep.A a.keep.l.length a.keep.c]
/-- the act is boxed -/
theorem does_start {n0 : Nat} {w : World} {pp d r b : Nat} {D : Dsk} {K : Nat} (h : PairX n0 w pp d r b D D K (fun _ => False)) (a : ActD) (w1 : World) (hw : w1 = w.alloc (.cells #[.int .u8 (a.kind : Int), .int .i64 a.num, .int .i64 a.of_, .slice a.data.A a.data.l.length a.data.c, .slice a.keep.A a.keep.l.length a.keep.c] 109)) :
    PairX n0 w1 pp d r b D D K (fun g => g = w.heap.size) ∧ ActAt w1 w.heap.size a ∧ Below w.heap.size w w1 := by
  have hb : Below w.heap.size w w1 := by rw [hw]; exact below_alloc0 (Below.refl _ _) _
  refine ⟨(h.also hb (Y := fun g => g = w.heap.size) (fun g hg => ⟨by omega, by rw [hw]; simp; omega⟩)).less (fun g hg => .inr hg), ?_, hb⟩
  exact RecAt.of (by rw [hw]; exact heap_alloc_new w _) (by simp [lst, acell, List.range_succ])
theorem PairX.read_len {n0 : Nat} {w : World} {pp d r b : Nat} {D E : Dsk} {K : Nat} {X : Nat → Prop} (h : PairX n0 w pp d r b D E K X) (pg : Int) : (D.read pg).2.1.length ≤ 1024 := by
  obtain ⟨Sd, Sr, B, h, _⟩ := h
  have ok := h.disk.ok
  unfold Dsk.read
  split
  · simp
  · split
    · simp
    · rename_i h2
      obtain ⟨p, a, b, c⟩ := ok.pages
      have hp : D.pages = p := by unfold Dsk.pages; omega
      have := (D.secs_ok ok (8 * pg.toNat) 8 (by omega)).1
      simp only [this]; omega
set_option maxRecDepth 100000 in
set_option maxHeartbeats 4000000 in
theorem does_0 {n0 : Nat} {w : World} {pp d r b : Nat} {D : Dsk} {K k : Nat} (h : PairX n0 w pp d r b D D K (fun _ => False)) (hs : Small D k) (hk : k ≤ 10000000) (hK : K ≤ 100000000) (a : ActD) (ha : ArgIn n0 w a) (hkd : a.kind % 9 = 0) :
    Calls Try.prog 129 #[.pointer (some ⟨pp, 0, none⟩), actV a] w (DoesGives n0 w pp d r b (K + 1) (k + 1)) := by
  have hn0 := h.n_le
  obtain ⟨w1, hw1⟩ : ∃ w1, w1 = w.alloc (.cells #[.int .u8 (a.kind : Int), .int .i64 a.num, .int .i64 a.of_, .slice a.data.A a.data.l.length a.data.c, .slice a.keep.A a.keep.l.length a.keep.c] 109) := ⟨_, rfl⟩
  obtain ⟨h1, hq, hb1⟩ := does_start h a w1 hw1
  have hsz : w.heap.size ≤ w1.heap.size := hb1.size
  have g1 : ((a.kind : Int) % 9 == 0) = true := by simp; omega
  have g2 : (a.kind : Int) % 9 = 0 := by omega
  have hki := ha.ok.kind
  have H1 := Lib.hid h1
  have HQ := Lib.hid hq
  have HB1 := Lib.hid hb1
  have HA := Lib.hid ha
  have HS := Lib.hid hs
  have c0 : w1.cell? ⟨w.heap.size, 0, none⟩ = some (.int .u8 (a.kind : Int)) := RecAt.cell hq 0 (by omega)
  unfold actV
  obtain ⟨kd, hkk⟩ : ∃ kd, kd = a.kind := ⟨_, rfl⟩
  rw [← hkk] at g1 g2 hki hkd c0 hw1 ⊢
  have HW1 := Lib.hid hw1
  have HN0 := Lib.hid hn0
  have HRL := Lib.hid (h1.read_len a.num)
  have HKK := Lib.hid hkk
  clear h h1 hq hb1 ha hs hw1 hkk
  go_enter Try.func129, Try.ntmps129
  go_wp2_with fail
  rw [← HW1.out]
  go_wp2_with fail
  have q1 : w1.cell? ⟨w.heap.size, 1, none⟩ = some (.int .i64 a.num) := RecAt.cell HQ.out 1 (by omega)
  have q0 : w1.cell? ⟨pp, 0, none⟩ = some (.pointer (some ⟨d, 0, none⟩)) := H1.out.cells.1
  have H2 := Lib.hid (px_read (H1.out.below (below_drew0 (Below.refl _ w1))) a.num HS.out (by omega))
  have HQ2 := Lib.hid (HQ.out.below (below_drew0 (Below.refl _ w1)))
  have HB2 := Lib.hid (below_drew0 HB1.out)
  generalize hrd : D.read a.num = q at *
  have HRD := Lib.hid hrd
  clear hrd c0
  go_region_held3 (fun W' => W'.cell? ⟨w.heap.size, 1, none⟩ = some (.int .i64 a.num) ∧ W'.cell? ⟨pp, 0, none⟩ = some (.pointer (some ⟨d, 0, none⟩))) (first | exact ⟨q1, q0⟩ | exact ⟨RecAt.cell HQ3.out 1 (by omega), H3.out.cells.1⟩ | assumption)
    (first | (go_at_call 52; refine H2.out.mono ?_; rintro e w3 ⟨A3, rfl, hcl, h3, hs3⟩; have HQ3 := Lib.hid (HQ2.out.step hs3 rfl); have H3 := Lib.hid h3; have HC3 := Lib.hid hcl; have HS3 := Lib.hid hs3; clear h3 hcl hs3))
  go_wp2_with fail
  clear q1 q0 H2 HQ2
  have q1 : w3.cell? ⟨w.heap.size, 1, none⟩ = some (.int .i64 a.num) := RecAt.cell HQ3.out 1 (by omega)
  have q0 : w3.cell? ⟨pp, 1, none⟩ = some (.pointer (some ⟨r, 0, none⟩)) := H3.out.cells.2.1
  have hrr := px_rread (H3.out.below (below_drew0 (Below.refl _ w3))) a.num HS.out (by omega)
  rw [HRD.out] at hrr
  have H4 := Lib.hid hrr
  have HQ4 := Lib.hid (HQ3.out.below (below_drew0 (Below.refl _ w3)))
  have HC4 := Lib.hid (HC3.out.below (below_drew0 (Below.refl _ w3)))
  have HB3 := Lib.hid (below_drew0 (Below.refl w3.heap.size w3))
  clear hrr
  go_region_held3 (fun W' => W'.cell? ⟨w.heap.size, 1, none⟩ = some (.int .i64 a.num) ∧ W'.cell? ⟨pp, 1, none⟩ = some (.pointer (some ⟨r, 0, none⟩))) (first | exact ⟨q1, q0⟩ | exact ⟨RecAt.cell HQ5.out 1 (by omega), H5.out.cells.2.1⟩ | assumption)
    (first | (go_at_call 151; refine H4.out.mono ?_; rintro e w5 ⟨A5, c5, rfl, hcl, h5, hs5⟩; have HQ5 := Lib.hid (HQ4.out.step hs5 (.inl rfl)); have H5 := Lib.hid h5; have HR5 := Lib.hid hcl; have HS5 := Lib.hid hs5; clear h5 hcl hs5))
  clear q1 q0
  have q2 : w5.cell? ⟨pp, 2, none⟩ = some (.pointer (some ⟨b, 0, none⟩)) := H5.out.cells.2.2
  have hql : q.2.1.length ≤ 1024 := HRL.out
  have hbk := px_bytes H5.out A3 q.2.1.length q.2.1.length (ns .u8 q.2.1) (fun _ => False) (fun g h => h.elim) (fun g hg => ⟨Nat.le_trans (Nat.le_trans HN0.out HB2.out.size) (clip_new HC3.out g hg).1, .inl (.inr hg)⟩) (((HC4.out.rw).chg HS5.out.1 (fun g hg e => e (.inr hg))).up (fun g hg => Nat.le_trans (Nat.le_trans HN0.out HB2.out.size) (clip_new HC3.out g hg).1)) (by omega) (by omega)
  have HBK := Lib.hid hbk
  clear hbk
  go_wp2_with fail
  refine HBK.out.mono ?_
  rintro e w6 ⟨rfl, h6, hs6⟩
  have hA3 := ((HC4.out.at).chg HS5.out.1 (fun g hg e => e (.inr (by rw [hg]; rfl)))).chg hs6.1 (fun g hg e => e (.inl (.inr (by rw [hg]; rfl))))
  have hA5 := (buf_at HR5.out).2.chg hs6.1 (fun g hg e => e (.inr (by rw [hg]; rfl)))
  have HSE := Lib.hid (same_eq A3 A5 q.2.1.length q.2.1.length q.2.1.length c5 q.2.1 q.2.1 w6 rfl rfl (by omega) rfl hA3 hA5)
  have H6 := Lib.hid h6
  have HS6 := Lib.hid hs6
  clear hA3 hA5 h6 hs6 q2
  go_wp2_with fail
  refine HSE.out.mono ?_
  rintro e w7 ⟨rfl, hb7⟩
  go_wp2_with fail
  go_ret
  refine ⟨rfl, q.2.2, ?_, H6.out.below hb7, ?_⟩
  · rw [← HRD.out]; exact HS.out.read _
  · have b2 : Below n0 w w1.drew := ⟨HB2.out.os, HB2.out.tape, HB2.out.output, HB2.out.size, fun i hi => HB2.out.block i (Nat.lt_of_lt_of_le hi HN0.out)⟩
    exact ((((b2.trans HS3.out.2).trans (Step.of_below (X := fun _ => False) HB3.out H3.out.n_le).2).trans HS5.out.2).trans HS6.out.2).trans (Step.of_below (X := fun _ => False) hb7 H6.out.n_le).2
end Go.Proofs.Ytfbjjblgcgjndaa

/- Walk of the pair's does: a write. -/
namespace Go.Proofs.Ytfbjjblgcgjndaa
open Go.RowKit

theorem BookOk.more {n0 : Nat} {w : World} {b K K' : Nat} {S R : Nat → Prop} (h : BookOk n0 w b K S R) (hK : K ≤ K') : BookOk n0 w b K' S R := by
  obtain ⟨F, k, u, n, c, h1, h2, h3, h4, h5, h6⟩ := h
  exact ⟨F, k, u, n, c, h1, h2, fun j => Nat.le_trans (h3 j) hK, h4, h5, h6⟩
theorem PairX.moreK {n0 : Nat} {w : World} {pp d r b : Nat} {D E : Dsk} {K K' : Nat} {X : Nat → Prop} (h : PairX n0 w pp d r b D E K X) (hK : K ≤ K') : PairX n0 w pp d r b D E K' X := by
  obtain ⟨Sd, Sr, B, h, hx⟩ := h
  exact ⟨Sd, Sr, B, ⟨h.rcd, h.base, h.disk, h.ref, h.book.more hK, h.blt, h.sep⟩, hx⟩
theorem LentB.step {n0 : Nat} {X : Nat → Prop} {w w' : World} {b : Nat} {l : List Nat} (h : LentB w b l) (hs : Step n0 X w w') (hb : X b) : LentB w' b l := by
  have : b < w.heap.size := (Array.getElem?_eq_some_iff.1 h).1
  unfold LentB; rw [hs.1.block b this (fun e => e hb)]; exact h
theorem LentBo.step {n0 : Nat} {X : Nat → Prop} {w w' : World} {b : Nat} {l : List Bool} (h : LentBo w b l) (hs : Step n0 X w w') (hb : X b) : LentBo w' b l := by
  have : b < w.heap.size := (Array.getElem?_eq_some_iff.1 h).1
  unfold LentBo; rw [hs.1.block b this (fun e => e hb)]; exact h
section
variable {n0 : Nat} {w : World} {pp d r b : Nat} {D E : Dsk} {K k : Nat} {X : Nat → Prop}
theorem px_pending (h : PairX n0 w pp d r b D E K X) (hs : Small D k) (hk : k ≤ 100000000) : Calls Try.prog 55 #[.pointer (some ⟨d, 0, none⟩)] w (GivesInts (D.cache.map (·.1)) w) := by
  obtain ⟨S, hd, _⟩ := h.disk
  exact dg_pending hd (hs.c hk)
theorem px_rpending (h : PairX n0 w pp d r b D E K X) (hs : Small E k) (hk : k ≤ 100000000) : Calls Try.prog 159 #[.pointer (some ⟨r, 0, none⟩)] w (GivesInts (E.cache.map (·.1)) w) := by
  obtain ⟨S, hd, _⟩ := h.ref
  exact rpending_any hd (hs.c hk)
theorem px_image (h : PairX n0 w pp d r b D E K X) : Calls Try.prog 57 #[.pointer (some ⟨d, 0, none⟩)] w (GivesFill D.last.flatten w) := by
  obtain ⟨S, hd, _⟩ := h.disk
  exact dg_image hd
theorem px_rimage (h : PairX n0 w pp d r b D E K X) : Calls Try.prog 160 #[.pointer (some ⟨r, 0, none⟩)] w (GivesFill E.last.flatten w) := by
  obtain ⟨S, hd, _⟩ := h.ref
  exact rimage_any hd
theorem buf_at2 {n0 n c : Nat} {w : World} {A : Option Addr} {l : List Nat} (h : Buf n0 w (.slice A n c) l) : At w A (ns .u8 l) := (buf_at h).2
theorem PairX.last_small (h : PairX n0 w pp d r b D E K X) : D.last.flatten.length ≤ 16777216 := by
  obtain ⟨Sd, Sr, B, h, _⟩ := h
  have ok := h.disk.ok
  rw [rows_length (m := 128) (fun s hs => (ok.last s hs).1)]
  obtain ⟨p, h1, h2, h3⟩ := ok.pages
  omega
end
set_option maxRecDepth 100000 in
set_option maxHeartbeats 4000000 in
theorem does_1 {n0 : Nat} {w : World} {pp d r b : Nat} {D : Dsk} {K k : Nat} (h : PairX n0 w pp d r b D D K (fun _ => False)) (hs : Small D k) (hk : k ≤ 10000000) (hK : K ≤ 100000000) (a : ActD) (ha : ArgIn n0 w a) (hsm : a.data.l.length ≤ 2000000 ∧ a.keep.l.length ≤ 2000000) (hkd : a.kind % 9 = 1) :
    Calls Try.prog 129 #[.pointer (some ⟨pp, 0, none⟩), actV a] w (DoesGives n0 w pp d r b (K + 1) (k + 1)) := by
  have hn0 := h.n_le
  obtain ⟨w1, hw1⟩ : ∃ w1, w1 = w.alloc (.cells #[.int .u8 (a.kind : Int), .int .i64 a.num, .int .i64 a.of_, .slice a.data.A a.data.l.length a.data.c, .slice a.keep.A a.keep.l.length a.keep.c] 109) := ⟨_, rfl⟩
  obtain ⟨h1, hq, hb1⟩ := does_start h a w1 hw1
  have hsz : w.heap.size ≤ w1.heap.size := hb1.size
  have e0 : ((a.kind : Int) % 9 == 0) = false := by simp; omega
  have n0 : ¬ (a.kind : Int) % 9 = 0 := by omega
  have g1 : ((a.kind : Int) % 9 == 1) = true := by simp; omega
  have g2 : (a.kind : Int) % 9 = 1 := by omega
  have hki := ha.ok.kind
  have H1 := Lib.hid h1
  have HQ := Lib.hid hq
  have HA := Lib.hid (ha.step (Step.of_below (X := fun _ => False) hb1 hn0).2)
  have HB1 := Lib.hid (Step.of_below (X := fun _ => False) hb1 hn0).2
  have HS := Lib.hid hs
  have HSM := Lib.hid hsm
  have c0 : w1.cell? ⟨w.heap.size, 0, none⟩ = some (.int .u8 (a.kind : Int)) := RecAt.cell hq 0 (by omega)
  unfold actV
  obtain ⟨kd, hkk⟩ : ∃ kd, kd = a.kind := ⟨_, rfl⟩
  rw [← hkk] at e0 n0 g1 g2 hki hkd c0 hw1 ⊢
  have HW1 := Lib.hid hw1
  have HN0 := Lib.hid hn0
  have HKK := Lib.hid hkk
  clear h h1 hq hb1 ha hs hw1 hkk hsm hn0
  go_enter Try.func129, Try.ntmps129
  go_wp2_with fail
  rw [← HW1.out]
  go_wp2_with fail
  have q3 : w1.cell? ⟨w.heap.size, 3, none⟩ = some (.slice a.data.A a.data.l.length a.data.c) := RecAt.cell HQ.out 3 (by omega)
  have HLT := Lib.hid (lent_any a.data.A a.data.c a.data.l w1 (by have := HSM.out.1; omega) HA.out.ok.data.lies HA.out.ok.data.nil)
  go_wp2_with fail
  refine HLT.out.mono ?_
  rintro e w2 ⟨rfl, hl2, hb2⟩
  obtain ⟨g2', hg2⟩ : ∃ g2', g2' = w1.heap.size := ⟨_, rfl⟩
  rw [← hg2] at hl2
  have hx2 := (H1.out.also hb2 (Y := fun g => g = w1.heap.size) (fun g hg => ⟨by omega, by have := (Array.getElem?_eq_some_iff.1 hl2).1; omega⟩))
  rw [← hg2] at hx2
  have H2 := Lib.hid hx2
  have HQ2 := Lib.hid (HQ.out.below hb2)
  have HL2 := Lib.hid hl2
  have HB2 := Lib.hid (HB1.out.trans (Step.of_below (X := fun _ => False) hb2 H1.out.n_le).2)
  have HA2 := Lib.hid (HA.out.step (Step.of_below (X := fun _ => False) hb2 H1.out.n_le).2)
  rw [← hg2]
  have HG2 := Lib.hid hg2
  clear hl2 hb2 hx2 q3 c0 HLT hg2
  go_wp2_with fail
  have q1 : w2.cell? ⟨w.heap.size, 1, none⟩ = some (.int .i64 a.num) := RecAt.cell HQ2.out 1 (by omega)
  have p0 : w2.cell? ⟨pp, 0, none⟩ = some (.pointer (some ⟨d, 0, none⟩)) := H2.out.cells.1
  have hok := HA2.out.ok.data
  have hwr := px_write (H2.out.below (below_drew0 (Below.refl _ w2))) a.num (some ⟨g2', 0, none⟩) (a.data.l.length + 2) a.data.l ⟨(HL2.out.below (below_drew0 (Below.refl _ w2))).at, fun e => (by cases e), (by simp only; omega), hok.small, hok.bytes⟩ (fun x hx => (by cases hx; exact .inr rfl)) HS.out (by omega)
  clear hok
  generalize hD1 : D.write a.num a.data.l = D1 at *
  have HD1 := Lib.hid hD1
  have H3 := Lib.hid hwr
  have HQ3 := Lib.hid (HQ2.out.below (below_drew0 (Below.refl _ w2)))
  have HL3 := Lib.hid (HL2.out.below (below_drew0 (Below.refl _ w2)))
  have HB3 := Lib.hid (below_drewN HB2.out 1)
  have HA3 := Lib.hid (HA2.out.step (Step.of_below (X := fun _ => False) (below_drew0 (Below.refl _ w2)) H2.out.n_le).2)
  clear hwr hD1
  go_region_held3 (fun W' => W'.cell? ⟨w.heap.size, 1, none⟩ = some (.int .i64 a.num) ∧ W'.cell? ⟨pp, 0, none⟩ = some (.pointer (some ⟨d, 0, none⟩))) (first | exact ⟨q1, p0⟩ | exact ⟨RecAt.cell HQ4.out 1 (by omega), H4.out.cells.1⟩ | assumption)
    (first | (go_at_call 48; refine H3.out.mono ?_; rintro e w4 ⟨rfl, h4, hs4⟩; have HQ4 := Lib.hid (HQ3.out.step hs4 (.inl rfl)); have H4 := Lib.hid h4; have HS4 := Lib.hid hs4; clear h4 hs4))
  have HL4 := Lib.hid (HL3.out.step HS4.out (.inr rfl))
  have HB4 := Lib.hid (HB3.out.trans HS4.out.2)
  have HA4 := Lib.hid (HA3.out.step HS4.out.2)
  go_wp2_with fail
  clear q1 p0 H3
  have q1 : w4.cell? ⟨w.heap.size, 1, none⟩ = some (.int .i64 a.num) := RecAt.cell HQ4.out 1 (by omega)
  have p1 : w4.cell? ⟨pp, 1, none⟩ = some (.pointer (some ⟨r, 0, none⟩)) := H4.out.cells.2.1
  have q3 : w4.cell? ⟨w.heap.size, 3, none⟩ = some (.slice a.data.A a.data.l.length a.data.c) := RecAt.cell HQ4.out 3 (by omega)
  have hwr := px_rwrite (H4.out.below (below_drew0 (Below.refl _ w4))) a.num a (HA4.out.step (Step.of_below (X := fun _ => False) (below_drew0 (Below.refl _ w4)) H4.out.n_le).2) HS.out (by omega)
  rw [HD1.out] at hwr
  have H5 := Lib.hid hwr
  have HQ5 := Lib.hid (HQ4.out.below (below_drew0 (Below.refl _ w4)))
  have HL5 := Lib.hid (HL4.out.below (below_drew0 (Below.refl _ w4)))
  have HB5 := Lib.hid (below_drewN HB4.out 1)
  have HA5 := Lib.hid (HA4.out.step (Step.of_below (X := fun _ => False) (below_drew0 (Below.refl _ w4)) H4.out.n_le).2)
  clear hwr
  go_region_held3 (fun W' => W'.cell? ⟨w.heap.size, 1, none⟩ = some (.int .i64 a.num) ∧ W'.cell? ⟨pp, 1, none⟩ = some (.pointer (some ⟨r, 0, none⟩)) ∧ W'.cell? ⟨w.heap.size, 3, none⟩ = some (.slice a.data.A a.data.l.length a.data.c)) (first | exact ⟨q1, p1, q3⟩ | exact ⟨RecAt.cell HQ6.out 1 (by omega), H6.out.cells.2.1, RecAt.cell HQ6.out 3 (by omega)⟩ | assumption)
    (first | (go_at_call 152; refine H5.out.mono ?_; rintro e w6 ⟨rfl, h6, hs6⟩; have HQ6 := Lib.hid (HQ5.out.step hs6 (.inl rfl)); have H6 := Lib.hid h6; have HS6 := Lib.hid hs6; clear h6 hs6))
  have HL6 := Lib.hid (HL5.out.step HS6.out (.inr rfl))
  have HB6 := Lib.hid (HB5.out.trans HS6.out.2)
  have HA6 := Lib.hid (HA5.out.step HS6.out.2)
  clear q1 p1 q3 H5
  have q3 : w6.cell? ⟨w.heap.size, 3, none⟩ = some (.slice a.data.A a.data.l.length a.data.c) := RecAt.cell HQ6.out 3 (by omega)
  have HWH := Lib.hid (whole_any g2' a.data.A a.data.c a.data.l w6 (by have := HSM.out.1; omega) HL6.out HA6.out.ok.data.lies)
  go_wp2_with fail
  refine HWH.out.mono ?_
  rintro e w7 ⟨rfl, hb7⟩
  have HB7 := Lib.hid (HB6.out.trans (Step.of_below (X := fun _ => False) hb7 H6.out.n_le).2)
  have H7 := Lib.hid (H6.out.below hb7)
  have HSP := Lib.hid (spoil_any g2' a.data.l.length _ w7 (by have := HSM.out.1; omega) (HL6.out.below hb7) (by simp [ns]))
  clear hb7 q3 HWH
  go_wp2_with fail
  refine HSP.out.mono ?_
  rintro e w8 ⟨rfl, hg8⟩
  have hc8 : Chg (fun g => g = g2') w7 w8 := Chg.of_grown hg8 (fun g e => by cases e; rfl)
  have H8 := Lib.hid (H7.out.keep hc8 (fun g _ e => .inr e))
  have HB8 := Lib.hid (HB7.out.trans (hc8.below H7.out.n_le (fun g e => by have := HG2.out; have := H1.out.n_le; omega)))
  clear hg8 hc8
  go_wp2_with fail
  go_ret
  exact ⟨rfl, D1.2, by rw [← HD1.out]; exact HS.out.write _ _, (H8.out.less (fun g h => h.elim)).moreK (by omega), HB8.out⟩
end Go.Proofs.Ytfbjjblgcgjndaa

/- Walk of the pair's does: a write, the second kind. -/
namespace Go.Proofs.Ytfbjjblgcgjndaa
open Go.RowKit

set_option maxRecDepth 100000 in
set_option maxHeartbeats 4000000 in
theorem does_2 {n0 : Nat} {w : World} {pp d r b : Nat} {D : Dsk} {K k : Nat} (h : PairX n0 w pp d r b D D K (fun _ => False)) (hs : Small D k) (hk : k ≤ 10000000) (hK : K ≤ 100000000) (a : ActD) (ha : ArgIn n0 w a) (hsm : a.data.l.length ≤ 2000000 ∧ a.keep.l.length ≤ 2000000) (hkd : a.kind % 9 = 2) :
    Calls Try.prog 129 #[.pointer (some ⟨pp, 0, none⟩), actV a] w (DoesGives n0 w pp d r b (K + 1) (k + 1)) := by
  have hn0 := h.n_le
  obtain ⟨w1, hw1⟩ : ∃ w1, w1 = w.alloc (.cells #[.int .u8 (a.kind : Int), .int .i64 a.num, .int .i64 a.of_, .slice a.data.A a.data.l.length a.data.c, .slice a.keep.A a.keep.l.length a.keep.c] 109) := ⟨_, rfl⟩
  obtain ⟨h1, hq, hb1⟩ := does_start h a w1 hw1
  have hsz : w.heap.size ≤ w1.heap.size := hb1.size
  have e0 : ((a.kind : Int) % 9 == 0) = false := by simp; omega
  have n0 : ¬ (a.kind : Int) % 9 = 0 := by omega
  have e1 : ((a.kind : Int) % 9 == 1) = false := by simp; omega
  have n1 : ¬ (a.kind : Int) % 9 = 1 := by omega
  have g1 : ((a.kind : Int) % 9 == 2) = true := by simp; omega
  have g2 : (a.kind : Int) % 9 = 2 := by omega
  have hki := ha.ok.kind
  have H1 := Lib.hid h1
  have HQ := Lib.hid hq
  have HA := Lib.hid (ha.step (Step.of_below (X := fun _ => False) hb1 hn0).2)
  have HB1 := Lib.hid (Step.of_below (X := fun _ => False) hb1 hn0).2
  have HS := Lib.hid hs
  have HSM := Lib.hid hsm
  have c0 : w1.cell? ⟨w.heap.size, 0, none⟩ = some (.int .u8 (a.kind : Int)) := RecAt.cell hq 0 (by omega)
  unfold actV
  obtain ⟨kd, hkk⟩ : ∃ kd, kd = a.kind := ⟨_, rfl⟩
  rw [← hkk] at e0 n0 e1 n1 g1 g2 hki hkd c0 hw1 ⊢
  have HW1 := Lib.hid hw1
  have HN0 := Lib.hid hn0
  have HKK := Lib.hid hkk
  clear h h1 hq hb1 ha hs hw1 hkk hsm hn0
  go_enter Try.func129, Try.ntmps129
  go_wp2_with fail
  rw [← HW1.out]
  go_wp2_with fail
  have q3 : w1.cell? ⟨w.heap.size, 3, none⟩ = some (.slice a.data.A a.data.l.length a.data.c) := RecAt.cell HQ.out 3 (by omega)
  have HLT := Lib.hid (lent_any a.data.A a.data.c a.data.l w1 (by have := HSM.out.1; omega) HA.out.ok.data.lies HA.out.ok.data.nil)
  go_wp2_with fail
  refine HLT.out.mono ?_
  rintro e w2 ⟨rfl, hl2, hb2⟩
  obtain ⟨g2', hg2⟩ : ∃ g2', g2' = w1.heap.size := ⟨_, rfl⟩
  rw [← hg2] at hl2
  have hx2 := (H1.out.also hb2 (Y := fun g => g = w1.heap.size) (fun g hg => ⟨by omega, by have := (Array.getElem?_eq_some_iff.1 hl2).1; omega⟩))
  rw [← hg2] at hx2
  have H2 := Lib.hid hx2
  have HQ2 := Lib.hid (HQ.out.below hb2)
  have HL2 := Lib.hid hl2
  have HB2 := Lib.hid (HB1.out.trans (Step.of_below (X := fun _ => False) hb2 H1.out.n_le).2)
  have HA2 := Lib.hid (HA.out.step (Step.of_below (X := fun _ => False) hb2 H1.out.n_le).2)
  rw [← hg2]
  have HG2 := Lib.hid hg2
  clear hl2 hb2 hx2 q3 c0 HLT hg2
  go_wp2_with fail
  have q1 : w2.cell? ⟨w.heap.size, 1, none⟩ = some (.int .i64 a.num) := RecAt.cell HQ2.out 1 (by omega)
  have p0 : w2.cell? ⟨pp, 0, none⟩ = some (.pointer (some ⟨d, 0, none⟩)) := H2.out.cells.1
  have hok := HA2.out.ok.data
  have hwr := px_write (H2.out.below (below_drew0 (Below.refl _ w2))) a.num (some ⟨g2', 0, none⟩) (a.data.l.length + 2) a.data.l ⟨(HL2.out.below (below_drew0 (Below.refl _ w2))).at, fun e => (by cases e), (by simp only; omega), hok.small, hok.bytes⟩ (fun x hx => (by cases hx; exact .inr rfl)) HS.out (by omega)
  clear hok
  generalize hD1 : D.write a.num a.data.l = D1 at *
  have HD1 := Lib.hid hD1
  have H3 := Lib.hid hwr
  have HQ3 := Lib.hid (HQ2.out.below (below_drew0 (Below.refl _ w2)))
  have HL3 := Lib.hid (HL2.out.below (below_drew0 (Below.refl _ w2)))
  have HB3 := Lib.hid (below_drewN HB2.out 1)
  have HA3 := Lib.hid (HA2.out.step (Step.of_below (X := fun _ => False) (below_drew0 (Below.refl _ w2)) H2.out.n_le).2)
  clear hwr hD1
  go_region_held3 (fun W' => W'.cell? ⟨w.heap.size, 1, none⟩ = some (.int .i64 a.num) ∧ W'.cell? ⟨pp, 0, none⟩ = some (.pointer (some ⟨d, 0, none⟩))) (first | exact ⟨q1, p0⟩ | exact ⟨RecAt.cell HQ4.out 1 (by omega), H4.out.cells.1⟩ | assumption)
    (first | (go_at_call 48; refine H3.out.mono ?_; rintro e w4 ⟨rfl, h4, hs4⟩; have HQ4 := Lib.hid (HQ3.out.step hs4 (.inl rfl)); have H4 := Lib.hid h4; have HS4 := Lib.hid hs4; clear h4 hs4))
  have HL4 := Lib.hid (HL3.out.step HS4.out (.inr rfl))
  have HB4 := Lib.hid (HB3.out.trans HS4.out.2)
  have HA4 := Lib.hid (HA3.out.step HS4.out.2)
  go_wp2_with fail
  clear q1 p0 H3
  have q1 : w4.cell? ⟨w.heap.size, 1, none⟩ = some (.int .i64 a.num) := RecAt.cell HQ4.out 1 (by omega)
  have p1 : w4.cell? ⟨pp, 1, none⟩ = some (.pointer (some ⟨r, 0, none⟩)) := H4.out.cells.2.1
  have q3 : w4.cell? ⟨w.heap.size, 3, none⟩ = some (.slice a.data.A a.data.l.length a.data.c) := RecAt.cell HQ4.out 3 (by omega)
  have hwr := px_rwrite (H4.out.below (below_drew0 (Below.refl _ w4))) a.num a (HA4.out.step (Step.of_below (X := fun _ => False) (below_drew0 (Below.refl _ w4)) H4.out.n_le).2) HS.out (by omega)
  rw [HD1.out] at hwr
  have H5 := Lib.hid hwr
  have HQ5 := Lib.hid (HQ4.out.below (below_drew0 (Below.refl _ w4)))
  have HL5 := Lib.hid (HL4.out.below (below_drew0 (Below.refl _ w4)))
  have HB5 := Lib.hid (below_drewN HB4.out 1)
  have HA5 := Lib.hid (HA4.out.step (Step.of_below (X := fun _ => False) (below_drew0 (Below.refl _ w4)) H4.out.n_le).2)
  clear hwr
  go_region_held3 (fun W' => W'.cell? ⟨w.heap.size, 1, none⟩ = some (.int .i64 a.num) ∧ W'.cell? ⟨pp, 1, none⟩ = some (.pointer (some ⟨r, 0, none⟩)) ∧ W'.cell? ⟨w.heap.size, 3, none⟩ = some (.slice a.data.A a.data.l.length a.data.c)) (first | exact ⟨q1, p1, q3⟩ | exact ⟨RecAt.cell HQ6.out 1 (by omega), H6.out.cells.2.1, RecAt.cell HQ6.out 3 (by omega)⟩ | assumption)
    (first | (go_at_call 152; refine H5.out.mono ?_; rintro e w6 ⟨rfl, h6, hs6⟩; have HQ6 := Lib.hid (HQ5.out.step hs6 (.inl rfl)); have H6 := Lib.hid h6; have HS6 := Lib.hid hs6; clear h6 hs6))
  have HL6 := Lib.hid (HL5.out.step HS6.out (.inr rfl))
  have HB6 := Lib.hid (HB5.out.trans HS6.out.2)
  have HA6 := Lib.hid (HA5.out.step HS6.out.2)
  clear q1 p1 q3 H5
  have q3 : w6.cell? ⟨w.heap.size, 3, none⟩ = some (.slice a.data.A a.data.l.length a.data.c) := RecAt.cell HQ6.out 3 (by omega)
  have HWH := Lib.hid (whole_any g2' a.data.A a.data.c a.data.l w6 (by have := HSM.out.1; omega) HL6.out HA6.out.ok.data.lies)
  go_wp2_with fail
  refine HWH.out.mono ?_
  rintro e w7 ⟨rfl, hb7⟩
  have HB7 := Lib.hid (HB6.out.trans (Step.of_below (X := fun _ => False) hb7 H6.out.n_le).2)
  have H7 := Lib.hid (H6.out.below hb7)
  have HSP := Lib.hid (spoil_any g2' a.data.l.length _ w7 (by have := HSM.out.1; omega) (HL6.out.below hb7) (by simp [ns]))
  clear hb7 q3 HWH
  go_wp2_with fail
  refine HSP.out.mono ?_
  rintro e w8 ⟨rfl, hg8⟩
  have hc8 : Chg (fun g => g = g2') w7 w8 := Chg.of_grown hg8 (fun g e => by cases e; rfl)
  have H8 := Lib.hid (H7.out.keep hc8 (fun g _ e => .inr e))
  have HB8 := Lib.hid (HB7.out.trans (hc8.below H7.out.n_le (fun g e => by have := HG2.out; have := H1.out.n_le; omega)))
  clear hg8 hc8
  go_wp2_with fail
  go_ret
  exact ⟨rfl, D1.2, by rw [← HD1.out]; exact HS.out.write _ _, (H8.out.less (fun g h => h.elim)).moreK (by omega), HB8.out⟩
end Go.Proofs.Ytfbjjblgcgjndaa

/- Walk of the pair's does: a sync, a trip, a fault. -/
namespace Go.Proofs.Ytfbjjblgcgjndaa
open Go.RowKit

set_option maxRecDepth 100000 in
set_option maxHeartbeats 4000000 in
theorem does_3 {n0 : Nat} {w : World} {pp d r b : Nat} {D : Dsk} {K k : Nat} (h : PairX n0 w pp d r b D D K (fun _ => False)) (hs : Small D k) (hk : k ≤ 10000000) (hK : K ≤ 100000000) (a : ActD) (ha : ArgIn n0 w a) (hsm : a.data.l.length ≤ 2000000 ∧ a.keep.l.length ≤ 2000000) (hkd : a.kind % 9 = 3) :
    Calls Try.prog 129 #[.pointer (some ⟨pp, 0, none⟩), actV a] w (DoesGives n0 w pp d r b (K + 1) (k + 1)) := by
  have hn0 := h.n_le
  obtain ⟨w1, hw1⟩ : ∃ w1, w1 = w.alloc (.cells #[.int .u8 (a.kind : Int), .int .i64 a.num, .int .i64 a.of_, .slice a.data.A a.data.l.length a.data.c, .slice a.keep.A a.keep.l.length a.keep.c] 109) := ⟨_, rfl⟩
  obtain ⟨h1, hq, hb1⟩ := does_start h a w1 hw1
  have hsz : w.heap.size ≤ w1.heap.size := hb1.size
  have e0 : ((a.kind : Int) % 9 == 0) = false := by simp; omega
  have n0 : ¬ (a.kind : Int) % 9 = 0 := by omega
  have e1 : ((a.kind : Int) % 9 == 1) = false := by simp; omega
  have n1 : ¬ (a.kind : Int) % 9 = 1 := by omega
  have e2 : ((a.kind : Int) % 9 == 2) = false := by simp; omega
  have n2 : ¬ (a.kind : Int) % 9 = 2 := by omega
  have g1 : ((a.kind : Int) % 9 == 3) = true := by simp; omega
  have g2 : (a.kind : Int) % 9 = 3 := by omega
  have hki := ha.ok.kind
  have H1 := Lib.hid h1
  have HQ := Lib.hid hq
  have HA := Lib.hid (ha.step (Step.of_below (X := fun _ => False) hb1 hn0).2)
  have HB1 := Lib.hid (Step.of_below (X := fun _ => False) hb1 hn0).2
  have HS := Lib.hid hs
  have HSM := Lib.hid hsm
  have c0 : w1.cell? ⟨w.heap.size, 0, none⟩ = some (.int .u8 (a.kind : Int)) := RecAt.cell hq 0 (by omega)
  unfold actV
  obtain ⟨kd, hkk⟩ : ∃ kd, kd = a.kind := ⟨_, rfl⟩
  rw [← hkk] at e0 n0 e1 n1 e2 n2 g1 g2 hki hkd c0 hw1 ⊢
  have HW1 := Lib.hid hw1
  have HN0 := Lib.hid hn0
  have HKK := Lib.hid hkk
  clear h h1 hq hb1 ha hs hw1 hkk hsm hn0
  go_enter Try.func129, Try.ntmps129
  go_wp2_with fail
  rw [← HW1.out]
  go_wp2_with fail
  have p0 : w1.cell? ⟨pp, 0, none⟩ = some (.pointer (some ⟨d, 0, none⟩)) := H1.out.cells.1
  have p1 : w1.cell? ⟨pp, 1, none⟩ = some (.pointer (some ⟨r, 0, none⟩)) := H1.out.cells.2.1
  have hca := px_sync (H1.out.below (below_drew0 (Below.refl _ w1))) HS.out (by omega)
  have H2 := Lib.hid hca
  have HQ2 := Lib.hid (HQ.out.below (below_drew0 (Below.refl _ w1)))
  have HB2 := Lib.hid (below_drewN HB1.out 1)
  have HR := Lib.hid (show D.sync = D.sync from rfl)
  clear hca c0
  go_region_held3 (fun W' => W'.cell? ⟨pp, 0, none⟩ = some (.pointer (some ⟨d, 0, none⟩)) ∧ W'.cell? ⟨pp, 1, none⟩ = some (.pointer (some ⟨r, 0, none⟩))) (first | exact ⟨p0, p1⟩ | exact ⟨H5.out.cells.1, H5.out.cells.2.1⟩ | exact ⟨H3.out.cells.1, H3.out.cells.2.1⟩ | assumption)
    (first | (go_at_call 50; refine H2.out.mono ?_; rintro e w3 ⟨rfl, h3, hs3⟩; have HQ3 := Lib.hid (HQ2.out.step hs3 rfl); have H3 := Lib.hid h3; have HS3 := Lib.hid hs3; clear h3 hs3) | (go_at_call 153; refine (px_rsync H3.out HS.out (by omega)).mono ?_; rintro e w5 ⟨rfl, h5, hs5⟩; have HQ5 := Lib.hid (HQ3.out.step hs5 rfl); have H5 := Lib.hid h5; have HS5 := Lib.hid hs5; clear h5 hs5))
  go_wp2_with fail
  go_ret
  exact ⟨rfl, (D.sync).2, HS.out.sync, (H5.out.less (fun g h => h.elim)).moreK (by omega), (HB2.out.trans HS3.out.2).trans HS5.out.2⟩
set_option maxRecDepth 100000 in
set_option maxHeartbeats 4000000 in
theorem does_7 {n0 : Nat} {w : World} {pp d r b : Nat} {D : Dsk} {K k : Nat} (h : PairX n0 w pp d r b D D K (fun _ => False)) (hs : Small D k) (hk : k ≤ 10000000) (hK : K ≤ 100000000) (a : ActD) (ha : ArgIn n0 w a) (hsm : a.data.l.length ≤ 2000000 ∧ a.keep.l.length ≤ 2000000) (hkd : a.kind % 9 = 7) :
    Calls Try.prog 129 #[.pointer (some ⟨pp, 0, none⟩), actV a] w (DoesGives n0 w pp d r b (K + 1) (k + 1)) := by
  have hn0 := h.n_le
  obtain ⟨w1, hw1⟩ : ∃ w1, w1 = w.alloc (.cells #[.int .u8 (a.kind : Int), .int .i64 a.num, .int .i64 a.of_, .slice a.data.A a.data.l.length a.data.c, .slice a.keep.A a.keep.l.length a.keep.c] 109) := ⟨_, rfl⟩
  obtain ⟨h1, hq, hb1⟩ := does_start h a w1 hw1
  have hsz : w.heap.size ≤ w1.heap.size := hb1.size
  have e0 : ((a.kind : Int) % 9 == 0) = false := by simp; omega
  have n0 : ¬ (a.kind : Int) % 9 = 0 := by omega
  have e1 : ((a.kind : Int) % 9 == 1) = false := by simp; omega
  have n1 : ¬ (a.kind : Int) % 9 = 1 := by omega
  have e2 : ((a.kind : Int) % 9 == 2) = false := by simp; omega
  have n2 : ¬ (a.kind : Int) % 9 = 2 := by omega
  have e3 : ((a.kind : Int) % 9 == 3) = false := by simp; omega
  have n3 : ¬ (a.kind : Int) % 9 = 3 := by omega
  have e4 : ((a.kind : Int) % 9 == 4) = false := by simp; omega
  have n4 : ¬ (a.kind : Int) % 9 = 4 := by omega
  have e5 : ((a.kind : Int) % 9 == 5) = false := by simp; omega
  have n5 : ¬ (a.kind : Int) % 9 = 5 := by omega
  have e6 : ((a.kind : Int) % 9 == 6) = false := by simp; omega
  have n6 : ¬ (a.kind : Int) % 9 = 6 := by omega
  have g1 : ((a.kind : Int) % 9 == 7) = true := by simp; omega
  have g2 : (a.kind : Int) % 9 = 7 := by omega
  have hki := ha.ok.kind
  have H1 := Lib.hid h1
  have HQ := Lib.hid hq
  have HA := Lib.hid (ha.step (Step.of_below (X := fun _ => False) hb1 hn0).2)
  have HB1 := Lib.hid (Step.of_below (X := fun _ => False) hb1 hn0).2
  have HS := Lib.hid hs
  have HSM := Lib.hid hsm
  have c0 : w1.cell? ⟨w.heap.size, 0, none⟩ = some (.int .u8 (a.kind : Int)) := RecAt.cell hq 0 (by omega)
  unfold actV
  obtain ⟨kd, hkk⟩ : ∃ kd, kd = a.kind := ⟨_, rfl⟩
  rw [← hkk] at e0 n0 e1 n1 e2 n2 e3 n3 e4 n4 e5 n5 e6 n6 g1 g2 hki hkd c0 hw1 ⊢
  have HW1 := Lib.hid hw1
  have HN0 := Lib.hid hn0
  have HKK := Lib.hid hkk
  clear h h1 hq hb1 ha hs hw1 hkk hsm hn0
  go_enter Try.func129, Try.ntmps129
  go_wp2_with fail
  rw [← HW1.out]
  go_wp2_with fail
  have p0 : w1.cell? ⟨pp, 0, none⟩ = some (.pointer (some ⟨d, 0, none⟩)) := H1.out.cells.1
  have q1 : w1.cell? ⟨w.heap.size, 1, none⟩ = some (.int .i64 a.num) := RecAt.cell HQ.out 1 (by omega)
  have p1 : w1.cell? ⟨pp, 1, none⟩ = some (.pointer (some ⟨r, 0, none⟩)) := H1.out.cells.2.1
  have hca := px_trip (H1.out.below (below_drew0 (Below.refl _ w1))) a.num HA.out.ok.num.2
  have H2 := Lib.hid hca
  have HQ2 := Lib.hid (HQ.out.below (below_drew0 (Below.refl _ w1)))
  have HB2 := Lib.hid (below_drewN HB1.out 1)
  have HR := Lib.hid (show D.setTrip a.num = D.setTrip a.num from rfl)
  clear hca c0
  go_region_held3 (fun W' => W'.cell? ⟨pp, 0, none⟩ = some (.pointer (some ⟨d, 0, none⟩)) ∧ W'.cell? ⟨w.heap.size, 1, none⟩ = some (.int .i64 a.num) ∧ W'.cell? ⟨pp, 1, none⟩ = some (.pointer (some ⟨r, 0, none⟩))) (first | exact ⟨p0, q1, p1⟩ | exact ⟨H5.out.cells.1, RecAt.cell HQ5.out 1 (by omega), H5.out.cells.2.1⟩ | exact ⟨H3.out.cells.1, RecAt.cell HQ3.out 1 (by omega), H3.out.cells.2.1⟩ | assumption)
    (first | (go_at_call 53; refine H2.out.mono ?_; rintro e w3 ⟨rfl, h3, hs3⟩; have HQ3 := Lib.hid (HQ2.out.step hs3 rfl); have H3 := Lib.hid h3; have HS3 := Lib.hid hs3; clear h3 hs3) | (go_at_call 161; refine (px_rtrip H3.out a.num HA.out.ok.num.2).mono ?_; rintro e w5 ⟨rfl, h5, hs5⟩; have HQ5 := Lib.hid (HQ3.out.step hs5 rfl); have H5 := Lib.hid h5; have HS5 := Lib.hid hs5; clear h5 hs5))
  go_wp2_with fail
  go_ret
  exact ⟨rfl, (D.setTrip a.num).2, (HS.out.setTrip a.num).mono (by omega), (H5.out.less (fun g h => h.elim)).moreK (by omega), (HB2.out.trans HS3.out.2).trans HS5.out.2⟩
set_option maxRecDepth 100000 in
set_option maxHeartbeats 4000000 in
theorem does_8 {n0 : Nat} {w : World} {pp d r b : Nat} {D : Dsk} {K k : Nat} (h : PairX n0 w pp d r b D D K (fun _ => False)) (hs : Small D k) (hk : k ≤ 10000000) (hK : K ≤ 100000000) (a : ActD) (ha : ArgIn n0 w a) (hsm : a.data.l.length ≤ 2000000 ∧ a.keep.l.length ≤ 2000000) (hkd : a.kind % 9 = 8) :
    Calls Try.prog 129 #[.pointer (some ⟨pp, 0, none⟩), actV a] w (DoesGives n0 w pp d r b (K + 1) (k + 1)) := by
  have hn0 := h.n_le
  obtain ⟨w1, hw1⟩ : ∃ w1, w1 = w.alloc (.cells #[.int .u8 (a.kind : Int), .int .i64 a.num, .int .i64 a.of_, .slice a.data.A a.data.l.length a.data.c, .slice a.keep.A a.keep.l.length a.keep.c] 109) := ⟨_, rfl⟩
  obtain ⟨h1, hq, hb1⟩ := does_start h a w1 hw1
  have hsz : w.heap.size ≤ w1.heap.size := hb1.size
  have e0 : ((a.kind : Int) % 9 == 0) = false := by simp; omega
  have n0 : ¬ (a.kind : Int) % 9 = 0 := by omega
  have e1 : ((a.kind : Int) % 9 == 1) = false := by simp; omega
  have n1 : ¬ (a.kind : Int) % 9 = 1 := by omega
  have e2 : ((a.kind : Int) % 9 == 2) = false := by simp; omega
  have n2 : ¬ (a.kind : Int) % 9 = 2 := by omega
  have e3 : ((a.kind : Int) % 9 == 3) = false := by simp; omega
  have n3 : ¬ (a.kind : Int) % 9 = 3 := by omega
  have e4 : ((a.kind : Int) % 9 == 4) = false := by simp; omega
  have n4 : ¬ (a.kind : Int) % 9 = 4 := by omega
  have e5 : ((a.kind : Int) % 9 == 5) = false := by simp; omega
  have n5 : ¬ (a.kind : Int) % 9 = 5 := by omega
  have e6 : ((a.kind : Int) % 9 == 6) = false := by simp; omega
  have n6 : ¬ (a.kind : Int) % 9 = 6 := by omega
  have e7 : ((a.kind : Int) % 9 == 7) = false := by simp; omega
  have n7 : ¬ (a.kind : Int) % 9 = 7 := by omega
  have g2 : (a.kind : Int) % 9 = 8 := by omega
  have hki := ha.ok.kind
  have H1 := Lib.hid h1
  have HQ := Lib.hid hq
  have HA := Lib.hid (ha.step (Step.of_below (X := fun _ => False) hb1 hn0).2)
  have HB1 := Lib.hid (Step.of_below (X := fun _ => False) hb1 hn0).2
  have HS := Lib.hid hs
  have HSM := Lib.hid hsm
  have c0 : w1.cell? ⟨w.heap.size, 0, none⟩ = some (.int .u8 (a.kind : Int)) := RecAt.cell hq 0 (by omega)
  unfold actV
  obtain ⟨kd, hkk⟩ : ∃ kd, kd = a.kind := ⟨_, rfl⟩
  rw [← hkk] at e0 n0 e1 n1 e2 n2 e3 n3 e4 n4 e5 n5 e6 n6 e7 n7 g2 hki hkd c0 hw1 ⊢
  have HW1 := Lib.hid hw1
  have HN0 := Lib.hid hn0
  have HKK := Lib.hid hkk
  clear h h1 hq hb1 ha hs hw1 hkk hsm hn0
  go_enter Try.func129, Try.ntmps129
  go_wp2_with fail
  rw [← HW1.out]
  go_wp2_with fail
  have p0 : w1.cell? ⟨pp, 0, none⟩ = some (.pointer (some ⟨d, 0, none⟩)) := H1.out.cells.1
  have q2 : w1.cell? ⟨w.heap.size, 2, none⟩ = some (.int .i64 a.of_) := RecAt.cell HQ.out 2 (by omega)
  have q1 : w1.cell? ⟨w.heap.size, 1, none⟩ = some (.int .i64 a.num) := RecAt.cell HQ.out 1 (by omega)
  have p1 : w1.cell? ⟨pp, 1, none⟩ = some (.pointer (some ⟨r, 0, none⟩)) := H1.out.cells.2.1
  have hca := px_fail (H1.out.below (below_drew0 (Below.refl _ w1))) a.of_ a.num HA.out.ok.num.2
  have H2 := Lib.hid hca
  have HQ2 := Lib.hid (HQ.out.below (below_drew0 (Below.refl _ w1)))
  have HB2 := Lib.hid (below_drewN HB1.out 1)
  have HR := Lib.hid (show D.setFail a.of_ a.num = D.setFail a.of_ a.num from rfl)
  clear hca c0
  go_region_held3 (fun W' => W'.cell? ⟨pp, 0, none⟩ = some (.pointer (some ⟨d, 0, none⟩)) ∧ W'.cell? ⟨w.heap.size, 2, none⟩ = some (.int .i64 a.of_) ∧ W'.cell? ⟨w.heap.size, 1, none⟩ = some (.int .i64 a.num) ∧ W'.cell? ⟨pp, 1, none⟩ = some (.pointer (some ⟨r, 0, none⟩))) (first | exact ⟨p0, q2, q1, p1⟩ | exact ⟨H5.out.cells.1, RecAt.cell HQ5.out 2 (by omega), RecAt.cell HQ5.out 1 (by omega), H5.out.cells.2.1⟩ | exact ⟨H3.out.cells.1, RecAt.cell HQ3.out 2 (by omega), RecAt.cell HQ3.out 1 (by omega), H3.out.cells.2.1⟩ | assumption)
    (first | (go_at_call 58; refine H2.out.mono ?_; rintro e w3 ⟨rfl, h3, hs3⟩; have HQ3 := Lib.hid (HQ2.out.step hs3 rfl); have H3 := Lib.hid h3; have HS3 := Lib.hid hs3; clear h3 hs3) | (go_at_call 162; refine (px_rfail H3.out a.of_ a.num HA.out.ok.num.2).mono ?_; rintro e w5 ⟨rfl, h5, hs5⟩; have HQ5 := Lib.hid (HQ3.out.step hs5 rfl); have H5 := Lib.hid h5; have HS5 := Lib.hid hs5; clear h5 hs5))
  go_wp2_with fail
  go_ret
  exact ⟨rfl, (D.setFail a.of_ a.num).2, (HS.out.setFail a.of_ a.num).mono (by omega), (H5.out.less (fun g h => h.elim)).moreK (by omega), (HB2.out.trans HS3.out.2).trans HS5.out.2⟩
end Go.Proofs.Ytfbjjblgcgjndaa
