/- The disk's contracts over a disk with its blocks known: what stays, what is new. -/
import Derived.Test.YtfbjjblgcgjndaaDisk11
set_option linter.unusedVariables false
set_option linter.unusedSimpArgs false
namespace Go.Proofs.Ytfbjjblgcgjndaa
open Go.RowKit

/-- a disk at p, all of it between n0 and the heap's end -/
structure DG (n0 : Nat) (w : World) (p : Nat) (D : Dsk) (S : Nat → Prop) : Prop where
  disk : DiskAt n0 w p D S
  lt : ∀ g, S g → n0 ≤ g ∧ g < w.heap.size
theorem DG.here {n0 : Nat} {w : World} {p : Nat} {D : Dsk} {S : Nat → Prop} (h : DG n0 w p D S) : S p := h.disk.here
theorem DG.ok {n0 : Nat} {w : World} {p : Nat} {D : Dsk} {S : Nat → Prop} (h : DG n0 w p D S) : D.Ok := h.disk.1
theorem DG.keep {n0 : Nat} {w w' : World} {p : Nat} {D : Dsk} {S G : Nat → Prop} (h : DG n0 w p D S) (hc : Chg G w w') (hG : ∀ g, S g → ¬ G g) : DG n0 w' p D S :=
  ⟨h.disk.keep hc (fun g _ hg => hG g hg), fun g hg => ⟨(h.lt g hg).1, Nat.lt_of_lt_of_le (h.lt g hg).2 hc.size⟩⟩
theorem DG.below {n0 : Nat} {w w' : World} {p : Nat} {D : Dsk} {S : Nat → Prop} (h : DG n0 w p D S) (hb : Below w.heap.size w w') : DG n0 w' p D S :=
  h.keep (G := fun _ => False) (.of_below hb) (fun _ _ h => h)
/-- the blocks of T are S's, or new -/
def Grows (w : World) (S T : Nat → Prop) : Prop := ∀ g, T g → S g ∨ w.heap.size ≤ g
theorem Grows.refl (w : World) (S : Nat → Prop) : Grows w S S := fun _ h => .inl h
theorem Grows.trans {w w' : World} {S T U : Nat → Prop} (h : Grows w S T) (k : Grows w' T U) (hw : w.heap.size ≤ w'.heap.size) : Grows w S U := fun g hg => by
  rcases k g hg with a | a
  · exact h g a
  · exact .inr (Nat.le_trans hw a)
/-- what is apart from S is apart from what S grows to -/
theorem Grows.apart {w : World} {S T X : Nat → Prop} (h : Grows w S T) (hx : ∀ g, X g → g < w.heap.size) (ha : ∀ g, X g → ¬ S g) : ∀ g, X g → ¬ T g := fun g hg ht => by
  rcases h g ht with a | a
  · exact ha g hg a
  · have := hx g hg; omega
def Now (n0 : Nat) (w : World) (p : Nat) (S : Nat → Prop) (D' : Dsk) (w' : World) : Prop := ∃ S', DG n0 w' p D' S' ∧ Grows w S S' ∧ Chg S w w'
theorem DG.now {n0 : Nat} {w w' : World} {p : Nat} {D D' : Dsk} {S : Nat → Prop} (h : DG n0 w p D S) (hn : n0 ≤ w.heap.size) (hd : DiskAt n0 w' p D' (Wide S w.heap.size w'.heap.size)) (hc : Chg S w w') : Now n0 w p S D' w' :=
  ⟨_, ⟨hd, fun g hg => by
    rcases hg with hg | hg
    · exact ⟨(h.lt g hg).1, Nat.lt_of_lt_of_le (h.lt g hg).2 hc.size⟩
    · exact ⟨Nat.le_trans hn hg.1, hg.2⟩⟩, fun g hg => hg.elim .inl (fun h => .inr h.1), hc⟩
def DkGives (n0 : Nat) (w : World) (p : Nat) (S : Nat → Prop) (x : Nat) (D' : Dsk) (e : Ending) (w' : World) : Prop := e = .returned (.int .u16 (x : Nat)) ∧ Now n0 w p S D' w'
theorem dg_write {n0 : Nat} {w : World} {p : Nat} {D : Dsk} {S : Nat → Prop} (h : DG n0 w p D S) (hn0 : n0 ≤ w.heap.size) (pg : Int) (A : Option Addr) (c : Nat) (l : List Nat) (hr : Inner.Ok w ⟨A, l, c⟩) (hA : ∀ a, A = some a → ¬ S a.block) (hc : D.cache.length ≤ 1000000000000) (hn : D.n 2 ≤ 4611686018427387904) :
    Calls Try.prog 48 #[.pointer (some ⟨p, 0, none⟩), .int .i64 pg, .slice A l.length c] w (DkGives n0 w p S (D.write pg l).1 (D.write pg l).2) :=
  (disk_write n0 w p D S pg ⟨A, l, c⟩ h.disk hr hc hn hn0 hA (fun g hg => (h.lt g hg).2) h.here).mono fun e w' ⟨a, b, d⟩ => ⟨a, h.now hn0 b d⟩
theorem dg_sync {n0 : Nat} {w : World} {p : Nat} {D : Dsk} {S : Nat → Prop} (h : DG n0 w p D S) (hn0 : n0 ≤ w.heap.size) (hc : D.cache.length ≤ 1000000000000) (hn : D.n 3 ≤ 4611686018427387904) :
    Calls Try.prog 50 #[.pointer (some ⟨p, 0, none⟩)] w (DkGives n0 w p S D.sync.1 D.sync.2) :=
  (disk_sync n0 w p D S h.disk hc hn (fun g hg => (h.lt g hg).2) h.here).mono fun e w' ⟨a, b, d⟩ => ⟨a, h.now hn0 b d⟩
theorem dg_trip {n0 : Nat} {w : World} {p : Nat} {D : Dsk} {S : Nat → Prop} (h : DG n0 w p D S) (hn0 : n0 ≤ w.heap.size) (n : Int) (hn : n ≤ 9223372036854775807) :
    Calls Try.prog 53 #[.pointer (some ⟨p, 0, none⟩), .int .i64 n] w (DkGives n0 w p S (D.setTrip n).1 (D.setTrip n).2) :=
  (disk_trip n0 w p D S n h.disk hn).mono fun e w' ⟨a, b, d⟩ => ⟨a, h.now hn0 b d⟩
theorem dg_fail {n0 : Nat} {w : World} {p : Nat} {D : Dsk} {S : Nat → Prop} (h : DG n0 w p D S) (hn0 : n0 ≤ w.heap.size) (k n : Int) (hn : n ≤ 9223372036854775807) :
    Calls Try.prog 58 #[.pointer (some ⟨p, 0, none⟩), .int .i64 k, .int .i64 n] w (DkGives n0 w p S (D.setFail k n).1 (D.setFail k n).2) :=
  (disk_fail n0 w p D S k n h.disk hn).mono fun e w' ⟨a, b, d⟩ => ⟨a, h.now hn0 b d⟩
theorem dg_cut {n0 : Nat} {w : World} {p : Nat} {D : Dsk} {S : Nat → Prop} (h : DG n0 w p D S) (hn0 : n0 ≤ w.heap.size) (A : Option Addr) (c : Nat) (bs : List Bool) (hc : D.cache.length ≤ 1000000000000) (hB : ∀ w', Chg S w w' → At w' A (bs.map .bool)) :
    Calls Try.prog 51 #[.pointer (some ⟨p, 0, none⟩), .slice A bs.length c] w fun e w' => e = .returned (.tuple #[]) ∧ Now n0 w p S (D.cut bs) w' :=
  (disk_cut n0 w p D S A c bs h.disk hc hB (fun g hg => (h.lt g hg).2)).mono fun e w' ⟨a, b, d⟩ => ⟨a, h.now hn0 (b.mono fun _ _ _ h => .inl h) d⟩
theorem dg_dark {n0 : Nat} {w : World} {p : Nat} {D : Dsk} {S : Nat → Prop} (h : DG n0 w p D S) : Calls Try.prog 54 #[.pointer (some ⟨p, 0, none⟩)] w fun e w' => e = .returned (.bool D.dark) ∧ w = w' := disk_dark n0 w p D S h.disk
theorem dg_counts {n0 : Nat} {w : World} {p : Nat} {D : Dsk} {S : Nat → Prop} (h : DG n0 w p D S) : Calls Try.prog 56 #[.pointer (some ⟨p, 0, none⟩)] w fun e w' => e = .returned (.agg #[.int .i64 (D.n 1), .int .i64 (D.n 2), .int .i64 (D.n 3)]) ∧ Below w.heap.size w w' := disk_counts n0 w p D S h.disk
theorem dg_new (n : Nat) (w : World) (h1 : 1 ≤ n) (h2 : n ≤ 16384) : Calls Try.prog 46 #[.int .i64 (n : Int)] w fun e w' => ∃ p S, e = .returned (.tuple #[.pointer (some ⟨p, 0, none⟩), .int .u16 0]) ∧ DG w.heap.size w' p (Dsk.new n) S ∧ Below w.heap.size w w' :=
  (new_ok n w h1 h2).mono fun e w' ⟨p, a, b, c⟩ => ⟨p, _, a, ⟨b, fun g hg => hg⟩, c⟩
theorem DG.new_n {n0 : Nat} {w : World} {p : Nat} {D : Dsk} {S : Nat → Prop} (h : DG n0 w p D S) : n0 ≤ w.heap.size := by have := h.lt p h.here; omega
def RdGives (n0 : Nat) (w : World) (p : Nat) (S : Nat → Prop) (r : Nat × List Nat × Dsk) (e : Ending) (w' : World) : Prop :=
  ∃ A, e = .returned (.tuple #[.slice A r.2.1.length r.2.1.length, .int .u16 (r.1 : Nat)]) ∧ Clip w.heap.size w' A r.2.1 ∧ DG n0 w' p r.2.2 S ∧ Chg S w w'
theorem dg_read {n0 : Nat} {w : World} {p : Nat} {D : Dsk} {S : Nat → Prop} (h : DG n0 w p D S) (pg : Int) (hc : D.cache.length ≤ 1000000000000) (hn : D.n 1 ≤ 4611686018427387904) :
    Calls Try.prog 52 #[.pointer (some ⟨p, 0, none⟩), .int .i64 pg] w (RdGives n0 w p S (D.read pg)) :=
  (disk_read n0 w p D S pg h.disk hc hn (fun g hg => (h.lt g hg).2)).mono fun e w' ⟨A, a, b, c, d⟩ => ⟨A, a, b, ⟨c, fun g hg => ⟨(h.lt g hg).1, Nat.lt_of_lt_of_le (h.lt g hg).2 d.size⟩⟩, d⟩
theorem dg_pending {n0 : Nat} {w : World} {p : Nat} {D : Dsk} {S : Nat → Prop} (h : DG n0 w p D S) (hc : D.cache.length ≤ 1000000000000) :
    Calls Try.prog 55 #[.pointer (some ⟨p, 0, none⟩)] w (GivesInts (D.cache.map (·.1)) w) := pending_any n0 w p D S h.disk hc
theorem dg_image {n0 : Nat} {w : World} {p : Nat} {D : Dsk} {S : Nat → Prop} (h : DG n0 w p D S) :
    Calls Try.prog 57 #[.pointer (some ⟨p, 0, none⟩)] w (GivesFill D.last.flatten w) := image_any n0 w p D S h.disk
end Go.Proofs.Ytfbjjblgcgjndaa
