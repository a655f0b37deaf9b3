/- What a walk over a disk carries along: rows and clipped rows aside of the disk's blocks. -/
import Derived.Test.YtfbjjblgcgjndaaDiskG
set_option linter.unusedVariables false
set_option linter.unusedSimpArgs false
namespace Go.Proofs.Ytfbjjblgcgjndaa
open Go.RowKit

def Fills (n c : Nat) (w : World) (e : Ending) (w' : World) : Prop := ∃ A cc, e = .returned (.slice A n cc) ∧ Buf w.heap.size w' (.slice A n cc) (List.replicate n c) ∧ Below w.heap.size w w'
theorem fill_any (n c : Nat) (w : World) (hn : n ≤ 1000000) (hc : c < 256) : Calls Try.prog 49 #[.int .i64 (n : Int), .int .u8 (c : Int)] w (Fills n c w) := by
  refine (fill7_any n c w hn hc).mono ?_
  rintro e w' ⟨A, cc, h1, h2, h3⟩
  rw [List.length_replicate] at h1 h2
  exact ⟨A, cc, h1, h2, h3⟩
theorem rep_bytes (n c : Nat) (hc : c < 256) : Bytes (List.replicate n c) := fun x hx => by rw [(List.mem_replicate.1 hx).2]; exact hc
theorem buf_ok {n0 n c : Nat} {w : World} {A : Option Addr} {l : List Nat} (h : Buf n0 w (.slice A n c) l) (hb : Bytes l) (hs : l.length ≤ 140737488351232) : n = l.length ∧ Inner.Ok w ⟨A, l, c⟩ := by
  obtain ⟨A', c', e, h1, h2, h3, h4⟩ := h.at
  injection e with e1 e2 e3
  subst e1 e3
  exact ⟨e2, h1, h2, h3, hs, hb⟩
/-- blocks X that lie, and are none of S -/
structure Aside (w : World) (S X : Nat → Prop) : Prop where
  lt : ∀ g, X g → g < w.heap.size
  off : ∀ g, X g → ¬ S g
theorem Aside.up {w w' : World} {S X : Nat → Prop} (h : Aside w S X) (hs : w.heap.size ≤ w'.heap.size) : Aside w' S X := ⟨fun g hg => Nat.lt_of_lt_of_le (h.lt g hg) hs, h.off⟩
theorem Aside.now {w w' : World} {S S' X : Nat → Prop} (h : Aside w S X) (hg : Grows w S S') (hs : w.heap.size ≤ w'.heap.size) : Aside w' S' X := ⟨fun g hg => Nat.lt_of_lt_of_le (h.lt g hg) hs, hg.apart h.lt h.off⟩
theorem Aside.row {n0 : Nat} {w : World} {e : TypeId} {n : Nat} {v : Value} {xs : List Value} {S : Nat → Prop} (h : w.ownsRow n0 e 1 v n xs) (hS : ∀ g, S g → g < n0) : Aside w S (blk v) :=
  ⟨fun g hg => (row_lt h hg).2, fun g hg h' => by have := (row_lt h hg).1; have := hS g h'; omega⟩
theorem Aside.clip {n0 : Nat} {w : World} {A : Option Addr} {l : List Nat} {n c : Nat} {S : Nat → Prop} (h : Clip n0 w A l) (hS : ∀ g, S g → g < n0) : Aside w S (blk (.slice A n c)) :=
  ⟨fun g hg => by
    cases A with
    | none => cases hg
    | some a => cases hg; exact (h.base a rfl).2, fun g hg h' => by
    cases A with
    | none => cases hg
    | some a => cases hg; have := (h.base a rfl).1; have := hS _ h'; omega⟩
theorem Clip.chg {n0 : Nat} {w w' : World} {A : Option Addr} {l : List Nat} {n c : Nat} {S : Nat → Prop} (h : Clip n0 w A l) (ha : Aside w S (blk (.slice A n c))) (hc : Chg S w w') : Clip n0 w' A l :=
  h.keep hc (fun a e => ha.off _ (by rw [e]; rfl))
theorem Clip.below {n0 : Nat} {w w' : World} {A : Option Addr} {l : List Nat} (h : Clip n0 w A l) (hb : Below w.heap.size w w') : Clip n0 w' A l :=
  h.keep (G := fun _ => False) (.of_below hb) (fun _ _ h => h)
theorem own_aside {n0 : Nat} {w w' : World} {e : TypeId} {n : Nat} {v : Value} {xs : List Value} {S : Nat → Prop} (h : w.ownsRow n0 e 1 v n xs) (ha : Aside w S (blk v)) (hc : Chg S w w') : w'.ownsRow n0 e 1 v n xs := own_chg h hc ha.off
theorem DG.after {n0 : Nat} {w0 w w' : World} {p : Nat} {D : Dsk} {S : Nat → Prop} (h : DG n0 w p D S) (hb : Below n0 w0 w) (hc : Chg S w w') : Below n0 w0 w' := hb.trans (hc.below h.new_n (fun g hg => (h.lt g hg).1))
theorem DG.top {n0 : Nat} {w : World} {p : Nat} {D : Dsk} {S : Nat → Prop} (h : DG n0 w p D S) : ∀ g, S g → g < w.heap.size := fun g hg => (h.lt g hg).2
/-- a disk aside of another one's blocks -/
theorem DG.chg {n0 : Nat} {w w' : World} {p : Nat} {D : Dsk} {S T : Nat → Prop} (h : DG n0 w p D S) (ha : Aside w T S) (hc : Chg T w w') : DG n0 w' p D S := h.keep hc ha.off
theorem Aside.comm {w : World} {S T : Nat → Prop} (h : Aside w S T) (hS : ∀ g, S g → g < w.heap.size) : Aside w T S := ⟨hS, fun g hg ht => h.off g ht hg⟩
theorem dg_writeb {n0 m : Nat} {w : World} {p : Nat} {D : Dsk} {S : Nat → Prop} (h : DG n0 w p D S) (pg : Int) (n : Nat) (A : Option Addr) (c : Nat) (l : List Nat) (hv : Buf m w (.slice A n c) l) (ha : Aside w S (blk (.slice A n c))) (hl : Bytes l) (hs : l.length ≤ 140737488351232) (hc : D.cache.length ≤ 1000000000000) (hn : D.n 2 ≤ 4611686018427387904) :
    Calls Try.prog 48 #[.pointer (some ⟨p, 0, none⟩), .int .i64 pg, .slice A n c] w (DkGives n0 w p S (D.write pg l).1 (D.write pg l).2) := by
  obtain ⟨rfl, hok⟩ := buf_ok hv hl hs
  exact dg_write h h.new_n pg A c l hok (fun a e => ha.off _ (by rw [e]; rfl)) hc hn
theorem dg_writef {n0 m : Nat} {w : World} {p : Nat} {D : Dsk} {S : Nat → Prop} (h : DG n0 w p D S) (pg : Int) (n k : Nat) (A : Option Addr) (c : Nat) (hv : Buf m w (.slice A n c) (List.replicate n k)) (ha : Aside w S (blk (.slice A n c))) (hk : k < 256) (hs : n ≤ 1000000) (hc : D.cache.length ≤ 1000000000000) (hn : D.n 2 ≤ 4611686018427387904) :
    Calls Try.prog 48 #[.pointer (some ⟨p, 0, none⟩), .int .i64 pg, .slice A n c] w (DkGives n0 w p S (D.write pg (List.replicate n k)).1 (D.write pg (List.replicate n k)).2) :=
  dg_writeb h pg n A c _ hv ha (rep_bytes n k hk) (by rw [List.length_replicate]; omega) hc hn
theorem ints_at {n0 n c : Nat} {w : World} {A : Option Addr} {l : List Nat} (h : w.ownsRow n0 3 1 (.slice A n c) n (ns .i64 l)) : At w A (ns .i64 l) := by
  obtain ⟨A', c', e, h1, _⟩ := At.own h
  injection e with e1 e2 e3
  subst e1
  exact h1
theorem sameInts_eq (A B : Option Addr) (n k c d : Nat) (l m : List Nat) (w : World) (hn : n = l.length) (hk : k = m.length) (hl : l.length ≤ 140737488355328) (h : l = m) (hA : At w A (ns .i64 l)) (hB : At w B (ns .i64 m)) :
    Calls Try.prog 59 #[.slice A n c, .slice B k d] w fun e w' => e = .returned (.bool true) ∧ Below w.heap.size w w' := by
  subst hn hk
  refine (sameInts_any A B c d l m w hl (by rw [← h]; exact hl) hA hB).mono ?_
  rintro e w' ⟨rfl, hb⟩
  exact ⟨by rw [decide_eq_true h], hb⟩
theorem image_small {D : Dsk} (ok : D.Ok) : D.last.flatten.length ≤ 140737488355328 := by
  rw [rows_length (m := 128) (fun s hs => (ok.last s hs).1)]
  obtain ⟨p, h1, h2, h3⟩ := ok.pages
  omega
theorem dg_imagel {n0 : Nat} {w : World} {p : Nat} {D : Dsk} {S : Nat → Prop} {F : List Nat} (h : DG n0 w p D S) (hF : F = D.last.flatten) : Calls Try.prog 57 #[.pointer (some ⟨p, 0, none⟩)] w (GivesFill F w) := by
  rw [hF]; exact dg_image h
theorem own_down {w : World} {base b2 : Nat} {e : TypeId} {size n : Nat} {v : Value} {xs : List Value} (h : w.ownsRow base e size v n xs) (hb : b2 ≤ base) : w.ownsRow b2 e size v n xs :=
  own_up h (fun g hg => Nat.le_trans hb (row_lt h hg).1)
theorem DiskAt.lift {n0 n1 : Nat} {w : World} {p : Nat} {D : Dsk} {S : Nat → Prop} (h : DiskAt n1 w p D S) (hn : n0 ≤ n1) : DiskAt n0 w p D S := by
  obtain ⟨ok, q, M, hin, hft⟩ := h
  exact ⟨ok, q, M, ⟨hin.rcd, hin.last, own_down hin.cache hn, hin.map, hin.seen, ⟨Nat.le_trans hn hin.bases.1, Nat.le_trans hn hin.bases.2.1, Nat.le_trans hn hin.bases.2.2.1, hin.bases.2.2.2⟩, hin.sep⟩, hft⟩
theorem dg_newl {n0 : Nat} (n : Nat) (w : World) (hn : n0 ≤ w.heap.size) (h1 : 1 ≤ n) (h2 : n ≤ 16384) : Calls Try.prog 46 #[.int .i64 (n : Int)] w fun e w' => ∃ p S, e = .returned (.tuple #[.pointer (some ⟨p, 0, none⟩), .int .u16 0]) ∧ DG n0 w' p (Dsk.new n) S ∧ (∀ T, (∀ g, T g → g < w.heap.size) → Aside w' S T) ∧ Below w.heap.size w w' :=
  (dg_new n w h1 h2).mono fun e w' ⟨p, S, a, b, c⟩ => ⟨p, S, a, ⟨b.disk.lift hn, fun g hg => ⟨Nat.le_trans hn (b.lt g hg).1, (b.lt g hg).2⟩⟩, fun T hT => ⟨fun g hg => Nat.lt_of_lt_of_le (hT g hg) c.size, fun g hg hs => by have := hT g hg; have := (b.lt g hs).1; omega⟩, c⟩
theorem At.part {w : World} {g o : Nat} {l : List Nat} (h : At w (some ⟨g, o, none⟩) (ns .u8 l)) (i n : Nat) : At w (some ⟨g, o + i, none⟩) (ns .u8 ((l.drop i).take n)) := fun hn => by
  have hne : ns .u8 l ≠ [] := fun e => hn (by
    have : l = [] := by simpa [ns] using e
    rw [this]; simp [ns])
  obtain ⟨b, o', e, hr⟩ := h hne
  cases e
  refine ⟨g, o + i, rfl, fun j v hv => ?_⟩
  rw [show o + i + j = o + (i + j) by omega]
  refine hr (i + j) v ?_
  simp only [ns, List.getElem?_map, List.getElem?_take, List.getElem?_drop] at hv ⊢
  split at hv
  · exact hv
  · simp at hv
theorem Clip.form {n0 : Nat} {w : World} {A : Option Addr} {l : List Nat} (h : Clip n0 w A l) (hl : 0 < l.length) : ∃ g, A = some ⟨g, 0, none⟩ := by
  rcases h with ⟨rfl, rfl⟩ | ⟨g, cur, rfl, _⟩
  · simp at hl
  · exact ⟨g, rfl⟩
theorem same_num (A B : Option Addr) (n k c d : Nat) (l m : List Nat) (w : World) (hn : n = l.length) (hk : k = m.length) (hl : l.length ≤ 140737488355328) (hm : m.length ≤ 140737488355328) (hA : At w A (ns .u8 l)) (hB : At w B (ns .u8 m)) :
    Calls Try.prog 45 #[.slice A n c, .slice B k d] w fun e w' => e = .returned (.bool (decide (l = m))) ∧ Below w.heap.size w w' := by
  subst hn hk
  exact same_any A B c d l m w hl hm hA hB
theorem same_eq (A B : Option Addr) (n k c d : Nat) (l m : List Nat) (w : World) (hn : n = l.length) (hk : k = m.length) (hl : l.length ≤ 140737488355328) (h : l = m) (hA : At w A (ns .u8 l)) (hB : At w B (ns .u8 m)) :
    Calls Try.prog 45 #[.slice A n c, .slice B k d] w fun e w' => e = .returned (.bool true) ∧ Below w.heap.size w w' := by
  refine (same_num A B n k c d l m w hn hk hl (by rw [← h]; exact hl) hA hB).mono ?_
  rintro e w' ⟨rfl, hb⟩
  exact ⟨by rw [decide_eq_true h], hb⟩
theorem buf_at {n0 n c : Nat} {w : World} {A : Option Addr} {l : List Nat} (h : Buf n0 w (.slice A n c) l) : n = l.length ∧ At w A (ns .u8 l) := by
  obtain ⟨A', c', e, h1, _⟩ := h.at
  injection e with e1 e2 e3
  subst e1 e3
  exact ⟨e2, h1⟩
end Go.Proofs.Ytfbjjblgcgjndaa
