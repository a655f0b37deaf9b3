/- Joined texts: Disk11, DiskG, Pool1, Pool2, Str, DiskH, Pool3, Pool4, Step, Pool5, Page1, Page2, Page3, Page4, Page5. -/
import Derived.Maps.Views
import Derived.Laws.BytesArg
import Derived.Lib.LazyBuf
import Derived.Deep.QuietTactic
import Derived.BigQuiet
import Derived.Defers
import Derived.Recover
import Derived.Test.YtfbjjblgcgjndaaPb1
import Derived.Test.YtfbjjblgcgjndaaPb3
set_option linter.unusedVariables false
set_option linter.unusedSimpArgs false

/- Contract of the disk's Read. -/
namespace Go.Proofs.Ytfbjjblgcgjndaa
open Go.RowKit Go.Maps

/-- bytes of the call's own, clipped: no room behind them, though their block may have some -/
def Clip (n0 : Nat) (w : World) (A : Option Addr) (l : List Nat) : Prop :=
  (A = none ∧ l = []) ∨ ∃ g cur, A = some ⟨g, 0, none⟩ ∧ n0 ≤ g ∧ w.heap[g]? = some (.cells cur 5 (0, 0)) ∧ l.length ≤ cur.size ∧ cur.size ≤ maxLen ∧ cur.toList.take l.length = ns .u8 l
theorem Clip.of {n0 : Nat} {w : World} {A : Option Addr} {c : Nat} {l : List Nat} (h : Buf n0 w (.slice A l.length c) l) : Clip n0 w A l := by
  rcases h.2 with ⟨h1, h2⟩ | ⟨g, cap, cur, h1, h2, h3, h4, h5, h6, h7⟩
  · injection h1 with h1
    exact .inl ⟨h1, List.eq_nil_of_length_eq_zero h2⟩
  · injection h1 with h1 _ h1c
    exact .inr ⟨g, cur, h1, h2, h3, by omega, by omega, by simpa using h7⟩
theorem Clip.mono {n0 n1 : Nat} {w : World} {A : Option Addr} {l : List Nat} (h : Clip n0 w A l) (hn : n1 ≤ n0) : Clip n1 w A l := by
  rcases h with h | ⟨g, cur, h1, h2, h3⟩
  · exact .inl h
  · exact .inr ⟨g, cur, h1, Nat.le_trans hn h2, h3⟩
theorem Clip.at {n0 : Nat} {w : World} {A : Option Addr} {l : List Nat} (h : Clip n0 w A l) : At w A (ns .u8 l) := by
  rcases h with ⟨rfl, rfl⟩ | ⟨g, cur, rfl, h1, h2, h3, h4, h5⟩
  · exact At.nil _ _
  · refine At.block h2 0 _ fun j v hv => ?_
    rw [← h5, List.getElem?_take] at hv
    split at hv
    · simpa using hv
    · cases hv
theorem Clip.keep {n0 : Nat} {w w' : World} {A : Option Addr} {l : List Nat} {G : Nat → Prop} (h : Clip n0 w A l) (hc : Chg G w w') (hG : ∀ a, A = some a → ¬ G a.block) : Clip n0 w' A l := by
  rcases h with ⟨rfl, rfl⟩ | ⟨g, cur, rfl, h1, h2, h3⟩
  · exact .inl ⟨rfl, rfl⟩
  · exact .inr ⟨g, cur, rfl, h1, by rw [hc.block g (Array.getElem?_eq_some_iff.1 h2).1 (hG _ rfl)]; exact h2, h3⟩
theorem Clip.base {n0 : Nat} {w : World} {A : Option Addr} {l : List Nat} (h : Clip n0 w A l) (a : Addr) (ha : A = some a) : n0 ≤ a.block ∧ a.block < w.heap.size := by
  rcases h with ⟨rfl, rfl⟩ | ⟨g, cur, rfl, h1, h2, h3⟩
  · cases ha
  · cases ha; exact ⟨h1, (Array.getElem?_eq_some_iff.1 h2).1⟩
theorem Clip.nil {n0 : Nat} {w : World} {l : List Nat} (h : Clip n0 w none l) : l.length = 0 := by
  rcases h with ⟨_, h⟩ | ⟨g, cur, h, _⟩
  · rw [h]; rfl
  · cases h
theorem Clip.inner {n0 : Nat} {w : World} {A : Option Addr} {l : List Nat} (h : Clip n0 w A l) (hb : Bytes l) (hs : l.length ≤ 140737488351232) : Inner.Ok w ⟨A, l, l.length⟩ :=
  ⟨h.at, (fun e => by subst e; exact h.nil), Nat.le_refl _, hs, hb⟩
set_option maxRecDepth 100000 in
theorem clip_any (n0 : Nat) (A : Option Addr) (c : Nat) (l : List Nat) (w : World) (h : Buf n0 w (.slice A l.length c) l) :
    Calls Try.prog 127 #[.slice A l.length c] w fun e w' => e = .returned (.slice A l.length l.length) ∧ w = w' := by
  obtain ⟨A', c', e, hA, hn, hle, hm⟩ := h.at
  cases e
  unfold maxLen at hm
  clear h hA hn
  go_enter Try.func127, Try.ntmps127
  go_wp2_with fail
  go_ret
  exact ⟨rfl, rfl⟩
/-- what a read leaves: bytes, a number, the disk -/
def ReadGives (n0 : Nat) (w : World) (p : Nat) (S : Nat → Prop) (r : Nat × List Nat × Dsk) (e : Ending) (w' : World) : Prop :=
  ∃ A, e = .returned (.tuple #[.slice A r.2.1.length r.2.1.length, .int .u16 (r.1 : Nat)]) ∧ Clip w.heap.size w' A r.2.1 ∧ DiskAt n0 w' p r.2.2 S ∧ Chg S w w'
def ReadMid (n0 : Nat) (w : World) (p br : Nat) (S : Nat → Prop) (r : Nat × List Nat × Dsk) (x : Nat) (w' : World) : Prop :=
  x = r.1 ∧ ∃ v, Box w' br v 23 ∧ Buf (br + 1) w' v r.2.1 ∧ DiskAt n0 w' p r.2.2 S ∧ Chg S w w'
set_option maxRecDepth 100000 in
set_option maxHeartbeats 1000000 in
theorem disk_read (n0 : Nat) (w : World) (p : Nat) (D : Dsk) (S : Nat → Prop) (pg : Int) (h : DiskAt n0 w p D S) (hc : D.cache.length ≤ 1000000000000) (hn : D.n 1 ≤ 4611686018427387904)
    (hSp : ∀ g, S g → g < w.heap.size) :
    Calls Try.prog 52 #[.pointer (some ⟨p, 0, none⟩), .int .i64 pg] w (ReadGives n0 w p S (D.read pg)) := by
  have hp := h.here
  obtain ⟨w1, hw1⟩ : ∃ w1, w1 = ((w.alloc (.cells #[.pointer (some ⟨p, 0, none⟩)] 74)).alloc (.cells #[.int .i64 pg] 3)).alloc (.cells #[.slice none 0 0] 23) := ⟨_, rfl⟩
  have hb1 : Below w.heap.size w w1 := by rw [hw1]; exact below_alloc0 (below_alloc0 (below_alloc0 (Below.refl _ _) _) _) _
  have hz1 : w1.heap.size = w.heap.size + 3 := by rw [hw1]; simp only [sz_alloc]
  have B1 : Box w1 w.heap.size (.pointer (some ⟨p, 0, none⟩)) 74 := by unfold Box; rw [hw1]; simp only [hp_alloc, sz_alloc]; (repeat (first | rw [if_neg (by omega)] | rw [if_pos (by omega)] | rw [if_pos trivial]))
  have B2 : Box w1 (w.heap.size + 1) (.int .i64 pg) 3 := by unfold Box; rw [hw1]; simp only [hp_alloc, sz_alloc]; (repeat (first | rw [if_neg (by omega)] | rw [if_pos (by omega)] | rw [if_pos trivial]))
  have B3 : Box w1 (w.heap.size + 1 + 1) (.slice none 0 0) 23 := by unfold Box; rw [hw1]; simp only [hp_alloc, sz_alloc]; (repeat (first | rw [if_neg (by omega)] | rw [if_pos (by omega)] | rw [if_pos trivial]))
  have hd1 := h.below hb1
  obtain ⟨ok, q, M, hin, hft⟩ := hd1
  have hcf : ∀ args w, (callFunc 126 args).run Try.prog w = .ok (.enter 126 args) w := fun args w => rfl
  have c1 := B1.cell
  have hw01 : Chg S w w1 := .of_below hb1
  have hop : Calls Try.prog 119 #[.pointer (some ⟨p, 0, none⟩), .int .i64 1, .func (.func 126) #[] #[.pointer (some ⟨w.heap.size + 1, 0, none⟩), .pointer (some ⟨w.heap.size, 0, none⟩), .pointer (some ⟨w.heap.size + 1 + 1, 0, none⟩)]] w1
      (fun e w'' => ∃ x : Nat, e = .returned (.int .u16 (x : Nat)) ∧ ReadMid n0 w p (w.heap.size + 1 + 1) S (D.read pg) x w'') := by
    by_cases hb : (D.begin 1).1 = 0
    · have hwr : D.read pg = if pg < 0 ∨ (D.pages : Int) ≤ pg then (2, [], D.go 1) else (0, D.secs (8 * pg.toNat) 8, D.go 1) := by
        unfold Dsk.read; rw [if_neg (by simpa using hb)]
      refine op_go1 _ _ _ p D 126 _ _ w1 hin.rcd ok hn hb hcf ?_
      intro w2 hrec hch
      have hin2 := hin.turned hrec hch rfl rfl
      have hd2 : DiskAt n0 w2 p (D.go 1) S := ⟨D.go_ok ok 1, q, M, hin2, hft⟩
      have hpw := hSp p hp
      have b1 := B1.keep hch (fun e => by have := (show w.heap.size = p from e); omega)
      have b2 := B2.keep hch (fun e => by have := (show w.heap.size + 1 = p from e); omega)
      have b3 := B3.keep hch (fun e => by have := (show w.heap.size + 1 + 1 = p from e); omega)
      have hw02 : Chg S w w2 := hw01.trans hch (fun g _ e => by rw [show g = p from e]; exact hp)
      by_cases c1 : pg < 0 ∨ (D.pages : Int) ≤ pg
      · rw [hwr, if_pos c1]
        refine (read_range n0 w2 p (D.go 1) S pg _ _ _ hd2 b2 b1 c1).mono ?_
        rintro e w3 ⟨rfl, hb3⟩
        exact ⟨2, rfl, rfl, _, b3.keep (G := fun _ => False) (.of_below hb3) (fun h => h), Buf.nil _ _, hd2.below hb3, hw02.trans (.of_below (F := fun _ => False) hb3) (fun _ _ h => h.elim)⟩
      · obtain ⟨n, rfl⟩ : ∃ n : Nat, pg = (n : Int) := ⟨pg.toNat, by omega⟩
        rw [hwr, if_neg c1]
        refine (read_do n0 w2 p (D.go 1) S n _ _ _ hd2 b2 b1 b3 (by show n < D.pages; omega) (fun g hg e => by have := hSp g hg; omega) (by omega) (by omega) hc).mono ?_
        rintro e w3 ⟨rfl, v, hx, hv, hc3⟩
        refine ⟨0, rfl, rfl, v, hx, ?_, hd2.keep hc3 (fun g _ hg e => by have := hSp g hg; have := show g = w.heap.size + 1 + 1 from e; omega), hw02.trans hc3 (fun g hg e => by have := show g = w.heap.size + 1 + 1 from e; omega)⟩
        rw [Int.toNat_natCast]
        exact own_up hv (fun g hg => by have := (hv.base g hg); have := hch.size; omega)
    · have hwr : D.read pg = ((D.begin 1).1, [], (D.begin 1).2) := by unfold Dsk.read; rw [if_pos hb]
      rw [hwr]
      refine (op_fails1 _ _ _ p D _ w1 hin.rcd ok hn hb).mono ?_
      rintro e w2 ⟨rfl, hrec, hch⟩
      have hin2 := hin.turned hrec hch (D.begin_last 1).1 (D.begin_last 1).2
      have hpw := hSp p hp
      exact ⟨_, rfl, rfl, _, B3.keep hch (fun e => by have := (show w.heap.size + 1 + 1 = p from e); omega), Buf.nil _ _, ⟨D.begin_ok ok 1, q, M, hin2, hft⟩, hw01.trans hch (fun g _ e => by rw [show g = p from e]; exact hp)⟩
  have HOP := Lib.hid hop
  have HSP := Lib.hid hSp
  clear hop hSp
  generalize D.read pg = r at *
  go_enter Try.func52, Try.ntmps52
  go_wp2_with fail
  rw [← hw1]
  have HW1 := Lib.hid hw1
  have HZ1 := Lib.hid hz1
  clear hw1 hz1
  go_wp2_with fail
  refine HOP.out.mono ?_
  rintro e w9 ⟨x, rfl, rfl, v, hx, hv, hd9, hc9⟩
  obtain ⟨A, cc, rfl⟩ := own_slice hv
  have g1 := hx.cell
  have hcl := clip_any _ A cc r.2.1 w9 hv
  have HX := Lib.hid hx
  have HV := Lib.hid hv
  have HD9 := Lib.hid hd9
  have HC9 := Lib.hid hc9
  have HCL := Lib.hid hcl
  clear hx hv hd9 hc9 hcl
  go_wp2_with fail
  refine HCL.out.mono ?_
  rintro e w10 ⟨rfl, rfl⟩
  have f1 := frozen_of_row w9 (w.heap.size + 1 + 1) 0 _ 23 HX.out
  go_wp2_with fail
  have hcs := setCell_chg w9 (w.heap.size + 1 + 1) 0 (.slice A r.2.1.length r.2.1.length)
  have hb9 := HV.out.base
  have hlt := HX.out.lt
  refine bodyPost_ret (v := .tuple #[.slice A r.2.1.length r.2.1.length, .int .u16 (r.1 : Nat)]) (by simp [results, Try.results52, go_sem, g1]) rfl ⟨A, rfl, ?_, ?_, HC9.out.trans hcs (fun g hg e => by have := show g = w.heap.size + 1 + 1 from e; omega)⟩
  · refine ((Clip.of HV.out).keep hcs (fun a ha e => ?_)).mono (by omega)
    have := hb9 a.block (by rw [ha]; rfl)
    have := show a.block = w.heap.size + 1 + 1 from e
    omega
  · exact HD9.out.keep hcs (fun g _ hg e => by have := HSP.out g hg; have := show g = w.heap.size + 1 + 1 from e; omega)
end Go.Proofs.Ytfbjjblgcgjndaa

/- The disk's contracts over a disk with its blocks known: what stays, what is new. -/
namespace Go.Proofs.Ytfbjjblgcgjndaa
open Go.RowKit

/-- a disk at p, all of it between n0 and the heap's end -/
structure DG (n0 : Nat) (w : World) (p : Nat) (D : Dsk) (S : Nat → Prop) : Prop where
  disk : DiskAt n0 w p D S
  lt : ∀ g, S g → n0 ≤ g ∧ g < w.heap.size
theorem DG.here {n0 : Nat} {w : World} {p : Nat} {D : Dsk} {S : Nat → Prop} (h : DG n0 w p D S) : S p := h.disk.here
theorem DG.ok {n0 : Nat} {w : World} {p : Nat} {D : Dsk} {S : Nat → Prop} (h : DG n0 w p D S) : D.Ok := h.disk.1
theorem DG.keep {n0 : Nat} {w w' : World} {p : Nat} {D : Dsk} {S G : Nat → Prop} (h : DG n0 w p D S) (hc : Chg G w w') (hG : ∀ g, S g → ¬ G g) : DG n0 w' p D S :=
  ⟨h.disk.keep hc (fun g _ hg => hG g hg), fun g hg => ⟨(h.lt g hg).1, Nat.lt_of_lt_of_le (h.lt g hg).2 hc.size⟩⟩
theorem DG.below {n0 : Nat} {w w' : World} {p : Nat} {D : Dsk} {S : Nat → Prop} (h : DG n0 w p D S) (hb : Below w.heap.size w w') : DG n0 w' p D S :=
  h.keep (G := fun _ => False) (.of_below hb) (fun _ _ h => h)
/-- the blocks of T are S's, or new -/
def Grows (w : World) (S T : Nat → Prop) : Prop := ∀ g, T g → S g ∨ w.heap.size ≤ g
theorem Grows.refl (w : World) (S : Nat → Prop) : Grows w S S := fun _ h => .inl h
theorem Grows.trans {w w' : World} {S T U : Nat → Prop} (h : Grows w S T) (k : Grows w' T U) (hw : w.heap.size ≤ w'.heap.size) : Grows w S U := fun g hg => by
  rcases k g hg with a | a
  · exact h g a
  · exact .inr (Nat.le_trans hw a)
/-- what is apart from S is apart from what S grows to -/
theorem Grows.apart {w : World} {S T X : Nat → Prop} (h : Grows w S T) (hx : ∀ g, X g → g < w.heap.size) (ha : ∀ g, X g → ¬ S g) : ∀ g, X g → ¬ T g := fun g hg ht => by
  rcases h g ht with a | a
  · exact ha g hg a
  · have := hx g hg; omega
def Now (n0 : Nat) (w : World) (p : Nat) (S : Nat → Prop) (D' : Dsk) (w' : World) : Prop := ∃ S', DG n0 w' p D' S' ∧ Grows w S S' ∧ Chg S w w'
theorem DG.now {n0 : Nat} {w w' : World} {p : Nat} {D D' : Dsk} {S : Nat → Prop} (h : DG n0 w p D S) (hn : n0 ≤ w.heap.size) (hd : DiskAt n0 w' p D' (Wide S w.heap.size w'.heap.size)) (hc : Chg S w w') : Now n0 w p S D' w' :=
  ⟨_, ⟨hd, fun g hg => by
    rcases hg with hg | hg
    · exact ⟨(h.lt g hg).1, Nat.lt_of_lt_of_le (h.lt g hg).2 hc.size⟩
    · exact ⟨Nat.le_trans hn hg.1, hg.2⟩⟩, fun g hg => hg.elim .inl (fun h => .inr h.1), hc⟩
def DkGives (n0 : Nat) (w : World) (p : Nat) (S : Nat → Prop) (x : Nat) (D' : Dsk) (e : Ending) (w' : World) : Prop := e = .returned (.int .u16 (x : Nat)) ∧ Now n0 w p S D' w'
theorem dg_write {n0 : Nat} {w : World} {p : Nat} {D : Dsk} {S : Nat → Prop} (h : DG n0 w p D S) (hn0 : n0 ≤ w.heap.size) (pg : Int) (A : Option Addr) (c : Nat) (l : List Nat) (hr : Inner.Ok w ⟨A, l, c⟩) (hA : ∀ a, A = some a → ¬ S a.block) (hc : D.cache.length ≤ 1000000000000) (hn : D.n 2 ≤ 4611686018427387904) :
    Calls Try.prog 48 #[.pointer (some ⟨p, 0, none⟩), .int .i64 pg, .slice A l.length c] w (DkGives n0 w p S (D.write pg l).1 (D.write pg l).2) :=
  (disk_write n0 w p D S pg ⟨A, l, c⟩ h.disk hr hc hn hn0 hA (fun g hg => (h.lt g hg).2) h.here).mono fun e w' ⟨a, b, d⟩ => ⟨a, h.now hn0 b d⟩
theorem dg_sync {n0 : Nat} {w : World} {p : Nat} {D : Dsk} {S : Nat → Prop} (h : DG n0 w p D S) (hn0 : n0 ≤ w.heap.size) (hc : D.cache.length ≤ 1000000000000) (hn : D.n 3 ≤ 4611686018427387904) :
    Calls Try.prog 50 #[.pointer (some ⟨p, 0, none⟩)] w (DkGives n0 w p S D.sync.1 D.sync.2) :=
  (disk_sync n0 w p D S h.disk hc hn (fun g hg => (h.lt g hg).2) h.here).mono fun e w' ⟨a, b, d⟩ => ⟨a, h.now hn0 b d⟩
theorem dg_trip {n0 : Nat} {w : World} {p : Nat} {D : Dsk} {S : Nat → Prop} (h : DG n0 w p D S) (hn0 : n0 ≤ w.heap.size) (n : Int) (hn : n ≤ 9223372036854775807) :
    Calls Try.prog 53 #[.pointer (some ⟨p, 0, none⟩), .int .i64 n] w (DkGives n0 w p S (D.setTrip n).1 (D.setTrip n).2) :=
  (disk_trip n0 w p D S n h.disk hn).mono fun e w' ⟨a, b, d⟩ => ⟨a, h.now hn0 b d⟩
theorem dg_fail {n0 : Nat} {w : World} {p : Nat} {D : Dsk} {S : Nat → Prop} (h : DG n0 w p D S) (hn0 : n0 ≤ w.heap.size) (k n : Int) (hn : n ≤ 9223372036854775807) :
    Calls Try.prog 58 #[.pointer (some ⟨p, 0, none⟩), .int .i64 k, .int .i64 n] w (DkGives n0 w p S (D.setFail k n).1 (D.setFail k n).2) :=
  (disk_fail n0 w p D S k n h.disk hn).mono fun e w' ⟨a, b, d⟩ => ⟨a, h.now hn0 b d⟩
theorem dg_cut {n0 : Nat} {w : World} {p : Nat} {D : Dsk} {S : Nat → Prop} (h : DG n0 w p D S) (hn0 : n0 ≤ w.heap.size) (A : Option Addr) (c : Nat) (bs : List Bool) (hc : D.cache.length ≤ 1000000000000) (hB : ∀ w', Chg S w w' → At w' A (bs.map .bool)) :
    Calls Try.prog 51 #[.pointer (some ⟨p, 0, none⟩), .slice A bs.length c] w fun e w' => e = .returned (.tuple #[]) ∧ Now n0 w p S (D.cut bs) w' :=
  (disk_cut n0 w p D S A c bs h.disk hc hB (fun g hg => (h.lt g hg).2)).mono fun e w' ⟨a, b, d⟩ => ⟨a, h.now hn0 (b.mono fun _ _ _ h => .inl h) d⟩
theorem dg_dark {n0 : Nat} {w : World} {p : Nat} {D : Dsk} {S : Nat → Prop} (h : DG n0 w p D S) : Calls Try.prog 54 #[.pointer (some ⟨p, 0, none⟩)] w fun e w' => e = .returned (.bool D.dark) ∧ w = w' := disk_dark n0 w p D S h.disk
theorem dg_counts {n0 : Nat} {w : World} {p : Nat} {D : Dsk} {S : Nat → Prop} (h : DG n0 w p D S) : Calls Try.prog 56 #[.pointer (some ⟨p, 0, none⟩)] w fun e w' => e = .returned (.agg #[.int .i64 (D.n 1), .int .i64 (D.n 2), .int .i64 (D.n 3)]) ∧ Below w.heap.size w w' := disk_counts n0 w p D S h.disk
theorem dg_new (n : Nat) (w : World) (h1 : 1 ≤ n) (h2 : n ≤ 16384) : Calls Try.prog 46 #[.int .i64 (n : Int)] w fun e w' => ∃ p S, e = .returned (.tuple #[.pointer (some ⟨p, 0, none⟩), .int .u16 0]) ∧ DG w.heap.size w' p (Dsk.new n) S ∧ Below w.heap.size w w' :=
  (new_ok n w h1 h2).mono fun e w' ⟨p, a, b, c⟩ => ⟨p, _, a, ⟨b, fun g hg => hg⟩, c⟩
theorem DG.new_n {n0 : Nat} {w : World} {p : Nat} {D : Dsk} {S : Nat → Prop} (h : DG n0 w p D S) : n0 ≤ w.heap.size := by have := h.lt p h.here; omega
def RdGives (n0 : Nat) (w : World) (p : Nat) (S : Nat → Prop) (r : Nat × List Nat × Dsk) (e : Ending) (w' : World) : Prop :=
  ∃ A, e = .returned (.tuple #[.slice A r.2.1.length r.2.1.length, .int .u16 (r.1 : Nat)]) ∧ Clip w.heap.size w' A r.2.1 ∧ DG n0 w' p r.2.2 S ∧ Chg S w w'
theorem dg_read {n0 : Nat} {w : World} {p : Nat} {D : Dsk} {S : Nat → Prop} (h : DG n0 w p D S) (pg : Int) (hc : D.cache.length ≤ 1000000000000) (hn : D.n 1 ≤ 4611686018427387904) :
    Calls Try.prog 52 #[.pointer (some ⟨p, 0, none⟩), .int .i64 pg] w (RdGives n0 w p S (D.read pg)) :=
  (disk_read n0 w p D S pg h.disk hc hn (fun g hg => (h.lt g hg).2)).mono fun e w' ⟨A, a, b, c, d⟩ => ⟨A, a, b, ⟨c, fun g hg => ⟨(h.lt g hg).1, Nat.lt_of_lt_of_le (h.lt g hg).2 d.size⟩⟩, d⟩
theorem dg_pending {n0 : Nat} {w : World} {p : Nat} {D : Dsk} {S : Nat → Prop} (h : DG n0 w p D S) (hc : D.cache.length ≤ 1000000000000) :
    Calls Try.prog 55 #[.pointer (some ⟨p, 0, none⟩)] w (GivesInts (D.cache.map (·.1)) w) := pending_any n0 w p D S h.disk hc
theorem dg_image {n0 : Nat} {w : World} {p : Nat} {D : Dsk} {S : Nat → Prop} (h : DG n0 w p D S) :
    Calls Try.prog 57 #[.pointer (some ⟨p, 0, none⟩)] w (GivesFill D.last.flatten w) := image_any n0 w p D S h.disk
end Go.Proofs.Ytfbjjblgcgjndaa

/- The pool in memory: the pages at hand, the eldest first; its map. -/
namespace Go.Proofs.Ytfbjjblgcgjndaa
open Go.RowKit Go.Maps

/-- a page at hand -/
structure Hand where
  num : Nat
  kind : Nat
  pay : List Nat
structure Hand.Ok (h : Hand) : Prop where
  num : h.num < 4294967296
  kind : h.kind < 256
  bytes : Bytes h.pay
  len : h.pay.length ≤ 1008
def forget (n : Nat) (L : List Hand) : List Hand := L.filter fun h => h.num != n
def usePage (most : Nat) (h : Hand) (L : List Hand) : List Hand :=
  if most < (forget h.num L ++ [h]).length then (forget h.num L ++ [h]).drop 1 else forget h.num L ++ [h]
def findPage (n : Nat) (L : List Hand) : Option Hand := L.find? fun h => h.num == n

/-- how a pointer to a block's start reads -/
def ptrElem : Value → Option (DataW Unit × List MemPlace)
  | .pointer none => some (.lit (.int .i64 (-1)), [])
  | .pointer (some a) => if a = ⟨a.block, 0, none⟩ then some (.lit (.int .i64 (a.block : Int)), []) else none
  | _ => none
theorem ptrElem_mk (b : Nat) : ptrElem (.pointer (some ⟨b, 0, none⟩)) = some (.lit (.int .i64 (b : Int)), []) := by simp [ptrElem]
theorem ptrElem_nil : ptrElem (.pointer none) = some (.lit (.int .i64 (-1)), []) := rfl
theorem ptrElem_inv {v : Value} {b : Nat} {ps : List MemPlace} (h : ptrElem v = some (.lit (.int .i64 (b : Int)), ps)) : v = .pointer (some ⟨b, 0, none⟩) := by
  unfold ptrElem at h
  split at h
  · simp at h
  · split at h
    · rename_i a e
      simp at h
      rw [e]
      congr 3
      omega
    · cases h
  · cases h
theorem ptrElem_inv0 {v : Value} {ps : List MemPlace} (h : ptrElem v = some (.lit (.int .i64 (-1)), ps)) : v = .pointer none := by
  unfold ptrElem at h
  split at h
  · rfl
  · split at h
    · simp at h
    · cases h
  · cases h
def numKey (n : Nat) : Lit := .int .u32 (n : Int)
theorem numKey_lit (n : Nat) : WideAt.IsKeyLit (numKey n) := by simp [numKey, WideAt.IsKeyLit]
theorem numKey_ne {a b : Nat} (h : a ≠ b) : numKey a ≠ numKey b := by
  intro e; unfold numKey at e; injection e with _ e; exact h (by omega)
/-- the map of the blocks bl by their pages' numbers -/
structure MapFor (M : DataW Unit) (bl : List Nat) (hd : Nat → Hand) : Prop where
  no : ∀ n : Nat, (∀ b, b ∈ bl → (hd b).num ≠ n) → has M (numKey n) = false
  yes : ∀ b, b ∈ bl → has M (numKey (hd b).num) = true ∧ ∀ z, M.atKey (numKey (hd b).num) z = .lit (.int .i64 (b : Int))
  size : Maps.size M = bl.length
theorem MapFor.nil (hd : Nat → Hand) : MapFor (.map []) [] hd := ⟨fun n _ => rfl, fun b hb => by simp at hb, rfl⟩
theorem MapFor.put {M : DataW Unit} {bl : List Nat} {hd : Nat → Hand} (h : MapFor M bl hd) (ht : Tidy M) (b : Nat) (hb : b ∉ bl) (x : Hand) (hx : ∀ c, c ∈ bl → (hd c).num ≠ x.num) : MapFor (M.put (numKey x.num) (.lit (.int .i64 (b : Int)))) (bl ++ [b]) (turn hd b x) := by
  have hne : ∀ c, c ∈ bl → turn hd b x c = hd c := fun c hc => turn_other _ _ _ _ (fun e => hb (e ▸ hc))
  refine ⟨fun n hn => ?_, fun c hc => ?_, ?_⟩
  · have h1 : x.num ≠ n := by have := hn b (by simp); rwa [turn_same] at this
    rw [has_put_other (numKey_ne (Ne.symm h1))]
    exact h.no n fun c hc => by have := hn c (by simp [hc]); rwa [hne c hc] at this
  · rcases List.mem_append.1 hc with hc | hc
    · rw [hne c hc]
      have h1 := numKey_ne (hx c hc)
      rw [has_put_other h1]
      exact ⟨(h.yes c hc).1, fun z => by rw [atKey_put_other h1]; exact (h.yes c hc).2 z⟩
    · simp at hc
      subst hc
      rw [turn_same]
      exact ⟨has_put_same ht.isMap (numKey_lit _) _, fun z => atKey_put_same ht.isMap (numKey_lit _) _ _⟩
  · rw [size_put ht, h.no x.num hx, h.size]; simp
theorem MapFor.del {M : DataW Unit} {l1 l2 : List Nat} {b : Nat} {hd : Nat → Hand} (h : MapFor M (l1 ++ b :: l2) hd) (ht : Tidy M) (hn : ∀ c, c ∈ l1 ++ l2 → (hd c).num ≠ (hd b).num) : MapFor (M.del (numKey (hd b).num)) (l1 ++ l2) hd := by
  have sub : ∀ x, x ∈ l1 ++ l2 → x ∈ l1 ++ b :: l2 := fun x hx => by
    simp only [List.mem_append, List.mem_cons] at hx ⊢
    rcases hx with hx | hx
    · exact .inl hx
    · exact .inr (.inr hx)
  refine ⟨fun n hn' => ?_, fun c hc => ?_, ?_⟩
  · by_cases e : n = (hd b).num
    · subst e; exact has_del_same
    · rw [has_del_other (numKey_ne e)]
      refine h.no n fun c hc => ?_
      simp only [List.mem_append, List.mem_cons] at hc
      rcases hc with hc | rfl | hc
      · exact hn' c (by simp [hc])
      · exact Ne.symm e
      · exact hn' c (by simp [hc])
  · have h1 := numKey_ne (hn c hc)
    rw [has_del_other h1]
    exact ⟨(h.yes c (sub c hc)).1, fun z => by rw [atKey_del_other h1]; exact (h.yes c (sub c hc)).2 z⟩
  · have := size_del (k := numKey (hd b).num) ht
    rw [(h.yes b (by simp)).1, h.size] at this
    simp at this ⊢
    omega
theorem MapFor.perm {M : DataW Unit} {bl bl' : List Nat} {hd : Nat → Hand} (h : MapFor M bl hd) (hm : ∀ x, x ∈ bl' ↔ x ∈ bl) (hl : bl'.length = bl.length) : MapFor M bl' hd :=
  ⟨fun n hn => h.no n fun b hb => hn b ((hm b).2 hb), fun b hb => h.yes b ((hm b).1 hb), by rw [hl]; exact h.size⟩

def lcell (d most mb e : Nat) : Nat → Value
  | 0 => .pointer (some ⟨d, 0, none⟩)
  | 1 => .int .i64 (most : Int)
  | 2 => .map (some mb)
  | _ => .pointer (some ⟨e, 0, none⟩)
/-- a value that is a slice of these bytes; where there are any, its block is among Y -/
structure PoolIn (n0 : Nat) (w : World) (P d most e mb nb : Nat) (bl : List Nat) (hd : Nat → Hand) (nx pv : Nat → Nat) (dat : Nat → Nat → Value) (M : DataW Unit) (Y : Nat → Prop) : Prop where
  rcd : RecAt w P 206 4 (lcell d most mb e)
  ring : RingIn w e bl nx pv dat
  dat : ∀ b, b ∈ bl → dat b 2 = .int .u32 ((hd b).num : Int) ∧ dat b 3 = .int .u8 ((hd b).kind : Int) ∧ (∃ A c, dat b 4 = .slice A (hd b).pay.length c ∧ At w A (ns .u8 (hd b).pay) ∧ (A = none → c = 0) ∧ ∀ a, A = some a → Y a.block) ∧ (hd b).Ok
  nums : ∀ b c, b ∈ bl → c ∈ bl → (hd b).num = (hd c).num → b = c
  map : w.ownsMap Try.prog 22 ptrElem mb nb M
  mfor : MapFor M bl hd
  base : n0 ≤ P ∧ n0 ≤ mb ∧ (∀ b, b ∈ e :: bl → n0 ≤ b) ∧ ∀ g, Y g → n0 ≤ g ∧ g < w.heap.size
  sep : P ≠ mb ∧ P ∉ e :: bl ∧ mb ∉ e :: bl ∧ ∀ g, Y g → g ≠ P ∧ g ≠ mb ∧ g ∉ e :: bl
def pfoot (P e mb : Nat) (bl : List Nat) (Y : Nat → Prop) (g : Nat) : Prop := g = P ∨ g = mb ∨ g ∈ e :: bl ∨ Y g
/-- a pool at P over the disk at d; c: how many pages were laid at most -/
def PoolAt (n0 : Nat) (w : World) (P d most : Nat) (L : List Hand) (c : Nat) (T : Nat → Prop) : Prop :=
  (∃ e mb nb bl hd nx pv dat M Y, PoolIn n0 w P d most e mb nb bl hd nx pv dat M Y ∧ L = bl.map hd ∧ nb ≤ c ∧ ∀ g, pfoot P e mb bl Y g → T g) ∧ ∀ g, T g → n0 ≤ g ∧ g < w.heap.size
theorem map_chg2 {w w' : World} {G : Nat → Prop} {k : TypeId} {R : Value → Option (DataW Unit × List MemPlace)} {b n : Nat} {M : DataW Unit} (h : w.ownsMap Try.prog k R b n M) (hc : Chg G w w') (hG : ¬ G b) : w'.ownsMap Try.prog k R b n M := by
  have hl := h.lt
  obtain ⟨es, clock, h1, h2⟩ := h
  exact ⟨es, clock, by rw [hc.block b hl hG]; exact h1, h2⟩
theorem PoolIn.keep {n0 : Nat} {w w' : World} {P d most e mb nb : Nat} {bl : List Nat} {hd : Nat → Hand} {nx pv : Nat → Nat} {dat : Nat → Nat → Value} {M : DataW Unit} {Y G : Nat → Prop} (h : PoolIn n0 w P d most e mb nb bl hd nx pv dat M Y) (hc : Chg G w w') (hG : ∀ g, pfoot P e mb bl Y g → ¬ G g) : PoolIn n0 w' P d most e mb nb bl hd nx pv dat M Y :=
  ⟨h.rcd.keep hc (hG P (.inl rfl)), h.ring.keep hc (fun b hb => hG b (.inr (.inr (.inl hb)))), fun b hb => by
    obtain ⟨x, y, ⟨A, c, z1, z2, z3, z4⟩, t⟩ := h.dat b hb
    exact ⟨x, y, ⟨A, c, z1, z2.chg hc (fun a ha => hG _ (.inr (.inr (.inr (z4 a ha))))), z3, z4⟩, t⟩, h.nums, map_chg2 h.map hc (hG mb (.inr (.inl rfl))), h.mfor, ⟨h.base.1, h.base.2.1, h.base.2.2.1, fun g hg => ⟨(h.base.2.2.2 g hg).1, Nat.lt_of_lt_of_le (h.base.2.2.2 g hg).2 hc.size⟩⟩, h.sep⟩
theorem PoolAt.keep {n0 : Nat} {w w' : World} {P d most : Nat} {L : List Hand} {c : Nat} {T G : Nat → Prop} (h : PoolAt n0 w P d most L c T) (hc : Chg G w w') (hG : ∀ g, T g → ¬ G g) : PoolAt n0 w' P d most L c T := by
  obtain ⟨⟨e, mb, nb, bl, hd, nx, pv, dat, M, Y, h1, h2, h3, h4⟩, h5⟩ := h
  exact ⟨⟨e, mb, nb, bl, hd, nx, pv, dat, M, Y, h1.keep hc (fun g hg => hG g (h4 g hg)), h2, h3, h4⟩, fun g hg => ⟨(h5 g hg).1, Nat.lt_of_lt_of_le (h5 g hg).2 hc.size⟩⟩
theorem PoolAt.below {n0 : Nat} {w w' : World} {P d most : Nat} {L : List Hand} {c : Nat} {T : Nat → Prop} (h : PoolAt n0 w P d most L c T) (hb : Below w.heap.size w w') : PoolAt n0 w' P d most L c T :=
  h.keep (G := fun _ => False) (.of_below hb) (fun _ _ h => h)
theorem PoolAt.here {n0 : Nat} {w : World} {P d most : Nat} {L : List Hand} {c : Nat} {T : Nat → Prop} (h : PoolAt n0 w P d most L c T) : T P := by
  obtain ⟨⟨e, mb, nb, bl, hd, nx, pv, dat, M, Y, h1, h2, h3, h4⟩, h5⟩ := h
  exact h4 P (.inl rfl)
theorem PoolAt.n_le {n0 : Nat} {w : World} {P d most : Nat} {L : List Hand} {c : Nat} {T : Nat → Prop} (h : PoolAt n0 w P d most L c T) : n0 ≤ w.heap.size := by
  have := h.2 P h.here; omega
/-- what is left of a pool -/
def PNow (n0 : Nat) (w : World) (P d most : Nat) (T : Nat → Prop) (L : List Hand) (c : Nat) (w' : World) : Prop := ∃ T', PoolAt n0 w' P d most L c T' ∧ Grows w T T' ∧ Chg T w w'
theorem PoolAt.pnow {n0 : Nat} {w w' : World} {P d most : Nat} {L : List Hand} {c : Nat} {T : Nat → Prop} (h : PoolAt n0 w' P d most L c T) (hc : Chg T w w') : PNow n0 w P d most T L c w' := ⟨T, h, Grows.refl _ _, hc⟩
theorem pool_key {n : Nat} (hn : n < 4294967296) : keyOf Try.prog 22 (.int .u32 (n : Int)) = some (numKey n) := by
  have h1 : (n : Int) ≤ 4294967295 := by omega
  exact keyOf_int_mk Try.underlying22 (by go_wf)
theorem pool_keyed : Keyed Try.prog 22 := int_keyed Try.underlying22
theorem Try.info199 : (Try.prog.info? 199).map (fun i => (i.zero, i.size, i.bytes)) = some (some (.pointer none), 1, 8) := by kernel_rfl
theorem zero199 (w : World) : (zeroValue 199).run Try.prog w = .ok (.pointer none) w := by
  obtain ⟨i3, h3, e3, _⟩ := info_parts Try.info199
  simp [zeroValue, typeInfo, h3, e3]
end Go.Proofs.Ytfbjjblgcgjndaa

/- Contracts of the pool's Forget, Has, Len. -/
namespace Go.Proofs.Ytfbjjblgcgjndaa
open Go.RowKit Go.Maps

theorem Try.under204 : Try.prog.underlying 204 = some (.map 22 199) := by kernel_rfl
section
variable {n0 : Nat} {w w1 w2 : World} {P d most e mb nb : Nat} {bl l1 l2 : List Nat} {b : Nat} {hd : Nat → Hand} {nx pv nx' pv' : Nat → Nat} {dat : Nat → Nat → Value} {M : DataW Unit} {Y : Nat → Prop}
theorem PoolIn.look_no (h : PoolIn n0 w P d most e mb nb bl hd nx pv dat M Y) (n : Nat) (hn : n < 4294967296) (hno : ∀ b, b ∈ bl → (hd b).num ≠ n) : (Instr.lookup 204 (.map (some mb)) (.int .u32 (n : Int)) false).run Try.prog w = .ok (.pointer none) w := by
  obtain ⟨v, ps, hr, hv⟩ := h.map.lookup pool_keyed Try.under204 (zero199 w) ptrElem_nil (pool_key hn)
  rw [atKey_of_not_has (h.mfor.no n hno)] at hv
  rw [ptrElem_inv0 hv] at hr
  exact hr
theorem PoolIn.look_yes (h : PoolIn n0 w P d most e mb nb bl hd nx pv dat M Y) (b : Nat) (hb : b ∈ bl) : (Instr.lookup 204 (.map (some mb)) (.int .u32 ((hd b).num : Int)) false).run Try.prog w = .ok (.pointer (some ⟨b, 0, none⟩)) w := by
  obtain ⟨v, ps, hr, hv⟩ := h.map.lookup pool_keyed Try.under204 (zero199 w) ptrElem_nil (pool_key (h.dat b hb).2.2.2.num)
  rw [(h.mfor.yes b hb).2] at hv
  rw [ptrElem_inv hv] at hr
  exact hr
/-- by the number: none, or just one -/
theorem PoolIn.split (h : PoolIn n0 w P d most e mb nb bl hd nx pv dat M Y) (n : Nat) : (∀ b, b ∈ bl → (hd b).num ≠ n) ∨ ∃ l1 b l2, bl = l1 ++ b :: l2 ∧ (hd b).num = n := by
  by_cases hx : ∃ b, b ∈ bl ∧ (hd b).num = n
  · obtain ⟨b, hb, e⟩ := hx
    obtain ⟨l1, l2, e2⟩ := List.append_of_mem hb
    exact .inr ⟨l1, b, l2, e2, e⟩
  · exact .inl fun b hb e => hx ⟨b, hb, e⟩
theorem forget_none {L : List Hand} {n : Nat} (h : ∀ x, x ∈ L → x.num ≠ n) : forget n L = L := by
  unfold forget
  rw [List.filter_eq_self]
  intro x hx
  simpa using h x hx
theorem PoolIn.others (h : PoolIn n0 w P d most e mb nb (l1 ++ b :: l2) hd nx pv dat M Y) : ∀ c, c ∈ l1 ++ l2 → (hd c).num ≠ (hd b).num := fun c hc e' => by
  have hc2 : c ∈ l1 ++ b :: l2 := by
    simp only [List.mem_append, List.mem_cons] at hc ⊢
    rcases hc with hc | hc
    · exact .inl hc
    · exact .inr (.inr hc)
  have := h.nums c b hc2 (by simp) e'
  subst this
  have nd := h.ring.nodup
  rw [List.nodup_cons, List.nodup_append, List.nodup_cons] at nd
  rcases List.mem_append.1 hc with hc | hc
  · exact nd.2.2.2 c hc c (by simp) rfl
  · exact nd.2.2.1.1 hc
theorem PoolIn.forget_one (h : PoolIn n0 w P d most e mb nb (l1 ++ b :: l2) hd nx pv dat M Y) : forget (hd b).num ((l1 ++ b :: l2).map hd) = (l1 ++ l2).map hd := by
  unfold forget
  have ho := h.others
  rw [List.map_append, List.map_cons, List.filter_append, List.filter_cons]
  simp only [bne_self_eq_false, Bool.false_eq_true, if_false]
  rw [List.filter_eq_self.2, List.filter_eq_self.2, List.map_append]
  · intro x hx
    obtain ⟨c, hc, rfl⟩ := List.mem_map.1 hx
    simpa using ho c (by simp [hc])
  · intro x hx
    obtain ⟨c, hc, rfl⟩ := List.mem_map.1 hx
    simpa using ho c (by simp [hc])
theorem mem_mid {x : Nat} (h : x ∈ e :: (l1 ++ l2)) : x ∈ e :: (l1 ++ b :: l2) := by
  simp only [List.mem_cons, List.mem_append] at h ⊢
  rcases h with h | h | h
  · exact .inl h
  · exact .inr (.inl h)
  · exact .inr (.inr (.inr h))
theorem mem_mid' {x : Nat} (h : x ∈ l1 ++ l2) : x ∈ l1 ++ b :: l2 := by
  simp only [List.mem_cons, List.mem_append] at h ⊢
  rcases h with h | h
  · exact .inl h
  · exact .inr (.inr h)
/-- the ring's nodes alone have turned -/
theorem PoolIn.rest (h : PoolIn n0 w P d most e mb nb bl hd nx pv dat M Y) (hc : Chg (fun g => g ∈ e :: bl) w w1) : RecAt w1 P 206 4 (lcell d most mb e) ∧ w1.ownsMap Try.prog 22 ptrElem mb nb M ∧
    (∀ b, b ∈ bl → dat b 2 = .int .u32 ((hd b).num : Int) ∧ dat b 3 = .int .u8 ((hd b).kind : Int) ∧ (∃ A c, dat b 4 = .slice A (hd b).pay.length c ∧ At w1 A (ns .u8 (hd b).pay) ∧ (A = none → c = 0) ∧ ∀ a, A = some a → Y a.block) ∧ (hd b).Ok) :=
  ⟨h.rcd.keep hc h.sep.2.1, map_chg2 h.map hc h.sep.2.2.1, fun b hb => by
    obtain ⟨x, y, ⟨A, c, z1, z2, z3, z4⟩, t⟩ := h.dat b hb
    exact ⟨x, y, ⟨A, c, z1, z2.chg hc (fun a ha => (h.sep.2.2.2 _ (z4 a ha)).2.2), z3, z4⟩, t⟩⟩
theorem PoolIn.dropped (h : PoolIn n0 w P d most e mb nb (l1 ++ b :: l2) hd nx pv dat M Y) (hr : RingIn w1 e (l1 ++ l2) nx' pv' dat) (hc : Chg (fun g => g ∈ e :: (l1 ++ l2)) w w1) (hm : w2.ownsMap Try.prog 22 ptrElem mb nb (M.del (numKey (hd b).num))) (hg : w1.grownBy w2 (some mb)) :
    PoolIn n0 w2 P d most e mb nb (l1 ++ l2) hd nx' pv' dat (M.del (numKey (hd b).num)) Y ∧ Chg (fun g => g = mb ∨ g ∈ e :: (l1 ++ l2)) w w2 := by
  have hc' : Chg (fun g => g ∈ e :: (l1 ++ b :: l2)) w w1 := hc.mono (fun g _ hg => mem_mid hg)
  obtain ⟨r1, r2, r3⟩ := h.rest hc'
  have hcm : Chg (fun g => g = mb) w1 w2 := Chg.of_grown hg (fun g e => by cases e; rfl)
  have hcc : Chg (fun g => g = mb ∨ g ∈ e :: (l1 ++ l2)) w w2 := (hc.mono (G := fun g => g = mb ∨ g ∈ e :: (l1 ++ l2)) (fun g _ hg => .inr hg)).trans hcm (fun g _ hg => .inl hg)
  obtain ⟨s1, s2, s3, s4⟩ := h.sep
  refine ⟨⟨r1.keep hcm s1, hr.keep hcm (fun x hx e' => s3 (by rw [← show x = mb from e']; exact mem_mid hx)), fun c hc => ?_, fun c c' hc hc' => h.nums c c' (mem_mid' hc) (mem_mid' hc'), hm, h.mfor.del (h.map.tidy pool_keyed) h.others, ⟨h.base.1, h.base.2.1, fun x hx => h.base.2.2.1 x (mem_mid hx), fun g hg => ⟨(h.base.2.2.2 g hg).1, Nat.lt_of_lt_of_le (h.base.2.2.2 g hg).2 hcc.size⟩⟩, s1, fun hx => s2 (mem_mid hx), fun hx => s3 (mem_mid hx), fun g hg => ⟨(s4 g hg).1, (s4 g hg).2.1, fun hx => (s4 g hg).2.2 (mem_mid hx)⟩⟩, hcc⟩
  obtain ⟨x, y, ⟨A, c, z1, z2, z3, z4⟩, t⟩ := r3 c (mem_mid' hc)
  exact ⟨x, y, ⟨A, c, z1, z2.chg hcm (fun a ha => (s4 _ (z4 a ha)).2.1), z3, z4⟩, t⟩
end
def PlForgot (n0 : Nat) (w : World) (P d most : Nat) (T : Nat → Prop) (L : List Hand) (c : Nat) (x : Ending) (w' : World) : Prop := x = .returned (.tuple #[]) ∧ PoolAt n0 w' P d most L c T ∧ Chg T w w'
set_option maxRecDepth 100000 in
set_option maxHeartbeats 4000000 in
theorem forget_any {n0 : Nat} {w : World} {P d most : Nat} {L : List Hand} {c : Nat} {T : Nat → Prop} (h : PoolAt n0 w P d most L c T) (n : Nat) (hn : n < 4294967296) :
    Calls Try.prog 85 #[.pointer (some ⟨P, 0, none⟩), .int .u32 (n : Int)] w (PlForgot n0 w P d most T (forget n L) c) := by
  obtain ⟨⟨e, mb, nb, bl, hd, nx, pv, dat, M, Y, h1, rfl, h3, h4⟩, h5⟩ := h
  have c2 : w.cell? ⟨P, 2, none⟩ = some (.map (some mb)) := h1.rcd.cell 2 (by omega)
  rcases h1.split n with hno | ⟨l1, b, l2, rfl, rfl⟩
  · have hl := h1.look_no n hn hno
    have hf : forget n (bl.map hd) = bl.map hd := forget_none (fun x hx => by obtain ⟨c, hc, rfl⟩ := List.mem_map.1 hx; exact hno c hc)
    rw [hf]
    have HFIN := Lib.hid (show PlForgot n0 w P d most T (bl.map hd) c (.returned (.tuple #[])) w from ⟨rfl, ⟨⟨e, mb, nb, bl, hd, nx, pv, dat, M, Y, h1, rfl, h3, h4⟩, h5⟩, Chg.refl _ _⟩)
    clear hf hno h1 h3 h4 h5
    go_enter Try.func85, Try.ntmps85
    go_wp2_with fail
    go_end0
    exact HFIN.out
  · have hl := h1.look_yes b (by simp)
    have hf := h1.forget_one
    rw [hf]
    have HK := Lib.hid (pool_key hn)
    generalize hnn : (hd b).num = n at *
    have HOUT := Lib.hid (out_any h1.ring)
    have H1 := Lib.hid h1
    have H3 := Lib.hid h3
    have H4 := Lib.hid h4
    have H5 := Lib.hid h5
    have HNN := Lib.hid hnn
    clear hf h1 h3 h4 h5 hnn
    go_enter Try.func85, Try.ntmps85
    go_wp2_with fail
    refine HOUT.out.mono ?_
    rintro x w1 ⟨rfl, hr1, _, hc1⟩
    have hc1' : Chg (fun g => g ∈ e :: (l1 ++ b :: l2)) w w1 := hc1.mono (fun g _ hg => mem_mid hg)
    obtain ⟨r1, r2, _⟩ := H1.out.rest hc1'
    have d2 : w1.cell? ⟨P, 2, none⟩ = some (.map (some mb)) := r1.cell 2 (by omega)
    have HR1 := Lib.hid hr1
    have HC1 := Lib.hid hc1
    have HM1 := Lib.hid r2
    clear hr1 hc1 hc1' r1 r2 hl c2
    go_wp2_with (at_delete; refine wpList_delete_own _ rfl _ _ 204 22 rfl 199 pool_keyed Try.under204 ptrElem mb nb M rfl HM1.out _ _ rfl HK.out ?_; intro w2 hown2 hturn2)
    go_end0
    have hdr := H1.out.dropped HR1.out HC1.out (by rw [HNN.out]; exact hown2) hturn2.grown
    refine ⟨rfl, ⟨⟨e, mb, nb, l1 ++ l2, hd, _, _, dat, _, Y, hdr.1, by simp, H3.out, fun g hg => H4.out g ?_⟩, fun g hg => ⟨(H5.out g hg).1, Nat.lt_of_lt_of_le (H5.out g hg).2 hdr.2.size⟩⟩, hdr.2.mono (fun g _ hg => H4.out g ?_)⟩
    · rcases hg with hg | hg | hg | hg
      · exact .inl hg
      · exact .inr (.inl hg)
      · exact .inr (.inr (.inl (mem_mid hg)))
      · exact .inr (.inr (.inr hg))
    · rcases hg with hg | hg
      · exact .inr (.inl hg)
      · exact .inr (.inr (.inl (mem_mid hg)))
def isHand (n : Nat) (L : List Hand) : Bool := L.any fun h => h.num == n
set_option maxRecDepth 100000 in
theorem has_any {n0 : Nat} {w : World} {P d most : Nat} {L : List Hand} {c : Nat} {T : Nat → Prop} (h : PoolAt n0 w P d most L c T) (n : Nat) (hn : n < 4294967296) :
    Calls Try.prog 83 #[.pointer (some ⟨P, 0, none⟩), .int .u32 (n : Int)] w fun x w' => x = .returned (.bool (isHand n L)) ∧ w = w' := by
  obtain ⟨⟨e, mb, nb, bl, hd, nx, pv, dat, M, Y, h1, rfl, h3, h4⟩, h5⟩ := h
  have c2 : w.cell? ⟨P, 2, none⟩ = some (.map (some mb)) := h1.rcd.cell 2 (by omega)
  rcases h1.split n with hno | ⟨l1, b, l2, rfl, rfl⟩
  · have hl := h1.look_no n hn hno
    have hi : isHand n (bl.map hd) = false := by
      unfold isHand
      rw [List.any_eq_false]
      intro x hx
      obtain ⟨c, hc, rfl⟩ := List.mem_map.1 hx
      simpa using hno c hc
    rw [hi]
    clear hi hno h1 h3 h4 h5
    go_enter Try.func83, Try.ntmps83
    go_wp2_with fail
    go_ret
    exact ⟨rfl, rfl⟩
  · have hl := h1.look_yes b (by simp)
    have hi : isHand (hd b).num ((l1 ++ b :: l2).map hd) = true := by
      unfold isHand
      rw [List.any_eq_true]
      exact ⟨hd b, List.mem_map.2 ⟨b, by simp, rfl⟩, by simp⟩
    rw [hi]
    clear hi h1 h3 h4 h5
    generalize (hd b).num = n at *
    go_enter Try.func83, Try.ntmps83
    go_wp2_with fail
    go_ret
    exact ⟨rfl, rfl⟩
set_option maxRecDepth 100000 in
theorem len_any {n0 : Nat} {w : World} {P d most : Nat} {L : List Hand} {c : Nat} {T : Nat → Prop} (h : PoolAt n0 w P d most L c T) :
    Calls Try.prog 82 #[.pointer (some ⟨P, 0, none⟩)] w fun x w' => x = .returned (.int .i64 (L.length : Int)) ∧ w = w' := by
  obtain ⟨⟨e, mb, nb, bl, hd, nx, pv, dat, M, Y, h1, rfl, h3, h4⟩, h5⟩ := h
  have c2 : w.cell? ⟨P, 2, none⟩ = some (.map (some mb)) := h1.rcd.cell 2 (by omega)
  have HM := Lib.hid h1.map
  have HZ := Lib.hid h1.mfor.size
  clear h1 h3 h4 h5
  go_enter Try.func82, Try.ntmps82
  go_wp2_with (with_reducible refine wpList_len_own _ rfl _ 204 rfl 22 199 Try.under204 ptrElem mb nb M rfl HM.out ?_)
  go_ret
  exact ⟨by rw [HZ.out, List.length_map]; rfl, rfl⟩
end Go.Proofs.Ytfbjjblgcgjndaa

/- Bytes made strings; bytes.Equal; slices.Clone of bytes. -/
namespace Go.Proofs.Ytfbjjblgcgjndaa
open Go.RowKit

def str (l : List Nat) : ByteArray := ⟨(l.map UInt8.ofNat).toArray⟩
theorem str_nums (l : List Nat) : strOfNums (l.map fun (n : Nat) => (n : Int)) = str l := by
  simp [strOfNums, str, Function.comp_def]
theorem str_inj (l m : List Nat) (hl : Bytes l) (hm : Bytes m) (h : str l = str m) : l = m := by
  unfold str at h
  injection h with h
  have h' : l.map UInt8.ofNat = m.map UInt8.ofNat := by simpa using h
  have h2 := congrArg (List.map UInt8.toNat) h'
  rw [List.map_map, List.map_map] at h2
  have e : ∀ x : List Nat, Bytes x → x.map (UInt8.toNat ∘ UInt8.ofNat) = x := by
    intro x hx
    conv => rhs; rw [← List.map_id x]
    apply List.map_congr_left
    intro a ha
    have := hx a ha
    simp [UInt8.toNat_ofNat']
    omega
  rwa [e l hl, e m hm] at h2
theorem str_list (l : List Nat) : (str l).toList = l.map UInt8.ofNat := by rw [ByteArray.toList_eq]; simp [str]
theorem str_beq (l m : List Nat) (hl : Bytes l) (hm : Bytes m) : ((str l).toList == (str m).toList) = decide (l = m) := by
  by_cases h : l = m
  · subst h; simp
  · have : (str l).toList ≠ (str m).toList := fun e => h (str_inj l m hl hm (by
      rw [str_list, str_list] at e
      unfold str; rw [e]))
    rw [decide_eq_false h]
    exact beq_eq_false_iff_ne.2 this
theorem conv_str {P : Program} (w : World) (A : Option Addr) (c : Nat) (l : List Nat) (n : Nat) (hn : n = l.length) (hA : At w A (ns .u8 l)) (hs : P.underlying 23 = some (.slice 5)) (he : P.underlying 5 = some (.int .u8)) (hd : P.underlying 9 = some .string) :
    (convert 23 9 (.slice A n c)).run P w = .ok (.string (str l)) w := by
  subst hn
  cases l with
  | nil =>
    rw [List.length_nil]
    cases A with
    | none => exact run_convert_bytes_nil (P := P) w 23 5 hs he 0 c 9 hd
    | some a =>
      rw [run_convert_bytes_string w 23 9 5 (some a) 0 c hs he hd]
      simp [Conv.bytesToString, loadCells, loadCellsFrom, str]
      rfl
  | cons x l =>
    obtain ⟨b, o, rfl, hr⟩ := hA (by simp [ns])
    have := run_convert_bytes_arg (P := P) w 23 5 hs he b o (x :: l).length c ((x :: l).map fun (n : Nat) => (n : Int)) (by simp) (fun i hi => by
      have h1 := hr i _ (ns_get .u8 (x :: l) i hi)
      rw [h1]
      have h2 := nth_eq (x :: l) i hi
      simp only [List.getD_eq_getElem?_getD, List.getElem?_map, h2, Option.map_some, Option.getD_some]) 9 hd
    rw [this, str_nums]

set_option maxRecDepth 100000 in
theorem equal_any (A B : Option Addr) (c d n k : Nat) (l m : List Nat) (w : World) (hn : n = l.length) (hk : k = m.length) (hA : At w A (ns .u8 l)) (hB : At w B (ns .u8 m)) (hl : Bytes l) (hm : Bytes m) :
    Calls Try.prog 136 #[.slice A n c, .slice B k d] w fun e w' => e = .returned (.bool (decide (l = m))) ∧ w = w' := by
  have h1 := conv_str (P := Try.prog) w A c l n hn hA Try.underlying23 Try.underlying5 Try.underlying9
  have h2 := conv_str (P := Try.prog) w B d m k hk hB Try.underlying23 Try.underlying5 Try.underlying9
  have h3 := str_beq l m hl hm
  have H3 := Lib.hid h3
  clear h3 hA hB hn hk hl hm
  go_enter Try.func136, Try.ntmps136
  go_wp2
  go_ret
  exact ⟨by rw [← H3.out]; rfl, rfl⟩

set_option maxRecDepth 100000 in
theorem clone_any (A : Option Addr) (c n : Nat) (l : List Nat) (w : World) (hn : n = l.length) (hs : l.length ≤ 1000000000) (hA : At w A (ns .u8 l)) (hnil : A = none → c = 0) :
    Calls Try.prog 137 #[.slice A n c] w fun e w' => ∃ v, e = .returned v ∧ Buf w.heap.size w' v l ∧ Below w.heap.size w w' ∧ w.heap.size ≤ w'.heap.size := by
  subst hn
  cases A with
  | none =>
    have hl0 : l = [] := Classical.byContradiction fun h => by
      obtain ⟨b, o, e, _⟩ := hA (by intro he; apply h; have := congrArg List.length he; simpa [ns] using this)
      cases e
    subst hl0
    obtain rfl := hnil rfl
    have hne : ∀ w, (binOp .eql 23 (.slice none 0 0) (.slice none 0 0)).run Try.prog w = .ok (.bool true) w := fun w => by
      have := Lib.run_eql_slice_nil (P := Try.prog) w 23 5 none 0 0 0 0 Try.underlying23
      simpa using this
    rw [List.length_nil]
    go_enter Try.func137, Try.ntmps137
    go_wp2
    go_ret
    exact ⟨_, rfl, Buf.nil _ _, Below.refl _ _, Nat.le_refl _⟩
  | some a =>
    have hne : ∀ w, (binOp .eql 23 (.slice (some a) l.length c) (.slice none 0 0)).run Try.prog w = .ok (.bool false) w := fun w => by
      have := Lib.run_eql_slice_nil (P := Try.prog) w 23 5 (some a) l.length c 0 0 Try.underlying23
      simpa using this
    go_enter Try.func137, Try.ntmps137
    go_wp2_with (at_builtin; go_loud (refine buf_append (w0 := w) rfl (.tmp 5) (.tmp 6) rfl Try.underlying23 Try.info5 w.heap.size (.slice (some ⟨w.heap.size, 0, none⟩) 0 0) [] rfl (Buf.new w [] (Nat.le_refl _) (by simp) _ _ rfl rfl) (some a) l.length c l rfl rfl (hA.below (below_alloc0 (Below.refl _ _) _)) hnil (by simp; omega) (by simp) (below_alloc0 (Below.refl _ _) _) ?_); intro v1 w1 hv1 hb1 hs1)
    go_ret
    exact ⟨_, rfl, hv1, hb1, hs1⟩
end Go.Proofs.Ytfbjjblgcgjndaa

/- What a walk over a disk carries along: rows and clipped rows aside of the disk's blocks. -/
namespace Go.Proofs.Ytfbjjblgcgjndaa
open Go.RowKit

def Fills (n c : Nat) (w : World) (e : Ending) (w' : World) : Prop := ∃ A cc, e = .returned (.slice A n cc) ∧ Buf w.heap.size w' (.slice A n cc) (List.replicate n c) ∧ Below w.heap.size w w'
theorem fill_any (n c : Nat) (w : World) (hn : n ≤ 1000000) (hc : c < 256) : Calls Try.prog 49 #[.int .i64 (n : Int), .int .u8 (c : Int)] w (Fills n c w) := by
  refine (fill7_any n c w hn hc).mono ?_
  rintro e w' ⟨A, cc, h1, h2, h3⟩
  rw [List.length_replicate] at h1 h2
  exact ⟨A, cc, h1, h2, h3⟩
theorem rep_bytes (n c : Nat) (hc : c < 256) : Bytes (List.replicate n c) := fun x hx => by rw [(List.mem_replicate.1 hx).2]; exact hc
theorem buf_ok {n0 n c : Nat} {w : World} {A : Option Addr} {l : List Nat} (h : Buf n0 w (.slice A n c) l) (hb : Bytes l) (hs : l.length ≤ 140737488351232) : n = l.length ∧ Inner.Ok w ⟨A, l, c⟩ := by
  obtain ⟨A', c', e, h1, h2, h3, h4⟩ := h.at
  injection e with e1 e2 e3
  subst e1 e3
  exact ⟨e2, h1, h2, h3, hs, hb⟩
/-- blocks X that lie, and are none of S -/
structure Aside (w : World) (S X : Nat → Prop) : Prop where
  lt : ∀ g, X g → g < w.heap.size
  off : ∀ g, X g → ¬ S g
theorem Aside.up {w w' : World} {S X : Nat → Prop} (h : Aside w S X) (hs : w.heap.size ≤ w'.heap.size) : Aside w' S X := ⟨fun g hg => Nat.lt_of_lt_of_le (h.lt g hg) hs, h.off⟩
theorem Aside.now {w w' : World} {S S' X : Nat → Prop} (h : Aside w S X) (hg : Grows w S S') (hs : w.heap.size ≤ w'.heap.size) : Aside w' S' X := ⟨fun g hg => Nat.lt_of_lt_of_le (h.lt g hg) hs, hg.apart h.lt h.off⟩
theorem Aside.row {n0 : Nat} {w : World} {e : TypeId} {n : Nat} {v : Value} {xs : List Value} {S : Nat → Prop} (h : w.ownsRow n0 e 1 v n xs) (hS : ∀ g, S g → g < n0) : Aside w S (blk v) :=
  ⟨fun g hg => (row_lt h hg).2, fun g hg h' => by have := (row_lt h hg).1; have := hS g h'; omega⟩
theorem Aside.clip {n0 : Nat} {w : World} {A : Option Addr} {l : List Nat} {n c : Nat} {S : Nat → Prop} (h : Clip n0 w A l) (hS : ∀ g, S g → g < n0) : Aside w S (blk (.slice A n c)) :=
  ⟨fun g hg => by
    cases A with
    | none => cases hg
    | some a => cases hg; exact (h.base a rfl).2, fun g hg h' => by
    cases A with
    | none => cases hg
    | some a => cases hg; have := (h.base a rfl).1; have := hS _ h'; omega⟩
theorem Clip.chg {n0 : Nat} {w w' : World} {A : Option Addr} {l : List Nat} {n c : Nat} {S : Nat → Prop} (h : Clip n0 w A l) (ha : Aside w S (blk (.slice A n c))) (hc : Chg S w w') : Clip n0 w' A l :=
  h.keep hc (fun a e => ha.off _ (by rw [e]; rfl))
theorem Clip.below {n0 : Nat} {w w' : World} {A : Option Addr} {l : List Nat} (h : Clip n0 w A l) (hb : Below w.heap.size w w') : Clip n0 w' A l :=
  h.keep (G := fun _ => False) (.of_below hb) (fun _ _ h => h)
theorem own_aside {n0 : Nat} {w w' : World} {e : TypeId} {n : Nat} {v : Value} {xs : List Value} {S : Nat → Prop} (h : w.ownsRow n0 e 1 v n xs) (ha : Aside w S (blk v)) (hc : Chg S w w') : w'.ownsRow n0 e 1 v n xs := own_chg h hc ha.off
theorem DG.after {n0 : Nat} {w0 w w' : World} {p : Nat} {D : Dsk} {S : Nat → Prop} (h : DG n0 w p D S) (hb : Below n0 w0 w) (hc : Chg S w w') : Below n0 w0 w' := hb.trans (hc.below h.new_n (fun g hg => (h.lt g hg).1))
theorem DG.top {n0 : Nat} {w : World} {p : Nat} {D : Dsk} {S : Nat → Prop} (h : DG n0 w p D S) : ∀ g, S g → g < w.heap.size := fun g hg => (h.lt g hg).2
/-- a disk aside of another one's blocks -/
theorem DG.chg {n0 : Nat} {w w' : World} {p : Nat} {D : Dsk} {S T : Nat → Prop} (h : DG n0 w p D S) (ha : Aside w T S) (hc : Chg T w w') : DG n0 w' p D S := h.keep hc ha.off
theorem Aside.comm {w : World} {S T : Nat → Prop} (h : Aside w S T) (hS : ∀ g, S g → g < w.heap.size) : Aside w T S := ⟨hS, fun g hg ht => h.off g ht hg⟩
theorem dg_writeb {n0 m : Nat} {w : World} {p : Nat} {D : Dsk} {S : Nat → Prop} (h : DG n0 w p D S) (pg : Int) (n : Nat) (A : Option Addr) (c : Nat) (l : List Nat) (hv : Buf m w (.slice A n c) l) (ha : Aside w S (blk (.slice A n c))) (hl : Bytes l) (hs : l.length ≤ 140737488351232) (hc : D.cache.length ≤ 1000000000000) (hn : D.n 2 ≤ 4611686018427387904) :
    Calls Try.prog 48 #[.pointer (some ⟨p, 0, none⟩), .int .i64 pg, .slice A n c] w (DkGives n0 w p S (D.write pg l).1 (D.write pg l).2) := by
  obtain ⟨rfl, hok⟩ := buf_ok hv hl hs
  exact dg_write h h.new_n pg A c l hok (fun a e => ha.off _ (by rw [e]; rfl)) hc hn
theorem dg_writef {n0 m : Nat} {w : World} {p : Nat} {D : Dsk} {S : Nat → Prop} (h : DG n0 w p D S) (pg : Int) (n k : Nat) (A : Option Addr) (c : Nat) (hv : Buf m w (.slice A n c) (List.replicate n k)) (ha : Aside w S (blk (.slice A n c))) (hk : k < 256) (hs : n ≤ 1000000) (hc : D.cache.length ≤ 1000000000000) (hn : D.n 2 ≤ 4611686018427387904) :
    Calls Try.prog 48 #[.pointer (some ⟨p, 0, none⟩), .int .i64 pg, .slice A n c] w (DkGives n0 w p S (D.write pg (List.replicate n k)).1 (D.write pg (List.replicate n k)).2) :=
  dg_writeb h pg n A c _ hv ha (rep_bytes n k hk) (by rw [List.length_replicate]; omega) hc hn
theorem ints_at {n0 n c : Nat} {w : World} {A : Option Addr} {l : List Nat} (h : w.ownsRow n0 3 1 (.slice A n c) n (ns .i64 l)) : At w A (ns .i64 l) := by
  obtain ⟨A', c', e, h1, _⟩ := At.own h
  injection e with e1 e2 e3
  subst e1
  exact h1
theorem sameInts_eq (A B : Option Addr) (n k c d : Nat) (l m : List Nat) (w : World) (hn : n = l.length) (hk : k = m.length) (hl : l.length ≤ 140737488355328) (h : l = m) (hA : At w A (ns .i64 l)) (hB : At w B (ns .i64 m)) :
    Calls Try.prog 59 #[.slice A n c, .slice B k d] w fun e w' => e = .returned (.bool true) ∧ Below w.heap.size w w' := by
  subst hn hk
  refine (sameInts_any A B c d l m w hl (by rw [← h]; exact hl) hA hB).mono ?_
  rintro e w' ⟨rfl, hb⟩
  exact ⟨by rw [decide_eq_true h], hb⟩
theorem image_small {D : Dsk} (ok : D.Ok) : D.last.flatten.length ≤ 140737488355328 := by
  rw [rows_length (m := 128) (fun s hs => (ok.last s hs).1)]
  obtain ⟨p, h1, h2, h3⟩ := ok.pages
  omega
theorem dg_imagel {n0 : Nat} {w : World} {p : Nat} {D : Dsk} {S : Nat → Prop} {F : List Nat} (h : DG n0 w p D S) (hF : F = D.last.flatten) : Calls Try.prog 57 #[.pointer (some ⟨p, 0, none⟩)] w (GivesFill F w) := by
  rw [hF]; exact dg_image h
theorem own_down {w : World} {base b2 : Nat} {e : TypeId} {size n : Nat} {v : Value} {xs : List Value} (h : w.ownsRow base e size v n xs) (hb : b2 ≤ base) : w.ownsRow b2 e size v n xs :=
  own_up h (fun g hg => Nat.le_trans hb (row_lt h hg).1)
theorem DiskAt.lift {n0 n1 : Nat} {w : World} {p : Nat} {D : Dsk} {S : Nat → Prop} (h : DiskAt n1 w p D S) (hn : n0 ≤ n1) : DiskAt n0 w p D S := by
  obtain ⟨ok, q, M, hin, hft⟩ := h
  exact ⟨ok, q, M, ⟨hin.rcd, hin.last, own_down hin.cache hn, hin.map, hin.seen, ⟨Nat.le_trans hn hin.bases.1, Nat.le_trans hn hin.bases.2.1, Nat.le_trans hn hin.bases.2.2.1, hin.bases.2.2.2⟩, hin.sep⟩, hft⟩
theorem dg_newl {n0 : Nat} (n : Nat) (w : World) (hn : n0 ≤ w.heap.size) (h1 : 1 ≤ n) (h2 : n ≤ 16384) : Calls Try.prog 46 #[.int .i64 (n : Int)] w fun e w' => ∃ p S, e = .returned (.tuple #[.pointer (some ⟨p, 0, none⟩), .int .u16 0]) ∧ DG n0 w' p (Dsk.new n) S ∧ (∀ T, (∀ g, T g → g < w.heap.size) → Aside w' S T) ∧ Below w.heap.size w w' :=
  (dg_new n w h1 h2).mono fun e w' ⟨p, S, a, b, c⟩ => ⟨p, S, a, ⟨b.disk.lift hn, fun g hg => ⟨Nat.le_trans hn (b.lt g hg).1, (b.lt g hg).2⟩⟩, fun T hT => ⟨fun g hg => Nat.lt_of_lt_of_le (hT g hg) c.size, fun g hg hs => by have := hT g hg; have := (b.lt g hs).1; omega⟩, c⟩
theorem At.part {w : World} {g o : Nat} {l : List Nat} (h : At w (some ⟨g, o, none⟩) (ns .u8 l)) (i n : Nat) : At w (some ⟨g, o + i, none⟩) (ns .u8 ((l.drop i).take n)) := fun hn => by
  have hne : ns .u8 l ≠ [] := fun e => hn (by
    have : l = [] := by simpa [ns] using e
    rw [this]; simp [ns])
  obtain ⟨b, o', e, hr⟩ := h hne
  cases e
  refine ⟨g, o + i, rfl, fun j v hv => ?_⟩
  rw [show o + i + j = o + (i + j) by omega]
  refine hr (i + j) v ?_
  simp only [ns, List.getElem?_map, List.getElem?_take, List.getElem?_drop] at hv ⊢
  split at hv
  · exact hv
  · simp at hv
theorem Clip.form {n0 : Nat} {w : World} {A : Option Addr} {l : List Nat} (h : Clip n0 w A l) (hl : 0 < l.length) : ∃ g, A = some ⟨g, 0, none⟩ := by
  rcases h with ⟨rfl, rfl⟩ | ⟨g, cur, rfl, _⟩
  · simp at hl
  · exact ⟨g, rfl⟩
theorem same_num (A B : Option Addr) (n k c d : Nat) (l m : List Nat) (w : World) (hn : n = l.length) (hk : k = m.length) (hl : l.length ≤ 140737488355328) (hm : m.length ≤ 140737488355328) (hA : At w A (ns .u8 l)) (hB : At w B (ns .u8 m)) :
    Calls Try.prog 45 #[.slice A n c, .slice B k d] w fun e w' => e = .returned (.bool (decide (l = m))) ∧ Below w.heap.size w w' := by
  subst hn hk
  exact same_any A B c d l m w hl hm hA hB
theorem same_eq (A B : Option Addr) (n k c d : Nat) (l m : List Nat) (w : World) (hn : n = l.length) (hk : k = m.length) (hl : l.length ≤ 140737488355328) (h : l = m) (hA : At w A (ns .u8 l)) (hB : At w B (ns .u8 m)) :
    Calls Try.prog 45 #[.slice A n c, .slice B k d] w fun e w' => e = .returned (.bool true) ∧ Below w.heap.size w w' := by
  refine (same_num A B n k c d l m w hn hk hl (by rw [← h]; exact hl) hA hB).mono ?_
  rintro e w' ⟨rfl, hb⟩
  exact ⟨by rw [decide_eq_true h], hb⟩
theorem buf_at {n0 n c : Nat} {w : World} {A : Option Addr} {l : List Nat} (h : Buf n0 w (.slice A n c) l) : n = l.length ∧ At w A (ns .u8 l) := by
  obtain ⟨A', c', e, h1, _⟩ := h.at
  injection e with e1 e2 e3
  subst e1 e3
  exact ⟨e2, h1⟩
end Go.Proofs.Ytfbjjblgcgjndaa

/- Contract of the pool's put. -/
namespace Go.Proofs.Ytfbjjblgcgjndaa
open Go.RowKit Go.Maps

def hcells (n k : Nat) (v : Value) : Nat → Value
  | 2 => .int .u32 (n : Int)
  | 3 => .int .u8 (k : Int)
  | 4 => v
  | _ => .pointer none
theorem RingIn.dat {w : World} {e : Nat} {l : List Nat} {nx pv : Nat → Nat} {dat dat' : Nat → Nat → Value} (h : RingIn w e l nx pv dat) (hd : ∀ b, b ∈ e :: l → dat' b = dat b) : RingIn w e l nx pv dat' :=
  ⟨h.link, h.nodup, fun b hb => (h.node b hb).congr fun i hi => by
    match i with
    | 0 => rfl
    | 1 => rfl
    | i + 2 => simp only [ncell]; rw [hd b hb]⟩
section
variable {n0 : Nat} {w1 w2 w3 w4 w5 : World} {P d most e mb nb : Nat} {bl : List Nat} {b n k cap : Nat} {pay : List Nat} {A : Option Addr} {hd : Nat → Hand} {nx pv nx' pv' : Nat → Nat} {dat : Nat → Nat → Value} {M : DataW Unit} {Y : Nat → Prop}
/-- the new hand is boxed, and stands in the map -/
theorem PoolIn.ready (h : PoolIn n0 w1 P d most e mb nb bl hd nx pv dat M Y) (hb12 : Below w1.heap.size w1 w2) (hb : b = w2.heap.size) (hw3 : w3 = w2.alloc (.cells #[.pointer none, .pointer none, .int .u32 (n : Int), .int .u8 (k : Int), .slice A pay.length cap] 203)) (hg4 : w3.grownBy w4 (some mb)) :
    w4.cell? ⟨P, 3, none⟩ = some (.pointer (some ⟨e, 0, none⟩)) ∧ P ≠ b ∧ RingIn w4 e bl nx pv (turn dat b (hcells n k (.slice A pay.length cap))) ∧ b ∉ e :: bl ∧ RecAt w4 b 203 5 (hcells n k (.slice A pay.length cap)) ∧ RecAt w4 P 206 4 (lcell d most mb e) ∧ Chg (fun g => g = mb) w1 w4 := by
  subst hb hw3
  have hb13 := below_alloc0 hb12 (.cells #[.pointer none, .pointer none, .int .u32 (n : Int), .int .u8 (k : Int), .slice A pay.length cap] 203)
  have hcm : Chg (fun g => g = mb) _ w4 := Chg.of_grown hg4 (fun g e => by cases e; rfl)
  have hc14 : Chg (fun g => g = mb) w1 w4 := (Chg.of_below (F := fun g => g = mb) hb13).trans hcm (fun _ _ h => h)
  have hlt : ∀ x, x ∈ e :: bl → x < w1.heap.size := fun x hx => (h.ring.node x hx).lt
  have hz := hb12.size
  have hnot : w2.heap.size ∉ e :: bl := fun hx => by have := hlt _ hx; omega
  obtain ⟨s1, s2, s3, s4⟩ := h.sep
  have hP : RecAt w4 P 206 4 (lcell d most mb e) := h.rcd.keep hc14 s1
  refine ⟨hP.cell 3 (by omega), fun x => by have := h.rcd.lt; omega, ?_, hnot, ?_, hP, hc14⟩
  · exact (h.ring.keep hc14 (fun x hx e' => s3 (by rw [← show x = mb from e']; exact hx))).dat (fun x hx => turn_other _ _ _ _ (fun e' => hnot (e' ▸ hx)))
  · have hn : RecAt (w2.alloc (.cells #[.pointer none, .pointer none, .int .u32 (n : Int), .int .u8 (k : Int), .slice A pay.length cap] 203)) w2.heap.size 203 5 (hcells n k (.slice A pay.length cap)) :=
      RecAt.of (heap_alloc_new w2 _) (by simp [lst, hcells, List.range_succ])
    exact hn.keep hcm (fun e' => by have := h.map.lt; have := show w2.heap.size = mb from e'; omega)
theorem PoolIn.added (h : PoolIn n0 w1 P d most e mb nb bl hd nx pv dat M Y) (x : Hand) (hx : x = ⟨n, k, pay⟩) (hxo : x.Ok) (hno : ∀ c, c ∈ bl → (hd c).num ≠ n) (hb12 : Below w1.heap.size w1 w2) (hv : Buf w1.heap.size w2 (.slice A pay.length cap) pay) (hb : b = w2.heap.size) (hw3 : w3 = w2.alloc (.cells #[.pointer none, .pointer none, .int .u32 (n : Int), .int .u8 (k : Int), .slice A pay.length cap] 203)) (hg4 : w3.grownBy w4 (some mb))
    (hm4 : w4.ownsMap Try.prog 22 ptrElem mb (nb + 1) (M.put (numKey n) (.lit (.int .i64 (b : Int))))) (hi5 : RingIn w5 e (bl ++ [b]) nx' pv' (turn dat b (hcells n k (.slice A pay.length cap)))) (hc5 : Chg (fun g => g ∈ e :: (bl ++ [b])) w4 w5) :
    PoolIn n0 w5 P d most e mb (nb + 1) (bl ++ [b]) (turn hd b x) nx' pv' (turn dat b (hcells n k (.slice A pay.length cap))) (M.put (numKey n) (.lit (.int .i64 (b : Int)))) (fun g => Y g ∨ blk (.slice A pay.length cap) g) ∧ Chg (fun g => g = mb ∨ g ∈ e :: bl) w1 w5 := by
  obtain ⟨r1, r2, r3, r4, r5, r6, r7⟩ := h.ready (n := n) (k := k) hb12 hb hw3 hg4
  obtain ⟨s1, s2, s3, s4⟩ := h.sep
  have hz := hb12.size
  have hsz3 : w3.heap.size = w2.heap.size + 1 := by rw [hw3]; simp
  have hlt : ∀ x, x ∈ e :: bl → x < w1.heap.size := fun x hx => (h.ring.node x hx).lt
  have hmbl : mb < w1.heap.size := h.map.lt
  have hvn : ∀ g, blk (.slice A pay.length cap) g → w1.heap.size ≤ g ∧ g < w2.heap.size := fun g hg => row_lt hv hg
  obtain ⟨hvl, hvA⟩ := buf_at hv
  have hnil : A = none → cap = 0 := by
    obtain ⟨A', c', e', _, h2, _⟩ := hv.at
    injection e' with e1 e2 e3
    subst e1 e3; exact h2
  have memb : ∀ y, y ∈ e :: (bl ++ [b]) → y ∈ e :: bl ∨ y = b := fun y hy => by
    simp only [List.mem_cons, List.mem_append, List.not_mem_nil, or_false] at hy ⊢
    rcases hy with hy | hy | hy
    · exact .inl (.inl hy)
    · exact .inl (.inr hy)
    · exact .inr hy
  have hc15 : Chg (fun g => g = mb ∨ g ∈ e :: bl) w1 w5 := (r7.mono (G := fun g => g = mb ∨ g ∈ e :: bl) (fun _ _ h => .inl h)).trans hc5 (fun g hg hg' => by
    rcases memb g hg' with y | y
    · exact .inr y
    · omega)
  have hatv : At w5 A (ns .u8 pay) := by
    have h3 : At w3 A (ns .u8 pay) := by rw [hw3]; exact hvA.below (below_alloc0 (Below.refl _ _) _)
    refine (h3.chg (Chg.of_grown (F := fun g => g = mb) hg4 (fun g e => by cases e; rfl)) (fun a ha e' => ?_)).chg hc5 (fun a ha hy => ?_)
    · have := hvn a.block (by rw [ha]; rfl); have := show a.block = mb from e'; omega
    · have := hvn a.block (by rw [ha]; rfl)
      rcases memb _ hy with y | y
      · have := hlt _ y; omega
      · omega
  have hblY : ∀ g, Y g → g < w1.heap.size := fun g hg => (h.base.2.2.2 g hg).2
  have hbnm : b ∉ bl := fun hx => r4 (List.mem_cons_of_mem _ hx)
  refine ⟨⟨r6.keep hc5 (fun hy => ?_), hi5, fun c hc => ?_, fun c c' hc hc' hn => ?_, map_chg2 hm4 hc5 (fun hy => ?_), ?_, ⟨h.base.1, h.base.2.1, fun y hy => ?_, fun g hg => ?_⟩, s1, fun hy => ?_, fun hy => ?_, fun g hg => ?_⟩, hc15⟩
  · rcases memb _ hy with y | y
    · exact s2 y
    · exact r2 y
  · rcases List.mem_append.1 hc with hc | hc
    · have hne : c ≠ b := fun e' => hbnm (e' ▸ hc)
      rw [turn_other _ _ _ _ hne, turn_other _ _ _ _ hne]
      obtain ⟨q1, q2, ⟨A1, c1, z1, z2, z3, z4⟩, t⟩ := h.dat c hc
      exact ⟨q1, q2, ⟨A1, c1, z1, z2.chg hc15 (fun a ha hy => by
        have := s4 _ (z4 a ha)
        rcases hy with hy | hy
        · exact this.2.1 hy
        · exact this.2.2 hy), z3, fun a ha => .inl (z4 a ha)⟩, t⟩
    · simp at hc
      subst hc
      rw [turn_same, turn_same, hx]
      exact ⟨rfl, rfl, ⟨A, cap, rfl, hatv, hnil, fun a ha => .inr (by rw [ha]; rfl)⟩, by rw [← hx]; exact hxo⟩
  · rcases List.mem_append.1 hc with ha | ha
    · have hne : c ≠ b := fun e' => hbnm (e' ▸ ha)
      rw [turn_other _ _ _ _ hne] at hn
      rcases List.mem_append.1 hc' with ha' | ha'
      · have hne' : c' ≠ b := fun e' => hbnm (e' ▸ ha')
        rw [turn_other _ _ _ _ hne'] at hn
        exact h.nums c c' ha ha' hn
      · have e2 : c' = b := by simpa using ha'
        rw [e2, turn_same, hx] at hn
        exact absurd hn (hno c ha)
    · have e1 : c = b := by simpa using ha
      rw [e1, turn_same, hx] at hn
      rcases List.mem_append.1 hc' with ha' | ha'
      · have hne' : c' ≠ b := fun e' => hbnm (e' ▸ ha')
        rw [turn_other _ _ _ _ hne'] at hn
        exact absurd hn.symm (hno c' ha')
      · have e2 : c' = b := by simpa using ha'
        rw [e1, e2]
  · rcases memb _ hy with y | y
    · exact s3 y
    · omega
  · have := h.mfor.put (h.map.tidy pool_keyed) b hbnm x (fun c hc => by rw [hx]; exact hno c hc)
    rw [hx] at this ⊢
    exact this
  · rcases memb _ hy with y' | y'
    · exact h.base.2.2.1 y y'
    · have := h.base.2.1; omega
  · rcases hg with hg | hg
    · have := h.base.2.2.2 g hg; exact ⟨this.1, by have := hc15.size; omega⟩
    · have := hvn g hg
      have h45 := hc5.size
      have h34 := hg4.size
      have := h.base.2.1
      exact ⟨by omega, by omega⟩
  · rcases memb _ hy with y | y
    · exact s2 y
    · exact r2 y
  · rcases memb _ hy with y | y
    · exact s3 y
    · omega
  · rcases hg with hg | hg
    · obtain ⟨y1, y2, y3⟩ := s4 g hg
      refine ⟨y1, y2, fun hy => ?_⟩
      rcases memb _ hy with y | y
      · exact y3 y
      · have := hblY g hg; omega
    · have := hvn g hg
      refine ⟨fun y => by have := h.rcd.lt; omega, fun y => by omega, fun hy => ?_⟩
      rcases memb _ hy with y | y
      · have := hlt g y; omega
      · omega
end
end Go.Proofs.Ytfbjjblgcgjndaa

/- Contract of the pool's put: the walk. -/
namespace Go.Proofs.Ytfbjjblgcgjndaa
open Go.RowKit Go.Maps

def PlPut (n0 : Nat) (w : World) (P d most : Nat) (T : Nat → Prop) (L : List Hand) (c : Nat) (x : Ending) (w' : World) : Prop := x = .returned (.tuple #[]) ∧ PNow n0 w P d most T L c w'
theorem forget_num {n : Nat} {L : List Hand} : ∀ x, x ∈ forget n L → x.num ≠ n := fun x hx => by
  unfold forget at hx
  have := (List.mem_filter.1 hx).2
  simpa using this
/-- what put has laid, ahead of its last look -/
theorem put_laid {n0 : Nat} {w w1 w5 : World} {P d most e mb nb c b : Nat} {bl : List Nat} {hd : Nat → Hand} {x : Hand} {nx pv : Nat → Nat} {dat : Nat → Nat → Value} {M : DataW Unit} {Y Z T : Nat → Prop} (hT : ∀ g, T g → n0 ≤ g ∧ g < w1.heap.size) (hf : ∀ g, pfoot P e mb bl Y g → T g) (hn0 : n0 ≤ w1.heap.size) (hw : Chg T w w1) (hb : b ∉ e :: bl) (hbn : w1.heap.size ≤ b) (hZ : ∀ g, Z g → w1.heap.size ≤ g)
    (hin : PoolIn n0 w5 P d most e mb (nb + 1) (bl ++ [b]) (turn hd b x) nx pv dat M (fun g => Y g ∨ Z g)) (hc : Chg (fun g => g = mb ∨ g ∈ e :: bl) w1 w5) (hnb : nb ≤ c) :
    PoolAt n0 w5 P d most (bl.map hd ++ [x]) (c + 1) (fun g => T g ∨ (w1.heap.size ≤ g ∧ g < w5.heap.size)) ∧ Grows w T (fun g => T g ∨ (w1.heap.size ≤ g ∧ g < w5.heap.size)) ∧ Chg T w w5 := by
  have hbnm : b ∉ bl := fun hx => hb (List.mem_cons_of_mem _ hx)
  refine ⟨⟨⟨e, mb, nb + 1, bl ++ [b], turn hd b x, nx, pv, dat, M, _, hin, ?_, by omega, fun g hg => ?_⟩, fun g hg => ?_⟩, fun g hg => ?_, hw.trans hc (fun g _ hg => ?_)⟩
  · rw [List.map_append]
    congr 1
    · exact List.map_congr_left fun y hy => (turn_other _ _ _ _ (by rintro rfl; exact hbnm hy)).symm
    · simp [turn_same]
  · rcases hg with hg | hg | hg | hg
    · exact .inl (hf g (.inl hg))
    · exact .inl (hf g (.inr (.inl hg)))
    · simp only [List.mem_cons, List.mem_append, List.not_mem_nil, or_false] at hg
      rcases hg with hg | hg | hg
      · exact .inl (hf g (.inr (.inr (.inl (by rw [hg]; simp)))))
      · exact .inl (hf g (.inr (.inr (.inl (by simp [hg])))))
      · refine .inr ⟨by omega, ?_⟩
        have := (hin.ring.node b (by simp)).lt
        omega
    · rcases hg with hg | hg
      · exact .inl (hf g (.inr (.inr (.inr hg))))
      · exact .inr ⟨hZ g hg, (hin.base.2.2.2 g (.inr hg)).2⟩
  · rcases hg with hg | hg
    · exact ⟨(hT g hg).1, Nat.lt_of_lt_of_le (hT g hg).2 hc.size⟩
    · exact ⟨by omega, hg.2⟩
  · rcases hg with hg | hg
    · exact .inl hg
    · exact .inr (Nat.le_trans hw.size hg.1)
  · rcases hg with hg | hg
    · exact hf g (.inr (.inl hg))
    · exact hf g (.inr (.inr (.inl hg)))
set_option maxRecDepth 100000 in
set_option maxHeartbeats 4000000 in
theorem plput_any {n0 : Nat} {w : World} {P d most : Nat} {L : List Hand} {c : Nat} {T : Nat → Prop} (h : PoolAt n0 w P d most L c T) (x : Hand) (hx : x.Ok) (A : Option Addr) (cap : Nat) (hA : ∀ w', Chg T w w' → At w' A (ns .u8 x.pay)) (hnil : A = none → cap = 0) (hm : most ≤ 4611686018427387904) (hc : c ≤ 1000000000) :
    Calls Try.prog 144 #[.pointer (some ⟨P, 0, none⟩), .int .u32 (x.num : Int), .int .u8 (x.kind : Int), .slice A x.pay.length cap] w (PlPut n0 w P d most T (usePage most x L) (c + 1)) := by
  have HF := Lib.hid (forget_any h x.num hx.num)
  have hxn := hx.num
  have HX := Lib.hid hx
  have HA := Lib.hid hA
  have HNIL := Lib.hid hnil
  have HK := Lib.hid (pool_key hx.num)
  have HN0 := Lib.hid h.n_le
  obtain ⟨n, k, pay⟩ := x
  simp only at HF hxn HA HK ⊢
  have hpl : pay.length ≤ 1008 := hx.len
  obtain ⟨m, hmm⟩ : ∃ m, m = pay.length := ⟨_, rfl⟩
  rw [← hmm] at hpl ⊢
  have HMM := Lib.hid hmm
  clear h hx hA hnil hmm
  go_enter Try.func144, Try.ntmps144
  go_wp2_with fail
  refine HF.out.mono ?_
  rintro e0 w1 ⟨rfl, h1, hc1⟩
  obtain ⟨⟨e, mb, nb, bl, hd, nx, pv, dat, M, Y, hin, hL, hnb, hft⟩, hT⟩ := h1
  have HC1 := Lib.hid hc1
  have HIN := Lib.hid hin
  have HL := Lib.hid hL
  have HFT := Lib.hid hft
  have HT := Lib.hid hT
  have hcl := clone_any A cap m pay w1 HMM.out (by have := HMM.out; omega) (HA.out w1 hc1) HNIL.out
  have HCL := Lib.hid hcl
  clear hc1 hin hL hft hT hcl HF
  go_wp2_with fail
  refine HCL.out.mono ?_
  rintro e0 w2 ⟨v, rfl, hv, hb12, hs12⟩
  obtain ⟨A2, c2, hv2⟩ : ∃ A2 c2, v = .slice A2 m c2 := by
    obtain ⟨A2, c2, e', _⟩ := hv.at
    exact ⟨A2, c2, by rw [e', HMM.out]⟩
  subst hv2
  have HV := Lib.hid hv
  have HB12 := Lib.hid hb12
  obtain ⟨w3, hw3⟩ : ∃ w3, w3 = w2.alloc (.cells #[.pointer none, .pointer none, .int .u32 (n : Int), .int .u8 (k : Int), .slice A2 m c2] 203) := ⟨_, rfl⟩
  have p2 : w3.cell? ⟨P, 2, none⟩ = some (.map (some mb)) := by
    rw [hw3]
    exact (HIN.out.rcd.keep (G := fun _ => False) (.of_below (below_alloc0 hb12 _)) (fun h => h)).cell 2 (by omega)
  have HM3 := Lib.hid (show w3.ownsMap Try.prog 22 ptrElem mb nb M from map_chg2 HIN.out.map (G := fun _ => False) (.of_below (by rw [hw3]; exact below_alloc0 hb12 _)) (fun h => h))
  obtain ⟨b, hb⟩ : ∃ b, b = w2.heap.size := ⟨_, rfl⟩
  have HW3 := Lib.hid hw3
  have HB := Lib.hid hb
  clear hv hb12 hs12 hw3 hb HCL
  go_upto_region 2 with (fail)
  rw [← HW3.out, ← HB.out]
  go_wp2_with (at_mapUpdate; refine wpList_mapUpdate_own _ rfl _ _ _ 204 rfl 22 199 pool_keyed Try.under204 ptrElem mb nb M rfl HM3.out (by simp only [maxLen]; omega) _ _ (numKey n) rfl rfl HK.out (.lit (.int .i64 (b : Int))) [] (ptrElem_mk b) ?_; intro w4 hown4 hgrow4)
  have HW3' := Lib.hid (show w3 = w2.alloc (.cells #[.pointer none, .pointer none, .int .u32 (n : Int), .int .u8 (k : Int), .slice A2 pay.length c2] 203) by rw [← HMM.out]; exact HW3.out)
  have HV' := Lib.hid (show Buf w1.heap.size w2 (.slice A2 pay.length c2) pay by rw [← HMM.out]; exact HV.out)
  obtain ⟨r1, r2, r3, r4, r5, r6, r7⟩ := HIN.out.ready (n := n) (k := k) HB12.out HB.out HW3'.out hgrow4
  have HIA := Lib.hid (in_any r1 r2 r3 r4 r5 (fun i h2 h5 => by rw [turn_same]))
  have HR4 := Lib.hid r4
  have HM4 := Lib.hid hown4
  have HG4 := Lib.hid hgrow4
  clear r1 r2 r3 r4 r5 r6 r7 hown4 hgrow4 p2
  refine HIA.out.mono ?_
  rintro e0 w5 ⟨rfl, hi5, hc5⟩
  obtain ⟨hin5, hc15⟩ := HIN.out.added ⟨n, k, pay⟩ rfl HX.out (fun c hc => forget_num (L := L) (hd c) (by rw [HL.out]; exact List.mem_map.2 ⟨c, hc, rfl⟩)) HB12.out HV'.out HB.out HW3'.out HG4.out HM4.out hi5 hc5
  have q1 : w5.cell? ⟨P, 1, none⟩ = some (.int .i64 (most : Int)) := hin5.rcd.cell 1 (by omega)
  have q2 : w5.cell? ⟨P, 2, none⟩ = some (.map (some mb)) := hin5.rcd.cell 2 (by omega)
  have q3 : w5.cell? ⟨P, 3, none⟩ = some (.pointer (some ⟨e, 0, none⟩)) := hin5.rcd.cell 3 (by omega)
  have hlen : (Builtin.len_ #[204] 3 #[.map (some mb)]).run Try.prog w5.drew = .ok (.int .i64 ((bl.length + 1 : Nat) : Int)) w5.drew := by
    have := (hin5.map.drew).len Try.under204 3
    rw [hin5.mfor.size] at this
    simpa using this
  obtain ⟨hp5, hg5, hcw5⟩ := put_laid (w := w) (x := ⟨n, k, pay⟩) HT.out HFT.out (Nat.le_trans HN0.out HC1.out.size) HC1.out HR4.out (by rw [HB.out]; exact HB12.out.size) (fun g hg => (row_lt HV'.out hg).1) hin5 hc15 hnb
  rw [← HL.out] at hp5
  have HIN5 := Lib.hid hin5
  have HP5 := Lib.hid hp5
  have HG5 := Lib.hid hg5
  have HCW5 := Lib.hid hcw5
  have hbl : bl.length ≤ 1000000001 := by have h1 := HIN.out.map.size_le; rw [HIN.out.mfor.size] at h1; omega
  clear hi5 hc5 hin5 hc15 hp5 hg5 hcw5 HIA
  have hul : (forget n L ++ [(⟨n, k, pay⟩ : Hand)]).length = bl.length + 1 := by rw [HL.out]; simp
  have HUL := Lib.hid hul
  clear hul
  by_cases hbig : most < bl.length + 1
  · have hbig' : (most : Int) < ((bl.length + 1 : Nat) : Int) := by omega
    obtain ⟨f, rest, hfr⟩ : ∃ f rest, bl ++ [b] = f :: rest := by
      cases hq : bl ++ [b] with
      | nil => simp at hq
      | cons f rest => exact ⟨f, rest, rfl⟩
    have hin6 := HIN5.out
    rw [hfr] at hin6
    have hlk := hin6.ring.link.1
    have q4 : w5.cell? ⟨e, 1, none⟩ = some (.pointer (some ⟨f, 0, none⟩)) := by
      have := (hin6.ring.node e (by simp)).cell 1 (by omega)
      rw [this]
      show some (Value.pointer (some ⟨_, 0, none⟩)) = _
      rw [hlk]
    have hdf := hin6.dat f (by simp)
    have q5 : w5.cell? ⟨f, 2, none⟩ = some (.int .u32 (((turn hd b ⟨n, k, pay⟩ f).num : Nat) : Int)) := by
      have := (hin6.ring.node f (by simp)).cell 2 (by omega)
      rw [this]
      show some (turn dat b _ f 2) = _
      rw [hdf.1]
    have hfo := PoolIn.forget_one (l1 := []) (l2 := rest) hin6
    have hfl : (turn hd b ⟨n, k, pay⟩ f).num < 4294967296 := hdf.2.2.2.num
    have hmap : forget n L ++ [(⟨n, k, pay⟩ : Hand)] = (f :: rest).map (turn hd b ⟨n, k, pay⟩) := by
      rw [← hfr, List.map_append, HL.out]
      congr 1
      · exact List.map_congr_left fun y hy => (turn_other _ _ _ _ (by rintro rfl; exact HR4.out (List.mem_cons_of_mem _ hy))).symm
      · simp [turn_same]
    have hdrop : forget (turn hd b ⟨n, k, pay⟩ f).num (forget n L ++ [(⟨n, k, pay⟩ : Hand)]) = (forget n L ++ [(⟨n, k, pay⟩ : Hand)]).drop 1 := by
      rw [hmap]
      have : ([] ++ f :: rest) = f :: rest := rfl
      rw [this] at hfo
      rw [hfo]; rfl
    have hfg := forget_any (HP5.out.below (below_drew0 (Below.refl _ w5))) (turn hd b ⟨n, k, pay⟩ f).num hfl
    rw [hdrop] at hfg
    have HFG := Lib.hid hfg
    generalize (turn hd b ⟨n, k, pay⟩ f).num = fn at *
    clear hin6 hlk hdf hfo hmap hdrop hfg hfr hfl
    go_wp2_with fail
    go_region
    go_wp2_with fail
    refine HFG.out.mono ?_
    rintro e0 w6 ⟨rfl, h6, hc6⟩
    have H6 := Lib.hid h6
    have HC6 := Lib.hid hc6
    clear h6 hc6
    go_wp2_with fail
    go_end0
    refine ⟨rfl, _, ?_, HG5.out, ?_⟩
    · unfold usePage
      simp only
      rw [if_pos (by rw [HUL.out]; exact hbig)]
      exact H6.out
    · exact (HCW5.out.drew).trans HC6.out (fun g hl hg => by
        rcases hg with hg | hg
        · exact hg
        · have := HC1.out.size; omega)
  · have hbig' : ¬ (most : Int) < ((bl.length + 1 : Nat) : Int) := by omega
    go_wp2_with fail
    go_region
    go_wp2_with fail
    go_end0
    refine ⟨rfl, _, ?_, HG5.out, HCW5.out.drew⟩
    unfold usePage
    simp only
    rw [if_neg (by rw [HUL.out]; exact hbig)]
    exact HP5.out.below (below_drew0 (Below.refl _ w5))
end Go.Proofs.Ytfbjjblgcgjndaa

/- A step that leaves some blocks as they are. -/
namespace Go.Proofs.Ytfbjjblgcgjndaa
open Go.RowKit

/-- a step that leaves X -/
def Step (n0 : Nat) (X : Nat → Prop) (w w' : World) : Prop := Chg (fun g => ¬ X g) w w' ∧ Below n0 w w'
theorem Step.trans {n0 : Nat} {X Y : Nat → Prop} {w w1 w2 : World} (h : Step n0 X w w1) (k : Step n0 Y w1 w2) (hY : ∀ g, X g → Y g) : Step n0 X w w2 :=
  ⟨h.1.trans k.1 (fun g _ hg e => hg (hY g e)), h.2.trans k.2⟩
theorem Step.of_below {n0 : Nat} {X : Nat → Prop} {w w' : World} (h : Below w.heap.size w w') (hn : n0 ≤ w.heap.size) : Step n0 X w w' :=
  ⟨.of_below h, ⟨h.os, h.tape, h.output, h.size, fun i hi => h.block i (Nat.lt_of_lt_of_le hi hn)⟩⟩
end Go.Proofs.Ytfbjjblgcgjndaa

/- The pool over its disk: New, within, Sync; what a step leaves of both. -/
namespace Go.Proofs.Ytfbjjblgcgjndaa
open Go.RowKit Go.Maps

structure PoolOk (n0 : Nat) (w : World) (P d most : Nat) (D : Dsk) (L : List Hand) (c : Nat) (S T : Nat → Prop) : Prop where
  disk : DG n0 w d D S
  pool : PoolAt n0 w P d most L c T
  sep : ∀ g, S g → ¬ T g
/-- a pool and its disk, and blocks X aside of them -/
def PoolX (n0 : Nat) (w : World) (P d most : Nat) (D : Dsk) (L : List Hand) (c : Nat) (X : Nat → Prop) : Prop :=
  ∃ S T, PoolOk n0 w P d most D L c S T ∧ ∀ g, X g → g < w.heap.size ∧ ¬ S g ∧ ¬ T g
section
variable {n0 : Nat} {w w' : World} {P d most : Nat} {D : Dsk} {L : List Hand} {c : Nat} {X : Nat → Prop}
theorem PoolX.n_le (h : PoolX n0 w P d most D L c X) : n0 ≤ w.heap.size := by
  obtain ⟨S, T, h, _⟩ := h
  exact h.disk.new_n
theorem PoolX.less (h : PoolX n0 w P d most D L c X) {X' : Nat → Prop} (hX : ∀ g, X' g → X g) : PoolX n0 w P d most D L c X' := by
  obtain ⟨S, T, h, hx⟩ := h
  exact ⟨S, T, h, fun g hg => hx g (hX g hg)⟩
theorem PoolAt.moreC {n0 : Nat} {w : World} {P d most : Nat} {L : List Hand} {c c' : Nat} {T : Nat → Prop} (h : PoolAt n0 w P d most L c T) (hc : c ≤ c') : PoolAt n0 w P d most L c' T := by
  obtain ⟨⟨e, mb, nb, bl, hd, nx, pv, dat, M, Y, h1, h2, h3, h4⟩, h5⟩ := h
  exact ⟨⟨e, mb, nb, bl, hd, nx, pv, dat, M, Y, h1, h2, by omega, h4⟩, h5⟩
theorem PoolX.moreC (h : PoolX n0 w P d most D L c X) {c' : Nat} (hc : c ≤ c') : PoolX n0 w P d most D L c' X := by
  obtain ⟨S, T, h, hx⟩ := h
  exact ⟨S, T, ⟨h.disk, h.pool.moreC hc, h.sep⟩, hx⟩
theorem PoolX.keep (h : PoolX n0 w P d most D L c X) {G : Nat → Prop} (hc : Chg G w w') (hG : ∀ g, g < w.heap.size → G g → X g) : PoolX n0 w' P d most D L c X := by
  obtain ⟨S, T, h, hx⟩ := h
  have hc' : Chg (fun g => G g ∧ g < w.heap.size) w w' := ⟨hc.os, hc.tape, hc.output, hc.size, fun k hk hF => hc.block k hk (fun e => hF ⟨e, hk⟩)⟩
  have hG' : ∀ g, G g ∧ g < w.heap.size → X g := fun g hg => hG g hg.2 hg.1
  exact ⟨S, T, ⟨h.disk.keep hc' (fun g hg e => (hx g (hG' g e)).2.1 hg), h.pool.keep hc' (fun g hg e => (hx g (hG' g e)).2.2 hg), h.sep⟩, fun g hg => ⟨Nat.lt_of_lt_of_le (hx g hg).1 hc.size, (hx g hg).2⟩⟩
theorem PoolX.below (h : PoolX n0 w P d most D L c X) (hb : Below w.heap.size w w') : PoolX n0 w' P d most D L c X :=
  h.keep (G := fun _ => False) (.of_below hb) (fun _ _ h => h.elim)
theorem PoolX.also (h : PoolX n0 w P d most D L c X) (hb : Below w.heap.size w w') {Y : Nat → Prop} (hY : ∀ g, Y g → w.heap.size ≤ g ∧ g < w'.heap.size) : PoolX n0 w' P d most D L c (fun g => X g ∨ Y g) := by
  obtain ⟨S, T, h, hx⟩ := h
  refine ⟨S, T, ⟨h.disk.below hb, h.pool.below hb, h.sep⟩, fun g hg => ?_⟩
  rcases hg with hg | hg
  · exact ⟨Nat.lt_of_lt_of_le (hx g hg).1 hb.size, (hx g hg).2⟩
  · obtain ⟨a, b⟩ := hY g hg
    exact ⟨b, fun e => by have := h.disk.top g e; omega, fun e => by have := (h.pool.2 g e).2; omega⟩
theorem PoolX.cell0 (h : PoolX n0 w P d most D L c X) : w.cell? ⟨P, 0, none⟩ = some (.pointer (some ⟨d, 0, none⟩)) ∧ w.cell? ⟨P, 1, none⟩ = some (.int .i64 (most : Int)) := by
  obtain ⟨S, T, h, _⟩ := h
  obtain ⟨⟨e, mb, nb, bl, hd, nx, pv, dat, M, Y, h1, _⟩, _⟩ := h.pool
  exact ⟨h1.rcd.cell 0 (by omega), h1.rcd.cell 1 (by omega)⟩
theorem PoolX.ok (h : PoolX n0 w P d most D L c X) : D.Ok := by
  obtain ⟨S, T, h, _⟩ := h
  exact h.disk.ok
/-- the disk is worked on -/
theorem PoolX.disk (h : PoolX n0 w P d most D L c X) : ∃ S, DG n0 w d D S ∧ (∀ g, X g → ¬ S g) ∧ (∀ w' D', Now n0 w d S D' w' → PoolX n0 w' P d most D' L c X ∧ Step n0 X w w') ∧
    ∀ w' D' (Y : Nat → Prop), DG n0 w' d D' S → Chg S w w' → (∀ g, Y g → w.heap.size ≤ g ∧ g < w'.heap.size) → PoolX n0 w' P d most D' L c (fun g => X g ∨ Y g) ∧ Step n0 X w w' := by
  obtain ⟨S, T, h, hx⟩ := h
  have hn : n0 ≤ w.heap.size := h.disk.new_n
  have st : ∀ w', Chg S w w' → Step n0 X w w' := fun w' hc => ⟨hc.mono (fun g _ e hg => (hx g hg).2.1 e), hc.below hn (fun g hg => (h.disk.lt g hg).1)⟩
  have rest : ∀ w' D' S', DG n0 w' d D' S' → Grows w S S' → Chg S w w' → PoolOk n0 w' P d most D' L c S' T := fun w' D' S' hd hg hc =>
    ⟨hd, h.pool.keep hc (fun g hg' e => h.sep g e hg'), fun g hg' e => by
      rcases hg g hg' with a | a
      · exact h.sep g a e
      · have := (h.pool.2 g e).2; omega⟩
  refine ⟨S, h.disk, fun g hg => (hx g hg).2.1, fun w' D' hN => ?_, fun w' D' Y hd hc hY => ?_⟩
  · obtain ⟨S', hd, hg, hc⟩ := hN
    refine ⟨⟨S', T, rest w' D' S' hd hg hc, fun g hg' => ?_⟩, st w' hc⟩
    obtain ⟨a1, a2, a3⟩ := hx g hg'
    exact ⟨Nat.lt_of_lt_of_le a1 hc.size, fun e => (hg g e).elim a2 (fun e => by omega), a3⟩
  · refine ⟨⟨S, T, rest w' D' S hd (Grows.refl _ _) hc, fun g hg' => ?_⟩, st w' hc⟩
    rcases hg' with hg' | hg'
    · exact ⟨Nat.lt_of_lt_of_le (hx g hg').1 hc.size, (hx g hg').2⟩
    · obtain ⟨a, b⟩ := hY g hg'
      exact ⟨b, fun e => by have := h.disk.top g e; omega, fun e => by have := (h.pool.2 g e).2; omega⟩
/-- the pool's own memory is worked on -/
theorem PoolX.pool (h : PoolX n0 w P d most D L c X) : ∃ T, PoolAt n0 w P d most L c T ∧ (∀ g, X g → ¬ T g) ∧ (∀ g, T g → n0 ≤ g) ∧ ∀ w' L' c', PNow n0 w P d most T L' c' w' → PoolX n0 w' P d most D L' c' X ∧ Step n0 X w w' := by
  obtain ⟨S, T, h, hx⟩ := h
  have hn : n0 ≤ w.heap.size := h.disk.new_n
  refine ⟨T, h.pool, fun g hg => (hx g hg).2.2, fun g hg => (h.pool.2 g hg).1, fun w' L' c' hN => ?_⟩
  obtain ⟨T', hp, hg, hc⟩ := hN
  refine ⟨⟨S, T', ⟨h.disk.keep hc (fun g hs e => h.sep g hs e), hp, fun g hs e => ?_⟩, fun g hg' => ?_⟩, hc.mono (fun g _ e hg => (hx g hg).2.2 e), hc.below hn (fun g hg => (h.pool.2 g hg).1)⟩
  · rcases hg g e with a | a
    · exact h.sep g hs a
    · have := h.disk.top g hs; omega
  · obtain ⟨a1, a2, a3⟩ := hx g hg'
    exact ⟨Nat.lt_of_lt_of_le a1 hc.size, a2, fun e => (hg g e).elim a3 (fun e => by omega)⟩
set_option maxRecDepth 100000 in
theorem within_any (h : PoolX n0 w P d most D L c X) (n : Nat) (hn : n < 4294967296) : Calls Try.prog 143 #[.pointer (some ⟨P, 0, none⟩), .int .u32 (n : Int)] w fun e w' => e = .returned (.bool (decide (n < D.pages))) ∧ w = w' := by
  have c0 := h.cell0.1
  obtain ⟨S, T, h, _⟩ := h
  have HP := Lib.hid (pages_any h.disk.disk)
  have hpb : D.pages ≤ 16384 := by
    obtain ⟨k, a, _, b⟩ := h.disk.ok.pages
    unfold Dsk.pages; omega
  clear h
  generalize D.pages = N at *
  go_enter Try.func143, Try.ntmps143
  go_wp2_with fail
  refine HP.out.mono ?_
  rintro e w1 ⟨rfl, rfl⟩
  go_wp2_with fail
  go_ret
  exact ⟨by simp, rfl⟩
def PlSync (n0 : Nat) (w : World) (P d most : Nat) (D : Dsk) (L : List Hand) (c : Nat) (X : Nat → Prop) (q : Nat) (e : Ending) (w' : World) : Prop := e = .returned (.int .u16 (q : Nat)) ∧ PoolX n0 w' P d most D L c X ∧ Step n0 X w w'
set_option maxRecDepth 100000 in
theorem plsync_any (h : PoolX n0 w P d most D L c X) (hc : D.cache.length ≤ 1000000000000) (hn : D.n 3 ≤ 4611686018427387904) : Calls Try.prog 86 #[.pointer (some ⟨P, 0, none⟩)] w (PlSync n0 w P d most D.sync.2 L c X D.sync.1) := by
  have c0 := h.cell0.1
  obtain ⟨S, hd, _, hst, _⟩ := h.disk
  have HS := Lib.hid (dg_sync hd hd.new_n hc hn)
  have HST := Lib.hid hst
  clear h hd hst
  generalize D.sync = q at *
  go_enter Try.func86, Try.ntmps86
  go_wp2_with fail
  refine HS.out.mono ?_
  rintro e w1 ⟨rfl, hN⟩
  have hfin := HST.out w1 _ hN
  have HF := Lib.hid hfin
  clear hN hfin
  go_wp2_with fail
  go_ret
  exact ⟨rfl, HF.out.1, HF.out.2⟩
end
theorem pnew_no (dv : Value) (m : Int) (w : World) (h : m < 1) : Calls Try.prog 79 #[dv, .int .i64 m] w fun e w' => e = .returned (.tuple #[.pointer none, .int .u16 1]) ∧ w = w' := by
  go_enter Try.func79, Try.ntmps79
  go_wp2
  go_ret2
  exact ⟨rfl, rfl⟩
def pnewWorld (w : World) (d m : Nat) : World := ((w.alloc (.cells #[.pointer (some ⟨w.heap.size, 0, none⟩), .pointer (some ⟨w.heap.size, 0, none⟩), .int .u32 0, .int .u8 0, .slice none 0 0] 203)).alloc (.map #[] 0)).alloc (.cells #[.pointer (some ⟨d, 0, none⟩), .int .i64 (m : Int), .map (some (w.heap.size + 1)), .pointer (some ⟨w.heap.size, 0, none⟩)] 206)
set_option maxRecDepth 100000 in
theorem pnew_run (d m : Nat) (w : World) (h : 1 ≤ m) (hm : m ≤ 4611686018427387904) : Calls Try.prog 79 #[.pointer (some ⟨d, 0, none⟩), .int .i64 (m : Int)] w fun e w' => e = .returned (.tuple #[.pointer (some ⟨w.heap.size + 2, 0, none⟩), .int .u16 0]) ∧ w' = pnewWorld w d m := by
  have h1 : ¬ (m : Int) < 1 := by omega
  have hmm := @run_makeMap Try.prog
  go_enter Try.func79, Try.ntmps79
  go_wp2_with fail
  go_ret2
  refine ⟨?_, ?_⟩
  · simp
  · unfold pnewWorld
    simp
theorem pnew_at (d m : Nat) (w : World) {n0 : Nat} (hn : n0 ≤ w.heap.size) : PoolAt n0 (pnewWorld w d m) (w.heap.size + 2) d m [] 0 (fun g => w.heap.size ≤ g ∧ g < w.heap.size + 3) ∧ Below w.heap.size w (pnewWorld w d m) := by
  have hb : Below w.heap.size w (pnewWorld w d m) := by unfold pnewWorld; exact below_alloc0 (below_alloc0 (below_alloc0 (Below.refl _ _) _) _) _
  have hs : (pnewWorld w d m).heap.size = w.heap.size + 3 := by unfold pnewWorld; simp only [sz_alloc]
  have e0 : (pnewWorld w d m).heap[w.heap.size]? = some (.cells #[.pointer (some ⟨w.heap.size, 0, none⟩), .pointer (some ⟨w.heap.size, 0, none⟩), .int .u32 0, .int .u8 0, .slice none 0 0] 203 (0, 0)) := by
    unfold pnewWorld; simp only [hp_alloc, sz_alloc]; rw [if_neg (by omega), if_neg (by omega), if_pos trivial]
  have e2 : (pnewWorld w d m).heap[w.heap.size + 2]? = some (.cells #[.pointer (some ⟨d, 0, none⟩), .int .i64 (m : Int), .map (some (w.heap.size + 1)), .pointer (some ⟨w.heap.size, 0, none⟩)] 206 (0, 0)) := by
    unfold pnewWorld; simp only [hp_alloc, sz_alloc]; first | rw [if_pos trivial] | rw [if_pos rfl]
  have hm : (pnewWorld w d m).ownsMap Try.prog 22 ptrElem (w.heap.size + 1) 0 (.map []) := by
    have := World.ownsMap_made (w.alloc (.cells #[.pointer (some ⟨w.heap.size, 0, none⟩), .pointer (some ⟨w.heap.size, 0, none⟩), .int .u32 0, .int .u8 0, .slice none 0 0] 203)) Try.prog 22 ptrElem
    rw [sz_alloc] at this
    unfold pnewWorld
    exact this.alloc _
  refine ⟨⟨⟨w.heap.size, w.heap.size + 1, 0, [], fun _ => ⟨0, 0, []⟩, fun _ => w.heap.size, fun _ => w.heap.size, fun _ => fun i => if i = 2 then .int .u32 0 else if i = 3 then .int .u8 0 else .slice none 0 0, .map [], fun _ => False, ⟨RecAt.of e2 (by simp [lst, lcell, List.range_succ]), ⟨⟨rfl, rfl⟩, by simp, fun b hb' => ?_⟩, fun b hb' => by simp at hb', fun b c hb' => by simp at hb', hm, MapFor.nil _, ⟨by omega, by omega, fun b hb' => by simp at hb'; omega, fun g hg => hg.elim⟩, by omega, by simp, by simp, fun g hg => hg.elim⟩, rfl, Nat.le_refl _, fun g hg => ?_⟩, fun g hg => ⟨Nat.le_trans hn hg.1, by rw [hs]; exact hg.2⟩⟩, hb⟩
  · have : b = w.heap.size := by simpa using hb'
    subst this
    exact RecAt.of e0 (by simp [lst, ncell, List.range_succ])
  · show w.heap.size ≤ g ∧ g < w.heap.size + 3
    rcases hg with hg | hg | hg | hg
    · omega
    · omega
    · simp at hg; omega
    · exact hg.elim
def PlNew (n0 : Nat) (w : World) (d m : Nat) (D : Dsk) (X : Nat → Prop) (e : Ending) (w' : World) : Prop := ∃ P, e = .returned (.tuple #[.pointer (some ⟨P, 0, none⟩), .int .u16 0]) ∧ PoolX n0 w' P d m D [] 0 X ∧ Below w.heap.size w w'
theorem pnew_ok {n0 : Nat} {w : World} {d : Nat} {D : Dsk} {S X : Nat → Prop} (h : DG n0 w d D S) (hX : ∀ g, X g → g < w.heap.size ∧ ¬ S g) (m : Nat) (h1 : 1 ≤ m) (hm : m ≤ 4611686018427387904) :
    Calls Try.prog 79 #[.pointer (some ⟨d, 0, none⟩), .int .i64 (m : Int)] w (PlNew n0 w d m D X) := by
  refine (pnew_run d m w h1 hm).mono ?_
  rintro e w' ⟨rfl, rfl⟩
  obtain ⟨hp, hb⟩ := pnew_at d m w h.new_n
  exact ⟨_, rfl, ⟨S, _, ⟨h.below hb, hp, fun g hg e => by have := h.top g hg; have := e.1; omega⟩, fun g hg => ⟨Nat.lt_of_lt_of_le (hX g hg).1 hb.size, (hX g hg).2, fun e => by have := (hX g hg).1; have := e.1; omega⟩⟩, hb⟩
end Go.Proofs.Ytfbjjblgcgjndaa

/- Contracts of page.low, page.filled, page.Seal and their like in the reference. -/
namespace Go.Proofs.Ytfbjjblgcgjndaa
open Go.RowKit

theorem pow256 (k : Nat) : (256 : Nat) ^ (k + 1) = 256 ^ k * 256 := Nat.pow_succ ..
theorem div256 (n k : Nat) : n / 256 ^ k / 256 = n / 256 ^ (k + 1) := by rw [Nat.div_div_eq_div_mul, Nat.pow_succ]

set_option maxRecDepth 100000 in
set_option maxHeartbeats 1000000 in
theorem low_any (n0 : Nat) (v : Value) (l : List Nat) (n many : Nat) (w : World) (hn0 : n0 ≤ w.heap.size) (hv : Buf n0 w v l) (hl : l.length ≤ 1000000) (hn : n < 18446744073709551616) (hm : many ≤ 8) :
    Calls Try.prog 131 #[v, .int .u64 (n : Int), .int .i64 (many : Int)] w fun e w' => ∃ v', e = .returned v' ∧ Buf n0 w' v' (l ++ le n many) ∧ Below n0 w w' ∧ n0 ≤ w'.heap.size := by
  go_enter Try.func131, Try.ntmps131
  go_wp2
  go_loopw [0, 1, 8] (fun b x i wr => ∃ k : Nat, k ≤ many ∧ i = .int .i64 k ∧ x = .int .u64 ((n / 256 ^ k : Nat) : Int) ∧ Buf n0 wr b (l ++ le n k) ∧ Below n0 w wr ∧ n0 ≤ wr.heap.size) (fun _ _ i _ => many - (intOf i).toNat)
  case atStart => exact ⟨0, by omega, rfl, by simp, by simpa [le] using hv, Below.refl _ _, hn0⟩
  case round =>
    clear hv
    obtain ⟨k, hk, rfl, rfl, hv, hb, hs⟩ := hrel
    have hx : n / 256 ^ k < 18446744073709551616 := Nat.lt_of_le_of_lt (Nat.div_le_self _ _) hn
    have hnext := Lib.hid (div256 n k)
    have hles := Lib.hid (le_succ n k)
    have hlen : (l ++ le n k).length = l.length + k := by simp [le_length]
    have HL := Lib.hid hlen
    clear hlen
    generalize n / 256 ^ k = x at hx hnext hles
    by_cases hlt : k < many
    · go_wp2_with (at_builtin; go_loud (refine buf_append (w0 := w) rfl (.tmp 10) (.tmp 13) rfl Try.underlying23 Try.info5 n0 u0 (l ++ le n k) rfl (Buf.below hv (below_alloc0 (Below.refl _ _) _)) (some ⟨wr.heap.size, 0, none⟩) 1 1 [x % 256] rfl rfl ?_ (by simp) (by rw [HL.out]; simp; omega) (by simp; omega) (hb.alloc hs _) ?_); rotate_left; intro v1 w1 hv1 hb1 hs1)
      · go_roundw
        case rel => exact ⟨k + 1, by omega, by go_num, by rw [← hnext.out]; go_num, by rw [hles.out, ← List.append_assoc]; exact hv1, hb1, hs1⟩
        case measure => simp [intOf]; omega
      · have := At.box wr (.int .u8 ((x % 256 : Nat) : Int)) 5 wr.heap.size rfl
        exact this
    · obtain rfl : k = many := by omega
      go_wp2
      go_ret
      exact ⟨_, rfl, hv, hb, hs⟩
set_option maxRecDepth 100000 in
set_option maxHeartbeats 1000000 in
theorem put_any (n0 : Nat) (v : Value) (l : List Nat) (n many : Nat) (w : World) (hn0 : n0 ≤ w.heap.size) (hv : Buf n0 w v l) (hl : l.length ≤ 1000000) (hn : n < 18446744073709551616) (hm : many ≤ 8) :
    Calls Try.prog 133 #[v, .int .u64 (n : Int), .int .i64 (many : Int)] w fun e w' => ∃ v', e = .returned v' ∧ Buf n0 w' v' (l ++ le n many) ∧ Below n0 w w' ∧ n0 ≤ w'.heap.size := by
  go_enter Try.func133, Try.ntmps133
  go_wp2
  go_loopw [0, 1, 7] (fun b x i wr => ∃ k : Nat, k ≤ many ∧ i = .int .i64 k ∧ x = .int .u64 ((n / 256 ^ k : Nat) : Int) ∧ Buf n0 wr b (l ++ le n k) ∧ Below n0 w wr ∧ n0 ≤ wr.heap.size) (fun _ _ i _ => many - (intOf i).toNat)
  case atStart => exact ⟨0, by omega, rfl, by simp, by simpa [le] using hv, Below.refl _ _, hn0⟩
  case round =>
    clear hv
    obtain ⟨k, hk, rfl, rfl, hv, hb, hs⟩ := hrel
    have hx : n / 256 ^ k < 18446744073709551616 := Nat.lt_of_le_of_lt (Nat.div_le_self _ _) hn
    have hnext := Lib.hid (div256 n k)
    have hles := Lib.hid (le_succ n k)
    have hlen : (l ++ le n k).length = l.length + k := by simp [le_length]
    have HL := Lib.hid hlen
    clear hlen
    generalize n / 256 ^ k = x at hx hnext hles
    by_cases hlt : k < many
    · go_wp2_with (at_builtin; go_loud (refine buf_append (w0 := w) rfl (.tmp 13) (.tmp 17) rfl Try.underlying23 Try.info5 n0 u0 (l ++ le n k) rfl (Buf.below hv (below_alloc0 (Below.refl _ _) _)) (some ⟨wr.heap.size, 0, none⟩) 1 1 [x % 256] rfl rfl ?_ (by simp) (by rw [HL.out]; simp; omega) (by simp; omega) (hb.alloc hs _) ?_); rotate_left; intro v1 w1 hv1 hb1 hs1)
      · go_roundw
        case rel => exact ⟨k + 1, by omega, by go_num, by rw [← hnext.out]; go_num, by rw [hles.out, ← List.append_assoc]; exact hv1, hb1, hs1⟩
        case measure => simp [intOf]; omega
      · have := At.box wr (.int .u8 ((x % 256 : Nat) : Int)) 5 wr.heap.size rfl
        exact this
    · obtain rfl : k = many := by omega
      go_wp2
      go_ret
      exact ⟨_, rfl, hv, hb, hs⟩
theorem crc_sum_lt (l : List Nat) (h : Bytes l) : Crc.sum l < 4294967296 := Crc.inv_lt _
/-- a slice's length -/
def sliceLen : Value → Nat
  | .slice _ n _ => n
  | _ => 0
/-- filled up to a length, and the sum behind -/
def fill (l : List Nat) (n : Nat) : List Nat := l ++ List.replicate (n - l.length) 0
theorem fill_length (l : List Nat) (n : Nat) (h : l.length ≤ n) : (fill l n).length = n := by simp [fill]; omega
theorem fill_bytes (l : List Nat) (n : Nat) (h : Bytes l) : Bytes (fill l n) := h.append (Bytes.zeros _)
def closed (l : List Nat) : List Nat := l ++ le (Crc.sum l) 4
theorem closed_length (l : List Nat) : (closed l).length = l.length + 4 := by simp [closed, le_length]
theorem closed_bytes (l : List Nat) (h : Bytes l) : Bytes (closed l) := h.append (le_bytes _ _)

/-- the facts of a filled list, its content out of sight -/
theorem fill_facts (l : List Nat) (n : Nat) (hB : Bytes l) (hl : l.length ≤ n) : ∃ f g s, closed (fill l n) = g ∧ g = f ++ le s 4 ∧ s < 4294967296 ∧ f.length = n ∧ Bytes f ∧ s = Crc.sum f ∧ f = l ++ List.replicate (n - l.length) 0 :=
  ⟨fill l n, _, Crc.sum (fill l n), rfl, rfl, crc_sum_lt _ (fill_bytes l n hB), fill_length l n hl, fill_bytes l n hB, rfl, rfl⟩

set_option maxRecDepth 100000 in
set_option maxHeartbeats 1000000 in
theorem filled_any (n0 : Nat) (v : Value) (l : List Nat) (n : Nat) (w : World) (hn0 : n0 ≤ w.heap.size) (hv : Buf n0 w v l) (hB : Bytes l) (hl : l.length ≤ n) (hn : n ≤ 100000) :
    Calls Try.prog 132 #[v, .int .i64 (n : Int)] w fun e w' => ∃ v', e = .returned v' ∧ Buf n0 w' v' (closed (fill l n)) ∧ Below n0 w w' ∧ n0 ≤ w'.heap.size := by
  obtain ⟨f, g, s, hg, hg2, hs, hfl, hfb, hsf, hf⟩ := fill_facts l n hB hl
  rw [hg]
  have hsum := Lib.hid (fun (A : Option Addr) (c : Nat) (w : World) (hA : At w A (ns .u8 f)) => sum_any A c f w hfb (by omega) hA)
  rw [← hsf] at hsum
  have HG := Lib.hid hg2
  clear hg hg2 hsf hfb hB
  have HF := Lib.hid hf
  have HFL := Lib.hid hfl
  clear hf hfl
  obtain ⟨A, c, rfl, hA, hnil, hc, hc2⟩ := hv.at
  go_enter Try.func132, Try.ntmps132
  go_wp2_with (at_builtin; go_loud (refine buf_zeros (w0 := w) rfl (.tmp 5) (.tmp 9) rfl Try.underlying23 Try.underlying3 Try.info5 n0 _ l rfl hv (kx := .i64) _ (n - l.length) rfl (by omega) (by omega) hn0 (Below.refl _ _) ?_); intro v1 w1 hv1 hb1 hs1)
  rw [← HF.out] at hv1
  obtain ⟨A1, c1, rfl, hA1, hnil1, hc1, hc12⟩ := hv1.at
  go_wp2_with fail
  refine (hsum.out A1 c1 w1 hA1).mono ?_
  rintro e w2 ⟨rfl, hb2⟩
  go_wp2_with fail
  refine (low_any n0 _ f s 4 w2 (Nat.le_trans hs1 hb2.size) (hv1.below hb2) (by have := HFL.out; omega) (by omega) (by omega)).mono ?_
  rintro e w3 ⟨v3, rfl, hv3, hb3, hs3⟩
  go_wp2
  go_ret
  exact ⟨_, rfl, by rw [HG.out]; exact hv3, (below_next hb1 hs1 hb2).trans hb3, hs3⟩

set_option maxRecDepth 100000 in
set_option maxHeartbeats 1000000 in
theorem rfilled_any (n0 : Nat) (v : Value) (l : List Nat) (n : Nat) (w : World) (hn0 : n0 ≤ w.heap.size) (hv : Buf n0 w v l) (hB : Bytes l) (hl : l.length ≤ n) (hn : n ≤ 100000) :
    Calls Try.prog 134 #[v, .int .i64 (n : Int)] w fun e w' => ∃ v', e = .returned v' ∧ Buf n0 w' v' (closed (fill l n)) ∧ Below n0 w w' ∧ n0 ≤ w'.heap.size := by
  obtain ⟨f, g, s, hg, hg2, hs, hfl, hfb, hsf, hf⟩ := fill_facts l n hB hl
  rw [hg]
  have hsum := Lib.hid (fun (A : Option Addr) (c : Nat) (w : World) (hA : At w A (ns .u8 f)) => rsum_any A c f w hfb (by omega) hA)
  rw [← hsf, hfl] at hsum
  have HG := Lib.hid hg2
  clear hg hg2 hsf hfb hB
  have HF := Lib.hid hf
  have HFL := Lib.hid hfl
  clear hf hfl
  go_enter Try.func134, Try.ntmps134
  go_wp2
  go_loopw [0] (fun b wr => ∃ k : Nat, ∃ A c, l.length ≤ k ∧ k ≤ n ∧ b = .slice A k c ∧ wr.ownsRow n0 5 1 b k (ns .u8 (fill l k)) ∧ Below n0 w wr ∧ n0 ≤ wr.heap.size) (fun b _ => n - (sliceLen b))
  case atStart => 
    obtain ⟨A, c, rfl, _⟩ := hv.at
    exact ⟨l.length, A, c, by omega, hl, rfl, by simpa [fill, Buf] using hv, Below.refl _ _, hn0⟩
  case round =>
    clear hv
    obtain ⟨k, A, c, hlk, hk, rfl, hv, hb, hs0⟩ := hrel
    have hlen := fill_length l k hlk
    have HL := Lib.hid hlen
    clear hlen
    by_cases hlt : k < n
    · have hv0 : Buf n0 wr (.slice A k c) (fill l k) := by unfold Buf; rw [HL.out]; exact hv
      go_wp2_with (at_builtin; go_loud (refine buf_append (w0 := w) rfl (.tmp 10) (.tmp 11) rfl Try.underlying23 Try.info5 n0 (.slice A k c) (fill l k) rfl (Buf.below hv0 (below_alloc0 (Below.refl _ _) _)) (some ⟨wr.heap.size, 0, none⟩) 1 1 [0] rfl rfl (At.box wr (.int .u8 0) 5 wr.heap.size rfl) (by simp) (by rw [HL.out]; simp; omega) (by simp; omega) (hb.alloc hs0 _) ?_); intro v1 w1 hv1 hb1 hs1)
      have hf : fill l k ++ [0] = fill l (k + 1) := by
        unfold fill
        rw [List.append_assoc]
        congr 1
        rw [show k + 1 - l.length = (k - l.length) + 1 by omega, List.replicate_succ']
      rw [hf] at hv1
      obtain ⟨A1, c1, rfl, hA1, hnil1, hc1, hc12⟩ := hv1.at
      have hlen1 := fill_length l (k + 1) (by omega)
      unfold Buf at hv1
      rw [hlen1] at hv1 ⊢
      go_roundw
      case rel => exact ⟨k + 1, A1, c1, by omega, by omega, rfl, hv1, hb1, hs1⟩
      case measure => simp [sliceLen]; omega
    · obtain rfl : k = n := by omega
      have hff : fill l k = f := HF.out.symm
      rw [hff] at hv
      have hv0 : Buf n0 wr (.slice A k c) f := by unfold Buf; rw [HFL.out]; exact hv
      obtain ⟨A1, c1, e1, hA1, hnil1, hc1, hc12⟩ := hv0.at
      injection e1 with e1 e2 e3
      subst e1 e3
      clear e2 hff HL HF
      go_wp2_with fail
      refine (hsum.out A c wr hA1).mono ?_
      rintro e w2 ⟨rfl, rfl⟩
      go_wp2_with fail
      refine (put_any n0 _ f s 4 wr hs0 hv0 (by rw [HFL.out]; omega) (by omega) (by omega)).mono ?_
      rintro e w3 ⟨v3, rfl, hv3, hb3, hs3⟩
      go_wp2
      go_ret
      exact ⟨_, rfl, by rw [HG.out]; exact hv3, hb.trans hb3, hs3⟩
end Go.Proofs.Ytfbjjblgcgjndaa

/- Contracts of page.Seal and of the reference's Seal. -/
namespace Go.Proofs.Ytfbjjblgcgjndaa
open Go.RowKit

/-- what a page begins with -/
def front (kind number n : Nat) : List Nat := [67, 80, kind, 0] ++ le number 4 ++ le n 2 ++ le 0 2
theorem front_length (kind number n : Nat) : (front kind number n).length = 12 := by simp [front, le_length]
theorem front_bytes (kind number n : Nat) (h : kind < 256) : Bytes (front kind number n) := by
  refine Bytes.append (Bytes.append (Bytes.append ?_ (le_bytes _ _)) (le_bytes _ _)) (le_bytes _ _)
  exact Bytes.cons (by omega) (Bytes.cons (by omega) (Bytes.cons h (Bytes.cons (by omega) Bytes.nil)))
/-- a page -/
def sealed (kind number : Nat) (p : List Nat) : List Nat := closed (fill (front kind number p.length ++ p) 1020)
def SealOk (kind : Nat) (p : List Nat) : Prop := 1 ≤ kind ∧ kind ≤ 4 ∧ p.length ≤ 1008
instance (kind : Nat) (p : List Nat) : Decidable (SealOk kind p) := inferInstanceAs (Decidable (_ ∧ _ ∧ _))
theorem sealed_length (kind number : Nat) (p : List Nat) (h : p.length ≤ 1008) : (sealed kind number p).length = 1024 := by
  rw [sealed, closed_length, fill_length _ _ (by rw [List.length_append, front_length]; omega)]
theorem sealed_bytes (kind number : Nat) (p : List Nat) (h : kind < 256) (hp : Bytes p) : Bytes (sealed kind number p) := closed_bytes _ (fill_bytes _ _ ((front_bytes _ _ _ h).append hp))

theorem seal_no_tests (kind : Nat) (p : List Nat) (h : ¬ SealOk kind p) : kind < 1 ∨ (¬ kind < 1 ∧ 4 < kind) ∨ (¬ kind < 1 ∧ ¬ 4 < kind ∧ 1008 < p.length) := by
  unfold SealOk at h
  omega

set_option maxRecDepth 100000 in
set_option maxHeartbeats 1000000 in
theorem seal_no (kind number : Nat) (A : Option Addr) (c : Nat) (p : List Nat) (w : World) (h : ¬ SealOk kind p) :
    Calls Try.prog 66 #[.int .u8 (kind : Int), .int .u32 (number : Int), .slice A p.length c] w fun e w' => e = .returned (.tuple #[.slice none 0 0, .int .u16 80]) ∧ w = w' := by
  rcases seal_no_tests kind p h with h1 | ⟨h1, h2⟩ | ⟨h1, h2, h3⟩
  all_goals
    clear h
    go_enter Try.func66, Try.ntmps66
    go_wp2
    go_ret2
    exact ⟨rfl, rfl⟩

set_option maxRecDepth 100000 in
set_option maxHeartbeats 1000000 in
theorem rseal_no (kind number : Nat) (A : Option Addr) (c : Nat) (p : List Nat) (w : World) (h : ¬ SealOk kind p) :
    Calls Try.prog 67 #[.int .u8 (kind : Int), .int .u32 (number : Int), .slice A p.length c] w fun e w' => e = .returned (.tuple #[.slice none 0 0, .int .u16 80]) ∧ w = w' := by
  rcases seal_no_tests kind p h with h1 | ⟨h1, h2⟩ | ⟨h1, h2, h3⟩
  all_goals
    clear h
    go_enter Try.func67, Try.ntmps67
    go_wp2
    go_ret2
    exact ⟨rfl, rfl⟩

set_option maxRecDepth 100000 in
set_option maxHeartbeats 1000000 in
theorem seal_ok (kind number : Nat) (A : Option Addr) (c : Nat) (p : List Nat) (w : World) (h : SealOk kind p) (hk : kind < 256) (hn : number < 4294967296) (hp : Bytes p) (hA : At w A (ns .u8 p)) (hnil : A = none → c = 0) :
    Calls Try.prog 66 #[.int .u8 (kind : Int), .int .u32 (number : Int), .slice A p.length c] w fun e w' => ∃ v, e = .returned (.tuple #[v, .int .u16 0]) ∧ Buf w.heap.size w' v (sealed kind number p) ∧ Below w.heap.size w w' ∧ w.heap.size ≤ w'.heap.size := by
  obtain ⟨h1, h2, h3⟩ := h
  have hBY0 : Bytes (([67, 80, kind, 0] ++ le number 4 ++ le p.length 2 ++ le 0 2) ++ p) := (front_bytes _ _ _ hk).append hp
  have hBY := Lib.hid hBY0
  clear hBY0
  have hst : Hid (sealed kind number p = closed (fill (([67, 80, kind, 0] ++ le number 4 ++ le p.length 2 ++ le 0 2) ++ p) 1020)) := Lib.hid rfl
  generalize sealed kind number p = g at hst
  have hk1 : ¬ (kind < 1) := by omega
  have hk2 : ¬ (4 < kind) := by omega
  have hk3 : ¬ (1008 < p.length) := by omega
  go_enter Try.func66, Try.ntmps66
  go_wp2_with fail
  refine (low_any w.heap.size _ [67, 80, kind, 0] number 4 _ (by simp) (Buf.new w [67, 80, kind, 0] (Nat.le_refl _) (by simp) _ _ rfl rfl) (by simp) (by omega) (by omega)).mono ?_
  rintro e w1 ⟨v1, rfl, hv1, hb1, hs1⟩
  replace hb1 := (below_alloc0 (Below.refl w.heap.size w) _).trans hb1
  have hl1 : ([67, 80, kind, 0] ++ le number 4).length = 8 := by simp [le_length]
  generalize [67, 80, kind, 0] ++ le number 4 = b1 at hv1 hl1 hst hBY
  have HL1 := Lib.hid hl1
  clear hl1
  go_wp2_with fail
  refine (low_any w.heap.size _ b1 p.length 2 _ hs1 hv1 (by rw [HL1.out]; omega) (by omega) (by omega)).mono ?_
  rintro e w2 ⟨v2, rfl, hv2, hb2, hs2⟩
  have hl2 : (b1 ++ le p.length 2).length = 10 := by rw [List.length_append, HL1.out, le_length]
  generalize b1 ++ le p.length 2 = b2 at hv2 hl2 hst hBY
  have HL2 := Lib.hid hl2
  clear hl2
  go_wp2_with fail
  refine (low_any w.heap.size _ b2 0 2 _ hs2 hv2 (by rw [HL2.out]; omega) (by omega) (by omega)).mono ?_
  rintro e w3 ⟨v3, rfl, hv3, hb3, hs3⟩
  have hl3 : (b2 ++ le 0 2).length = 12 := by rw [List.length_append, HL2.out, le_length]
  generalize b2 ++ le 0 2 = b3 at hv3 hl3 hst hBY
  have HL3 := Lib.hid hl3
  clear hl3
  have hb03 := (hb1.trans hb2).trans hb3
  go_wp2_with (at_builtin; go_loud (refine buf_append (w0 := w) rfl (.tmp 31) (.tmp 32) rfl Try.underlying23 Try.info5 w.heap.size v3 b3 rfl hv3 A p.length c p rfl rfl (hA.below hb03) hnil (by rw [HL3.out]; omega) hs3 hb03 ?_); intro v4 w4 hv4 hb4 hs4)
  have hl4 : (b3 ++ p).length = 12 + p.length := by rw [List.length_append, HL3.out]
  generalize b3 ++ p = b4 at hv4 hl4 hst hBY
  have HL4 := Lib.hid hl4
  clear hl4
  go_wp2_with fail
  refine (filled_any w.heap.size _ b4 1020 _ hs4 hv4 hBY.out (by rw [HL4.out]; omega) (by omega)).mono ?_
  rintro e w5 ⟨v5, rfl, hv5, hb5, hs5⟩
  go_wp2
  go_ret2
  exact ⟨_, rfl, by rw [hst.out]; exact hv5, hb4.trans hb5, hs5⟩

set_option maxRecDepth 100000 in
set_option maxHeartbeats 1000000 in
theorem rseal_ok (kind number : Nat) (A : Option Addr) (c : Nat) (p : List Nat) (w : World) (h : SealOk kind p) (hk : kind < 256) (hn : number < 4294967296) (hp : Bytes p) (hA : At w A (ns .u8 p)) (hnil : A = none → c = 0) :
    Calls Try.prog 67 #[.int .u8 (kind : Int), .int .u32 (number : Int), .slice A p.length c] w fun e w' => ∃ v, e = .returned (.tuple #[v, .int .u16 0]) ∧ Buf w.heap.size w' v (sealed kind number p) ∧ Below w.heap.size w w' ∧ w.heap.size ≤ w'.heap.size := by
  obtain ⟨h1, h2, h3⟩ := h
  have hBY0 : Bytes (([67, 80, kind, 0] ++ le number 4 ++ le p.length 2 ++ le 0 2) ++ p) := (front_bytes _ _ _ hk).append hp
  have hBY := Lib.hid hBY0
  clear hBY0
  have hst : Hid (sealed kind number p = closed (fill (([67, 80, kind, 0] ++ le number 4 ++ le p.length 2 ++ le 0 2) ++ p) 1020)) := Lib.hid rfl
  generalize sealed kind number p = g at hst
  have hk1 : ¬ (kind < 1) := by omega
  have hk2 : ¬ (4 < kind) := by omega
  have hk3 : ¬ (1008 < p.length) := by omega
  go_enter Try.func67, Try.ntmps67
  go_wp2_with fail
  refine (put_any w.heap.size _ [67, 80, kind, 0] number 4 _ (by simp) (Buf.new w [67, 80, kind, 0] (Nat.le_refl _) (by simp) _ _ rfl rfl) (by simp) (by omega) (by omega)).mono ?_
  rintro e w1 ⟨v1, rfl, hv1, hb1, hs1⟩
  replace hb1 := (below_alloc0 (Below.refl w.heap.size w) _).trans hb1
  have hl1 : ([67, 80, kind, 0] ++ le number 4).length = 8 := by simp [le_length]
  generalize [67, 80, kind, 0] ++ le number 4 = b1 at hv1 hl1 hst hBY
  have HL1 := Lib.hid hl1
  clear hl1
  go_wp2_with fail
  refine (put_any w.heap.size _ b1 p.length 2 _ hs1 hv1 (by rw [HL1.out]; omega) (by omega) (by omega)).mono ?_
  rintro e w2 ⟨v2, rfl, hv2, hb2, hs2⟩
  have hl2 : (b1 ++ le p.length 2).length = 10 := by rw [List.length_append, HL1.out, le_length]
  generalize b1 ++ le p.length 2 = b2 at hv2 hl2 hst hBY
  have HL2 := Lib.hid hl2
  clear hl2
  go_wp2_with fail
  refine (put_any w.heap.size _ b2 0 2 _ hs2 hv2 (by rw [HL2.out]; omega) (by omega) (by omega)).mono ?_
  rintro e w3 ⟨v3, rfl, hv3, hb3, hs3⟩
  have hl3 : (b2 ++ le 0 2).length = 12 := by rw [List.length_append, HL2.out, le_length]
  generalize b2 ++ le 0 2 = b3 at hv3 hl3 hst hBY
  have HL3 := Lib.hid hl3
  clear hl3
  have hb03 := (hb1.trans hb2).trans hb3
  go_wp2_with (at_builtin; go_loud (refine buf_append (w0 := w) rfl (.tmp 33) (.tmp 34) rfl Try.underlying23 Try.info5 w.heap.size v3 b3 rfl hv3 A p.length c p rfl rfl (hA.below hb03) hnil (by rw [HL3.out]; omega) hs3 hb03 ?_); intro v4 w4 hv4 hb4 hs4)
  have hl4 : (b3 ++ p).length = 12 + p.length := by rw [List.length_append, HL3.out]
  generalize b3 ++ p = b4 at hv4 hl4 hst hBY
  have HL4 := Lib.hid hl4
  clear hl4
  go_wp2_with fail
  refine (rfilled_any w.heap.size _ b4 1020 _ hs4 hv4 hBY.out (by rw [HL4.out]; omega) (by omega)).mono ?_
  rintro e w5 ⟨v5, rfl, hv5, hb5, hs5⟩
  go_wp2
  go_ret2
  exact ⟨_, rfl, by rw [hst.out]; exact hv5, hb4.trans hb5, hs5⟩
end Go.Proofs.Ytfbjjblgcgjndaa

/- Contracts of the reader: take, number, guard. -/
namespace Go.Proofs.Ytfbjjblgcgjndaa
open Go.RowKit

def Inner.pre (r : Inner) (k : Nat) : Inner := ⟨r.A, r.l.take k, r.c⟩
def Inner.suf (r : Inner) (k : Nat) : Inner := ⟨if r.c = k then r.A else r.A.map (·.add k), r.l.drop k, r.c - k⟩
theorem Inner.Ok.pre {w : World} {r : Inner} (h : r.Ok w) (k : Nat) : (r.pre k).Ok w :=
  ⟨h.lies.takes k, h.nil, by have := h.le; simp [Inner.pre]; omega, by have := h.small; simp [Inner.pre]; omega, h.bytes.take k⟩
theorem Inner.Ok.suf {w : World} {r : Inner} (h : r.Ok w) (k : Nat) (hk : k ≤ r.l.length) : (r.suf k).Ok w := by
  have hle := h.le
  refine ⟨?_, ?_, by show (r.l.drop k).length ≤ r.c - k; rw [List.length_drop]; omega, by have := h.small; show (r.l.drop k).length ≤ 140737488351232; rw [List.length_drop]; omega, h.bytes.drop k⟩
  · intro hn
    have hlt : k < r.l.length := by
      refine Decidable.byContradiction fun hc => hn ?_
      simp [Inner.suf, ns, List.drop_eq_nil_of_le (Nat.le_of_not_lt hc)]
    obtain ⟨b, o, e, hr⟩ := h.lies (by intro he; have := congrArg List.length he; simp [ns] at this; rw [this] at hlt; simp at hlt)
    refine ⟨b, o + k, ?_, ?_⟩
    · simp only [Inner.suf, e, Option.map_some]
      rw [if_neg (by omega), Addr.add_mid]
    · intro j v hv
      rw [Nat.add_assoc]
      refine hr (k + j) v ?_
      simpa [Inner.suf, ns] using hv
  · intro he
    simp only [Inner.suf] at he ⊢
    split at he
    · have := h.nil he; omega
    · have : r.A = none := by cases hA : r.A <;> simp_all
      have := h.nil this; omega

/-- a reader in block b, all that it reads lies in w0 -/
structure Reads (w0 w : World) (b : Nat) (r : Inner) : Prop where
  cell : w.heap[b]? = some (.cells #[r.val] 266 (0, 0))
  ok : r.Ok w0
  below : Below w0.heap.size w0 w
  new : w0.heap.size ≤ b
theorem Reads.set {w0 w : World} {b : Nat} {r : Inner} (h : Reads w0 w b r) (r2 : Inner) (h2 : r2.Ok w0) : Reads w0 (w.setCell ⟨b, 0, none⟩ r2.val) b r2 :=
  ⟨blk_set h.cell 0 r2.val, h2, h.below.setCell h.new _, h.new⟩
theorem grown_setCell (w : World) (b i : Nat) (v : Value) : w.grownBy (w.setCell ⟨b, i, none⟩ v) (some b) :=
  ⟨rfl, rfl, rfl, by simp [World.setCell], fun k hk hne => Below.heap_setCell _ _ _ _ (by intro e; exact hne (by rw [e]))⟩

theorem take_tests (r : Inner) (k : Nat) (A : Option Addr) (n c : Nat) (h : r.val = .slice A n c) : r.A = A ∧ r.l.length = n ∧ r.c = c := by
  unfold Inner.val at h
  injection h with h1 h2 h3
  exact ⟨h1, h2, h3⟩

set_option maxRecDepth 100000 in
set_option maxHeartbeats 1000000 in
theorem take_raw (b : Nat) (A : Option Addr) (n c k : Nat) (w : World) (hb : w.heap[b]? = some (.cells #[.slice A n c] 266 (0, 0))) (hk : k ≤ n) (hc : n ≤ c) :
    Calls Try.prog 164 #[.pointer (some ⟨b, 0, none⟩), .int .i64 (k : Int)] w fun e w' => e = .returned (.slice A k c) ∧ w' = w.setCell ⟨b, 0, none⟩ (.slice (if c = k then A else A.map (·.add k)) (n - k) (c - k)) := by
  have hcell : w.cell? ⟨b, 0, none⟩ = some (.slice A n c) := by rw [cell_of_row w b 0 _ 266 (0, 0) hb]; rfl
  have hfr := frozen_of_row w b 0 _ 266 hb
  clear hb
  by_cases he : c = k
  · subst he
    go_enter Try.func164, Try.ntmps164
    go_wp2
    go_ret
    exact ⟨rfl, by simp⟩
  · go_enter Try.func164, Try.ntmps164
    go_wp2
    go_ret
    exact ⟨rfl, by simp [he]⟩
theorem take_ok {w0 w : World} {b : Nat} {r : Inner} (h : Reads w0 w b r) (k : Nat) (hk : k ≤ r.l.length) :
    Calls Try.prog 164 #[.pointer (some ⟨b, 0, none⟩), .int .i64 (k : Int)] w fun e w' => e = .returned (.slice r.A k r.c) ∧ Reads w0 w' b (r.suf k) ∧ w.grownBy w' (some b) := by
  refine (take_raw b r.A r.l.length r.c k w h.cell hk h.ok.le).mono ?_
  rintro e w' ⟨rfl, rfl⟩
  have e1 : Value.slice (if r.c = k then r.A else r.A.map (·.add k)) (r.l.length - k) (r.c - k) = (r.suf k).val := by simp [Inner.val, Inner.suf]
  rw [e1]
  exact ⟨rfl, h.set _ (h.ok.suf k hk), grown_setCell w b 0 _⟩

def Gave : Ending := .panicked [{ v := .iface 273 (.agg #[]), recovered := false }]
set_option maxRecDepth 100000 in
set_option maxHeartbeats 1000000 in
theorem take_bad {w0 w : World} {b : Nat} {r : Inner} (h : Reads w0 w b r) (k : Nat) (hk : r.l.length < k) (hs : k ≤ 1000000) :
    Calls Try.prog 164 #[.pointer (some ⟨b, 0, none⟩), .int .i64 (k : Int)] w fun e w' => e = Gave ∧ w' = w := by
  have hcell : w.cell? ⟨b, 0, none⟩ = some (.slice r.A r.l.length r.c) := by rw [cell_of_row w b 0 _ 266 (0, 0) h.cell]; rfl
  have hfr := frozen_of_row w b 0 _ 266 h.cell
  clear h
  go_enter Try.func164, Try.ntmps164
  go_wp2
  exact ⟨rfl, rfl, rfl⟩

theorem run_assert273 (w : World) : (Instr.typeAssert (.iface 273 (.agg #[])) 20 273 true).run Try.prog w = .ok (.tuple #[.agg #[], .bool true]) w := by
  simp [Instr.typeAssert, run_underlying Try.underlying273]
/-- the variable of a result, in a block of its own -/
def ErrBox (w : World) (g : Nat) (x : Int) : Prop := w.heap[g]? = some (.cells #[.int .u16 x] 37 (0, 0))
set_option maxRecDepth 100000 in
theorem guard_panicking (g : Nat) (x : Int) (older : List PanicEntry) (w : World) (hg : ErrBox w g x) :
    CallsD Try.prog 163 #[.pointer (some ⟨g, 0, none⟩)] (.panicking ({ v := .iface 273 (.agg #[]), recovered := false } :: older)) w fun e u' w' =>
      e = .returned (.tuple #[]) ∧ u' = .panicking ({ v := .iface 273 (.agg #[]), recovered := true } :: older) ∧ ErrBox w' g 80 ∧ w.grownBy w' (some g) := by
  have hlt : g < w.heap.size := (Array.getElem?_eq_some_iff.1 hg).1
  have hg' : (w.alloc (.cells #[] 273)).heap[g]? = some (.cells #[.int .u16 x] 37 (0, 0)) := by rw [heap_alloc_old w _ hlt]; exact hg
  have hc : (w.alloc (.cells #[] 273)).cell? ⟨g, 0, none⟩ = some (.int .u16 x) := by rw [cell_of_row _ g 0 _ 37 (0, 0) hg']; rfl
  have hz : (w.alloc (.cells #[] 273)).frozen? ⟨g, 0, none⟩ = false := blk_frozen hg' 0
  have hbx0 : (w.setCell ⟨g, 0, none⟩ (.int .u16 80)).heap[g]? = some (.cells #[.int .u16 80] 37 (0, 0)) := blk_set hg 0 _
  have hfin : w.grownBy ((w.setCell ⟨g, 0, none⟩ (.int .u16 80)).alloc (.cells #[] 273)) (some g) := by
    have h0 := grown_setCell w g 0 (.int .u16 80)
    have h1 : (w.setCell ⟨g, 0, none⟩ (.int .u16 80)).grownBy ((w.setCell ⟨g, 0, none⟩ (.int .u16 80)).alloc (.cells #[] 273)) (some g) := ⟨rfl, rfl, rfl, by simp, fun i hi _ => heap_alloc_old _ _ hi⟩
    exact h0.trans h1
  have hbx : ErrBox ((w.setCell ⟨g, 0, none⟩ (.int .u16 80)).alloc (.cells #[] 273)) g 80 := by
    unfold ErrBox
    rw [heap_alloc_old _ _ (Array.getElem?_eq_some_iff.1 hbx0).1]; exact hbx0
  clear hbx0
  have HF := Lib.hid hfin
  have HB := Lib.hid hbx
  clear hg hg' hfin hbx
  refine callsD_of_wpS Try.func163 rfl fun c₀ cs hu => ?_
  apply wpS_seq
  apply wpS_region
  simp [wpOpsS, go_sem, recoverD, hu, Try.ntmps163, Exit.thenS]
  apply wpS_seq
  apply wpS_region
  simp [wpOpsS, go_sem, Exit.thenS]
  refine wpS_cond (t := true) (by simp [Act.eval, Array.replicate]) ?_
  simp only [if_true]
  refine wpS_of_wp ?_
  change Code.wp _ _ _ { tmps := #[.pointer (some ⟨g, 0, none⟩), undef, .iface 273 (.agg #[]), undef, undef, .iface 273 (.agg #[]), .iface 273 (.agg #[]), .bool true, undef, undef, undef, undef, undef, undef, undef, undef, undef, undef], defers := [] } _
  have hta := run_assert273
  go_wp2
  exact ⟨rfl, _, rfl, _, results_none rfl _ _ _, rfl, rfl, HB.out, HF.out⟩
theorem guard_idle (p : Addr) (w : World) :
    CallsD Try.prog 163 #[.pointer (some p)] .returning w fun e u' w' => e = .returned (.tuple #[]) ∧ u' = .returning ∧ w' = w := by
  refine callsD_of_wpS Try.func163 rfl fun c₀ cs hu => ?_
  apply wpS_seq
  apply wpS_region
  simp [wpOpsS, go_sem, recoverD, hu, Try.ntmps163, Exit.thenS]
  apply wpS_seq
  apply wpS_region
  simp [wpOpsS, go_sem, Exit.thenS]
  refine wpS_cond (t := false) (by simp [Act.eval, Array.replicate]) ?_
  simp only [Bool.false_eq_true, if_false]
  refine wpS_of_wp (wp_skip ?_)
  cases c₀
  simp_all [bodyPostS, results, Try.results163]
end Go.Proofs.Ytfbjjblgcgjndaa

/- Contracts of number and open. -/
namespace Go.Proofs.Ytfbjjblgcgjndaa
open Go.RowKit

theorem el_append (l m : List Nat) : el (l ++ m) = el l + 256 ^ l.length * el m := by
  induction l with
  | nil => simp [el]
  | cons b l ih =>
    simp only [List.cons_append, el, ih, List.length_cons, Nat.pow_succ]
    rw [Nat.mul_add, Nat.mul_comm (256 ^ l.length) 256, Nat.mul_assoc]
    omega
theorem el_take (l : List Nat) (k : Nat) (h : k < l.length) : el (l.take (k + 1)) = el (l.take k) + 256 ^ k * nth l k := by
  rw [take_nth l k h, el_append]
  have : min k l.length = k := Nat.min_eq_left (by omega)
  simp [el, this]
theorem el_take_lt (l : List Nat) (k : Nat) (h : k ≤ l.length) (hb : Bytes l) : el (l.take k) < 256 ^ k := by
  have := el_lt (l.take k) (hb.take k)
  rwa [List.length_take, Nat.min_eq_left h] at this

theorem or_at (n c j : Nat) (hn : n < 256 ^ j) (hc : c < 256) (hj : j < 8) :
    bits BinOp.or IntKind.u64 (n : Int) (IntKind.u64.wrap ((c : Int) * 2 ^ (8 * j))) = ((n + 256 ^ j * c : Nat) : Int) := by
  have h256 : (256 : Nat) ^ j = 2 ^ (8 * j) := by rw [Nat.pow_mul]
  have hpos : 0 < 256 ^ j := Nat.pow_pos (by decide)
  have hle : 256 ^ j ≤ 256 ^ 7 := Nat.pow_le_pow_right (by decide) (by omega)
  have h1 : 256 ^ j * c < 18446744073709551616 := by
    calc 256 ^ j * c ≤ 256 ^ 7 * c := Nat.mul_le_mul_right _ hle
      _ ≤ 256 ^ 7 * 255 := Nat.mul_le_mul_left _ (by omega)
      _ < 18446744073709551616 := by decide
  have e1 : (c : Int) * 2 ^ (8 * j) = ((256 ^ j * c : Nat) : Int) := by
    rw [h256]
    push_cast
    exact Int.mul_comm _ _
  rw [e1]
  generalize hX : 256 ^ j * c = X at h1
  have e2 : IntKind.u64.wrap (X : Int) = (X : Int) := by rw [IntKind.wrap_u64]; omega
  rw [e2, u64_or_nat n X (by have : (256:Nat) ^ 7 < 18446744073709551616 := by decide
                             omega) h1, ← hX, h256, Nat.or_comm, ← Nat.two_pow_add_eq_or_of_lt (by rw [← h256]; exact hn), Nat.add_comm]
set_option maxRecDepth 100000 in
set_option maxHeartbeats 1000000 in
theorem number_ok {w0 w : World} {b : Nat} {r : Inner} (h : Reads w0 w b r) (k : Nat) (hk : k ≤ r.l.length) (hk8 : k ≤ 8) :
    Calls Try.prog 165 #[.pointer (some ⟨b, 0, none⟩), .int .i64 (k : Int)] w fun e w' => e = .returned (.int .u64 ((el (r.l.take k) : Nat) : Int)) ∧ Reads w0 w' b (r.suf k) ∧ w.grownBy w' (some b) := by
  go_enter Try.func165, Try.ntmps165
  go_wp2_with fail
  refine (take_ok h k hk).mono ?_
  rintro e w1 ⟨rfl, hr1, hg1⟩
  have hA := (h.ok.pre k).lies.below hr1.below
  have hb := h.ok.bytes
  generalize hQ : Reads w0 w1 b (r.suf k) = QQ at hr1
  have HQ := Lib.hid hQ
  clear hQ h
  go_wp2
  go_loop [5, 12] (fun n i => ∃ j : Nat, j ≤ k ∧ i = .int .i64 j ∧ n = .int .u64 ((el (r.l.take j) : Nat) : Int)) (fun _ i => k - (intOf i).toNat)
  case atStart => exact ⟨0, by omega, rfl, by simp [el]⟩
  case round =>
    obtain ⟨j, hj, rfl, rfl⟩ := hrel
    by_cases hlt : j < k
    · obtain ⟨g, o, e, hc⟩ := hA.num j (by simp [Inner.pre]; omega)
      have e2 : nth (r.pre k).l j = nth r.l j := by
        have h1 := nth_eq (r.pre k).l j (by simp [Inner.pre]; omega)
        have h2 := nth_eq r.l j (by omega)
        simp only [Inner.pre] at h1 ⊢
        rw [List.getElem?_take_of_lt hlt, h2] at h1
        exact (Option.some.inj h1).symm
      rw [e2] at hc
      have e3 : r.A = some ⟨g, o, none⟩ := e
      have hlt1 := el_take_lt r.l j (by omega) hb
      have hbj := hb.nth j (by omega)
      have hor := or_at _ _ j hlt1 hbj (by omega)
      rw [← el_take r.l j (by omega)] at hor
      have HO := Lib.hid hor
      clear hor hlt1
      go_wp2
      go_round
      case rel => exact ⟨j + 1, by omega, by go_num, by rw [HO.out]⟩
      case measure => simp [intOf]; omega
    · obtain rfl : j = k := by omega
      go_wp2
      go_ret
      exact ⟨rfl, by rw [HQ.out]; exact hr1, hg1⟩

set_option maxRecDepth 100000 in
set_option maxHeartbeats 1000000 in
theorem number_bad {w0 w : World} {b : Nat} {r : Inner} (h : Reads w0 w b r) (k : Nat) (hk : r.l.length < k) (hs : k ≤ 1000000) :
    Calls Try.prog 165 #[.pointer (some ⟨b, 0, none⟩), .int .i64 (k : Int)] w fun e w' => e = Gave ∧ w' = w := by
  have ht := Lib.hid (take_bad h k hk hs)
  clear h
  go_enter Try.func165, Try.ntmps165
  go_wp2_with fail
  refine ht.out.mono ?_
  rintro e w1 ⟨rfl, rfl⟩
  exact ⟨rfl, rfl, rfl⟩

theorem ErrBox.grown {w w1 : World} {g b : Nat} {x : Int} (h : ErrBox w g x) (hg : w.grownBy w1 (some b)) (hne : g ≠ b) : ErrBox w1 g x := by
  unfold ErrBox
  rw [hg.block g (Array.getElem?_eq_some_iff.1 h).1 (by intro e; injection e with e; exact hne e)]
  exact h

theorem suf_length (r : Inner) (k : Nat) : (r.suf k).l.length = r.l.length - k := by simp [Inner.suf]
theorem suf_l (r : Inner) (k : Nat) : (r.suf k).l = r.l.drop k := rfl
theorem suf_suf_l (r : Inner) (k m : Nat) : ((r.suf k).suf m).l = r.l.drop (k + m) := by simp [Inner.suf]
theorem pre_l (r : Inner) (k : Nat) : (r.pre k).l = r.l.take k := rfl
theorem nth_drop (l : List Nat) (k j : Nat) : nth (l.drop k) j = nth l (k + j) := by simp [nth, List.getD_eq_getElem?_getD]
theorem nth_take (l : List Nat) (k j : Nat) (h : j < k) : nth (l.take k) j = nth l j := by simp [nth, List.getD_eq_getElem?_getD, List.getElem?_take_of_lt h]

/-- the start: the variable of the error, the reader behind it -/
theorem opened (r : Inner) (w : World) (h : r.Ok w) (W : World) (hW : W = (w.alloc (.cells #[.int .u16 0] 37)).alloc (.cells #[.slice r.A r.l.length r.c] 266)) :
    Reads w W (w.heap.size + 1) r ∧ ErrBox W w.heap.size 0 := by
  subst hW
  refine ⟨⟨?_, h, below_alloc0 (below_alloc0 (Below.refl _ _) _) _, by omega⟩, ?_⟩
  · rw [show w.heap.size + 1 = (w.alloc (.cells #[.int .u16 0] 37)).heap.size by simp]
    exact heap_alloc_new _ _
  · unfold ErrBox
    rw [heap_alloc_old _ _ (by simp)]
    exact heap_alloc_new w _

set_option maxRecDepth 100000 in
set_option maxHeartbeats 1000000 in
theorem open_ok (r : Inner) (w : World) (h : r.Ok w) (h12 : 12 ≤ r.l.length) (n : Nat) (hn : n = el ((r.l.drop 8).take 2)) (hfit : n ≤ r.l.length - 12) :
    Calls Try.prog 135 #[.slice r.A r.l.length r.c] w fun e w' => ∃ q : Inner, q.Ok w ∧ q.l = (r.l.drop 12).take n ∧ e = .returned (.tuple #[.int .u8 (nth r.l 2 : Int), .slice q.A q.l.length q.c, .int .u16 0]) ∧ Below w.heap.size w w' := by
  have hsmall := h.small
  have hle := h.le
  have hne : w.heap.size ≠ w.heap.size + 1 := by omega
  go_enter_defers Try.func135, Try.ntmps135
  go_wp2_with fail
  generalize hW : (w.alloc (Obj.cells #[Value.int IntKind.u16 0] 37)).alloc (Obj.cells #[Value.slice r.A r.l.length r.c] 266) = W0
  obtain ⟨hr0, hE0⟩ := opened r w h W0 hW.symm
  clear hW
  refine (take_ok hr0 2 (by omega)).mono ?_
  rintro e w1 ⟨rfl, hr1, hg1⟩
  have hE1 := hE0.grown hg1 hne
  go_wp2_with fail
  refine (take_ok hr1 1 (by rw [suf_length]; omega)).mono ?_
  rintro e w2 ⟨rfl, hr2, hg2⟩
  have hE2 := hE1.grown hg2 hne
  have hA2 := (hr1.ok.pre 1).lies.below hr2.below
  obtain ⟨g, o, e2, hc2⟩ := hA2.num 0 (by simp [Inner.pre, suf_l]; omega)
  rw [pre_l, nth_take _ _ _ (by omega), suf_l, nth_drop, Nat.add_zero] at hc2
  have e2' : (r.suf 2).A = some ⟨g, o, none⟩ := e2
  clear e2
  rw [e2']
  go_wp2_with fail
  refine (take_ok hr2 5 (by rw [suf_length, suf_length]; omega)).mono ?_
  rintro e w3 ⟨rfl, hr3, hg3⟩
  have hE3 := hE2.grown hg3 hne
  go_wp2_with fail
  refine (number_ok hr3 2 (by rw [suf_length, suf_length, suf_length]; omega) (by omega)).mono ?_
  rintro e w4 ⟨rfl, hr4, hg4⟩
  have hE4 := hE3.grown hg4 hne
  have hnum : el ((((r.suf 2).suf 1).suf 5).l.take 2) = n := by rw [hn]; simp [Inner.suf]
  rw [hnum]
  clear hnum hn
  go_wp2_with fail
  refine (take_ok hr4 2 (by rw [suf_length, suf_length, suf_length, suf_length]; omega)).mono ?_
  rintro e w5 ⟨rfl, hr5, hg5⟩
  have hE5 := hE4.grown hg5 hne
  go_wp2_with fail
  refine (take_ok hr5 n (by rw [suf_length, suf_length, suf_length, suf_length, suf_length]; omega)).mono ?_
  rintro e w6 ⟨rfl, hr6, hg6⟩
  have hE6 := hE5.grown hg6 hne
  have hq := hr5.ok.pre n
  have hql : ((((((r.suf 2).suf 1).suf 5).suf 2).suf 2).pre n).l = (r.l.drop 12).take n := by simp [Inner.suf, Inner.pre]
  have hb6 := hr6.below
  have hcell : w6.cell? ⟨w.heap.size, 0, none⟩ = some (.int .u16 0) := by rw [cell_of_row w6 _ 0 _ 37 (0, 0) hE6]; rfl
  have hfr := frozen_of_row w6 _ 0 _ 37 hE6
  generalize (((((r.suf 2).suf 1).suf 5).suf 2).suf 2) = r5 at hq hql ⊢
  go_wp2
  refine leaves_cons (f := 163) (args := #[.pointer (some ⟨w.heap.size, 0, none⟩)]) (by simp) (by simp [go_sem]) ?_
  refine (guard_idle _ _).mono ?_
  rintro e u' w'' ⟨rfl, rfl, rfl⟩
  have hcell2 : (w6.setCell ⟨w.heap.size, 0, none⟩ (.int .u16 0)).cell? ⟨w.heap.size, 0, none⟩ = some (.int .u16 0) := by
    have h2 : ErrBox (w6.setCell ⟨w.heap.size, 0, none⟩ (.int .u16 0)) w.heap.size 0 := blk_set hE6 0 _
    rw [cell_of_row _ _ 0 _ 37 (0, 0) h2]; rfl
  have hlen : (r5.pre n).l.length = n := by rw [hql, List.length_take, List.length_drop]; omega
  simp only [Leaves, settle, results, Try.results135, go_sem]
  simp [hcell2, go_sem]
  exact ⟨r5.pre n, hq, hql, by rw [hlen]; exact ⟨rfl, rfl, rfl⟩, hb6.setCell (Nat.le_refl _) _⟩

/-- the door of open, where the reader gave up -/
theorem open_door (g : Nat) (tmps : Array Value) (k v : Value) (R : Ending → World → Prop) (w : World) (h2 : tmps.getD 2 undef = k) (h3 : tmps.getD 3 undef = v) (h4 : tmps.getD 4 undef = .pointer (some ⟨g, 0, none⟩)) (hE : ErrBox w g 0)
    (h : ∀ w2, w.grownBy w2 (some g) → R (.returned (.tuple #[k, v, .int .u16 80])) w2) :
    Leaves Try.prog Try.f135 tmps R [{ target := .fn (.func 163) #[], args := #[.pointer (some ⟨g, 0, none⟩)] }] (.panicking [{ v := .iface 273 (.agg #[]), recovered := false }]) w := by
  refine leaves_cons (f := 163) (args := #[.pointer (some ⟨g, 0, none⟩)]) (by simp) (by simp [go_sem]) ?_
  refine (guard_panicking g 0 [] w hE).mono ?_
  rintro e u' w2 ⟨rfl, rfl, hE2, hg2⟩
  have hcell2 : w2.cell? ⟨g, 0, none⟩ = some (.int .u16 80) := by rw [cell_of_row _ _ 0 _ 37 (0, 0) hE2]; rfl
  have := h w2 hg2
  have hres : (results Try.f135 tmps).run Try.prog w2 = .ok (.tuple #[k, v, .int .u16 80]) w2 := by
    have h2' : tmps.getD 2 undef = k := h2
    simp [results, Try.results135, go_sem]
    simp [Array.getD_eq_getD_getElem?] at h2 h3 h4
    simp [h2, h3, h4, hcell2, go_sem]
  exact ⟨_, hres, this⟩

set_option maxRecDepth 100000 in
set_option maxHeartbeats 1000000 in
theorem open_bad (r : Inner) (w : World) (h : r.Ok w) (hbad : r.l.length < 12 ∨ (12 ≤ r.l.length ∧ r.l.length - 12 < el ((r.l.drop 8).take 2))) :
    Calls Try.prog 135 #[.slice r.A r.l.length r.c] w fun e w' => ∃ k v, e = .returned (.tuple #[k, v, .int .u16 80]) ∧ Below w.heap.size w w' := by
  have hsmall := h.small
  have hle := h.le
  have hne : w.heap.size ≠ w.heap.size + 1 := by omega
  go_enter_defers Try.func135, Try.ntmps135
  go_wp2_with fail
  generalize hW : (w.alloc (Obj.cells #[Value.int IntKind.u16 0] 37)).alloc (Obj.cells #[Value.slice r.A r.l.length r.c] 266) = W0
  obtain ⟨hr0, hE0⟩ := opened r w h W0 hW.symm
  clear hW
  by_cases d0 : r.l.length < 2
  · clear hbad
    refine (take_bad hr0 2 d0 (by omega)).mono ?_
    rintro e w9 ⟨rfl, rfl⟩
    exact open_door w.heap.size _ _ _ _ _ rfl rfl rfl hE0 (fun w2 hg2 => ⟨_, _, rfl, below_grown hr0.below hg2 hr0.below.size (by intro k hk; injection hk with hk; omega)⟩)
  refine (take_ok hr0 2 (by omega)).mono ?_
  rintro e w1 ⟨rfl, hr1, hg1⟩
  have hE1 := hE0.grown hg1 hne
  by_cases d1 : r.l.length < 3
  · clear hbad
    go_wp2_with fail
    refine (take_bad hr1 1 (by rw [suf_length]; omega) (by omega)).mono ?_
    rintro e w9 ⟨rfl, rfl⟩
    exact open_door w.heap.size _ _ _ _ _ rfl rfl rfl hE1 (fun w2 hg2 => ⟨_, _, rfl, below_grown hr1.below hg2 hr1.below.size (by intro k hk; injection hk with hk; omega)⟩)
  go_wp2_with fail
  refine (take_ok hr1 1 (by rw [suf_length]; omega)).mono ?_
  rintro e w2 ⟨rfl, hr2, hg2⟩
  have hE2 := hE1.grown hg2 hne
  have hA2 := (hr1.ok.pre 1).lies.below hr2.below
  obtain ⟨g, o, e2, hc2⟩ := hA2.num 0 (by simp [Inner.pre, suf_l]; omega)
  rw [pre_l, nth_take _ _ _ (by omega), suf_l, nth_drop, Nat.add_zero] at hc2
  have e2' : (r.suf 2).A = some ⟨g, o, none⟩ := e2
  clear e2
  rw [e2']
  by_cases d2 : r.l.length < 8
  · clear hbad
    go_wp2_with fail
    refine (take_bad hr2 5 (by rw [suf_length, suf_length]; omega) (by omega)).mono ?_
    rintro e w9 ⟨rfl, rfl⟩
    exact open_door w.heap.size _ _ _ _ _ rfl rfl rfl hE2 (fun w2 hg2 => ⟨_, _, rfl, below_grown hr2.below hg2 hr2.below.size (by intro k hk; injection hk with hk; omega)⟩)
  go_wp2_with fail
  refine (take_ok hr2 5 (by rw [suf_length, suf_length]; omega)).mono ?_
  rintro e w3 ⟨rfl, hr3, hg3⟩
  have hE3 := hE2.grown hg3 hne
  by_cases d3 : r.l.length < 10
  · clear hbad
    go_wp2_with fail
    refine (number_bad hr3 2 (by rw [suf_length, suf_length, suf_length]; omega) (by omega)).mono ?_
    rintro e w9 ⟨rfl, rfl⟩
    exact open_door w.heap.size _ _ _ _ _ rfl rfl rfl hE3 (fun w2 hg2 => ⟨_, _, rfl, below_grown hr3.below hg2 hr3.below.size (by intro k hk; injection hk with hk; omega)⟩)
  go_wp2_with fail
  refine (number_ok hr3 2 (by rw [suf_length, suf_length, suf_length]; omega) (by omega)).mono ?_
  rintro e w4 ⟨rfl, hr4, hg4⟩
  have hE4 := hE3.grown hg4 hne
  have hnum : el ((((r.suf 2).suf 1).suf 5).l.take 2) = el ((r.l.drop 8).take 2) := by simp [Inner.suf]
  rw [hnum]
  clear hnum
  have hnlt := el_take_lt (r.l.drop 8) 2 (by rw [List.length_drop]; omega) (h.bytes.drop 8)
  generalize el ((r.l.drop 8).take 2) = n at hbad hnlt
  by_cases d4 : r.l.length < 12
  · clear hbad
    go_wp2_with fail
    refine (take_bad hr4 2 (by rw [suf_length, suf_length, suf_length, suf_length]; omega) (by omega)).mono ?_
    rintro e w9 ⟨rfl, rfl⟩
    exact open_door w.heap.size _ _ _ _ _ rfl rfl rfl hE4 (fun w2 hg2 => ⟨_, _, rfl, below_grown hr4.below hg2 hr4.below.size (by intro k hk; injection hk with hk; omega)⟩)
  go_wp2_with fail
  refine (take_ok hr4 2 (by rw [suf_length, suf_length, suf_length, suf_length]; omega)).mono ?_
  rintro e w5 ⟨rfl, hr5, hg5⟩
  have hE5 := hE4.grown hg5 hne
  have d5 : r.l.length - 12 < n := by omega
  clear hbad
  go_wp2_with fail
  refine (take_bad hr5 n (by rw [suf_length, suf_length, suf_length, suf_length, suf_length]; omega) (by omega)).mono ?_
  rintro e w9 ⟨rfl, rfl⟩
  exact open_door w.heap.size _ _ _ _ _ rfl rfl rfl hE5 (fun w2 hg2 => ⟨_, _, rfl, below_grown hr5.below hg2 hr5.below.size (by intro k hk; injection hk with hk; omega)⟩)
end Go.Proofs.Ytfbjjblgcgjndaa

/- Contracts of page.Open and of the reference's get and Open. -/
namespace Go.Proofs.Ytfbjjblgcgjndaa
open Go.RowKit

def kindOf (l : List Nat) : Nat := nth l 2
def lenOf (l : List Nat) : Nat := el ((l.drop 8).take 2)
def payOf (l : List Nat) : List Nat := (l.drop 12).take (lenOf l)
/-- the bytes are the page of that number -/
def IsPage (number : Nat) (l : List Nat) : Prop := 12 ≤ l.length ∧ lenOf l ≤ l.length - 12 ∧ SealOk (kindOf l) (payOf l) ∧ l = sealed (kindOf l) number (payOf l)
instance (number : Nat) (l : List Nat) : Decidable (IsPage number l) := inferInstanceAs (Decidable (_ ∧ _ ∧ _ ∧ _))
theorem IsPage.length {number : Nat} {l : List Nat} (h : IsPage number l) : l.length = 1024 := by
  have := h.2.2.2
  rw [this]
  exact sealed_length _ _ _ h.2.2.1.2.2

theorem sealed_form (k number : Nat) (p : List Nat) : ∃ rest, sealed k number p = front k number p.length ++ (p ++ rest) := by
  unfold sealed closed fill
  exact ⟨_, by rw [List.append_assoc, List.append_assoc]⟩
theorem front_form (k number n : Nat) : ∃ a, a.length = 4 ∧ front k number n = [67, 80, k, 0] ++ (a ++ (le n 2 ++ le 0 2)) ∧ a = le number 4 :=
  ⟨le number 4, le_length _ _, by simp [front], rfl⟩
theorem sealed_parts (k number : Nat) (p : List Nat) (h : p.length ≤ 1008) : kindOf (sealed k number p) = k ∧ lenOf (sealed k number p) = p.length ∧ payOf (sealed k number p) = p ∧ ((sealed k number p).drop 4).take 4 = le number 4 := by
  obtain ⟨rest, hs⟩ := sealed_form k number p
  obtain ⟨a, ha, hf, ha2⟩ := front_form k number p.length
  have h1 : kindOf (sealed k number p) = k := by rw [hs, hf]; simp [kindOf, nth]
  have h2 : lenOf (sealed k number p) = p.length := by
    rw [hs, hf]
    unfold lenOf
    have e : (([67, 80, k, 0] ++ (a ++ (le p.length 2 ++ le 0 2)) ++ (p ++ rest)).drop 8).take 2 = le p.length 2 := by
      have e1 : [67, 80, k, 0] ++ (a ++ (le p.length 2 ++ le 0 2)) ++ (p ++ rest) = ([67, 80, k, 0] ++ a) ++ (le p.length 2 ++ (le 0 2 ++ (p ++ rest))) := by simp
      rw [e1, List.drop_left' (by simp [ha]), List.take_left' (le_length _ _)]
    rw [e, el_le, Nat.mod_eq_of_lt (by omega)]
  refine ⟨h1, h2, ?_, ?_⟩
  · unfold payOf
    rw [h2, hs, List.drop_left' (front_length _ _ _), List.take_left' rfl]
  · rw [hs, hf]
    have e1 : [67, 80, k, 0] ++ (a ++ (le p.length 2 ++ le 0 2)) ++ (p ++ rest) = [67, 80, k, 0] ++ (a ++ (le p.length 2 ++ (le 0 2 ++ (p ++ rest)))) := by simp
    rw [e1, List.drop_left' (by simp), List.take_left' ha, ha2]
theorem isPage_sealed (k number : Nat) (p : List Nat) (h : SealOk k p) : IsPage number (sealed k number p) := by
  obtain ⟨h1, h2, h3, _⟩ := sealed_parts k number p h.2.2
  have hl := sealed_length k number p h.2.2
  have := h.2.2
  exact ⟨by omega, by rw [h2, hl]; omega, by rw [h1, h3]; exact h, by rw [h1, h3]⟩
theorem kindOf_lt {l : List Nat} (hb : Bytes l) (h : 12 ≤ l.length) : kindOf l < 256 := hb.nth 2 (by omega)

theorem own_base_mono {n0 n1 : Nat} {w : World} {v : Value} {l : List Nat} (h : Buf n1 w v l) (hn : n0 ≤ n1) : Buf n0 w v l := by
  refine ⟨h.1, ?_⟩
  rcases h.2 with h2 | ⟨g, cap, cur, h1, h2, h3⟩
  · exact .inl h2
  · exact .inr ⟨g, cap, cur, h1, Nat.le_trans hn h2, h3⟩

set_option maxRecDepth 100000 in
set_option maxHeartbeats 1000000 in
theorem open_yes (number : Nat) (r : Inner) (w : World) (h : r.Ok w) (hn : number < 4294967296) (hp : IsPage number r.l) :
    Calls Try.prog 69 #[.int .u32 (number : Int), .slice r.A r.l.length r.c] w fun e w' => ∃ v, e = .returned (.tuple #[.int .u8 (kindOf r.l : Int), v, .int .u16 0]) ∧ Buf w.heap.size w' v (payOf r.l) ∧ Below w.heap.size w w' ∧ w.heap.size ≤ w'.heap.size := by
  obtain ⟨h12, hfit, hso, heq⟩ := hp
  have hk := kindOf_lt h.bytes h12
  have hpb : Bytes (payOf r.l) := (h.bytes.drop 12).take _
  have hop := Lib.hid (open_ok r w h h12 (lenOf r.l) rfl hfit)
  rw [show (nth r.l 2) = kindOf r.l from rfl, show (r.l.drop 12).take (lenOf r.l) = payOf r.l from rfl] at hop
  generalize kindOf r.l = K at *
  generalize payOf r.l = Y at *
  have HEQ := Lib.hid heq
  have HB := Lib.hid h.bytes
  have hpl := hso.2.2
  clear heq hfit
  go_enter Try.func69, Try.ntmps69
  go_wp2_with fail
  refine hop.out.mono ?_
  rintro e w1 ⟨⟨qA, ql, qc⟩, hq, hql, rfl, hb1⟩
  simp only at hql
  subst hql
  have hq1 := hq.below hb1
  have hl1 : At w1 qA (ns .u8 ql) := hq1.lies
  have hn1 : qA = none → qc = 0 := hq1.nil
  have hqb : Bytes ql := hq1.bytes
  clear hq hq1
  go_wp2_with fail
  refine (seal_ok K number qA qc ql w1 hso hk hn hqb hl1 hn1).mono ?_
  rintro e w2 ⟨v2, rfl, hv2, hb2, hs2⟩
  rw [← HEQ.out] at hv2
  obtain ⟨A2, c2, rfl, hA2, hnil2, hc2, hm2⟩ := hv2.at
  have hb02 := below_next0 hb1 hb2
  have hlies := h.lies.below hb02
  have hl2 := hl1.below hb2
  have heqc := equal_any A2 r.A c2 r.c _ _ r.l r.l w2 rfl rfl hA2 hlies HB.out HB.out
  rw [decide_eq_true rfl] at heqc
  go_wp2_with fail
  refine heqc.mono ?_
  rintro e w3 ⟨rfl, rfl⟩
  go_wp2_with fail
  refine (clone_any qA qc _ ql w2 rfl (by omega) hl2 hn1).mono ?_
  rintro e w4 ⟨v4, rfl, hv4, hb4, hs4⟩
  go_wp2
  go_ret3
  exact ⟨_, rfl, own_base_mono hv4 hb02.size, below_next0 hb02 hb4, Nat.le_trans hb02.size hs4⟩

/-- bytes that are no page: where the parts fail -/
theorem no_page {number : Nat} {l : List Nat} (h : ¬ IsPage number l) : (l.length < 12 ∨ (12 ≤ l.length ∧ l.length - 12 < lenOf l)) ∨ (12 ≤ l.length ∧ lenOf l ≤ l.length - 12 ∧ (¬ SealOk (kindOf l) (payOf l) ∨ (SealOk (kindOf l) (payOf l) ∧ sealed (kindOf l) number (payOf l) ≠ l))) := by
  by_cases h1 : 12 ≤ l.length
  · by_cases h2 : lenOf l ≤ l.length - 12
    · refine .inr ⟨h1, h2, ?_⟩
      by_cases h3 : SealOk (kindOf l) (payOf l)
      · exact .inr ⟨h3, fun e => h ⟨h1, h2, h3, e.symm⟩⟩
      · exact .inl h3
    · exact .inl (.inr ⟨h1, by omega⟩)
  · exact .inl (.inl (by omega))

set_option maxRecDepth 100000 in
set_option maxHeartbeats 1000000 in
theorem open_no (number : Nat) (r : Inner) (w : World) (h : r.Ok w) (hn : number < 4294967296) (hp : ¬ IsPage number r.l) :
    Calls Try.prog 69 #[.int .u32 (number : Int), .slice r.A r.l.length r.c] w fun e w' => e = .returned (.tuple #[.int .u8 0, .slice none 0 0, .int .u16 80]) ∧ Below w.heap.size w w' := by
  rcases no_page hp with hbad | ⟨h12, hfit, hrest⟩
  · have hop := Lib.hid (open_bad r w h hbad)
    clear hbad hp
    go_enter Try.func69, Try.ntmps69
    go_wp2_with fail
    refine hop.out.mono ?_
    rintro e w1 ⟨k, v, rfl, hb1⟩
    go_wp2
    go_ret3
    exact ⟨rfl, hb1⟩
  · have hk := kindOf_lt h.bytes h12
    have hpb : Bytes (payOf r.l) := (h.bytes.drop 12).take _
    have hop := Lib.hid (open_ok r w h h12 (lenOf r.l) rfl hfit)
    rw [show (nth r.l 2) = kindOf r.l from rfl, show (r.l.drop 12).take (lenOf r.l) = payOf r.l from rfl] at hop
    clear hp hfit
    generalize kindOf r.l = K at *
    generalize payOf r.l = Y at *
    have HB := Lib.hid h.bytes
    rcases hrest with hso | ⟨hso, hne⟩
    · go_enter Try.func69, Try.ntmps69
      go_wp2_with fail
      refine hop.out.mono ?_
      rintro e w1 ⟨⟨qA, ql, qc⟩, hq, hql, rfl, hb1⟩
      simp only at hql
      subst hql
      go_wp2_with fail
      refine (seal_no K number qA qc ql w1 hso).mono ?_
      rintro e w2 ⟨rfl, rfl⟩
      go_wp2
      go_ret3
      exact ⟨rfl, hb1⟩
    · have hsl := sealed_bytes K number Y hk hpb
      generalize hS : sealed K number Y = S at hne hsl
      have HS := Lib.hid hS
      have HNE := Lib.hid hne
      clear hS hne
      go_enter Try.func69, Try.ntmps69
      go_wp2_with fail
      refine hop.out.mono ?_
      rintro e w1 ⟨⟨qA, ql, qc⟩, hq, hql, rfl, hb1⟩
      simp only at hql
      subst hql
      have hq1 := hq.below hb1
      have hl1 : At w1 qA (ns .u8 ql) := hq1.lies
      have hn1 : qA = none → qc = 0 := hq1.nil
      have hqb : Bytes ql := hq1.bytes
      clear hq hq1
      go_wp2_with fail
      refine (seal_ok K number qA qc ql w1 hso hk hn hqb hl1 hn1).mono ?_
      rintro e w2 ⟨v2, rfl, hv2, hb2, hs2⟩
      rw [HS.out] at hv2
      obtain ⟨A2, c2, rfl, hA2, hnil2, hc2, hm2⟩ := hv2.at
      have hb02 := below_next0 hb1 hb2
      have hlies := h.lies.below hb02
      have heqc := equal_any A2 r.A c2 r.c _ _ S r.l w2 rfl rfl hA2 hlies hsl HB.out
      rw [decide_eq_false HNE.out] at heqc
      go_wp2_with fail
      refine heqc.mono ?_
      rintro e w3 ⟨rfl, rfl⟩
      go_wp2
      go_ret3
      exact ⟨rfl, hb02⟩
end Go.Proofs.Ytfbjjblgcgjndaa
