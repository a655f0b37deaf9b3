/- Contract of the disk's Read. -/
import Derived.Test.YtfbjjblgcgjndaaReadDo
import Derived.Test.YtfbjjblgcgjndaaDiskPlain2
set_option linter.unusedVariables false
set_option linter.unusedSimpArgs false
namespace Go.Proofs.Ytfbjjblgcgjndaa
open Go.RowKit Go.Maps

/-- bytes of the call's own, clipped: no room behind them, though their block may have some -/
def Clip (n0 : Nat) (w : World) (A : Option Addr) (l : List Nat) : Prop :=
  (A = none ∧ l = []) ∨ ∃ g cur, A = some ⟨g, 0, none⟩ ∧ n0 ≤ g ∧ w.heap[g]? = some (.cells cur 5 (0, 0)) ∧ l.length ≤ cur.size ∧ cur.size ≤ maxLen ∧ cur.toList.take l.length = ns .u8 l
theorem Clip.of {n0 : Nat} {w : World} {A : Option Addr} {c : Nat} {l : List Nat} (h : Buf n0 w (.slice A l.length c) l) : Clip n0 w A l := by
  rcases h.2 with ⟨h1, h2⟩ | ⟨g, cap, cur, h1, h2, h3, h4, h5, h6, h7⟩
  · injection h1 with h1
    exact .inl ⟨h1, List.eq_nil_of_length_eq_zero h2⟩
  · injection h1 with h1 _ h1c
    exact .inr ⟨g, cur, h1, h2, h3, by omega, by omega, by simpa using h7⟩
theorem Clip.mono {n0 n1 : Nat} {w : World} {A : Option Addr} {l : List Nat} (h : Clip n0 w A l) (hn : n1 ≤ n0) : Clip n1 w A l := by
  rcases h with h | ⟨g, cur, h1, h2, h3⟩
  · exact .inl h
  · exact .inr ⟨g, cur, h1, Nat.le_trans hn h2, h3⟩
theorem Clip.at {n0 : Nat} {w : World} {A : Option Addr} {l : List Nat} (h : Clip n0 w A l) : At w A (ns .u8 l) := by
  rcases h with ⟨rfl, rfl⟩ | ⟨g, cur, rfl, h1, h2, h3, h4, h5⟩
  · exact At.nil _ _
  · refine At.block h2 0 _ fun j v hv => ?_
    rw [← h5, List.getElem?_take] at hv
    split at hv
    · simpa using hv
    · cases hv
theorem Clip.keep {n0 : Nat} {w w' : World} {A : Option Addr} {l : List Nat} {G : Nat → Prop} (h : Clip n0 w A l) (hc : Chg G w w') (hG : ∀ a, A = some a → ¬ G a.block) : Clip n0 w' A l := by
  rcases h with ⟨rfl, rfl⟩ | ⟨g, cur, rfl, h1, h2, h3⟩
  · exact .inl ⟨rfl, rfl⟩
  · exact .inr ⟨g, cur, rfl, h1, by rw [hc.block g (Array.getElem?_eq_some_iff.1 h2).1 (hG _ rfl)]; exact h2, h3⟩
theorem Clip.base {n0 : Nat} {w : World} {A : Option Addr} {l : List Nat} (h : Clip n0 w A l) (a : Addr) (ha : A = some a) : n0 ≤ a.block ∧ a.block < w.heap.size := by
  rcases h with ⟨rfl, rfl⟩ | ⟨g, cur, rfl, h1, h2, h3⟩
  · cases ha
  · cases ha; exact ⟨h1, (Array.getElem?_eq_some_iff.1 h2).1⟩
theorem Clip.nil {n0 : Nat} {w : World} {l : List Nat} (h : Clip n0 w none l) : l.length = 0 := by
  rcases h with ⟨_, h⟩ | ⟨g, cur, h, _⟩
  · rw [h]; rfl
  · cases h
theorem Clip.inner {n0 : Nat} {w : World} {A : Option Addr} {l : List Nat} (h : Clip n0 w A l) (hb : Bytes l) (hs : l.length ≤ 140737488351232) : Inner.Ok w ⟨A, l, l.length⟩ :=
  ⟨h.at, (fun e => by subst e; exact h.nil), Nat.le_refl _, hs, hb⟩
set_option maxRecDepth 100000 in
theorem clip_any (n0 : Nat) (A : Option Addr) (c : Nat) (l : List Nat) (w : World) (h : Buf n0 w (.slice A l.length c) l) :
    Calls Try.prog 127 #[.slice A l.length c] w fun e w' => e = .returned (.slice A l.length l.length) ∧ w = w' := by
  obtain ⟨A', c', e, hA, hn, hle, hm⟩ := h.at
  cases e
  unfold maxLen at hm
  clear h hA hn
  go_enter Try.func127, Try.ntmps127
  go_wp2_with fail
  go_ret
  exact ⟨rfl, rfl⟩
/-- what a read leaves: bytes, a number, the disk -/
def ReadGives (n0 : Nat) (w : World) (p : Nat) (S : Nat → Prop) (r : Nat × List Nat × Dsk) (e : Ending) (w' : World) : Prop :=
  ∃ A, e = .returned (.tuple #[.slice A r.2.1.length r.2.1.length, .int .u16 (r.1 : Nat)]) ∧ Clip w.heap.size w' A r.2.1 ∧ DiskAt n0 w' p r.2.2 S ∧ Chg S w w'
def ReadMid (n0 : Nat) (w : World) (p br : Nat) (S : Nat → Prop) (r : Nat × List Nat × Dsk) (x : Nat) (w' : World) : Prop :=
  x = r.1 ∧ ∃ v, Box w' br v 23 ∧ Buf (br + 1) w' v r.2.1 ∧ DiskAt n0 w' p r.2.2 S ∧ Chg S w w'
set_option maxRecDepth 100000 in
set_option maxHeartbeats 1000000 in
theorem disk_read (n0 : Nat) (w : World) (p : Nat) (D : Dsk) (S : Nat → Prop) (pg : Int) (h : DiskAt n0 w p D S) (hc : D.cache.length ≤ 1000000000000) (hn : D.n 1 ≤ 4611686018427387904)
    (hSp : ∀ g, S g → g < w.heap.size) :
    Calls Try.prog 52 #[.pointer (some ⟨p, 0, none⟩), .int .i64 pg] w (ReadGives n0 w p S (D.read pg)) := by
  have hp := h.here
  obtain ⟨w1, hw1⟩ : ∃ w1, w1 = ((w.alloc (.cells #[.pointer (some ⟨p, 0, none⟩)] 74)).alloc (.cells #[.int .i64 pg] 3)).alloc (.cells #[.slice none 0 0] 23) := ⟨_, rfl⟩
  have hb1 : Below w.heap.size w w1 := by rw [hw1]; exact below_alloc0 (below_alloc0 (below_alloc0 (Below.refl _ _) _) _) _
  have hz1 : w1.heap.size = w.heap.size + 3 := by rw [hw1]; simp only [sz_alloc]
  have B1 : Box w1 w.heap.size (.pointer (some ⟨p, 0, none⟩)) 74 := by unfold Box; rw [hw1]; simp only [hp_alloc, sz_alloc]; (repeat (first | rw [if_neg (by omega)] | rw [if_pos (by omega)] | rw [if_pos trivial]))
  have B2 : Box w1 (w.heap.size + 1) (.int .i64 pg) 3 := by unfold Box; rw [hw1]; simp only [hp_alloc, sz_alloc]; (repeat (first | rw [if_neg (by omega)] | rw [if_pos (by omega)] | rw [if_pos trivial]))
  have B3 : Box w1 (w.heap.size + 1 + 1) (.slice none 0 0) 23 := by unfold Box; rw [hw1]; simp only [hp_alloc, sz_alloc]; (repeat (first | rw [if_neg (by omega)] | rw [if_pos (by omega)] | rw [if_pos trivial]))
  have hd1 := h.below hb1
  obtain ⟨ok, q, M, hin, hft⟩ := hd1
  have hcf : ∀ args w, (callFunc 126 args).run Try.prog w = .ok (.enter 126 args) w := fun args w => rfl
  have c1 := B1.cell
  have hw01 : Chg S w w1 := .of_below hb1
  have hop : Calls Try.prog 119 #[.pointer (some ⟨p, 0, none⟩), .int .i64 1, .func (.func 126) #[] #[.pointer (some ⟨w.heap.size + 1, 0, none⟩), .pointer (some ⟨w.heap.size, 0, none⟩), .pointer (some ⟨w.heap.size + 1 + 1, 0, none⟩)]] w1
      (fun e w'' => ∃ x : Nat, e = .returned (.int .u16 (x : Nat)) ∧ ReadMid n0 w p (w.heap.size + 1 + 1) S (D.read pg) x w'') := by
    by_cases hb : (D.begin 1).1 = 0
    · have hwr : D.read pg = if pg < 0 ∨ (D.pages : Int) ≤ pg then (2, [], D.go 1) else (0, D.secs (8 * pg.toNat) 8, D.go 1) := by
        unfold Dsk.read; rw [if_neg (by simpa using hb)]
      refine op_go1 _ _ _ p D 126 _ _ w1 hin.rcd ok hn hb hcf ?_
      intro w2 hrec hch
      have hin2 := hin.turned hrec hch rfl rfl
      have hd2 : DiskAt n0 w2 p (D.go 1) S := ⟨D.go_ok ok 1, q, M, hin2, hft⟩
      have hpw := hSp p hp
      have b1 := B1.keep hch (fun e => by have := (show w.heap.size = p from e); omega)
      have b2 := B2.keep hch (fun e => by have := (show w.heap.size + 1 = p from e); omega)
      have b3 := B3.keep hch (fun e => by have := (show w.heap.size + 1 + 1 = p from e); omega)
      have hw02 : Chg S w w2 := hw01.trans hch (fun g _ e => by rw [show g = p from e]; exact hp)
      by_cases c1 : pg < 0 ∨ (D.pages : Int) ≤ pg
      · rw [hwr, if_pos c1]
        refine (read_range n0 w2 p (D.go 1) S pg _ _ _ hd2 b2 b1 c1).mono ?_
        rintro e w3 ⟨rfl, hb3⟩
        exact ⟨2, rfl, rfl, _, b3.keep (G := fun _ => False) (.of_below hb3) (fun h => h), Buf.nil _ _, hd2.below hb3, hw02.trans (.of_below (F := fun _ => False) hb3) (fun _ _ h => h.elim)⟩
      · obtain ⟨n, rfl⟩ : ∃ n : Nat, pg = (n : Int) := ⟨pg.toNat, by omega⟩
        rw [hwr, if_neg c1]
        refine (read_do n0 w2 p (D.go 1) S n _ _ _ hd2 b2 b1 b3 (by show n < D.pages; omega) (fun g hg e => by have := hSp g hg; omega) (by omega) (by omega) hc).mono ?_
        rintro e w3 ⟨rfl, v, hx, hv, hc3⟩
        refine ⟨0, rfl, rfl, v, hx, ?_, hd2.keep hc3 (fun g _ hg e => by have := hSp g hg; have := show g = w.heap.size + 1 + 1 from e; omega), hw02.trans hc3 (fun g hg e => by have := show g = w.heap.size + 1 + 1 from e; omega)⟩
        rw [Int.toNat_natCast]
        exact own_up hv (fun g hg => by have := (hv.base g hg); have := hch.size; omega)
    · have hwr : D.read pg = ((D.begin 1).1, [], (D.begin 1).2) := by unfold Dsk.read; rw [if_pos hb]
      rw [hwr]
      refine (op_fails1 _ _ _ p D _ w1 hin.rcd ok hn hb).mono ?_
      rintro e w2 ⟨rfl, hrec, hch⟩
      have hin2 := hin.turned hrec hch (D.begin_last 1).1 (D.begin_last 1).2
      have hpw := hSp p hp
      exact ⟨_, rfl, rfl, _, B3.keep hch (fun e => by have := (show w.heap.size + 1 + 1 = p from e); omega), Buf.nil _ _, ⟨D.begin_ok ok 1, q, M, hin2, hft⟩, hw01.trans hch (fun g _ e => by rw [show g = p from e]; exact hp)⟩
  have HOP := Lib.hid hop
  have HSP := Lib.hid hSp
  clear hop hSp
  generalize D.read pg = r at *
  go_enter Try.func52, Try.ntmps52
  go_wp2_with fail
  rw [← hw1]
  have HW1 := Lib.hid hw1
  have HZ1 := Lib.hid hz1
  clear hw1 hz1
  go_wp2_with fail
  refine HOP.out.mono ?_
  rintro e w9 ⟨x, rfl, rfl, v, hx, hv, hd9, hc9⟩
  obtain ⟨A, cc, rfl⟩ := own_slice hv
  have g1 := hx.cell
  have hcl := clip_any _ A cc r.2.1 w9 hv
  have HX := Lib.hid hx
  have HV := Lib.hid hv
  have HD9 := Lib.hid hd9
  have HC9 := Lib.hid hc9
  have HCL := Lib.hid hcl
  clear hx hv hd9 hc9 hcl
  go_wp2_with fail
  refine HCL.out.mono ?_
  rintro e w10 ⟨rfl, rfl⟩
  have f1 := frozen_of_row w9 (w.heap.size + 1 + 1) 0 _ 23 HX.out
  go_wp2_with fail
  have hcs := setCell_chg w9 (w.heap.size + 1 + 1) 0 (.slice A r.2.1.length r.2.1.length)
  have hb9 := HV.out.base
  have hlt := HX.out.lt
  refine bodyPost_ret (v := .tuple #[.slice A r.2.1.length r.2.1.length, .int .u16 (r.1 : Nat)]) (by simp [results, Try.results52, go_sem, g1]) rfl ⟨A, rfl, ?_, ?_, HC9.out.trans hcs (fun g hg e => by have := show g = w.heap.size + 1 + 1 from e; omega)⟩
  · refine ((Clip.of HV.out).keep hcs (fun a ha e => ?_)).mono (by omega)
    have := hb9 a.block (by rw [ha]; rfl)
    have := show a.block = w.heap.size + 1 + 1 from e
    omega
  · exact HD9.out.keep hcs (fun g _ hg e => by have := HSP.out g hg; have := show g = w.heap.size + 1 + 1 from e; omega)
end Go.Proofs.Ytfbjjblgcgjndaa
