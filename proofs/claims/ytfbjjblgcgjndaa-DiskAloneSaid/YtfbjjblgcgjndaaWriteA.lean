/- The disk's Write of an argument's bytes. -/
import Derived.Test.YtfbjjblgcgjndaaDiskH
set_option linter.unusedVariables false
set_option linter.unusedSimpArgs false
namespace Go.Proofs.Ytfbjjblgcgjndaa
open Go.RowKit Go.Maps

set_option maxRecDepth 100000 in
set_option maxHeartbeats 1000000 in
theorem disk_write_nil (n0 : Nat) (w : World) (p : Nat) (D : Dsk) (S : Nat → Prop) (pg : Int) (A : Option Addr) (c : Nat) (h : DiskAt n0 w p D S) (hc : D.cache.length ≤ 1000000000000) (hn : D.n 2 ≤ 4611686018427387904) (hn0 : n0 ≤ w.heap.size)
    (hSp : ∀ g, S g → g < w.heap.size) (hp : S p) :
    Calls Try.prog 48 #[.pointer (some ⟨p, 0, none⟩), .int .i64 pg, .slice A 0 c] w (DiskGives n0 w p S (D.write pg []).1 (D.write pg []).2) := by
  obtain ⟨w1, hw1⟩ : ∃ w1, w1 = ((w.alloc (.cells #[.pointer (some ⟨p, 0, none⟩)] 74)).alloc (.cells #[.int .i64 pg] 3)).alloc (.cells #[.slice A 0 c] 23) := ⟨_, rfl⟩
  have hb1 : Below w.heap.size w w1 := by rw [hw1]; exact below_alloc0 (below_alloc0 (below_alloc0 (Below.refl _ _) _) _) _
  have hz1 : w1.heap.size = w.heap.size + 3 := by rw [hw1]; simp only [sz_alloc]
  have B1 : Box w1 w.heap.size (.pointer (some ⟨p, 0, none⟩)) 74 := by unfold Box; rw [hw1]; simp only [hp_alloc, sz_alloc]; (repeat (first | rw [if_neg (by omega)] | rw [if_pos (by omega)] | rw [if_pos trivial]))
  have B2 : Box w1 (w.heap.size + 1) (.int .i64 pg) 3 := by unfold Box; rw [hw1]; simp only [hp_alloc, sz_alloc]; (repeat (first | rw [if_neg (by omega)] | rw [if_pos (by omega)] | rw [if_pos trivial]))
  have B3 : Box w1 (w.heap.size + 1 + 1) (.slice A 0 c) 23 := by unfold Box; rw [hw1]; simp only [hp_alloc, sz_alloc]; (repeat (first | rw [if_neg (by omega)] | rw [if_pos (by omega)] | rw [if_pos trivial]))
  have hd1 := h.below hb1
  obtain ⟨ok, q, M, hin, hft⟩ := hd1
  have hcf : ∀ args w, (callFunc 120 args).run Try.prog w = .ok (.enter 120 args) w := fun args w => rfl
  have c1 := B1.cell
  have hop : Calls Try.prog 119 #[.pointer (some ⟨p, 0, none⟩), .int .i64 2, .func (.func 120) #[] #[.pointer (some ⟨w.heap.size + 1, 0, none⟩), .pointer (some ⟨w.heap.size, 0, none⟩), .pointer (some ⟨w.heap.size + 1 + 1, 0, none⟩)]] w1 (DiskGives n0 w p S (D.write pg []).1 (D.write pg []).2) := by
    have hw01 : Chg S w w1 := .of_below hb1
    by_cases hb : (D.begin 2).1 = 0
    · have key : Calls Try.prog 119 #[.pointer (some ⟨p, 0, none⟩), .int .i64 2, .func (.func 120) #[] #[.pointer (some ⟨w.heap.size + 1, 0, none⟩), .pointer (some ⟨w.heap.size, 0, none⟩), .pointer (some ⟨w.heap.size + 1 + 1, 0, none⟩)]] w1
          (fun e w'' => ∃ x : Nat, e = .returned (.int .u16 (x : Nat)) ∧ (x = (D.write pg []).1 ∧ DiskAt n0 w'' p (D.write pg []).2 (Wide S w.heap.size w''.heap.size) ∧ Chg S w w'')) := by
        refine op_go2 _ _ _ p D 120 _ (fun x w'' => x = (D.write pg []).1 ∧ DiskAt n0 w'' p (D.write pg []).2 (Wide S w.heap.size w''.heap.size) ∧ Chg S w w'') w1 hin.rcd ok hn hb hcf ?_
        intro w2 hrec hch
        have hin2 := hin.turned hrec hch rfl rfl
        have hd2 : DiskAt n0 w2 p (D.go 2) S := ⟨D.go_ok ok 2, q, M, hin2, hft⟩
        have hpw := hSp p hp
        have b1 := B1.keep hch (fun e => by have := (show w.heap.size = p from e); omega)
        have b2 := B2.keep hch (fun e => by have := (show w.heap.size + 1 = p from e); omega)
        have b3 := B3.keep hch (fun e => by have := (show w.heap.size + 1 + 1 = p from e); omega)
        have hw02 : Chg S w w2 := hw01.trans hch (fun g _ e => by rw [show g = p from e]; exact hp)
        have hz2 := hch.size
        have hwr : D.write pg [] = if pg < 0 ∨ (D.pages : Int) ≤ pg then (2, D.go 2) else (1, D.go 2) := by
          unfold Dsk.write; rw [if_neg (by simpa using hb)]
          split
          · rfl
          · rw [if_pos (by simp)]
        by_cases c1 : pg < 0 ∨ (D.pages : Int) ≤ pg
        · rw [hwr, if_pos c1]
          refine (write_range n0 w2 p (D.go 2) S pg _ _ _ (.slice none 0 0) hd2 b2 b1 c1).mono ?_
          rintro e w3 ⟨rfl, hb3⟩
          exact ⟨2, rfl, rfl, (hd2.below hb3).mono (fun g _ _ hg => .inl hg), hw02.trans (.of_below (F := fun _ => False) hb3) (fun _ _ h => h.elim)⟩
        · obtain ⟨n, rfl⟩ : ∃ n : Nat, pg = (n : Int) := ⟨pg.toNat, by omega⟩
          rw [hwr, if_neg c1]
          refine (write_arg n0 w2 p (D.go 2) S n _ _ _ A 0 c hd2 b2 b1 b3 (by show n < D.pages; omega) (by omega)).mono ?_
          rintro e w3 ⟨rfl, hb3⟩
          exact ⟨1, rfl, rfl, (hd2.below hb3).mono (fun g _ _ hg => .inl hg), hw02.trans (.of_below (F := fun _ => False) hb3) (fun _ _ h => h.elim)⟩
      refine key.mono ?_
      rintro e w3 ⟨x, rfl, rfl, h2, h3⟩
      exact ⟨rfl, h2, h3⟩
    · have hwr : D.write pg [] = D.begin 2 := by unfold Dsk.write; rw [if_pos hb]
      rw [hwr]
      refine (op_fails2 _ _ _ p D _ w1 hin.rcd ok hn hb).mono ?_
      rintro e w2 ⟨rfl, hrec, hch⟩
      have hin2 := hin.turned hrec hch (D.begin_last 2).1 (D.begin_last 2).2
      exact ⟨rfl, ⟨D.begin_ok ok 2, q, M, hin2, fun g hg => .inl (hft g hg)⟩, hw01.trans hch (fun g _ e => by rw [show g = p from e]; exact hp)⟩
  have HOP := Lib.hid hop
  clear hop
  go_enter Try.func48, Try.ntmps48
  go_wp2_with fail
  rw [← hw1]
  have HW1 := Lib.hid hw1
  clear hw1
  go_wp2_with fail
  refine HOP.out.mono ?_
  rintro e w9 ⟨rfl, hd9, hc9⟩
  have HD9 := Lib.hid hd9
  have HC9 := Lib.hid hc9
  clear hd9 hc9
  go_wp2
  go_ret
  exact ⟨rfl, HD9.out, HC9.out⟩
/-- a write of bytes that lay there before the disk was made -/
theorem dg_writea {n0 : Nat} {w0 w : World} {p : Nat} {D : Dsk} {S : Nat → Prop} (h : DG n0 w p D S) (pg : Int) (r : Inner) (hr : r.Ok w0) (hb : Below w0.heap.size w0 w) (h0 : w0.heap.size ≤ n0) (hc : D.cache.length ≤ 1000000000000) (hn : D.n 2 ≤ 4611686018427387904) :
    Calls Try.prog 48 #[.pointer (some ⟨p, 0, none⟩), .int .i64 pg, .slice r.A r.l.length r.c] w (DkGives n0 w p S (D.write pg r.l).1 (D.write pg r.l).2) := by
  obtain ⟨A, l, c⟩ := r
  by_cases hl : l = []
  · subst hl
    exact (disk_write_nil n0 w p D S pg A c h.disk hc hn h.new_n (fun g hg => (h.lt g hg).2) h.here).mono fun e w' ⟨a, b, d⟩ => ⟨a, h.now h.new_n b d⟩
  · refine dg_write h h.new_n pg A c l (hr.below hb) (fun a ha hS => ?_) hc hn
    obtain ⟨b, o, e, hrg⟩ := hr.lies (by simpa [ns] using hl)
    simp only at e
    rw [e] at ha
    cases ha
    have h1 := (h.lt _ hS).1
    have h2 : b < w0.heap.size := by
      have hpos : 0 < l.length := by
        rcases Nat.eq_zero_or_pos l.length with h | h
        · exact absurd (List.eq_nil_of_length_eq_zero h) hl
        · exact h
      exact World.block_lt_of_cell? w0 _ (hrg 0 _ (ns_get .u8 l 0 hpos))
    simp only at h1
    omega
end Go.Proofs.Ytfbjjblgcgjndaa
