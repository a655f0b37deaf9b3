/- Contract of the disk's Write. -/
import Derived.Test.YtfbjjblgcgjndaaDisk4
set_option linter.unusedVariables false
set_option linter.unusedSimpArgs false
namespace Go.Proofs.Ytfbjjblgcgjndaa
open Go.RowKit Go.Maps

/-- more blocks: new ones -/
def Wide (S : Nat → Prop) (s s' : Nat) (g : Nat) : Prop := S g ∨ (s ≤ g ∧ g < s')
theorem DiskIn.turned {n0 : Nat} {w w' : World} {p : Nat} {D D' : Dsk} {q : Dparts} {M : DataW Unit} (h : DiskIn n0 w p D q M) (hr : RecAt w' p 180 13 (dcell (.slice (some ⟨q.b, 0, none⟩) D.last.length D.last.length) q.C q.m D')) (hc : Chg (OnlyP p) w w') (h1 : D'.last = D.last) (h2 : D'.cache = D.cache) : DiskIn n0 w' p D' q M := by
  obtain ⟨s1, s2, s3, s4, s5, s6⟩ := h.sep
  obtain ⟨b1, b2, b3, b4, b5⟩ := h.bases
  refine ⟨by rw [h1]; exact hr, ?_, ?_, ?_, by rw [h2]; exact h.seen, ⟨b1, b2, b3, Nat.lt_of_lt_of_le b4 hc.size, Nat.lt_of_lt_of_le b5 hc.size⟩, h.sep⟩
  · rw [h1]; exact h.last.keep hc (fun e => s1 (show q.b = p from e).symm) b4
  · rw [h2]; exact own_chg h.cache hc (fun g hg e => s4 (by rw [← show g = p from e]; exact hg))
  · rw [h2]; exact map_chg h.map hc (fun e => s2 (show q.m = p from e).symm) b5
theorem Dsk.begin_go {D : Dsk} {k : Nat} (h : (D.begin k).1 = 0) : (D.begin k).2 = D.go k := by
  unfold Dsk.begin at h ⊢
  split
  · rename_i a; rw [if_pos a] at h; simp at h
  · rename_i a; rw [if_neg a] at h
    split
    · rename_i b; rw [if_pos b] at h; simp at h
    · rename_i b; rw [if_neg b] at h
      split
      · rename_i c; rw [if_pos c] at h; simp at h
      · rfl
def Dsk.write (D : Dsk) (pg : Int) (b : List Nat) : Nat × Dsk :=
  if (D.begin 2).1 ≠ 0 then D.begin 2
  else if pg < 0 ∨ (D.pages : Int) ≤ pg then (2, D.go 2)
  else if b.length ≠ 1024 ∧ b.length ≠ 128 then (1, D.go 2)
  else (0, (D.go 2).put (8 * pg.toNat) b (b.length / 128))
/-- what a disk's operation leaves: a number, and the disk -/
def DiskGives (n0 : Nat) (w : World) (p : Nat) (S : Nat → Prop) (x : Nat) (D' : Dsk) (e : Ending) (w' : World) : Prop :=
  e = .returned (.int .u16 (x : Nat)) ∧ DiskAt n0 w' p D' (Wide S w.heap.size w'.heap.size) ∧ Chg S w w'

set_option maxRecDepth 100000 in
set_option maxHeartbeats 1000000 in
theorem disk_write (n0 : Nat) (w : World) (p : Nat) (D : Dsk) (S : Nat → Prop) (pg : Int) (r : Inner) (h : DiskAt n0 w p D S) (hr : r.Ok w) (hc : D.cache.length ≤ 1000000000000) (hn : D.n 2 ≤ 4611686018427387904) (hn0 : n0 ≤ w.heap.size)
    (hrS : ∀ a, r.A = some a → ¬ S a.block) (hSp : ∀ g, S g → g < w.heap.size) (hp : S p) :
    Calls Try.prog 48 #[.pointer (some ⟨p, 0, none⟩), .int .i64 pg, .slice r.A r.l.length r.c] w (DiskGives n0 w p S (D.write pg r.l).1 (D.write pg r.l).2) := by
  obtain ⟨w1, hw1⟩ : ∃ w1, w1 = ((w.alloc (.cells #[.pointer (some ⟨p, 0, none⟩)] 74)).alloc (.cells #[.int .i64 pg] 3)).alloc (.cells #[.slice r.A r.l.length r.c] 23) := ⟨_, rfl⟩
  have hb1 : Below w.heap.size w w1 := by rw [hw1]; exact below_alloc0 (below_alloc0 (below_alloc0 (Below.refl _ _) _) _) _
  have hz1 : w1.heap.size = w.heap.size + 3 := by rw [hw1]; simp only [sz_alloc]
  have B1 : Box w1 w.heap.size (.pointer (some ⟨p, 0, none⟩)) 74 := by unfold Box; rw [hw1]; simp only [hp_alloc, sz_alloc]; (repeat (first | rw [if_neg (by omega)] | rw [if_pos (by omega)] | rw [if_pos trivial]))
  have B2 : Box w1 (w.heap.size + 1) (.int .i64 pg) 3 := by unfold Box; rw [hw1]; simp only [hp_alloc, sz_alloc]; (repeat (first | rw [if_neg (by omega)] | rw [if_pos (by omega)] | rw [if_pos trivial]))
  have B3 : Box w1 (w.heap.size + 1 + 1) (.slice r.A r.l.length r.c) 23 := by unfold Box; rw [hw1]; simp only [hp_alloc, sz_alloc]; (repeat (first | rw [if_neg (by omega)] | rw [if_pos (by omega)] | rw [if_pos trivial]))
  have hd1 := h.below hb1
  have hr1 := hr.below hb1
  obtain ⟨ok, q, M, hin, hft⟩ := hd1
  have hcf : ∀ args w, (callFunc 120 args).run Try.prog w = .ok (.enter 120 args) w := fun args w => rfl
  have c1 := B1.cell
  have hop : Calls Try.prog 119 #[.pointer (some ⟨p, 0, none⟩), .int .i64 2, .func (.func 120) #[] #[.pointer (some ⟨w.heap.size + 1, 0, none⟩), .pointer (some ⟨w.heap.size, 0, none⟩), .pointer (some ⟨w.heap.size + 1 + 1, 0, none⟩)]] w1 (DiskGives n0 w p S (D.write pg r.l).1 (D.write pg r.l).2) := by
    have hw01 : Chg S w w1 := .of_below hb1
    by_cases hb : (D.begin 2).1 = 0
    · have key : Calls Try.prog 119 #[.pointer (some ⟨p, 0, none⟩), .int .i64 2, .func (.func 120) #[] #[.pointer (some ⟨w.heap.size + 1, 0, none⟩), .pointer (some ⟨w.heap.size, 0, none⟩), .pointer (some ⟨w.heap.size + 1 + 1, 0, none⟩)]] w1
          (fun e w'' => ∃ x : Nat, e = .returned (.int .u16 (x : Nat)) ∧ (x = (D.write pg r.l).1 ∧ DiskAt n0 w'' p (D.write pg r.l).2 (Wide S w.heap.size w''.heap.size) ∧ Chg S w w'')) := by
        refine op_go2 _ _ _ p D 120 _ (fun x w'' => x = (D.write pg r.l).1 ∧ DiskAt n0 w'' p (D.write pg r.l).2 (Wide S w.heap.size w''.heap.size) ∧ Chg S w w'') w1 hin.rcd ok hn hb hcf ?_
        intro w2 hrec hch
        have hin2 := hin.turned hrec hch rfl rfl
        have hd2 : DiskAt n0 w2 p (D.go 2) S := ⟨D.go_ok ok 2, q, M, hin2, hft⟩
        have hpw := hSp p hp
        have b1 := B1.keep hch (fun e => by have := (show w.heap.size = p from e); omega)
        have b2 := B2.keep hch (fun e => by have := (show w.heap.size + 1 = p from e); omega)
        have b3 := B3.keep hch (fun e => by have := (show w.heap.size + 1 + 1 = p from e); omega)
        have hw02 : Chg S w w2 := hw01.trans hch (fun g _ e => by rw [show g = p from e]; exact hp)
        have hr2 : r.Ok w2 := ⟨hr1.lies.chg hch (fun a ha e => hrS a ha (by rw [show a.block = p from e]; exact hp)), hr1.nil, hr1.le, hr1.small, hr1.bytes⟩
        have hz2 := hch.size
        have hwr : D.write pg r.l = if pg < 0 ∨ (D.pages : Int) ≤ pg then (2, D.go 2) else if r.l.length ≠ 1024 ∧ r.l.length ≠ 128 then (1, D.go 2) else (0, (D.go 2).put (8 * pg.toNat) r.l (r.l.length / 128)) := by
          unfold Dsk.write; rw [if_neg (by simpa using hb)]
        by_cases c1 : pg < 0 ∨ (D.pages : Int) ≤ pg
        · rw [hwr, if_pos c1]
          refine (write_range n0 w2 p (D.go 2) S pg _ _ _ (.slice none 0 0) hd2 b2 b1 c1).mono ?_
          rintro e w3 ⟨rfl, hb3⟩
          exact ⟨2, rfl, rfl, (hd2.below hb3).mono (fun g _ _ hg => .inl hg), hw02.trans (.of_below (F := fun _ => False) hb3) (fun _ _ h => h.elim)⟩
        · obtain ⟨n, rfl⟩ : ∃ n : Nat, pg = (n : Int) := ⟨pg.toNat, by omega⟩
          by_cases c2 : r.l.length ≠ 1024 ∧ r.l.length ≠ 128
          · rw [hwr, if_neg c1, if_pos c2]
            refine (write_arg n0 w2 p (D.go 2) S n _ _ _ r.A r.l.length r.c hd2 b2 b1 b3 (by show n < D.pages; omega) c2).mono ?_
            rintro e w3 ⟨rfl, hb3⟩
            exact ⟨1, rfl, rfl, (hd2.below hb3).mono (fun g _ _ hg => .inl hg), hw02.trans (.of_below (F := fun _ => False) hb3) (fun _ _ h => h.elim)⟩
          · rw [hwr, if_neg c1, if_neg c2]
            refine (write_do n0 w2 p (D.go 2) S n _ _ _ r (r.l.length / 128) hd2 b2 b1 b3 hr2 (by show n < D.pages; omega) (by omega) (by omega) hc (Nat.le_trans hn0 hw02.size) ?_ (fun g hg => Nat.lt_of_lt_of_le (hSp g hg) hw02.size)).mono ?_
            · intro g hg
              have := hSp g hg
              exact ⟨by omega, by omega, by omega, fun a ha e => hrS a ha (by rw [e]; exact hg)⟩
            · rintro e w3 ⟨rfl, hd3, hc3⟩
              refine ⟨0, rfl, rfl, ?_, hw02.trans hc3 (fun _ _ h => h)⟩
              rw [Int.toNat_natCast]
              exact hd3.mono fun g _ _ hg => by
                rcases hg with hg | hg
                · exact .inl hg
                · have := hw02.size; exact .inr ⟨by omega, hg.2⟩
      refine key.mono ?_
      rintro e w3 ⟨x, rfl, rfl, h2, h3⟩
      exact ⟨rfl, h2, h3⟩
    · have hwr : D.write pg r.l = D.begin 2 := by unfold Dsk.write; rw [if_pos hb]
      rw [hwr]
      refine (op_fails2 _ _ _ p D _ w1 hin.rcd ok hn hb).mono ?_
      rintro e w2 ⟨rfl, hrec, hch⟩
      have hin2 := hin.turned hrec hch (D.begin_last 2).1 (D.begin_last 2).2
      exact ⟨rfl, ⟨D.begin_ok ok 2, q, M, hin2, fun g hg => .inl (hft g hg)⟩, hw01.trans hch (fun g _ e => by rw [show g = p from e]; exact hp)⟩
  have HOP := Lib.hid hop
  clear hop
  go_enter Try.func48, Try.ntmps48
  go_wp2_with fail
  rw [← hw1]
  have HW1 := Lib.hid hw1
  clear hw1
  go_wp2_with fail
  refine HOP.out.mono ?_
  rintro e w9 ⟨rfl, hd9, hc9⟩
  have HD9 := Lib.hid hd9
  have HC9 := Lib.hid hc9
  clear hd9 hc9
  go_wp2
  go_ret
  exact ⟨rfl, HD9.out, HC9.out⟩
end Go.Proofs.Ytfbjjblgcgjndaa
