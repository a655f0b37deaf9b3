/- Pure facts and the walk of PageNewest. -/
import Derived.Test.YtfbjjblgcgjndaaSealMath
set_option linter.unusedVariables false
set_option linter.unusedSimpArgs false
namespace Go.Proofs.Ytfbjjblgcgjndaa
open Go.RowKit

theorem isMeta_sector0 (m : Meta) (h : m.Ok) (hm : MayBe m) : IsMeta (sector m) ∧ metaOf (sector m) = m := by
  have h1 := isMeta_sector m h hm []
  have h2 := metaOf_sector m h []
  rw [List.append_nil] at h1 h2
  exact ⟨h1, h2⟩
theorem MayBe.pos {m : Meta} (h : MayBe m) : 0 < m.gen ∧ m ≠ Meta.zero := by
  have := h.1.1
  exact ⟨by omega, fun e => by rw [e] at this; simp [Meta.zero] at this⟩
theorem step_sector (m : Meta) (h : m.Ok) (hm : MayBe m) (B : Meta) (k : Nat) : step B k (sector m) = if m.gen % 2 = k ∧ B.gen < m.gen then m else B := by
  obtain ⟨h1, h2⟩ := isMeta_sector0 m h hm
  simp [step, h1, h2]
theorem step_none (l : List Nat) (h : ¬ IsMeta l) (B : Meta) (k : Nat) : step B k l = B := by simp [step, h]
theorem torn_none (m : Meta) {x : List Nat} {kk frm ch : Nat} (h : Crc.Turned (sector m) x kk frm ch 32) (hx : Bytes x) (hw : Crc.window ch kk 32 ≠ 0) : ¬ IsMeta x := by
  intro hi
  have hl : x.length = 128 := by rw [h.1, sector_length]
  have h3 := hi.2.2
  rw [List.take_of_length_le (by omega)] at h3
  exact hw (turned_closed h (fill_bytes _ _ (metaBytes_bytes _)) (fill_bytes _ _ (metaBytes_bytes _)) hx h3)
theorem best_two (m n : Meta) (hm : m.Ok) (hn : n.Ok) (mm : MayBe m) (mn : MayBe n) (pm : m.gen % 2 = 0) (pn : n.gen % 2 = 1) : bestOf (sector m) (sector n) = (if m.gen < n.gen then n else m) ∧ bestErr (sector m) (sector n) = 0 := by
  have h1 : bestOf (sector m) (sector n) = if m.gen < n.gen then n else m := by
    unfold bestOf
    have := mm.pos.1
    rw [step_sector m hm mm, if_pos ⟨pm, by simpa [Meta.zero] using this⟩, step_sector n hn mn]
    simp [pn]
  refine ⟨h1, ?_⟩
  unfold bestErr
  rw [h1]
  split
  · rw [if_pos mn.pos.2]
  · rw [if_pos mm.pos.2]
theorem best_torn_a (n : Meta) (hn : n.Ok) (mn : MayBe n) (pn : n.gen % 2 = 1) (x : List Nat) (hx : ¬ IsMeta x) : bestOf x (sector n) = n ∧ bestErr x (sector n) = 0 := by
  have h1 : bestOf x (sector n) = n := by
    unfold bestOf
    have := mn.pos.1
    rw [step_none x hx, step_sector n hn mn, if_pos ⟨pn, by simpa [Meta.zero] using this⟩]
  refine ⟨h1, ?_⟩
  unfold bestErr
  rw [h1, if_pos mn.pos.2]
theorem best_torn_b (m : Meta) (hm : m.Ok) (mm : MayBe m) (pm : m.gen % 2 = 0) (x : List Nat) (hx : ¬ IsMeta x) : bestOf (sector m) x = m ∧ bestErr (sector m) x = 0 := by
  have h1 : bestOf (sector m) x = m := by
    unfold bestOf
    have := mm.pos.1
    rw [step_sector m hm mm, if_pos ⟨pm, by simpa [Meta.zero] using this⟩, step_none x hx]
  refine ⟨h1, ?_⟩
  unfold bestErr
  rw [h1, if_pos mm.pos.2]

def even (m : Meta) : Meta := { m with gen := m.gen / 2 * 2 }
def odd (m : Meta) : Meta := { m with gen := m.gen / 2 * 2 + 1 }
theorem even_ok {m : Meta} (h : m.Ok) : (even m).Ok ∧ (even m).gen % 2 = 0 := ⟨⟨by have := h.gen; simp only [even]; omega, h.root, h.free, h.pages, h.keys⟩, by simp only [even]; omega⟩
theorem odd_ok {m : Meta} (h : m.Ok) : (odd m).Ok ∧ (odd m).gen % 2 = 1 := ⟨⟨by have := h.gen; simp only [odd]; omega, h.root, h.free, h.pages, h.keys⟩, by simp only [odd]; omega⟩

theorem MetaBox.gen {w : World} {b : Nat} {m : Meta} (h : MetaBox w b m) (g : Nat) : MetaBox (w.setCell ⟨b, 0, none⟩ (.int .u64 (g : Int))) b { m with gen := g } := blk_set h 0 _
theorem MetaBox.other {w : World} {b c : Nat} {m : Meta} (h : MetaBox w b m) (hne : b ≠ c) (k : Nat) (v : Value) : MetaBox (w.setCell ⟨c, k, none⟩ v) b m := by
  unfold MetaBox; rw [Below.heap_setCell _ _ _ _ hne]; exact h

set_option maxRecDepth 100000 in
set_option maxHeartbeats 1000000 in
theorem pageNewest_any (m0 n0 : Meta) (torn ch : Nat) (at_ : Int) (w : World) (hm0 : m0.Ok) (hn0 : n0.Ok) (ht : torn < 256) (hch : ch < 4294967296) :
    Calls Try.prog 20 #[m0.val, n0.val, .int .u8 (torn : Int), .int .i64 at_, .int .u32 (ch : Int)] w fun e w' => e = .returned (.bool true) ∧ Below w.heap.size w w' := by
  obtain ⟨hm, pm⟩ := even_ok hm0
  obtain ⟨hn, pn⟩ := odd_ok hn0
  have eg : ((m0.gen : Int) / 2 * 2) = ((even m0).gen : Int) := by simp only [even]; omega
  have og : ((n0.gen : Int) / 2 * 2 + 1) = ((odd n0).gen : Int) := by simp only [odd]; omega
  have b1 := hm0.gen
  have b2 := hn0.gen
  have hX0 : MetaBox ((w.alloc (.cells m0.cells 116)).alloc (.cells n0.cells 116)) w.heap.size m0 := (MetaBox.new w m0).old _
  have hY0 : MetaBox ((w.alloc (.cells m0.cells 116)).alloc (.cells n0.cells 116)) (w.heap.size + 1) n0 := by
    have := MetaBox.new (w.alloc (.cells m0.cells 116)) n0
    rwa [show (w.alloc (.cells m0.cells 116)).heap.size = w.heap.size + 1 by simp] at this
  have hb0 : Below w.heap.size w ((w.alloc (.cells m0.cells 116)).alloc (.cells n0.cells 116)) := below_alloc0 (below_alloc0 (Below.refl _ _) _) _
  have hs0 : ((w.alloc (.cells m0.cells 116)).alloc (.cells n0.cells 116)).heap.size = w.heap.size + 2 := by simp
  simp only [Meta.val]
  go_enter Try.func20, Try.ntmps20
  go_wp2_with fail
  generalize (w.alloc (.cells m0.cells 116)).alloc (.cells n0.cells 116) = W at *
  refine (known08_any _).mono ?_
  rintro e w1 ⟨rfl, hb1⟩
  have hX1 := hX0.below hb1 (by omega)
  have hY1 := hY0.below hb1 (by omega)
  have hs1 := hb1.size
  replace hb1 := below_next0 hb0 hb1
  clear hX0 hY0 hb0
  have hX2 : MetaBox ((w1.setCell ⟨w.heap.size, 0, none⟩ (.int .u64 ((even m0).gen : Int))).setCell ⟨w.heap.size + 1, 0, none⟩ (.int .u64 ((odd n0).gen : Int))) w.heap.size (even m0) := (hX1.gen _).other (by omega) _ _
  have hY2 : MetaBox ((w1.setCell ⟨w.heap.size, 0, none⟩ (.int .u64 ((even m0).gen : Int))).setCell ⟨w.heap.size + 1, 0, none⟩ (.int .u64 ((odd n0).gen : Int))) (w.heap.size + 1) (odd n0) := (hY1.other (by omega) _ _).gen _
  have hb2 : Below w.heap.size w ((w1.setCell ⟨w.heap.size, 0, none⟩ (.int .u64 ((even m0).gen : Int))).setCell ⟨w.heap.size + 1, 0, none⟩ (.int .u64 ((odd n0).gen : Int))) := (hb1.setCell (Nat.le_refl _) _).setCell (Nat.le_succ _) _
  have hs2 : ((w1.setCell ⟨w.heap.size, 0, none⟩ (.int .u64 ((even m0).gen : Int))).setCell ⟨w.heap.size + 1, 0, none⟩ (.int .u64 ((odd n0).gen : Int))).heap.size = w1.heap.size := by simp [World.setCell]
  obtain ⟨c0, c1, c2, c3, c4⟩ := meta_cells hX1
  obtain ⟨f0, f1, f2, f3, f4⟩ := hX1.frozen
  have hY1' := hY1.other (c := w.heap.size) (by omega) 0 (.int .u64 ((even m0).gen : Int))
  obtain ⟨d0, d1, d2, d3, d4⟩ := meta_cells hY1'
  obtain ⟨e0, e1, e2, e3, e4⟩ := hY1'.frozen
  have HX2 := Lib.hid hX2
  have HY2 := Lib.hid hY2
  have HB2 := Lib.hid hb2
  have HS2 := Lib.hid hs2
  clear hX1 hY1 hY1' hX2 hY2 hb2 hs2 c1 c2 c3 c4 d1 d2 d3 d4 f1 f2 f3 f4 e1 e2 e3 e4
  go_upto_region 5 with (fail)
  replace HS2 := HS2.out
  replace HX2 := HX2.out
  replace HY2 := HY2.out
  replace HB2 := HB2.out
  generalize ((w1.setCell ⟨w.heap.size, 0, none⟩ (.int .u64 ((even m0).gen : Int))).setCell ⟨w.heap.size + 1, 0, none⟩ (.int .u64 ((odd n0).gen : Int))) = w2 at HX2 HY2 HB2 HS2 ⊢
  clear c0 f0 d0 e0 eg og b1 b2 hb1 hm0 hn0
  generalize even m0 = M at *
  generalize odd n0 = N at *
  obtain ⟨c0, c1, c2, c3, c4⟩ := meta_cells HX2
  have hputm := fun w mm => put_ok M w hm mm
  have hputm' := fun w mm => put_no M w hm mm
  have hputn := fun w mm => put_ok N w hn mm
  have hputn' := fun w mm => put_no N w hn mm
  simp only [Meta.val, Meta.cells] at hputm hputm' hputn hputn'
  have HPM := Lib.hid hputm
  have HPM' := Lib.hid hputm'
  have HPN := Lib.hid hputn
  have HPN' := Lib.hid hputn'
  clear hputm hputm' hputn hputn'
  by_cases mm : MayBe M
  · have HMM := Lib.hid mm
    clear mm
    go_wp2_with fail
    refine (HPM.out _ HMM.out).mono ?_
    rintro e w3 ⟨v3, rfl, hv3, hb3, hz3⟩
    obtain ⟨A3, k3, rfl, hI3⟩ := hv3.inner (sector_bytes M) (by rw [sector_length]; omega)
    clear hv3
    rw [sector_length]
    have hX3 := HX2.below hb3 (box_lt HX2)
    have hY3 := HY2.below hb3 (box_lt HY2)
    replace hb3 := below_next0 HB2 hb3
    clear c0 c1 c2 c3 c4 HX2 HY2 HB2
    obtain ⟨d0, d1, d2, d3, d4⟩ := meta_cells hY3
    by_cases mn : MayBe N
    · have HMN := Lib.hid mn
      clear mn
      go_wp2_with fail
      refine (HPN.out _ HMN.out).mono ?_
      rintro e w4 ⟨v4, rfl, hv4, hb4, hz4⟩
      obtain ⟨A4, k4, rfl, hI4⟩ := hv4.inner (sector_bytes N) (by rw [sector_length]; omega)
      clear hv4
      rw [sector_length]
      have hX4 := hX3.below hb4 (box_lt hX3)
      have hY4 := hY3.below hb4 (box_lt hY3)
      have hI34 := hI3.below hb4
      replace hb4 := below_next0 hb3 hb4
      clear d0 d1 d2 d3 d4 hX3 hY3 hb3 hI3
      have hbest := best_any ⟨A3, sector M, k3⟩ ⟨A4, sector N, k4⟩ w4 hI34 hI4
      simp only at hbest
      rw [(best_two M N hm hn HMM.out HMN.out pm pn).1, (best_two M N hm hn HMM.out HMN.out pm pn).2, sector_length, sector_length] at hbest
      by_cases hgt : M.gen < N.gen
      · rw [if_pos hgt] at hbest
        have g1 : (M.gen : Int) < (N.gen : Int) := by omega
        simp only [Meta.val, Meta.cells] at hbest
        have HBest := Lib.hid hbest
        have HGT := Lib.hid hgt
        clear hbest hgt
        go_wp2_with fail
        refine HBest.out.mono ?_
        rintro e w5 ⟨rfl, hb5⟩
        have hX5 := hX4.below hb5 (box_lt hX4)
        have hY5 := hY4.below hb5 (box_lt hY4)
        have hI5 := hI34.below hb5
        have hJ5 := hI4.below hb5
        replace hb5 := below_next0 hb4 hb5
        clear hX4 hY4 hb4 hI34 hI4 HBest
        have hZ6 := MetaBox.new w5 N
        have hX6 := hX5.old (.cells N.cells 116)
        have hY6 := hY5.old (.cells N.cells 116)
        have hI6 := hI5.below (below_alloc0 (Below.refl _ _) (.cells N.cells 116))
        have hJ6 := hJ5.below (below_alloc0 (Below.refl _ _) (.cells N.cells 116))
        have hb6 := below_alloc0 hb5 (.cells N.cells 116)
        go_upto_region 10 with (fail)
        change Code.wp _ _ _ _ (w5.alloc (.cells N.cells 116))
        clear hX5 hY5 hI5 hJ5
        generalize hw5 : w5.heap.size = z5 at *
        generalize w5.alloc (.cells N.cells 116) = w6 at *
        obtain ⟨c0, c1, c2, c3, c4⟩ := meta_cells hX6
        go_upto_region 11 with (fail)
        change Code.wp _ _ _ _ (w6.alloc (.cells M.cells 116))
        have hT7 := MetaBox.new w6 M
        have hbT := below_alloc0 (Below.refl w6.heap.size w6) (.cells M.cells 116)
        have hX7 := hX6.below hbT (box_lt hX6)
        have hY7 := hY6.below hbT (box_lt hY6)
        have HT7 := Lib.hid hT7
        obtain ⟨f0, f1, f2, f3, f4⟩ := hT7.frozen
        obtain ⟨t0, t1, t2, t3, t4⟩ := meta_cells hT7
        obtain ⟨c0, c1, c2, c3, c4⟩ := meta_cells hX7
        obtain ⟨d0, d1, d2, d3, d4⟩ := meta_cells hY7
        clear hT7 hX7 hY7
        generalize hw6 : w6.heap.size = z6 at *
        generalize hw7 : w6.alloc (.cells M.cells 116) = w7 at *
        have HW7 := Lib.hid hw7
        have HW6 := Lib.hid hw6
        clear hw6 hw7
        go_upto_region 13 with (fail)
        have hT8 := setBox_box (n := N) HT7.out
        have hbS := setBox_below N hbT (Nat.le_refl z6)
        change Code.wp _ _ _ _ (setBox w7 z6 N)
        generalize setBox w7 z6 N = w8 at *
        rw [← HW6.out] at hbS
        clear c0 c1 c2 c3 c4 d0 d1 d2 d3 d4 f0 f1 f2 f3 f4 t0 t1 t2 t3 t4 hbT HT7
        have hX8 := hX6.below hbS (box_lt hX6)
        have hY8 := hY6.below hbS (box_lt hY6)
        have hZ8 := hZ6.below hbS (box_lt hZ6)
        have hI8 := hI6.below hbS
        have hJ8 := hJ6.below hbS
        have hb8 := below_next0 hb6 hbS
        clear hX6 hY6 hZ6 hI6 hJ6 hbS hb6 HW6 HW7
        obtain ⟨c0, c1, c2, c3, c4⟩ := meta_cells hT8
        obtain ⟨d0, d1, d2, d3, d4⟩ := meta_cells hZ8
        have hcmp := fun w => neq_meta N N w
        simp only [decide_true, Bool.not_true, Meta.val, Meta.cells] at hcmp
        have HCMP := Lib.hid hcmp
        clear hcmp
        have hc1 := HCMP.out w8
        rcases Nat.mod_two_eq_zero_or_one torn with hpar | hpar
        · have p1 : ((torn : Int) % 2 == 0) = true := by simp; omega
          have p2 : (torn % 2 == 0) = true := by simp; omega
          have p3 :  ((torn : Int) % 2 = 0) := by omega
          clear hpar
          have htn := turned_any A3 k3 (sector M) at_ ch w8 (sector_bytes M) hI8.lies hI8.nil (by rw [sector_length]; omega) (by rw [sector_length]; omega) hch
          rw [sector_length] at htn
          have HTN := Lib.hid htn
          clear htn
          go_wp2_with fail
          refine HTN.out.mono ?_
          rintro e w9 ⟨v9, x, kk, frm, rfl, hT9, hx0, hxb, hv9, hb9⟩
          have hxl : x.length = 128 := by rw [hT9.1, sector_length]
          obtain ⟨A9, c9, rfl, hx9⟩ := hv9.inner hxb (by omega)
          rw [hxl]
          have hJ9 := hJ8.below hb9
          have hB9 := hY8.below hb9 (box_lt hY8)
          have hb10 := below_next0 hb8 hb9
          have hbest := best_any ⟨A9, x, c9⟩ ⟨A4, sector N, k4⟩ w9 hx9 hJ9
          simp only at hbest
          rw [hxl, sector_length] at hbest
          by_cases hw : Crc.window ch kk 32 ≠ 0
          · have hno := torn_none M hT9 hxb hw
            rw [(best_torn_a N hn HMN.out pn x hno).1, (best_torn_a N hn HMN.out pn x hno).2] at hbest
            rw [decide_eq_true hw]
            simp only [Meta.val, Meta.cells] at hbest
            have HBest := Lib.hid hbest
            clear hbest hw hno hT9 hx0 hxl c0 c1 c2 c3 c4 d0 d1 d2 d3 d4 hc1
            go_wp2_with fail
            refine HBest.out.mono ?_
            rintro e w10 ⟨rfl, hb11⟩
            have hB10 := hB9.below hb11 (box_lt hB9)
            have hB11 := hB10.old (.cells N.cells 116)
            have hN11 := MetaBox.new w10 N
            have hbf := below_alloc0 (below_next0 hb10 hb11) (.cells N.cells 116)
            go_upto_region 18 with (fail)
            change Code.wp _ _ _ _ (w10.alloc (.cells N.cells 116))
            have hc2 := eql_meta N N (w10.alloc (.cells N.cells 116))
            simp only [decide_true, Meta.val, Meta.cells] at hc2
            clear hB10 hb11 hb10 hB9
            generalize hw10 : w10.heap.size = z10 at *
            generalize w10.alloc (.cells N.cells 116) = w11 at *
            obtain ⟨c0, c1, c2, c3, c4⟩ := meta_cells hB11
            obtain ⟨d0, d1, d2, d3, d4⟩ := meta_cells hN11
            clear hw10
            go_wp2_with fail
            go_ret
            exact ⟨rfl, hbf⟩
          · rw [decide_eq_false hw]
            generalize bestOf x (sector N) = B' at *
            generalize bestErr x (sector N) = E' at *
            generalize bestOf (sector M) x = B' at *
            generalize bestErr (sector M) x = E' at *
            simp only [Meta.val, Meta.cells] at hbest
            have HBest := Lib.hid hbest
            clear hbest hw hT9 hx0 hxl c0 c1 c2 c3 c4 d0 d1 d2 d3 d4 hc1
            go_wp2_with fail
            refine HBest.out.mono ?_
            rintro e w10 ⟨rfl, hb11⟩
            have hbf := below_next0 hb10 hb11
            go_wp2_with fail
            go_ret
            exact ⟨rfl, below_alloc0 hbf _⟩
        · have p1 : ((torn : Int) % 2 == 0) = false := by simp; omega
          have p2 : (torn % 2 == 0) = false := by simp; omega
          have p3 : ¬ ((torn : Int) % 2 = 0) := by omega
          clear hpar
          have htn := turned_any A4 k4 (sector N) at_ ch w8 (sector_bytes N) hJ8.lies hJ8.nil (by rw [sector_length]; omega) (by rw [sector_length]; omega) hch
          rw [sector_length] at htn
          have HTN := Lib.hid htn
          clear htn
          go_wp2_with fail
          refine HTN.out.mono ?_
          rintro e w9 ⟨v9, x, kk, frm, rfl, hT9, hx0, hxb, hv9, hb9⟩
          have hxl : x.length = 128 := by rw [hT9.1, sector_length]
          obtain ⟨A9, c9, rfl, hx9⟩ := hv9.inner hxb (by omega)
          rw [hxl]
          have hJ9 := hI8.below hb9
          have hB9 := hX8.below hb9 (box_lt hX8)
          have hb10 := below_next0 hb8 hb9
          have hbest := best_any ⟨A3, sector M, k3⟩ ⟨A9, x, c9⟩ w9 hJ9 hx9
          simp only at hbest
          rw [hxl, sector_length] at hbest
          by_cases hw : Crc.window ch kk 32 ≠ 0
          · have hno := torn_none N hT9 hxb hw
            rw [(best_torn_b M hm HMM.out pm x hno).1, (best_torn_b M hm HMM.out pm x hno).2] at hbest
            rw [decide_eq_true hw]
            simp only [Meta.val, Meta.cells] at hbest
            have HBest := Lib.hid hbest
            clear hbest hw hno hT9 hx0 hxl c0 c1 c2 c3 c4 d0 d1 d2 d3 d4 hc1
            go_wp2_with fail
            refine HBest.out.mono ?_
            rintro e w10 ⟨rfl, hb11⟩
            have hB10 := hB9.below hb11 (box_lt hB9)
            have hB11 := hB10.old (.cells M.cells 116)
            have hN11 := MetaBox.new w10 M
            have hbf := below_alloc0 (below_next0 hb10 hb11) (.cells M.cells 116)
            go_upto_region 21 with (fail)
            change Code.wp _ _ _ _ (w10.alloc (.cells M.cells 116))
            have hc2 := eql_meta M M (w10.alloc (.cells M.cells 116))
            simp only [decide_true, Meta.val, Meta.cells] at hc2
            clear hB10 hb11 hb10 hB9
            generalize hw10 : w10.heap.size = z10 at *
            generalize w10.alloc (.cells M.cells 116) = w11 at *
            obtain ⟨c0, c1, c2, c3, c4⟩ := meta_cells hB11
            obtain ⟨d0, d1, d2, d3, d4⟩ := meta_cells hN11
            clear hw10
            go_wp2_with fail
            go_ret
            exact ⟨rfl, hbf⟩
          · rw [decide_eq_false hw]
            generalize bestOf x (sector N) = B' at *
            generalize bestErr x (sector N) = E' at *
            generalize bestOf (sector M) x = B' at *
            generalize bestErr (sector M) x = E' at *
            simp only [Meta.val, Meta.cells] at hbest
            have HBest := Lib.hid hbest
            clear hbest hw hT9 hx0 hxl c0 c1 c2 c3 c4 d0 d1 d2 d3 d4 hc1
            go_wp2_with fail
            refine HBest.out.mono ?_
            rintro e w10 ⟨rfl, hb11⟩
            have hbf := below_next0 hb10 hb11
            go_wp2_with fail
            go_ret
            exact ⟨rfl, below_alloc0 hbf _⟩
      · rw [if_neg hgt] at hbest
        have g1 : ¬ (M.gen : Int) < (N.gen : Int) := by omega
        simp only [Meta.val, Meta.cells] at hbest
        have HBest := Lib.hid hbest
        have HGT := Lib.hid hgt
        clear hbest hgt
        go_wp2_with fail
        refine HBest.out.mono ?_
        rintro e w5 ⟨rfl, hb5⟩
        have hX5 := hX4.below hb5 (box_lt hX4)
        have hY5 := hY4.below hb5 (box_lt hY4)
        have hI5 := hI34.below hb5
        have hJ5 := hI4.below hb5
        replace hb5 := below_next0 hb4 hb5
        clear hX4 hY4 hb4 hI34 hI4 HBest
        have hZ6 := MetaBox.new w5 M
        have hX6 := hX5.old (.cells M.cells 116)
        have hY6 := hY5.old (.cells M.cells 116)
        have hI6 := hI5.below (below_alloc0 (Below.refl _ _) (.cells M.cells 116))
        have hJ6 := hJ5.below (below_alloc0 (Below.refl _ _) (.cells M.cells 116))
        have hb6 := below_alloc0 hb5 (.cells M.cells 116)
        go_upto_region 10 with (fail)
        change Code.wp _ _ _ _ (w5.alloc (.cells M.cells 116))
        clear hX5 hY5 hI5 hJ5
        generalize hw5 : w5.heap.size = z5 at *
        generalize w5.alloc (.cells M.cells 116) = w6 at *
        obtain ⟨c0, c1, c2, c3, c4⟩ := meta_cells hX6
        go_upto_region 11 with (fail)
        change Code.wp _ _ _ _ (w6.alloc (.cells M.cells 116))
        have hT7 := MetaBox.new w6 M
        have hbT := below_alloc0 (Below.refl w6.heap.size w6) (.cells M.cells 116)
        have hX7 := hX6.below hbT (box_lt hX6)
        have hY7 := hY6.below hbT (box_lt hY6)
        have HT7 := Lib.hid hT7
        obtain ⟨f0, f1, f2, f3, f4⟩ := hT7.frozen
        obtain ⟨t0, t1, t2, t3, t4⟩ := meta_cells hT7
        obtain ⟨c0, c1, c2, c3, c4⟩ := meta_cells hX7
        obtain ⟨d0, d1, d2, d3, d4⟩ := meta_cells hY7
        clear hT7 hX7 hY7
        generalize hw6 : w6.heap.size = z6 at *
        generalize hw7 : w6.alloc (.cells M.cells 116) = w7 at *
        have HW7 := Lib.hid hw7
        have HW6 := Lib.hid hw6
        clear hw6 hw7
        go_upto_region 13 with (fail)
        have hT8 := HT7.out
        have hbS := hbT
        have hw8 : w7 = w7 := rfl
        generalize w7 = w8 at *
        rw [← HW6.out] at hbS
        clear c0 c1 c2 c3 c4 d0 d1 d2 d3 d4 f0 f1 f2 f3 f4 t0 t1 t2 t3 t4 hbT HT7
        have hX8 := hX6.below hbS (box_lt hX6)
        have hY8 := hY6.below hbS (box_lt hY6)
        have hZ8 := hZ6.below hbS (box_lt hZ6)
        have hI8 := hI6.below hbS
        have hJ8 := hJ6.below hbS
        have hb8 := below_next0 hb6 hbS
        clear hX6 hY6 hZ6 hI6 hJ6 hbS hb6 HW6 HW7
        obtain ⟨c0, c1, c2, c3, c4⟩ := meta_cells hT8
        obtain ⟨d0, d1, d2, d3, d4⟩ := meta_cells hZ8
        have hcmp := fun w => neq_meta M M w
        simp only [decide_true, Bool.not_true, Meta.val, Meta.cells] at hcmp
        have HCMP := Lib.hid hcmp
        clear hcmp
        have hc1 := HCMP.out w8
        rcases Nat.mod_two_eq_zero_or_one torn with hpar | hpar
        · have p1 : ((torn : Int) % 2 == 0) = true := by simp; omega
          have p2 : (torn % 2 == 0) = true := by simp; omega
          have p3 :  ((torn : Int) % 2 = 0) := by omega
          clear hpar
          have htn := turned_any A3 k3 (sector M) at_ ch w8 (sector_bytes M) hI8.lies hI8.nil (by rw [sector_length]; omega) (by rw [sector_length]; omega) hch
          rw [sector_length] at htn
          have HTN := Lib.hid htn
          clear htn
          go_wp2_with fail
          refine HTN.out.mono ?_
          rintro e w9 ⟨v9, x, kk, frm, rfl, hT9, hx0, hxb, hv9, hb9⟩
          have hxl : x.length = 128 := by rw [hT9.1, sector_length]
          obtain ⟨A9, c9, rfl, hx9⟩ := hv9.inner hxb (by omega)
          rw [hxl]
          have hJ9 := hJ8.below hb9
          have hB9 := hY8.below hb9 (box_lt hY8)
          have hb10 := below_next0 hb8 hb9
          have hbest := best_any ⟨A9, x, c9⟩ ⟨A4, sector N, k4⟩ w9 hx9 hJ9
          simp only at hbest
          rw [hxl, sector_length] at hbest
          by_cases hw : Crc.window ch kk 32 ≠ 0
          · have hno := torn_none M hT9 hxb hw
            rw [(best_torn_a N hn HMN.out pn x hno).1, (best_torn_a N hn HMN.out pn x hno).2] at hbest
            rw [decide_eq_true hw]
            simp only [Meta.val, Meta.cells] at hbest
            have HBest := Lib.hid hbest
            clear hbest hw hno hT9 hx0 hxl c0 c1 c2 c3 c4 d0 d1 d2 d3 d4 hc1
            go_wp2_with fail
            refine HBest.out.mono ?_
            rintro e w10 ⟨rfl, hb11⟩
            have hB10 := hB9.below hb11 (box_lt hB9)
            have hB11 := hB10.old (.cells N.cells 116)
            have hN11 := MetaBox.new w10 N
            have hbf := below_alloc0 (below_next0 hb10 hb11) (.cells N.cells 116)
            go_upto_region 18 with (fail)
            change Code.wp _ _ _ _ (w10.alloc (.cells N.cells 116))
            have hc2 := eql_meta N N (w10.alloc (.cells N.cells 116))
            simp only [decide_true, Meta.val, Meta.cells] at hc2
            clear hB10 hb11 hb10 hB9
            generalize hw10 : w10.heap.size = z10 at *
            generalize w10.alloc (.cells N.cells 116) = w11 at *
            obtain ⟨c0, c1, c2, c3, c4⟩ := meta_cells hB11
            obtain ⟨d0, d1, d2, d3, d4⟩ := meta_cells hN11
            clear hw10
            go_wp2_with fail
            go_ret
            exact ⟨rfl, hbf⟩
          · rw [decide_eq_false hw]
            generalize bestOf x (sector N) = B' at *
            generalize bestErr x (sector N) = E' at *
            generalize bestOf (sector M) x = B' at *
            generalize bestErr (sector M) x = E' at *
            simp only [Meta.val, Meta.cells] at hbest
            have HBest := Lib.hid hbest
            clear hbest hw hT9 hx0 hxl c0 c1 c2 c3 c4 d0 d1 d2 d3 d4 hc1
            go_wp2_with fail
            refine HBest.out.mono ?_
            rintro e w10 ⟨rfl, hb11⟩
            have hbf := below_next0 hb10 hb11
            go_wp2_with fail
            go_ret
            exact ⟨rfl, below_alloc0 hbf _⟩
        · have p1 : ((torn : Int) % 2 == 0) = false := by simp; omega
          have p2 : (torn % 2 == 0) = false := by simp; omega
          have p3 : ¬ ((torn : Int) % 2 = 0) := by omega
          clear hpar
          have htn := turned_any A4 k4 (sector N) at_ ch w8 (sector_bytes N) hJ8.lies hJ8.nil (by rw [sector_length]; omega) (by rw [sector_length]; omega) hch
          rw [sector_length] at htn
          have HTN := Lib.hid htn
          clear htn
          go_wp2_with fail
          refine HTN.out.mono ?_
          rintro e w9 ⟨v9, x, kk, frm, rfl, hT9, hx0, hxb, hv9, hb9⟩
          have hxl : x.length = 128 := by rw [hT9.1, sector_length]
          obtain ⟨A9, c9, rfl, hx9⟩ := hv9.inner hxb (by omega)
          rw [hxl]
          have hJ9 := hI8.below hb9
          have hB9 := hX8.below hb9 (box_lt hX8)
          have hb10 := below_next0 hb8 hb9
          have hbest := best_any ⟨A3, sector M, k3⟩ ⟨A9, x, c9⟩ w9 hJ9 hx9
          simp only at hbest
          rw [hxl, sector_length] at hbest
          by_cases hw : Crc.window ch kk 32 ≠ 0
          · have hno := torn_none N hT9 hxb hw
            rw [(best_torn_b M hm HMM.out pm x hno).1, (best_torn_b M hm HMM.out pm x hno).2] at hbest
            rw [decide_eq_true hw]
            simp only [Meta.val, Meta.cells] at hbest
            have HBest := Lib.hid hbest
            clear hbest hw hno hT9 hx0 hxl c0 c1 c2 c3 c4 d0 d1 d2 d3 d4 hc1
            go_wp2_with fail
            refine HBest.out.mono ?_
            rintro e w10 ⟨rfl, hb11⟩
            have hB10 := hB9.below hb11 (box_lt hB9)
            have hB11 := hB10.old (.cells M.cells 116)
            have hN11 := MetaBox.new w10 M
            have hbf := below_alloc0 (below_next0 hb10 hb11) (.cells M.cells 116)
            go_upto_region 21 with (fail)
            change Code.wp _ _ _ _ (w10.alloc (.cells M.cells 116))
            have hc2 := eql_meta M M (w10.alloc (.cells M.cells 116))
            simp only [decide_true, Meta.val, Meta.cells] at hc2
            clear hB10 hb11 hb10 hB9
            generalize hw10 : w10.heap.size = z10 at *
            generalize w10.alloc (.cells M.cells 116) = w11 at *
            obtain ⟨c0, c1, c2, c3, c4⟩ := meta_cells hB11
            obtain ⟨d0, d1, d2, d3, d4⟩ := meta_cells hN11
            clear hw10
            go_wp2_with fail
            go_ret
            exact ⟨rfl, hbf⟩
          · rw [decide_eq_false hw]
            generalize bestOf x (sector N) = B' at *
            generalize bestErr x (sector N) = E' at *
            generalize bestOf (sector M) x = B' at *
            generalize bestErr (sector M) x = E' at *
            simp only [Meta.val, Meta.cells] at hbest
            have HBest := Lib.hid hbest
            clear hbest hw hT9 hx0 hxl c0 c1 c2 c3 c4 d0 d1 d2 d3 d4 hc1
            go_wp2_with fail
            refine HBest.out.mono ?_
            rintro e w10 ⟨rfl, hb11⟩
            have hbf := below_next0 hb10 hb11
            go_wp2_with fail
            go_ret
            exact ⟨rfl, below_alloc0 hbf _⟩
    · have HMN := Lib.hid mn
      clear mn
      go_wp2_with fail
      refine (HPN'.out _ HMN.out).mono ?_
      rintro e w4 ⟨rfl, hb4⟩
      have hbf := below_next0 hb3 hb4
      go_wp2
      go_ret
      exact ⟨rfl, hbf⟩
  · have HMM := Lib.hid mm
    clear mm
    go_wp2_with fail
    refine (HPM'.out _ HMM.out).mono ?_
    rintro e w3 ⟨rfl, hb3⟩
    have hY3 := HY2.below hb3 (box_lt HY2)
    replace hb3 := below_next0 HB2 hb3
    clear c0 c1 c2 c3 c4 HX2 HY2 HB2
    obtain ⟨d0, d1, d2, d3, d4⟩ := meta_cells hY3
    go_wp2_with fail
    by_cases mn : MayBe N
    · refine (HPN.out _ mn).mono ?_
      rintro e w4 ⟨v4, rfl, hv4, hb4, hz4⟩
      have hbf := below_next0 hb3 hb4
      clear mn hv4
      go_wp2
      go_ret
      exact ⟨rfl, hbf⟩
    · refine (HPN'.out _ mn).mono ?_
      rintro e w4 ⟨rfl, hb4⟩
      have hbf := below_next0 hb3 hb4
      clear mn
      go_wp2
      go_ret
      exact ⟨rfl, hbf⟩
end Go.Proofs.Ytfbjjblgcgjndaa
