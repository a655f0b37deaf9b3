/- Walk of PageStates. -/
import Derived.Test.YtfbjjblgcgjndaaRBest
import Derived.Test.YtfbjjblgcgjndaaR00a
set_option linter.unusedVariables false
set_option linter.unusedSimpArgs false
namespace Go.Proofs.Ytfbjjblgcgjndaa
open Go.RowKit

theorem LentB.inner {w : World} {b : Nat} {l : List Nat} (h : LentB w b l) (hb : Bytes l) (hs : l.length ≤ 1000000) : (⟨some ⟨b, 0, none⟩, l, l.length + 2⟩ : Inner).Ok w :=
  ⟨h.at, fun e => (by cases e), Nat.le_add_right _ _, by show l.length ≤ 140737488351232; omega, hb⟩
theorem LentB.lt {w : World} {b : Nat} {l : List Nat} (h : LentB w b l) : b < w.heap.size := (Array.getElem?_eq_some_iff.1 h).1

set_option maxRecDepth 100000 in
set_option maxHeartbeats 4000000 in
theorem pageStates_any (m : Meta) (a b : Inner) (w : World) (hm : m.Ok) (ha : a.Ok w) (hb : b.Ok w) :
    Calls Try.prog 18 #[m.val, .slice a.A a.l.length a.c, .slice b.A b.l.length b.c] w fun e w' => e = .returned (.bool true) ∧ Below w.heap.size w w' := by
  by_cases hbig : a.l.length ≤ 20000
  · by_cases hbig2 : b.l.length ≤ 20000
    · have hX0 := MetaBox.new w m
      have hb0 := below_alloc0 (Below.refl w.heap.size w) (.cells m.cells 116)
      by_cases hmay : MayBe m
      · have hput := fun w => put_ok m w hm hmay
        have hrput := fun w => rput_ok m w hm hmay
        have hML := sector_length m
        have hMB := sector_bytes m
        have hIM := isMeta_sector m hm hmay b.l
        have hMO := metaOf_sector m hm b.l
        simp only [Meta.val] at hput hrput ⊢
        have HPut := Lib.hid hput
        have HRPut := Lib.hid hrput
        clear hput hrput
        have HIM := Lib.hid hIM
        have HMO := Lib.hid hMO
        generalize sector m = T at *
        have HML := Lib.hid hML
        clear hIM hMO hML hmay
        go_enter Try.func18, Try.ntmps18
        go_upto_region 3 with (fail)
        change Code.wp _ _ _ _ (w.alloc (.cells m.cells 116))
        have hz0 : (w.alloc (.cells m.cells 116)).heap.size = w.heap.size + 1 := by simp
        generalize w.alloc (.cells m.cells 116) = w0 at *
        obtain ⟨c0, c1, c2, c3, c4⟩ := meta_cells hX0
        go_wp2_with fail
        refine (HPut.out _).mono ?_
        rintro e w1 ⟨v1, rfl, hv1, hb1, hz1⟩
        rw [hz0] at hv1
        have hX1 := hX0.below hb1 (box_lt hX0)
        replace hb1 := below_next0 hb0 hb1
        clear hX0 hb0 c0 c1 c2 c3 c4
        obtain ⟨c0, c1, c2, c3, c4⟩ := meta_cells hX1
        go_wp2_with fail
        refine (HRPut.out _).mono ?_
        rintro e w2 ⟨v2, rfl, hv2, hb2, hz2⟩
        replace hv1 := hv1.below hb2
        obtain ⟨A2, k2, rfl, hI2⟩ := hv2.inner hMB (by have := HML.out; omega)
        rw [HML.out]
        clear hv2
        replace hX1 := hX1.below hb2 (box_lt hX1)
        replace hb2 := below_next0 hb1 hb2
        clear hb1 HPut HRPut c0 c1 c2 c3 c4
        have ha2 := ha.below hb2
        have hb22 := hb.below hb2
        go_wp2_with fail
        refine (get_both a w2 ha2).mono ?_
        rintro e w3 ⟨X, f3, rfl, hX, hXg, hb3⟩
        have HX := Lib.hid hX
        clear hX
        simp only [Meta.val, Meta.cells]
        replace hv1 := hv1.below hb3
        replace hI2 := hI2.below hb3
        replace ha2 := ha2.below hb3
        replace hb22 := hb22.below hb3
        replace hX1 := hX1.below hb3 (box_lt hX1)
        replace hb3 := below_next0 hb2 hb3
        go_upto_region 6 with (fail)
        change Code.wp _ _ _ _ (w3.alloc (.cells X.cells 116))
        have hY4 := MetaBox.new w3 X
        have hq := below_alloc0 (Below.refl w3.heap.size w3) (.cells X.cells 116)
        replace hv1 := hv1.below hq
        replace hI2 := hI2.below hq
        replace ha2 := ha2.below hq
        replace hb22 := hb22.below hq
        replace hX1 := hX1.below hq (box_lt hX1)
        replace hb3 := below_next0 hb3 hq
        clear hb2 hq
        generalize w3.heap.size = z3 at *
        generalize w3.alloc (.cells X.cells 116) = w4 at *
        go_wp2_with fail
        refine (rget_both a.A a.c a.l w4 (by omega) ha2.lies ha2.bytes ha2.le).mono ?_
        rintro e w5 ⟨X', f5, rfl, hX', hXg', hb5⟩
        obtain ⟨rfl, rfl⟩ : f5 = f3 ∧ X' = X := by
          rcases HX.out with ⟨x, y, z⟩ | ⟨x, y, z⟩ <;> rcases hX' with ⟨x', y', z'⟩ | ⟨x', y', z'⟩
          · exact ⟨by omega, by rw [z, z']⟩
          · exact absurd y y'
          · exact absurd y' y
          · exact ⟨by omega, by rw [z, z']⟩
        clear hX' HX hXg'
        simp only [Meta.val, Meta.cells]
        replace hv1 := hv1.below hb5
        replace hI2 := hI2.below hb5
        replace ha2 := ha2.below hb5
        replace hb22 := hb22.below hb5
        replace hX1 := hX1.below hb5 (box_lt hX1)
        replace hY4 := hY4.below hb5 (box_lt hY4)
        replace hb5 := below_next0 hb3 hb5
        go_upto_region 7 with (fail)
        change Code.wp _ _ _ _ (w5.alloc (.cells X'.cells 116))
        have hY6 := MetaBox.new w5 X'
        have hq := below_alloc0 (Below.refl w5.heap.size w5) (.cells X'.cells 116)
        replace hv1 := hv1.below hq
        replace hI2 := hI2.below hq
        replace ha2 := ha2.below hq
        replace hb22 := hb22.below hq
        replace hX1 := hX1.below hq (box_lt hX1)
        replace hY4 := hY4.below hq (box_lt hY4)
        replace hb5 := below_next0 hb5 hq
        clear hb3 hq
        generalize w5.heap.size = z5 at *
        generalize w5.alloc (.cells X'.cells 116) = w6 at *
        go_wp2_with fail
        refine (lent_any a.A a.c a.l w6 (by omega) ha2.lies ha2.nil).mono ?_
        rintro e w7 ⟨rfl, hL7, hb7⟩
        replace hv1 := hv1.below hb7
        replace hI2 := hI2.below hb7
        replace ha2 := ha2.below hb7
        replace hb22 := hb22.below hb7
        replace hX1 := hX1.below hb7 (box_lt hX1)
        replace hY4 := hY4.below hb7 (box_lt hY4)
        replace hY6 := hY6.below hb7 (box_lt hY6)
        replace hb7 := below_next0 hb5 hb7
        clear hb5
        generalize w6.heap.size = z6 at *
        have hLI := hL7.inner ha.bytes (by omega)
        have hbest := best_any _ b w7 hLI hb22
        simp only at hbest
        have hrbest := fun w ha hb => rbest_any a b w ha hb (by omega) (by omega)
        generalize bestOf a.l b.l = Z at *
        generalize bestErr a.l b.l = zz at *
        simp only [Meta.val, Meta.cells] at hbest hrbest
        have HBest := Lib.hid hbest
        have HRBest := Lib.hid hrbest
        clear hbest hrbest
        go_wp2_with fail
        refine HBest.out.mono ?_
        rintro e w8 ⟨rfl, hb8⟩
        replace hv1 := hv1.below hb8
        replace hI2 := hI2.below hb8
        replace ha2 := ha2.below hb8
        replace hb22 := hb22.below hb8
        replace hL7 := hL7.below hb8
        replace hLI := hLI.below hb8
        replace hX1 := hX1.below hb8 (box_lt hX1)
        replace hY4 := hY4.below hb8 (box_lt hY4)
        replace hY6 := hY6.below hb8 (box_lt hY6)
        replace hb8 := below_next0 hb7 hb8
        clear hb7 HBest
        go_upto_region 9 with (fail)
        change Code.wp _ _ _ _ (w8.alloc (.cells Z.cells 116))
        have hZ9 := MetaBox.new w8 Z
        have hq := below_alloc0 (Below.refl w8.heap.size w8) (.cells Z.cells 116)
        replace hv1 := hv1.below hq
        replace hI2 := hI2.below hq
        replace ha2 := ha2.below hq
        replace hb22 := hb22.below hq
        replace hL7 := hL7.below hq
        replace hLI := hLI.below hq
        replace hX1 := hX1.below hq (box_lt hX1)
        replace hY4 := hY4.below hq (box_lt hY4)
        replace hY6 := hY6.below hq (box_lt hY6)
        replace hb8 := below_next0 hb8 hq
        clear hq
        generalize w8.heap.size = z8 at *
        generalize w8.alloc (.cells Z.cells 116) = w9 at *
        go_wp2_with fail
        refine (whole_any z6 a.A a.c a.l w9 (by omega) hL7 ha2.lies).mono ?_
        rintro e w10 ⟨rfl, hb10⟩
        replace hv1 := hv1.below hb10
        replace hI2 := hI2.below hb10
        replace ha2 := ha2.below hb10
        replace hb22 := hb22.below hb10
        replace hL7 := hL7.below hb10
        replace hLI := hLI.below hb10
        replace hX1 := hX1.below hb10 (box_lt hX1)
        replace hY4 := hY4.below hb10 (box_lt hY4)
        replace hY6 := hY6.below hb10 (box_lt hY6)
        replace hZ9 := hZ9.below hb10 (box_lt hZ9)
        replace hb10 := below_next0 hb8 hb10
        clear hb8
        go_wp2_with fail
        refine (HRBest.out _ ha2 hb22).mono ?_
        rintro e w11 ⟨rfl, hb11⟩
        replace hv1 := hv1.below hb11
        replace hI2 := hI2.below hb11
        replace ha2 := ha2.below hb11
        replace hb22 := hb22.below hb11
        replace hL7 := hL7.below hb11
        replace hLI := hLI.below hb11
        replace hX1 := hX1.below hb11 (box_lt hX1)
        replace hY4 := hY4.below hb11 (box_lt hY4)
        replace hY6 := hY6.below hb11 (box_lt hY6)
        replace hZ9 := hZ9.below hb11 (box_lt hZ9)
        replace hb11 := below_next0 hb10 hb11
        clear hb10 HRBest
        go_upto_region 11 with (fail)
        change Code.wp _ _ _ _ (w11.alloc (.cells Z.cells 116))
        have hZ12 := MetaBox.new w11 Z
        have hq := below_alloc0 (Below.refl w11.heap.size w11) (.cells Z.cells 116)
        replace hv1 := hv1.below hq
        replace hI2 := hI2.below hq
        replace ha2 := ha2.below hq
        replace hb22 := hb22.below hq
        replace hL7 := hL7.below hq
        replace hLI := hLI.below hq
        replace hX1 := hX1.below hq (box_lt hX1)
        replace hY4 := hY4.below hq (box_lt hY4)
        replace hY6 := hY6.below hq (box_lt hY6)
        replace hZ9 := hZ9.below hq (box_lt hZ9)
        replace hb11 := below_next0 hb11 hq
        clear hq
        generalize w11.heap.size = z11 at *
        generalize w11.alloc (.cells Z.cells 116) = w12 at *
        obtain ⟨A1, k1, rfl, hA1, hn1, hc1, hm1⟩ := hv1.at
        rw [HML.out]
        clear hA1
        have hcx := fun w => neq_meta X' X' w
        have hcz := fun w => neq_meta Z Z w
        simp only [decide_true, Bool.not_true, Meta.val, Meta.cells] at hcx hcz
        go_wp2_with fail
        refine (known08_any _).mono ?_
        rintro e w13 ⟨rfl, hb13⟩
        replace hv1 := hv1.below hb13
        replace hI2 := hI2.below hb13
        replace ha2 := ha2.below hb13
        replace hb22 := hb22.below hb13
        replace hL7 := hL7.below hb13
        replace hLI := hLI.below hb13
        replace hX1 := hX1.below hb13 (box_lt hX1)
        replace hY4 := hY4.below hb13 (box_lt hY4)
        replace hY6 := hY6.below hb13 (box_lt hY6)
        replace hZ9 := hZ9.below hb13 (box_lt hZ9)
        replace hZ12 := hZ12.below hb13 (box_lt hZ12)
        replace hb13 := below_next0 hb11 hb13
        clear hb11
        have hsm := same_any A1 A2 k1 k2 T T w13 (by have := HML.out; omega) (by have := HML.out; omega) (by obtain ⟨A', c', e', h', _⟩ := hv1.at; cases e'; exact h') hI2.lies
        rw [HML.out, decide_eq_true rfl] at hsm
        have HSM := Lib.hid hsm
        clear hsm
        go_wp2_with fail
        refine HSM.out.mono ?_
        rintro e w14 ⟨rfl, hb14⟩
        replace hv1 := hv1.below hb14
        replace hI2 := hI2.below hb14
        replace ha2 := ha2.below hb14
        replace hb22 := hb22.below hb14
        replace hL7 := hL7.below hb14
        replace hLI := hLI.below hb14
        replace hX1 := hX1.below hb14 (box_lt hX1)
        replace hY4 := hY4.below hb14 (box_lt hY4)
        replace hY6 := hY6.below hb14 (box_lt hY6)
        replace hZ9 := hZ9.below hb14 (box_lt hZ9)
        replace hZ12 := hZ12.below hb14 (box_lt hZ12)
        replace hb14 := below_next0 hb13 hb14
        clear hb13 HSM
        have q1 := meta_cells hY4
        have q2 := meta_cells hY6
        have q3 := meta_cells hZ9
        have q4 := meta_cells hZ12
        obtain ⟨x0, x1, x2, x3, x4⟩ := q1
        obtain ⟨y0, y1, y2, y3, y4⟩ := q2
        obtain ⟨u0, u1, u2, u3, u4⟩ := q3
        obtain ⟨r0, r1, r2, r3, r4⟩ := q4
        go_upto_region 15 with (fail)
        clear x0 x1 x2 x3 x4 y0 y1 y2 y3 y4 u0 u1 u2 u3 u4 r0 r1 r2 r3 r4 hcx hcz
        go_wp2_with (at_builtin; go_loud (refine buf_append (w0 := w14) rfl (.tmp 108) (.tmp 109) rfl Try.underlying23 Try.info5 (w.heap.size + 1) (.slice A1 128 k1) T rfl (by rw [← HML.out]; exact hv1) b.A b.l.length b.c b.l rfl rfl hb22.lies hb22.nil (by have := HML.out; omega) (box_lt hX1) (Below.refl _ _) ?_); intro v15 w15 hv15 hb15 hz15)
        replace hX1 := hX1.below hb15 (Nat.lt_succ_self _)
        have hb16 := hb14.trans (hb15.mono (Nat.le_succ _))
        obtain ⟨A15, k15, rfl, hI15⟩ := hv15.inner (hMB.append hb.bytes) (by rw [List.length_append]; have := HML.out; omega)
        clear hv15 hb14 hb15
        have hget := get_yes ⟨A15, T ++ b.l, k15⟩ w15 hI15 HIM.out
        rw [show (⟨A15, T ++ b.l, k15⟩ : Inner).l = T ++ b.l from rfl, HMO.out] at hget
        simp only [Meta.val, Meta.cells] at hget
        have HG := Lib.hid hget
        clear hget
        go_wp2_with fail
        refine HG.out.mono ?_
        rintro e w17 ⟨rfl, hb17⟩
        replace hX1 := hX1.below hb17 (box_lt hX1)
        replace hb17 := below_next0 hb16 hb17
        have hc2 := fun w => eql_meta m m w
        simp only [decide_true, Meta.val, Meta.cells] at hc2
        go_upto_region 16 with (fail)
        change Code.wp _ _ _ _ (w17.alloc (.cells m.cells 116))
        have hN := MetaBox.new w17 m
        replace hX1 := hX1.old (.cells m.cells 116)
        have hbf := below_alloc0 hb17 (.cells m.cells 116)
        generalize w17.heap.size = z17 at *
        generalize w17.alloc (.cells m.cells 116) = w18 at *
        obtain ⟨c0, c1, c2, c3, c4⟩ := meta_cells hX1
        obtain ⟨d0, d1, d2, d3, d4⟩ := meta_cells hN
        go_wp2_with fail
        go_ret
        exact ⟨rfl, hbf⟩
      · have hput := fun w => put_no m w hm hmay
        have hrput := fun w => rput_no m w hm hmay
        simp only [Meta.val] at hput hrput ⊢
        have HPut := Lib.hid hput
        have HRPut := Lib.hid hrput
        clear hput hrput
        go_enter Try.func18, Try.ntmps18
        go_upto_region 3 with (fail)
        change Code.wp _ _ _ _ (w.alloc (.cells m.cells 116))
        have hz0 : (w.alloc (.cells m.cells 116)).heap.size = w.heap.size + 1 := by simp
        generalize w.alloc (.cells m.cells 116) = w0 at *
        obtain ⟨c0, c1, c2, c3, c4⟩ := meta_cells hX0
        go_wp2_with fail
        refine (HPut.out _).mono ?_
        rintro e w1 ⟨rfl, hb1⟩
        have hX1 := hX0.below hb1 (box_lt hX0)
        replace hb1 := below_next0 hb0 hb1
        clear hX0 hb0 c0 c1 c2 c3 c4
        obtain ⟨c0, c1, c2, c3, c4⟩ := meta_cells hX1
        go_wp2_with fail
        refine (HRPut.out _).mono ?_
        rintro e w2 ⟨rfl, hb2⟩
        replace hX1 := hX1.below hb2 (box_lt hX1)
        replace hb2 := below_next0 hb1 hb2
        clear hb1 HPut HRPut c0 c1 c2 c3 c4
        have ha2 := ha.below hb2
        have hb22 := hb.below hb2
        go_wp2_with fail
        refine (get_both a w2 ha2).mono ?_
        rintro e w3 ⟨X, f3, rfl, hX, hXg, hb3⟩
        have HX := Lib.hid hX
        clear hX
        simp only [Meta.val, Meta.cells]
        replace ha2 := ha2.below hb3
        replace hb22 := hb22.below hb3
        replace hX1 := hX1.below hb3 (box_lt hX1)
        replace hb3 := below_next0 hb2 hb3
        go_upto_region 6 with (fail)
        change Code.wp _ _ _ _ (w3.alloc (.cells X.cells 116))
        have hY4 := MetaBox.new w3 X
        have hq := below_alloc0 (Below.refl w3.heap.size w3) (.cells X.cells 116)
        replace ha2 := ha2.below hq
        replace hb22 := hb22.below hq
        replace hX1 := hX1.below hq (box_lt hX1)
        replace hb3 := below_next0 hb3 hq
        clear hb2 hq
        generalize w3.heap.size = z3 at *
        generalize w3.alloc (.cells X.cells 116) = w4 at *
        go_wp2_with fail
        refine (rget_both a.A a.c a.l w4 (by omega) ha2.lies ha2.bytes ha2.le).mono ?_
        rintro e w5 ⟨X', f5, rfl, hX', hXg', hb5⟩
        obtain ⟨rfl, rfl⟩ : f5 = f3 ∧ X' = X := by
          rcases HX.out with ⟨x, y, z⟩ | ⟨x, y, z⟩ <;> rcases hX' with ⟨x', y', z'⟩ | ⟨x', y', z'⟩
          · exact ⟨by omega, by rw [z, z']⟩
          · exact absurd y y'
          · exact absurd y' y
          · exact ⟨by omega, by rw [z, z']⟩
        clear hX' HX hXg'
        simp only [Meta.val, Meta.cells]
        replace ha2 := ha2.below hb5
        replace hb22 := hb22.below hb5
        replace hX1 := hX1.below hb5 (box_lt hX1)
        replace hY4 := hY4.below hb5 (box_lt hY4)
        replace hb5 := below_next0 hb3 hb5
        go_upto_region 7 with (fail)
        change Code.wp _ _ _ _ (w5.alloc (.cells X'.cells 116))
        have hY6 := MetaBox.new w5 X'
        have hq := below_alloc0 (Below.refl w5.heap.size w5) (.cells X'.cells 116)
        replace ha2 := ha2.below hq
        replace hb22 := hb22.below hq
        replace hX1 := hX1.below hq (box_lt hX1)
        replace hY4 := hY4.below hq (box_lt hY4)
        replace hb5 := below_next0 hb5 hq
        clear hb3 hq
        generalize w5.heap.size = z5 at *
        generalize w5.alloc (.cells X'.cells 116) = w6 at *
        go_wp2_with fail
        refine (lent_any a.A a.c a.l w6 (by omega) ha2.lies ha2.nil).mono ?_
        rintro e w7 ⟨rfl, hL7, hb7⟩
        replace ha2 := ha2.below hb7
        replace hb22 := hb22.below hb7
        replace hX1 := hX1.below hb7 (box_lt hX1)
        replace hY4 := hY4.below hb7 (box_lt hY4)
        replace hY6 := hY6.below hb7 (box_lt hY6)
        replace hb7 := below_next0 hb5 hb7
        clear hb5
        generalize w6.heap.size = z6 at *
        have hLI := hL7.inner ha.bytes (by omega)
        have hbest := best_any _ b w7 hLI hb22
        simp only at hbest
        have hrbest := fun w ha hb => rbest_any a b w ha hb (by omega) (by omega)
        generalize bestOf a.l b.l = Z at *
        generalize bestErr a.l b.l = zz at *
        simp only [Meta.val, Meta.cells] at hbest hrbest
        have HBest := Lib.hid hbest
        have HRBest := Lib.hid hrbest
        clear hbest hrbest
        go_wp2_with fail
        refine HBest.out.mono ?_
        rintro e w8 ⟨rfl, hb8⟩
        replace ha2 := ha2.below hb8
        replace hb22 := hb22.below hb8
        replace hL7 := hL7.below hb8
        replace hLI := hLI.below hb8
        replace hX1 := hX1.below hb8 (box_lt hX1)
        replace hY4 := hY4.below hb8 (box_lt hY4)
        replace hY6 := hY6.below hb8 (box_lt hY6)
        replace hb8 := below_next0 hb7 hb8
        clear hb7 HBest
        go_upto_region 9 with (fail)
        change Code.wp _ _ _ _ (w8.alloc (.cells Z.cells 116))
        have hZ9 := MetaBox.new w8 Z
        have hq := below_alloc0 (Below.refl w8.heap.size w8) (.cells Z.cells 116)
        replace ha2 := ha2.below hq
        replace hb22 := hb22.below hq
        replace hL7 := hL7.below hq
        replace hLI := hLI.below hq
        replace hX1 := hX1.below hq (box_lt hX1)
        replace hY4 := hY4.below hq (box_lt hY4)
        replace hY6 := hY6.below hq (box_lt hY6)
        replace hb8 := below_next0 hb8 hq
        clear hq
        generalize w8.heap.size = z8 at *
        generalize w8.alloc (.cells Z.cells 116) = w9 at *
        go_wp2_with fail
        refine (whole_any z6 a.A a.c a.l w9 (by omega) hL7 ha2.lies).mono ?_
        rintro e w10 ⟨rfl, hb10⟩
        replace ha2 := ha2.below hb10
        replace hb22 := hb22.below hb10
        replace hL7 := hL7.below hb10
        replace hLI := hLI.below hb10
        replace hX1 := hX1.below hb10 (box_lt hX1)
        replace hY4 := hY4.below hb10 (box_lt hY4)
        replace hY6 := hY6.below hb10 (box_lt hY6)
        replace hZ9 := hZ9.below hb10 (box_lt hZ9)
        replace hb10 := below_next0 hb8 hb10
        clear hb8
        go_wp2_with fail
        refine (HRBest.out _ ha2 hb22).mono ?_
        rintro e w11 ⟨rfl, hb11⟩
        replace ha2 := ha2.below hb11
        replace hb22 := hb22.below hb11
        replace hL7 := hL7.below hb11
        replace hLI := hLI.below hb11
        replace hX1 := hX1.below hb11 (box_lt hX1)
        replace hY4 := hY4.below hb11 (box_lt hY4)
        replace hY6 := hY6.below hb11 (box_lt hY6)
        replace hZ9 := hZ9.below hb11 (box_lt hZ9)
        replace hb11 := below_next0 hb10 hb11
        clear hb10 HRBest
        go_upto_region 11 with (fail)
        change Code.wp _ _ _ _ (w11.alloc (.cells Z.cells 116))
        have hZ12 := MetaBox.new w11 Z
        have hq := below_alloc0 (Below.refl w11.heap.size w11) (.cells Z.cells 116)
        replace ha2 := ha2.below hq
        replace hb22 := hb22.below hq
        replace hL7 := hL7.below hq
        replace hLI := hLI.below hq
        replace hX1 := hX1.below hq (box_lt hX1)
        replace hY4 := hY4.below hq (box_lt hY4)
        replace hY6 := hY6.below hq (box_lt hY6)
        replace hZ9 := hZ9.below hq (box_lt hZ9)
        replace hb11 := below_next0 hb11 hq
        clear hq
        generalize w11.heap.size = z11 at *
        generalize w11.alloc (.cells Z.cells 116) = w12 at *
        have hcx := fun w => neq_meta X' X' w
        have hcz := fun w => neq_meta Z Z w
        simp only [decide_true, Bool.not_true, Meta.val, Meta.cells] at hcx hcz
        go_wp2_with fail
        refine (known08_any _).mono ?_
        rintro e w13 ⟨rfl, hb13⟩
        replace ha2 := ha2.below hb13
        replace hb22 := hb22.below hb13
        replace hL7 := hL7.below hb13
        replace hLI := hLI.below hb13
        replace hX1 := hX1.below hb13 (box_lt hX1)
        replace hY4 := hY4.below hb13 (box_lt hY4)
        replace hY6 := hY6.below hb13 (box_lt hY6)
        replace hZ9 := hZ9.below hb13 (box_lt hZ9)
        replace hZ12 := hZ12.below hb13 (box_lt hZ12)
        replace hb13 := below_next0 hb11 hb13
        clear hb11
        have hsm := same_any none none 0 0 [] [] w13 (by simp) (by simp) (At.nil _ _) (At.nil _ _)
        rw [List.length_nil, decide_eq_true rfl] at hsm
        have HSM := Lib.hid hsm
        clear hsm
        go_wp2_with fail
        refine HSM.out.mono ?_
        rintro e w14 ⟨rfl, hb14⟩
        replace ha2 := ha2.below hb14
        replace hb22 := hb22.below hb14
        replace hL7 := hL7.below hb14
        replace hLI := hLI.below hb14
        replace hX1 := hX1.below hb14 (box_lt hX1)
        replace hY4 := hY4.below hb14 (box_lt hY4)
        replace hY6 := hY6.below hb14 (box_lt hY6)
        replace hZ9 := hZ9.below hb14 (box_lt hZ9)
        replace hZ12 := hZ12.below hb14 (box_lt hZ12)
        replace hb14 := below_next0 hb13 hb14
        clear hb13 HSM
        have q1 := meta_cells hY4
        have q2 := meta_cells hY6
        have q3 := meta_cells hZ9
        have q4 := meta_cells hZ12
        obtain ⟨x0, x1, x2, x3, x4⟩ := q1
        obtain ⟨y0, y1, y2, y3, y4⟩ := q2
        obtain ⟨u0, u1, u2, u3, u4⟩ := q3
        obtain ⟨r0, r1, r2, r3, r4⟩ := q4
        go_wp2_with fail
        go_ret
        exact ⟨rfl, hb14⟩
    · simp only [Meta.val]
      go_enter Try.func18, Try.ntmps18
      go_wp2_with fail
      go_ret
      exact ⟨rfl, below_alloc0 (Below.refl _ _) _⟩
  · simp only [Meta.val]
    go_enter Try.func18, Try.ntmps18
    go_wp2_with fail
    go_ret
    exact ⟨rfl, below_alloc0 (Below.refl _ _) _⟩
end Go.Proofs.Ytfbjjblgcgjndaa
