/- Walk of PageSeals. -/
import Derived.Test.YtfbjjblgcgjndaaSealCall
import Derived.Test.YtfbjjblgcgjndaaStates
import Derived.Test.YtfbjjblgcgjndaaBook3
set_option linter.unusedVariables false
set_option linter.unusedSimpArgs false
namespace Go.Proofs.Ytfbjjblgcgjndaa
open Go.RowKit

theorem Buf.chg {n0 : Nat} {w w' : World} {v : Value} {l : List Nat} {F : Nat → Prop} (h : Buf n0 w v l) (hc : Chg F w w') (hF : ∀ g, blk v g → ¬ F g) : Buf n0 w' v l := own_chg h hc hF
theorem Buf.lt {n0 : Nat} {w : World} {v : Value} {l : List Nat} (h : Buf n0 w v l) {g : Nat} (hg : blk v g) : n0 ≤ g ∧ g < w.heap.size := row_lt h hg
theorem Buf.lies {n0 : Nat} {w : World} {A : Option Addr} {n c : Nat} {l : List Nat} (h : Buf n0 w (.slice A n c) l) : At w A (ns .u8 l) := by
  obtain ⟨A', c', e, hA, _⟩ := h.at
  cases e; exact hA
theorem Inner.Ok.chg {w w' : World} {r : Inner} {F : Nat → Prop} (h : r.Ok w) (hc : Chg F w w') (hF : ∀ g, g < w.heap.size → ¬ F g) : r.Ok w' := by
  refine ⟨fun hn => ?_, h.nil, h.le, h.small, h.bytes⟩
  obtain ⟨b, o, e, hr⟩ := h.lies hn
  exact ⟨b, o, e, fun j v hv => hc.cell (hr j v hv) (hF b (World.block_lt_of_cell? w _ (hr j v hv)))⟩

set_option maxRecDepth 100000 in
set_option maxHeartbeats 4000000 in
theorem pageSeals_any (k n : Nat) (r : Inner) (w : World) (hr : r.Ok w) (hk : k < 256) (hn : n < 4294967296) :
    Calls Try.prog 16 #[.int .u8 (k : Int), .int .u32 (n : Int), .slice r.A r.l.length r.c] w fun e w' => e = .returned (.bool true) ∧ Below w.heap.size w w' := by
  by_cases hbig : r.l.length ≤ 20000
  · have hLl := sealOut_length k n r.l
    have hLb := sealOut_bytes k n r.l hk hr.bytes
    have hsc := fun A c w hA hn' => seal_call k n A c r.l w hk hn hr.bytes hA hn'
    have hrc := fun A c w hA hn' => rseal_call k n A c r.l w hk hn hr.bytes hA hn'
    generalize sealOut k n r.l = L at *
    generalize sealErr k r.l = E at *
    have HSC := Lib.hid hsc
    have HRC := Lib.hid hrc
    clear hsc hrc
    go_enter Try.func16, Try.ntmps16
    go_wp2_with fail
    refine (lent_any r.A r.c r.l w (by omega) hr.lies hr.nil).mono ?_
    rintro e w1 ⟨rfl, hL1, hb1⟩
    have hz1 := Lib.hid hb1.size
    have hs0 := Lib.hid hL1.lt
    go_wp2_with fail
    refine (HSC.out _ _ w1 hL1.at (by simp)).mono ?_
    rintro e w2 ⟨A2, c2, rfl, hv2, hb2⟩
    have hL2 := hL1.below hb2
    have hb02 := below_next0 hb1 hb2
    have hz2 := Lib.hid hb2.size
    have HA2 := Lib.hid (fun g (hg : blk (.slice A2 L.length c2) g) => hv2.lt hg)
    go_wp2_with fail
    refine (HSC.out _ _ w2 hL2.at (by simp)).mono ?_
    rintro e w3 ⟨A3, c3, rfl, hv3, hb3⟩
    have hL3 := hL2.below hb3
    have hv23 := hv2.below hb3
    have hb03 := below_next0 hb02 hb3
    have hz3 := Lib.hid hb3.size
    have HA3 := Lib.hid (fun g (hg : blk (.slice A3 L.length c3) g) => hv3.lt hg)
    clear hL1 hL2 hv2 hb1 hb2 hb02
    have hr3 := hr.below hb03
    go_wp2_with fail
    refine (whole_any w.heap.size r.A r.c r.l w3 (by omega) hL3 hr3.lies).mono ?_
    rintro e w4 ⟨rfl, hb4⟩
    have hL4 := hL3.below hb4
    have hv24 := hv23.below hb4
    have hv34 := hv3.below hb4
    have hb04 := below_next0 hb03 hb4
    have hz4 := Lib.hid hb4.size
    clear hL3 hv23 hv3 hb03 hb3 hr3
    go_wp2_with fail
    refine (spoil_any w.heap.size r.l.length _ w4 (by omega) hL4 (by simp [ns])).mono ?_
    rintro e w5 ⟨rfl, hg5⟩
    have hc5 : Chg (fun g => g = w.heap.size) w4 w5 := .of_grown hg5 (fun g hg => by cases hg; rfl)
    have hv25 := hv24.chg hc5 (fun g hg e => by have := (hv24.lt hg).1; have := hs0.out; omega)
    have hv35 := hv34.chg hc5 (fun g hg e => by have := (hv34.lt hg).1; have := hs0.out; have := hz2.out; omega)
    have hb05 : Below w.heap.size w w5 := hb04.trans (hc5.below hb04.size (fun g hg => by omega))
    have hz5 := Lib.hid hc5.size
    clear hL4 hv24 hv34 hb04 hg5 hc5
    have hr5 := hr.below hb05
    go_wp2_with fail
    refine (HRC.out _ _ w5 hr5.lies hr5.nil).mono ?_
    rintro e w6 ⟨A6, c6, rfl, hv6, hb6⟩
    have hv26 := hv25.below hb6
    have hv36 := hv35.below hb6
    have hb06 := below_next0 hb05 hb6
    have hz6 := Lib.hid hb6.size
    have HA6 := Lib.hid (fun g (hg : blk (.slice A6 L.length c6) g) => hv6.lt hg)
    clear hv25 hv35 hb05 hr5
    go_upto_region 10 with (fail)
    change Code.wp _ _ _ _ (w6.alloc (.cells (lst (fun _ => nilV) 23).toArray 67))
    have hq := below_alloc0 (Below.refl w6.heap.size w6) (.cells (lst (fun _ => nilV) 23).toArray 67)
    have hK7 := BookOk.new w.heap.size w6 hb06.size
    have hv27 := hv26.below hq
    have hv37 := hv36.below hq
    have hv67 := hv6.below hq
    have hb07 := below_next0 hb06 hq
    have hz7 := Lib.hid hq.size
    clear hv26 hv36 hv6 hb06 hq
    generalize hw7 : w6.alloc (.cells (lst (fun _ => nilV) 23).toArray 67) = w7 at *
    clear hw7
    generalize hzz : w6.heap.size = z at *
    have HZZ := Lib.hid hzz
    clear hzz
    have hord : w.heap.size ≤ w1.heap.size ∧ w1.heap.size ≤ w2.heap.size ∧ w2.heap.size ≤ w3.heap.size ∧ w3.heap.size ≤ z ∧ z ≤ w7.heap.size := by
      have := hz1.out; have := hz2.out; have := hz3.out; have := hz4.out; have := hz5.out; have := hz6.out; have := hz7.out; have := HZZ.out
      omega
    have HO := Lib.hid hord
    clear hord
    go_wp2_with fail
    refine (bytes_put A2 L.length c2 (ns .u8 L) hK7 (own_base_mono hv27 (by have := HO.out; omega)) (fun g hg h => ?_) (by omega) hb07.size (by omega)).mono ?_
    · have := (HA2.out g hg).2; have := HO.out
      rcases h with h | h
      · omega
      · exact h
    rintro e w8 ⟨rfl, hK8, hc8, hb8⟩
    have hv28 := hv27.chg hc8 (fun g hg h => by have := (HA2.out g hg).2; have := HO.out; omega)
    have hv38 := hv37.chg hc8 (fun g hg h => by have := (HA3.out g hg).2; have := HO.out; omega)
    have hv68 := hv67.chg hc8 (fun g hg h => by have := (HA6.out g hg).2; have := HZZ.out; omega)
    have hb08 := hb07.trans hb8
    clear hv27 hv37 hv67 hc8 hK7 hb07 hb8
    have hz8 := Lib.hid hb08.size
    go_wp2_with fail
    refine (bytes_put A3 L.length c3 (ns .u8 L) hK8 (own_base_mono hv38 (by have := HO.out; omega)) (fun g hg h => ?_) (by omega) hb08.size (by omega)).mono ?_
    · have := (HA3.out g hg); have := HO.out
      rcases h with (h | h) | h | h
      · omega
      · omega
      · exact h
      · have := (HA2.out g h).2; omega
    rintro e w9 ⟨rfl, hK9, hc9, hb9⟩
    have hnm : ∀ g, g < z → ¬ More (fun g => g = z) w7.heap.size w8.heap.size g := by
      rintro g hg (h | h)
      · omega
      · have := HO.out; omega
    have hv29 := hv28.chg hc9 (fun g hg => hnm g (by have := (HA2.out g hg).2; have := HO.out; omega))
    have hv39 := hv38.chg hc9 (fun g hg => hnm g (by have := (HA3.out g hg).2; have := HO.out; omega))
    have hv69 := hv68.chg hc9 (fun g hg => hnm g (by have := (HA6.out g hg).2; have := HZZ.out; omega))
    have hb09 := hb08.trans hb9
    clear hv28 hv38 hv68 hc9 hK8 hb08 hb9 hnm
    go_wp2_with fail
    refine (known08_any _).mono ?_
    rintro e w10 ⟨rfl, hb10⟩
    replace hK9 := hK9.below hb10
    have hv2a := hv29.below hb10
    have hv3a := hv39.below hb10
    have hv6a := hv69.below hb10
    replace hb10 := below_next0 hb09 hb10
    clear hv29 hv39 hv69 hb09
    have hsm := same_any A2 A6 c2 c6 L L w10 (by omega) (by omega) hv2a.lies hv6a.lies
    rw [decide_eq_true rfl] at hsm
    have HS1 := Lib.hid hsm
    clear hsm
    go_wp2_with fail
    refine HS1.out.mono ?_
    rintro e w11 ⟨rfl, hb11⟩
    replace hK9 := hK9.below hb11
    have hv3b := hv3a.below hb11
    have hv6b := hv6a.below hb11
    replace hb11 := below_next0 hb10 hb11
    clear hv2a hv3a hv6a hb10 HS1
    have hsm := same_any A3 A6 c3 c6 L L w11 (by omega) (by omega) hv3b.lies hv6b.lies
    rw [decide_eq_true rfl] at hsm
    have HS2 := Lib.hid hsm
    clear hsm
    go_wp2_with fail
    refine HS2.out.mono ?_
    rintro e w12 ⟨rfl, hb12⟩
    replace hK9 := hK9.below hb12
    replace hb12 := below_next0 hb11 hb12
    go_wp2_with fail
    refine (own_ok hK9 hb12.size (by omega)).mono ?_
    rintro e w13 ⟨rfl, _, hb13⟩
    have hbf := hb12.trans hb13
    go_wp2
    go_ret
    exact ⟨rfl, hbf⟩
  · go_enter Try.func16, Try.ntmps16
    go_wp2_with fail
    go_ret
    exact ⟨rfl, Below.refl _ _⟩
end Go.Proofs.Ytfbjjblgcgjndaa
