/- Walk of DiskAlone. -/
import Derived.Test.YtfbjjblgcgjndaaKnown7
import Derived.Test.YtfbjjblgcgjndaaMuch
import Derived.Test.YtfbjjblgcgjndaaLoad
import Derived.Test.YtfbjjblgcgjndaaWriteA
set_option linter.unusedVariables false
set_option linter.unusedSimpArgs false
namespace Go.Proofs.Ytfbjjblgcgjndaa
open Go.RowKit

theorem load_small {img : List Nat} : (Dsk.load img).cache = [] ∧ (Dsk.load img).dark = false ∧ (Dsk.load img).n 1 = 0 ∧ (Dsk.load img).n 2 = 0 ∧ (Dsk.load img).n 3 = 0 := ⟨rfl, rfl, rfl, rfl, rfl⟩
set_option maxRecDepth 100000 in
set_option maxHeartbeats 8000000 in
theorem diskAlone_any (r : Inner) (s : Acts) (w : World) (hr : r.Ok w) (hs : s.Ok w) :
    Calls Try.prog 15 #[.slice r.A r.l.length r.c, .slice s.A s.l.length s.c] w fun e w' => e = .returned (.bool true) ∧ Below w.heap.size w w' := by
  by_cases hbig : r.l.length ≤ 20000 ∧ s.l.length ≤ 60
  · obtain ⟨hb1, hb2⟩ := hbig
    have HMU := Lib.hid (much_any 20 s w (by omega) hs)
    have HR := Lib.hid hr
    have HSO := Lib.hid hs
    clear hr hs
    go_enter Try.func15, Try.ntmps15
    go_wp2_with fail
    refine HMU.out.mono ?_
    rintro e w1 ⟨b, rfl, hbn, hb01⟩
    cases b with
    | true =>
      clear hbn
      go_wp2_with fail
      refine (known07_any w1).mono ?_
      rintro e w2 ⟨rfl, hb2'⟩
      have hbf := below_next0 hb01 hb2'
      go_wp2
      go_ret
      exact ⟨rfl, hbf⟩
    | false =>
      clear hbn
      go_wp2_with fail
      refine (known07_any w1).mono ?_
      rintro e w2 ⟨rfl, hb2'⟩
      have hb02 := below_next0 hb01 hb2'
      clear hb01 hb2'
      go_wp2_with fail
      by_cases hok : r.l.length % 1024 = 0 ∧ 1 ≤ r.l.length / 1024
      · refine (load_yes r w2 (HR.out.below hb02) (r.l.length / 1024) (by omega) hok.2 (by omega)).mono ?_
        rintro e w3 ⟨pd, S, rfl, hd, hb3, hm0, _, _⟩
        have HM0 := Lib.hid hm0
        have hb03 := below_next0 hb02 hb3
        replace hd : DG w.heap.size w3 pd (Dsk.load r.l) S := ⟨hd.disk.lift hb02.size, fun g hg => ⟨Nat.le_trans hb02.size (hd.lt g hg).1, (hd.lt g hg).2⟩⟩
        clear hok hb02 hb3 hm0
        go_wp2_with fail
        refine (dg_newl 3 w3 hb03.size (by omega) (by omega)).mono ?_
        rintro e w4 ⟨pc, Sc4, rfl, hdc4, ht4, hb4⟩
        have hpcd4 := ht4 S hd.top
        have hb04 := below_next0 hb03 hb4
        have hdd4 := hd.below hb4
        clear hb03 hd hb4 ht4
        have HD0 := Lib.hid hdd4
        have HC0 := Lib.hid hdc4
        have HP0 := Lib.hid hpcd4
        have HB0 := Lib.hid hb04
        clear hdd4 hdc4 hpcd4 hb04
        go_wp2_with fail
        go_loopw [9] (fun i wr => ∃ k : Nat, k ≤ s.l.length ∧ i = .int .i64 k ∧ (∃ C T, DG w.heap.size wr pd (Dsk.load r.l) S ∧ DG w.heap.size wr pc C T ∧ Aside wr T S ∧ Small C k) ∧ Below w.heap.size w wr) (fun i _ => s.l.length - (intOf i).toNat)
        case atStart => exact ⟨0, by omega, rfl, ⟨_, _, HD0.out, HC0.out, HP0.out, Small.new 3⟩, HB0.out⟩
        case round =>
          clear HD0 HC0 HP0 HB0
          obtain ⟨k, hk, rfl, ⟨C, T, hd, hc, hp, hsm⟩, hb⟩ := hrel
          have HSM := Lib.hid hsm
          clear hsm
          by_cases hlt : k < s.l.length
          · obtain ⟨a, ha, hmem⟩ := act_mem hlt
            have hok := HSO.out.all a hmem
            obtain ⟨ab, ao, hA, hcell⟩ := act_cell (HSO.out.lies.below hb) k a ha
            have c0 : wr.cell? ⟨ab, ao + k * 5, none⟩ = some (.int .u8 (a.kind : Int)) := hcell 0 (by omega)
            have c1 : wr.cell? ⟨ab, ao + k * 5 + 1, none⟩ = some (.int .i64 a.num) := hcell 1 (by omega)
            have c2 : wr.cell? ⟨ab, ao + k * 5 + 2, none⟩ = some (.int .i64 a.of_) := hcell 2 (by omega)
            have c3 : wr.cell? ⟨ab, ao + k * 5 + 3, none⟩ = some (.slice a.data.A a.data.l.length a.data.c) := hcell 3 (by omega)
            have c4 : wr.cell? ⟨ab, ao + k * 5 + 4, none⟩ = some (.slice a.keep.A a.keep.l.length a.keep.c) := hcell 4 (by omega)
            have hkd := hok.kind
            have HOK := Lib.hid hok
            have h3 : (k : Int) < (s.l.length : Int) := by omega
            rw [hA]
            generalize a.kind = kd at *
            clear hcell hok ha hmem
            have HA := Lib.hid hA
            clear hA
            rcases (show kd % 9 = 0 ∨ kd % 9 = 1 ∨ kd % 9 = 2 ∨ kd % 9 = 3 ∨ kd % 9 = 4 ∨ kd % 9 = 5 ∨ kd % 9 = 6 ∨ kd % 9 = 7 ∨ kd % 9 = 8 by omega) with hv | hv | hv | hv | hv | hv | hv | hv | hv
            · have g1 : ((kd : Int) % 9 == 1) = false := by simp; omega
              have k1 : ¬ (kd : Int) % 9 = 1 := by omega
              have g2 : ((kd : Int) % 9 == 2) = false := by simp; omega
              have k2 : ¬ (kd : Int) % 9 = 2 := by omega
              have g3 : ((kd : Int) % 9 == 3) = false := by simp; omega
              have k3 : ¬ (kd : Int) % 9 = 3 := by omega
              have g4 : ((kd : Int) % 9 == 4) = false := by simp; omega
              have k4 : ¬ (kd : Int) % 9 = 4 := by omega
              have g7 : ((kd : Int) % 9 == 7) = false := by simp; omega
              have k7 : ¬ (kd : Int) % 9 = 7 := by omega
              have g8 : ((kd : Int) % 9 == 8) = false := by simp; omega
              have k8 : ¬ (kd : Int) % 9 = 8 := by omega
              clear hv
              have HDX := Lib.hid hd
              have HCX := Lib.hid hc
              have HPX := Lib.hid hp
              have HBX := Lib.hid hb
              clear hd hc hp hb
              go_wp2_with fail
              case roundEnd => exact ⟨⟨k + 1, by omega, by go_num, ⟨_, _, HDX.out, HCX.out, HPX.out, HSM.out.mono (by omega)⟩, HBX.out⟩, by simp only [intOf]; omega⟩
            · have g1 : ((kd : Int) % 9 == 1) = true := by simp; omega
              have k1 :  (kd : Int) % 9 = 1 := by omega
              have g2 : ((kd : Int) % 9 == 2) = false := by simp; omega
              have k2 : ¬ (kd : Int) % 9 = 2 := by omega
              have g3 : ((kd : Int) % 9 == 3) = false := by simp; omega
              have k3 : ¬ (kd : Int) % 9 = 3 := by omega
              have g4 : ((kd : Int) % 9 == 4) = false := by simp; omega
              have k4 : ¬ (kd : Int) % 9 = 4 := by omega
              have g7 : ((kd : Int) % 9 == 7) = false := by simp; omega
              have k7 : ¬ (kd : Int) % 9 = 7 := by omega
              have g8 : ((kd : Int) % 9 == 8) = false := by simp; omega
              have k8 : ¬ (kd : Int) % 9 = 8 := by omega
              clear hv
              go_wp2_with fail
              have hbr : Below wr.heap.size wr wr.drew := below_drew0 (Below.refl _ wr)
              have hd1 := hd.below hbr
              have hc1 := hc.below hbr
              have hp1 := hp.up hbr.size
              have hbd := below_next0 hb hbr
              clear hd hc hp hb hbr
              go_still_tail 11, (by kernel_rfl)
              change wpList _ _ _ _ _ wr.drew
              go_wp2_with fail
              refine (dg_writea hc1 a.num a.data HOK.out.data hbd (Nat.le_refl _) (HSM.out.c (by omega)) (HSM.out.m (by omega) 2)).mono ?_
              rintro e w21 ⟨he, Sc21, hdc21, hg21, hc21⟩
              obtain ⟨q21, rfl⟩ : ∃ q : Nat, e = .returned (.int .u16 (q : Nat)) := ⟨_, he⟩
              clear he
              have hb021 := hc1.after hbd hc21
              have hdd21 := hd1.chg hp1 hc21
              have hpcd21 := hp1.now hg21 hc21.size
              clear hc1 hbd hd1 hp1 hc21 hg21
              have HDX := Lib.hid hdd21
              have HCX := Lib.hid hdc21
              have HPX := Lib.hid hpcd21
              have HBX := Lib.hid hb021
              clear hdd21 hdc21 hpcd21 hb021
              go_wp2_with fail
              case roundEnd => exact ⟨⟨k + 1, by omega, by go_num, ⟨_, _, HDX.out, HCX.out, HPX.out, HSM.out.write _ _⟩, HBX.out⟩, by simp only [intOf]; omega⟩
            · have g1 : ((kd : Int) % 9 == 1) = false := by simp; omega
              have k1 : ¬ (kd : Int) % 9 = 1 := by omega
              have g2 : ((kd : Int) % 9 == 2) = true := by simp; omega
              have k2 :  (kd : Int) % 9 = 2 := by omega
              have g3 : ((kd : Int) % 9 == 3) = false := by simp; omega
              have k3 : ¬ (kd : Int) % 9 = 3 := by omega
              have g4 : ((kd : Int) % 9 == 4) = false := by simp; omega
              have k4 : ¬ (kd : Int) % 9 = 4 := by omega
              have g7 : ((kd : Int) % 9 == 7) = false := by simp; omega
              have k7 : ¬ (kd : Int) % 9 = 7 := by omega
              have g8 : ((kd : Int) % 9 == 8) = false := by simp; omega
              have k8 : ¬ (kd : Int) % 9 = 8 := by omega
              clear hv
              go_wp2_with fail
              have hbr : Below wr.heap.size wr wr.drew := below_drew0 (Below.refl _ wr)
              have hd1 := hd.below hbr
              have hc1 := hc.below hbr
              have hp1 := hp.up hbr.size
              have hbd := below_next0 hb hbr
              clear hd hc hp hb hbr
              go_still_tail 11, (by kernel_rfl)
              change wpList _ _ _ _ _ wr.drew
              go_wp2_with fail
              refine (dg_writea hc1 a.num a.data HOK.out.data hbd (Nat.le_refl _) (HSM.out.c (by omega)) (HSM.out.m (by omega) 2)).mono ?_
              rintro e w21 ⟨he, Sc21, hdc21, hg21, hc21⟩
              obtain ⟨q21, rfl⟩ : ∃ q : Nat, e = .returned (.int .u16 (q : Nat)) := ⟨_, he⟩
              clear he
              have hb021 := hc1.after hbd hc21
              have hdd21 := hd1.chg hp1 hc21
              have hpcd21 := hp1.now hg21 hc21.size
              clear hc1 hbd hd1 hp1 hc21 hg21
              have HDX := Lib.hid hdd21
              have HCX := Lib.hid hdc21
              have HPX := Lib.hid hpcd21
              have HBX := Lib.hid hb021
              clear hdd21 hdc21 hpcd21 hb021
              go_wp2_with fail
              case roundEnd => exact ⟨⟨k + 1, by omega, by go_num, ⟨_, _, HDX.out, HCX.out, HPX.out, HSM.out.write _ _⟩, HBX.out⟩, by simp only [intOf]; omega⟩
            · have g1 : ((kd : Int) % 9 == 1) = false := by simp; omega
              have k1 : ¬ (kd : Int) % 9 = 1 := by omega
              have g2 : ((kd : Int) % 9 == 2) = false := by simp; omega
              have k2 : ¬ (kd : Int) % 9 = 2 := by omega
              have g3 : ((kd : Int) % 9 == 3) = true := by simp; omega
              have k3 :  (kd : Int) % 9 = 3 := by omega
              have g4 : ((kd : Int) % 9 == 4) = false := by simp; omega
              have k4 : ¬ (kd : Int) % 9 = 4 := by omega
              have g7 : ((kd : Int) % 9 == 7) = false := by simp; omega
              have k7 : ¬ (kd : Int) % 9 = 7 := by omega
              have g8 : ((kd : Int) % 9 == 8) = false := by simp; omega
              have k8 : ¬ (kd : Int) % 9 = 8 := by omega
              clear hv
              go_wp2_with fail
              refine (dg_sync hc hc.new_n (HSM.out.c (by omega)) (HSM.out.m (by omega) 3)).mono ?_
              rintro e w21 ⟨he, Sc21, hdc21, hg21, hc21⟩
              obtain ⟨q21, rfl⟩ : ∃ q : Nat, e = .returned (.int .u16 (q : Nat)) := ⟨_, he⟩
              clear he
              have hb021 := hc.after hb hc21
              have hdd21 := hd.chg hp hc21
              have hpcd21 := hp.now hg21 hc21.size
              clear hc hb hd hp hc21 hg21
              have HDX := Lib.hid hdd21
              have HCX := Lib.hid hdc21
              have HPX := Lib.hid hpcd21
              have HBX := Lib.hid hb021
              clear hdd21 hdc21 hpcd21 hb021
              go_wp2_with fail
              case roundEnd => exact ⟨⟨k + 1, by omega, by go_num, ⟨_, _, HDX.out, HCX.out, HPX.out, HSM.out.sync⟩, HBX.out⟩, by simp only [intOf]; omega⟩
            · have g1 : ((kd : Int) % 9 == 1) = false := by simp; omega
              have k1 : ¬ (kd : Int) % 9 = 1 := by omega
              have g2 : ((kd : Int) % 9 == 2) = false := by simp; omega
              have k2 : ¬ (kd : Int) % 9 = 2 := by omega
              have g3 : ((kd : Int) % 9 == 3) = false := by simp; omega
              have k3 : ¬ (kd : Int) % 9 = 3 := by omega
              have g4 : ((kd : Int) % 9 == 4) = true := by simp; omega
              have k4 :  (kd : Int) % 9 = 4 := by omega
              have g7 : ((kd : Int) % 9 == 7) = false := by simp; omega
              have k7 : ¬ (kd : Int) % 9 = 7 := by omega
              have g8 : ((kd : Int) % 9 == 8) = false := by simp; omega
              have k8 : ¬ (kd : Int) % 9 = 8 := by omega
              clear hv
              go_wp2_with fail
              refine (dg_cut hc hc.new_n a.keep.A a.keep.c a.keep.l (HSM.out.c (by omega)) (fun w' hc' => HOK.out.keep.lies.below (hc.after hb hc'))).mono ?_
              rintro e w21 ⟨rfl, Sc21, hdc21, hg21, hc21⟩
              have hb021 := hc.after hb hc21
              have hdd21 := hd.chg hp hc21
              have hpcd21 := hp.now hg21 hc21.size
              clear hc hb hd hp hc21 hg21
              have HDX := Lib.hid hdd21
              have HCX := Lib.hid hdc21
              have HPX := Lib.hid hpcd21
              have HBX := Lib.hid hb021
              clear hdd21 hdc21 hpcd21 hb021
              go_wp2_with fail
              case roundEnd => exact ⟨⟨k + 1, by omega, by go_num, ⟨_, _, HDX.out, HCX.out, HPX.out, (HSM.out.cut a.keep.l).mono (by omega)⟩, HBX.out⟩, by simp only [intOf]; omega⟩
            · have g1 : ((kd : Int) % 9 == 1) = false := by simp; omega
              have k1 : ¬ (kd : Int) % 9 = 1 := by omega
              have g2 : ((kd : Int) % 9 == 2) = false := by simp; omega
              have k2 : ¬ (kd : Int) % 9 = 2 := by omega
              have g3 : ((kd : Int) % 9 == 3) = false := by simp; omega
              have k3 : ¬ (kd : Int) % 9 = 3 := by omega
              have g4 : ((kd : Int) % 9 == 4) = false := by simp; omega
              have k4 : ¬ (kd : Int) % 9 = 4 := by omega
              have g7 : ((kd : Int) % 9 == 7) = false := by simp; omega
              have k7 : ¬ (kd : Int) % 9 = 7 := by omega
              have g8 : ((kd : Int) % 9 == 8) = false := by simp; omega
              have k8 : ¬ (kd : Int) % 9 = 8 := by omega
              clear hv
              have HDX := Lib.hid hd
              have HCX := Lib.hid hc
              have HPX := Lib.hid hp
              have HBX := Lib.hid hb
              clear hd hc hp hb
              go_wp2_with fail
              case roundEnd => exact ⟨⟨k + 1, by omega, by go_num, ⟨_, _, HDX.out, HCX.out, HPX.out, HSM.out.mono (by omega)⟩, HBX.out⟩, by simp only [intOf]; omega⟩
            · have g1 : ((kd : Int) % 9 == 1) = false := by simp; omega
              have k1 : ¬ (kd : Int) % 9 = 1 := by omega
              have g2 : ((kd : Int) % 9 == 2) = false := by simp; omega
              have k2 : ¬ (kd : Int) % 9 = 2 := by omega
              have g3 : ((kd : Int) % 9 == 3) = false := by simp; omega
              have k3 : ¬ (kd : Int) % 9 = 3 := by omega
              have g4 : ((kd : Int) % 9 == 4) = false := by simp; omega
              have k4 : ¬ (kd : Int) % 9 = 4 := by omega
              have g7 : ((kd : Int) % 9 == 7) = false := by simp; omega
              have k7 : ¬ (kd : Int) % 9 = 7 := by omega
              have g8 : ((kd : Int) % 9 == 8) = false := by simp; omega
              have k8 : ¬ (kd : Int) % 9 = 8 := by omega
              clear hv
              have HDX := Lib.hid hd
              have HCX := Lib.hid hc
              have HPX := Lib.hid hp
              have HBX := Lib.hid hb
              clear hd hc hp hb
              go_wp2_with fail
              case roundEnd => exact ⟨⟨k + 1, by omega, by go_num, ⟨_, _, HDX.out, HCX.out, HPX.out, HSM.out.mono (by omega)⟩, HBX.out⟩, by simp only [intOf]; omega⟩
            · have g1 : ((kd : Int) % 9 == 1) = false := by simp; omega
              have k1 : ¬ (kd : Int) % 9 = 1 := by omega
              have g2 : ((kd : Int) % 9 == 2) = false := by simp; omega
              have k2 : ¬ (kd : Int) % 9 = 2 := by omega
              have g3 : ((kd : Int) % 9 == 3) = false := by simp; omega
              have k3 : ¬ (kd : Int) % 9 = 3 := by omega
              have g4 : ((kd : Int) % 9 == 4) = false := by simp; omega
              have k4 : ¬ (kd : Int) % 9 = 4 := by omega
              have g7 : ((kd : Int) % 9 == 7) = true := by simp; omega
              have k7 :  (kd : Int) % 9 = 7 := by omega
              have g8 : ((kd : Int) % 9 == 8) = false := by simp; omega
              have k8 : ¬ (kd : Int) % 9 = 8 := by omega
              clear hv
              go_wp2_with fail
              refine (dg_trip hc hc.new_n a.num HOK.out.num.2).mono ?_
              rintro e w21 ⟨he, Sc21, hdc21, hg21, hc21⟩
              obtain ⟨q21, rfl⟩ : ∃ q : Nat, e = .returned (.int .u16 (q : Nat)) := ⟨_, he⟩
              clear he
              have hb021 := hc.after hb hc21
              have hdd21 := hd.chg hp hc21
              have hpcd21 := hp.now hg21 hc21.size
              clear hc hb hd hp hc21 hg21
              have HDX := Lib.hid hdd21
              have HCX := Lib.hid hdc21
              have HPX := Lib.hid hpcd21
              have HBX := Lib.hid hb021
              clear hdd21 hdc21 hpcd21 hb021
              go_wp2_with fail
              case roundEnd => exact ⟨⟨k + 1, by omega, by go_num, ⟨_, _, HDX.out, HCX.out, HPX.out, (HSM.out.setTrip a.num).mono (by omega)⟩, HBX.out⟩, by simp only [intOf]; omega⟩
            · have g1 : ((kd : Int) % 9 == 1) = false := by simp; omega
              have k1 : ¬ (kd : Int) % 9 = 1 := by omega
              have g2 : ((kd : Int) % 9 == 2) = false := by simp; omega
              have k2 : ¬ (kd : Int) % 9 = 2 := by omega
              have g3 : ((kd : Int) % 9 == 3) = false := by simp; omega
              have k3 : ¬ (kd : Int) % 9 = 3 := by omega
              have g4 : ((kd : Int) % 9 == 4) = false := by simp; omega
              have k4 : ¬ (kd : Int) % 9 = 4 := by omega
              have g7 : ((kd : Int) % 9 == 7) = false := by simp; omega
              have k7 : ¬ (kd : Int) % 9 = 7 := by omega
              have g8 : ((kd : Int) % 9 == 8) = true := by simp; omega
              have k8 :  (kd : Int) % 9 = 8 := by omega
              clear hv
              go_wp2_with fail
              have hbr : Below wr.heap.size wr wr.drew := below_drew0 (Below.refl _ wr)
              have hd1 := hd.below hbr
              have hc1 := hc.below hbr
              have hp1 := hp.up hbr.size
              have hbd := below_next0 hb hbr
              clear hd hc hp hb hbr
              go_still_tail 11, (by kernel_rfl)
              change wpList _ _ _ _ _ wr.drew
              go_wp2_with fail
              refine (dg_fail hc1 hc1.new_n a.of_ a.num HOK.out.num.2).mono ?_
              rintro e w21 ⟨he, Sc21, hdc21, hg21, hc21⟩
              obtain ⟨q21, rfl⟩ : ∃ q : Nat, e = .returned (.int .u16 (q : Nat)) := ⟨_, he⟩
              clear he
              have hb021 := hc1.after hbd hc21
              have hdd21 := hd1.chg hp1 hc21
              have hpcd21 := hp1.now hg21 hc21.size
              clear hc1 hbd hd1 hp1 hc21 hg21
              have HDX := Lib.hid hdd21
              have HCX := Lib.hid hdc21
              have HPX := Lib.hid hpcd21
              have HBX := Lib.hid hb021
              clear hdd21 hdc21 hpcd21 hb021
              go_wp2_with fail
              case roundEnd => exact ⟨⟨k + 1, by omega, by go_num, ⟨_, _, HDX.out, HCX.out, HPX.out, (HSM.out.setFail a.of_ a.num).mono (by omega)⟩, HBX.out⟩, by simp only [intOf]; omega⟩
          · obtain rfl : k = s.l.length := by omega
            clear hc hp HSM
            obtain ⟨FI, hFI⟩ : ∃ F, F = (Dsk.load r.l).last.flatten := ⟨_, rfl⟩
            have HFI := Lib.hid hFI
            have HFE := Lib.hid (show FI = r.l by rw [hFI]; exact Dsk.load_flat _ HM0.out)
            clear hFI
            go_wp2_with fail
            refine (dg_dark hd).mono ?_
            rintro e w41 ⟨he, rfl⟩
            rw [load_small.2.1] at he
            subst he
            go_wp2_with fail
            refine (dg_counts hd).mono ?_
            rintro e w41 ⟨he, hb41⟩
            rw [load_small.2.2.1, load_small.2.2.2.1, load_small.2.2.2.2] at he
            subst he
            have hb041 := below_next0 hb hb41
            have hdd41 := hd.below hb41
            clear hb hd hb41
            go_wp2_with fail
            refine (dg_pending hdd41 (by rw [load_small.1]; exact Nat.zero_le _)).mono ?_
            rintro e w42 ⟨Ap, cp, he, hrp42, hb42⟩
            rw [show ((Dsk.load r.l).cache.map (·.1)).length = 0 from rfl] at he
            subst he
            have hb042 := below_next0 hb041 hb42
            have hdd42 := hdd41.below hb42
            clear hb041 hdd41 hb42
            go_wp2_with fail
            refine (dg_imagel hdd42 HFI.out).mono ?_
            rintro e w43 ⟨Ai, ci, rfl, hri43, hb43⟩
            have haid43 := (Aside.row hri43 hdd42.top).up (Nat.le_refl _)
            have hb043 := below_next0 hb042 hb43
            have hdd43 := hdd42.below hb43
            clear hb042 hdd42 hb43
            go_wp2_with fail
            refine (same_eq _ _ _ _ _ _ FI r.l w43 rfl rfl (by rw [HFE.out]; omega) HFE.out (buf_at hri43).2 (HR.out.below hb043).lies).mono ?_
            rintro e w44 ⟨rfl, hb44⟩
            have hb044 := below_next0 hb043 hb44
            have hdd44 := hdd43.below hb44
            have hri44 := own_below hri43 hb44
            have haid44 := haid43.up hb44.size
            clear hb043 hdd43 hri43 haid43 hb44
            go_wp2
            go_ret
            exact ⟨rfl, hb044⟩
      · refine (load_no r w2 (by omega) (by omega)).mono ?_
        rintro e w3 ⟨rfl, hb3⟩
        have hb03 := below_next0 hb02 hb3
        clear hok hb02 hb3
        go_wp2_with fail
        refine (dg_newl 3 w3 (Nat.le_refl _) (by omega) (by omega)).mono ?_
        rintro e w4 ⟨pc, T, rfl, hc, _, hb4⟩
        have hbf := below_next0 hb03 hb4
        go_wp2
        go_ret
        exact ⟨rfl, hbf⟩
  · clear hr hs
    rcases (show ¬ r.l.length ≤ 20000 ∨ (r.l.length ≤ 20000 ∧ ¬ s.l.length ≤ 60) by omega) with h1 | ⟨h1, h2⟩
    all_goals
      go_enter Try.func15, Try.ntmps15
      go_wp2_with fail
      refine (known07_any w).mono ?_
      rintro e w2 ⟨rfl, hb2'⟩
      go_wp2
      go_ret
      exact ⟨rfl, hb2'⟩
end Go.Proofs.Ytfbjjblgcgjndaa
