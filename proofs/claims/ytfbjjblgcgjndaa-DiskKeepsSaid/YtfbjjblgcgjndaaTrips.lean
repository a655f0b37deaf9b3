/- Walk of DiskTrips. -/
import Derived.Test.YtfbjjblgcgjndaaKnown7
set_option linter.unusedVariables false
set_option linter.unusedSimpArgs false
namespace Go.Proofs.Ytfbjjblgcgjndaa
open Go.RowKit

theorem trip0 (m t : Nat) : ((Dsk.new m).setTrip (t : Int)).1 = 0 := by unfold Dsk.setTrip; rw [if_neg (by omega)]; rfl
theorem tmod_nat (x m z : Nat) (h : z = x % m) : (x : Int).tmod (m : Int) = (z : Int) := by
  rw [Int.tmod_eq_emod_of_nonneg (Int.natCast_nonneg x), h, Int.natCast_emod]
theorem wrap64_nat (x : Nat) (h : x < 65536) : wrap64 (x : Int) = (x : Int) := by unfold wrap64; omega
theorem wrapi_nat (x : Nat) (h : x < 65536) : IntKind.i64.wrap (x : Int) = (x : Int) := by rw [IntKind.wrap_i64]; omega
theorem byte_of (x y : Nat) (h : x < 65536) (hy : y = x / 256) : IntKind.u16.wrap ((x : Int) / 256) = (y : Int) := by rw [IntKind.wrap_u16]; omega
theorem byte_u8 (y : Nat) (h : y < 256) : IntKind.u8.wrap (y : Int) = (y : Int) := by rw [IntKind.wrap_u8]; omega
theorem byte_mod (y : Nat) (h : y < 256) : (y : Int) % 256 = (y : Int) := by omega
theorem mod_nat (x m z : Nat) (h : z = x % m) : (x : Int) % (m : Int) = (z : Int) := by rw [h, Int.natCast_emod]
set_option maxRecDepth 100000 in
set_option maxHeartbeats 4000000 in
theorem diskTrips_any (o n : Nat) (A : Option Addr) (c : Nat) (l : List Nat) (w : World) (ho : o < 256) (hn : n < 256) (hA : At w A (ns .u16 l)) (hl : ∀ x ∈ l, x < 65536) (hbl : l.length ≤ 140737488355328) :
    Calls Try.prog 10 #[.int .u8 (o : Int), .int .u8 (n : Int), .slice A l.length c] w fun e w' => e = .returned (.bool true) ∧ Below w.heap.size w w' := by
  have HAT := Lib.hid hA
  have HL := Lib.hid hl
  have HNO := Lib.hid ho
  have HNN := Lib.hid hn
  obtain ⟨m, hm⟩ : ∃ m : Nat, m = o % 6 + 1 := ⟨_, rfl⟩
  have hm1 : IntKind.i64.wrap ((o : Int) % 6 + 1) = (m : Int) := by rw [IntKind.wrap_i64]; omega
  have hm2 : (o : Int) % 6 + 1 = (m : Int) := by omega
  obtain ⟨t, ht⟩ : ∃ t : Nat, t = n % 40 := ⟨_, rfl⟩
  have ht1 : (n : Int) % 40 = (t : Int) := by omega
  have HM := Lib.hid (show 1 ≤ m ∧ m ≤ 6 by omega)
  have HT := Lib.hid (show t < 40 by omega)
  clear hA hl hm ht
  go_enter Try.func10, Try.ntmps10
  go_wp2_with fail
  refine (dg_newl m w (Nat.le_refl _) (by have := HM.out; omega) (by have := HM.out; omega)).mono ?_
  rintro e w1 ⟨pd, Sd1, rfl, hdd1, ht1, hb1⟩
  have hb01 := hb1
  clear hb1 ht1
  go_wp2_with fail
  refine (known07_any w1).mono ?_
  rintro e w2 ⟨rfl, hb2⟩
  have hb02 := below_next0 hb01 hb2
  have hdd2 := hdd1.below hb2
  clear hb01 hdd1 hb2
  have HST := Lib.hid (TripOk.start t m)
  go_wp2_with fail
  refine (dg_trip hdd2 hdd2.new_n (t : Int) (by omega)).mono ?_
  rintro e w3 ⟨he, Sd3, hdd3, hg3, hc3⟩
  rw [show ((Dsk.new m).setTrip (t : Int)).1 = 0 from trip0 m t] at he
  subst he
  replace hdd3 : DG w.heap.size w3 pd ((Dsk.new m).setTrip (t : Int)).2 Sd3 := hdd3
  have hb03 := hdd2.after hb02 hc3
  clear hdd2 hb02 hc3 hg3
  have HDD := Lib.hid hdd3
  have HBB := Lib.hid hb03
  clear hdd3 hb03
  go_wp2_with fail
  go_loopw [12, 13] (fun dn i wr => ∃ k : Nat, k ≤ 100 ∧ i = .int .i64 k ∧ (∃ j : Nat, dn = .int .i64 (j : Int) ∧ j = min k t) ∧ (∃ D S, DG w.heap.size wr pd D S ∧ TripOk D t k m) ∧ Below w.heap.size w wr) (fun _ i _ => 100 - (intOf i).toNat)
  case atStart => exact ⟨0, by omega, rfl, ⟨0, rfl, by rw [Nat.zero_min]⟩, ⟨_, _, HDD.out, HST.out⟩, HBB.out⟩
  case round =>
    obtain ⟨k, hk, rfl, ⟨j, rfl, hj⟩, ⟨D, S, hd, htr⟩, hb⟩ := hrel
    have HJ := Lib.hid hj
    clear hj
    by_cases hlt : k < l.length ∧ k < 100
    · obtain ⟨h1, h2⟩ := hlt
      obtain ⟨gl, ol, rfl, hcell⟩ := (HAT.out).num k h1
      have hx : nth l k < 65536 := HL.out _ (nth_mem l k h1)
      have hS := fun W' (h : Below w.heap.size w W') => (h.cell (p := ⟨gl, ol + k, none⟩) (World.block_lt_of_cell? w _ hcell)).trans hcell
      generalize nth l k = x at *
      have HSS := Lib.hid hS
      have HX := Lib.hid hx
      have h3 : (k : Int) < (l.length : Int) := by omega
      have h4 : (k : Int) < 100 := by omega
      have c0 := hS wr hb
      have HD := Lib.hid hd
      have HTR := Lib.hid htr
      have HB := Lib.hid hb
      clear hS hd htr hb hcell hx
      go_wp2_with fail
      obtain ⟨y, hy⟩ : ∃ y, y = x / 256 := ⟨_, rfl⟩
      obtain ⟨z, hz⟩ : ∃ z, z = x % m := ⟨_, rfl⟩
      have hq1 : IntKind.u16.wrap ((x : Int) / 256) = (y : Int) := byte_of x y HX.out hy
      have hq2 : IntKind.u8.wrap (y : Int) = (y : Int) := byte_u8 y (by have := HX.out; omega)
      have hq3 : (y : Int) % 256 = (y : Int) := byte_mod y (by have := HX.out; omega)
      have hzi : (x : Int) % (m : Int) = (z : Int) := mod_nat x m z hz
      have HY := Lib.hid (show y < 256 by have := HX.out; omega)
      have HZ := Lib.hid (show z < m by rw [hz]; exact Nat.mod_lt _ (by have := HM.out; omega))
      have hm3 : 0 < (m : Int) := by have := HM.out; omega
      have hm4 : ((m : Int) == 0) = false := by simp; omega
      have hm5 : (m : Int) ≠ 0 := by omega
      have hm6 : ¬ m = 0 := by omega
      have hw6 : wrap64 (x : Int) = (x : Int) := wrap64_nat x HX.out
      have hw7 : IntKind.i64.wrap (x : Int) = (x : Int) := wrapi_nat x HX.out
      have hz6 : (x : Int).tmod (m : Int) = (z : Int) := tmod_nat x m z hz
      have hbr : Below wr.heap.size wr wr.drew := below_drew0 (Below.refl _ wr)
      have HD1 := Lib.hid (HD.out.below hbr)
      have HB1 := Lib.hid (below_next0 HB.out hbr)
      have HCN := Lib.hid (show D.cache.length ≤ 1000000000000 ∧ D.n 2 ≤ 4611686018427387904 by obtain ⟨e1, e2⟩ := HTR.out.count; rw [e1, e2]; have := Nat.min_le_left k t; constructor <;> omega)
      obtain ⟨b, hb⟩ : ∃ b, b = List.replicate 128 y := ⟨_, rfl⟩
      have HBE := Lib.hid hb
      have HBL := Lib.hid (show b.length = 128 by rw [hb, List.length_replicate])
      have HBB2 := Lib.hid (show Bytes b by rw [hb]; exact rep_bytes _ _ HY.out)
      clear hb
      have HRES := Lib.hid (HTR.out.step z HZ.out b HBL.out)
      have HRD := Lib.hid HRES.out.2.dark
      clear hy hz hbr
      rcases (show k < t ∨ t ≤ k by omega) with hkt | hkt
      all_goals
       have hres : ∃ r : Nat, (D.write (z : Int) b).1 = r ∧ ((k < t ∧ r = 0) ∨ (t ≤ k ∧ r = 4)) := by
         rw [HRES.out.1]
         by_cases h : k < t
         · exact ⟨0, by rw [if_pos h], .inl ⟨h, rfl⟩⟩
         · exact ⟨4, by rw [if_neg h], .inr ⟨by omega, rfl⟩⟩
       obtain ⟨r, hr1, hr2⟩ := hres
       have hr3 : r = if k < t then 0 else 4 := by split <;> omega
       have hdk : (D.write (z : Int) b).2.dark = !decide (k < t) := by rw [HRD.out]; by_cases h : k < t <;> simp [h] <;> omega
       have HR1 := Lib.hid hr1
       clear hr1 hr2
       first | (rw [if_pos hkt] at hr3; rw [decide_eq_true hkt] at hdk) | (rw [if_neg (by omega)] at hr3; rw [decide_eq_false (by omega)] at hdk)
       subst hr3
       have HDK := Lib.hid hdk
       clear hdk
       go_region_held3 (fun W' => W'.cell? ⟨gl, ol + k, none⟩ = some (.int .u16 (x : Int))) (first | exact c0 | exact HSS.out _ HB.out | exact HSS.out _ hbw3.out | exact HSS.out _ hbw2.out | assumption) (first | (go_at_call 49; refine (fill_any 128 y _ (by omega) HY.out).mono ?_; rintro e w4 ⟨A4, c4, rfl, hr4, hb4⟩; rw [← HBE.out] at hr4; have hbw2 := Lib.hid (below_next0 HB1.out hb4); have ha4 := Aside.row hr4 HD1.out.top; have hd4 := HD1.out.below hb4) | (go_at_call 48; refine (dg_writeb hd4 z 128 A4 c4 b hr4 ha4 HBB2.out (by have := HBL.out; omega) HCN.out.1 HCN.out.2).mono ?_; rintro e w5 ⟨he, S5, hd5, hg5, hc5⟩; rw [HR1.out] at he; subst he; have hbw3 := Lib.hid (hd4.after hbw2.out hc5)))
       have HTR2 := Lib.hid HRES.out.2
       have hj2 : j ≤ 100 := by have := HJ.out; omega
       clear c0 hq1 hq2 hq3 hzi hm3 hm4 hm5 hm6 hw6 hw7 hz6 hr4 ha4 hd4 hg5 hc5
       go_wp2_with fail
       refine (dg_dark hd5).mono ?_
       rintro e w6 ⟨he, rfl⟩
       rw [HDK.out] at he
       subst he
       have HD5 := Lib.hid hd5
       clear hd5
       go_wp2_with fail
       case roundEnd =>
         first
         | exact ⟨⟨k + 1, by omega, by go_num, ⟨j + 1, by go_num, by have := HJ.out; omega⟩, ⟨_, _, HD5.out, HTR2.out⟩, hbw3.out⟩, by simp [intOf]; omega⟩
         | exact ⟨⟨k + 1, by omega, by go_num, ⟨j, by go_num, by have := HJ.out; omega⟩, ⟨_, _, HD5.out, HTR2.out⟩, hbw3.out⟩, by simp [intOf]; omega⟩
    · have hcn := htr.count
      rw [← HJ.out] at hcn
      have HCN := Lib.hid hcn
      have HPG := Lib.hid htr.pages
      have hj2 : j ≤ 100 := by have := HJ.out; omega
      have hpl : (D.cache.map (·.1)).length = j := by rw [List.length_map]; exact HCN.out.1
      have HPL := Lib.hid hpl
      clear hcn hpl
      go_wp2_with fail
      all_goals
      refine (dg_pending hd (by have := HCN.out; omega)).mono ?_
      rintro e w21 ⟨Ap, cp, he, hrp21, hb21⟩
      rw [HPL.out] at he
      subst he
      have hb021 := below_next0 hb hb21
      have hdd21 := hd.below hb21
      clear hb hd hb21
      go_wp2_with fail
      refine (dg_counts hdd21).mono ?_
      rintro e w22 ⟨he, hb22⟩
      rw [HCN.out.2] at he
      subst he
      have hb022 := below_next0 hb021 hb22
      have hdd22 := hdd21.below hb22
      clear hb021 hdd21 hb22
      have HRE := Lib.hid htr.reads
      generalize hn1 : D.n 1 = n1 at *
      have HN1 := Lib.hid hn1
      clear hn1 htr
      generalize D.n 3 = n3 at *
      go_wp2_with fail
      obtain ⟨w23, hw23⟩ : ∃ v, w22.alloc (.cells #[.int .i64 n1, .int .i64 (j : Int), .int .i64 n3] 89) = v := ⟨_, rfl⟩
      rw [hw23]
      have hb23 : Below w22.heap.size w22 w23 := by rw [← hw23]; exact below_alloc0 (Below.refl _ _) _
      have hat23 : At w23 (some ⟨w22.heap.size, 0, none⟩) [.int .i64 n1, .int .i64 (j : Int), .int .i64 n3] := by rw [← hw23]; exact At.whole (heap_alloc_new w22 _)
      have hoff23d : ∀ a : Addr, some (⟨w22.heap.size, 0, none⟩ : Addr) = some a → ¬ S a.block := fun a e h => by cases e; exact Nat.lt_irrefl _ (hdd22.top _ h)
      have hacd23 : Aside w23 S (fun g => g = w22.heap.size) := ⟨fun g e => by rw [e, ← hw23, World.size_alloc]; omega, fun g e h => by rw [show g = w22.heap.size from e] at h; exact Nat.lt_irrefl _ (hdd22.top _ h)⟩
      have hb023 := below_next0 hb022 hb23
      have hdd23 := hdd22.below hb23
      clear hb022 hdd22 hb23 hw23
      refine (dg_cut hdd23 hdd23.new_n none 0 [] (by have := HCN.out; omega) (fun _ _ => At.nil _ _)).mono ?_
      rintro e w24 ⟨rfl, Sd24, hdd24, hg24, hc24⟩
      have hb024 := hdd23.after hb023 hc24
      have hrc24 := hat23.chg hc24 (fun a e => by cases e; exact hacd23.off _ rfl)
      have hacd24 := hacd23.now hg24 hc24.size
      clear hdd23 hb023 hat23 hacd23 hc24 hg24
      have HRD := Lib.hid ((Dsk.cut_calm D []).read 0 (by rw [Dsk.cut_pages, HPG.out]; have := HM.out; omega))
      go_wp2_with fail
      refine (dg_read hdd24 0 (by show 0 ≤ _; omega) (by show D.n 1 ≤ _; rw [HN1.out, HRE.out]; omega)).mono ?_
      rintro e w25 ⟨Ax, he, hrx25, hdd25, hc25⟩
      have hg25 := Grows.refl w24 Sd24
      rw [show (D.cut []).read 0 = _ from HRD.out] at he
      subst he
      have hb025 := hdd24.after hb024 hc25
      have haxd25 := Aside.clip (n := 0) (c := 0) hrx25 hdd24.top
      have hrc25 := hrc24.chg hc25 (fun a e => by cases e; exact hacd24.off _ rfl)
      have hacd25 := hacd24.now hg25 hc25.size
      clear hdd24 hb024 hrc24 hacd24 hc25 hg25
      have hcc : w25.cell? ⟨w22.heap.size, 1, none⟩ = some (.int .i64 (j : Int)) := by
        obtain ⟨b', o', e', hr'⟩ := hrc25 (by simp)
        cases e'
        exact hr' 1 _ rfl
      have hdkf : (((D.cut []).read 0).2.2).dark = false := by rw [show (D.cut []).read 0 = _ from HRD.out]; rfl
      have HDF := Lib.hid hdkf
      clear hdkf
      go_wp2_with fail
      refine (dg_dark hdd25).mono ?_
      rintro e w99 ⟨he, rfl⟩
      rw [HDF.out] at he
      subst he
      go_wp2
      go_ret
      exact ⟨rfl, hb025⟩
end Go.Proofs.Ytfbjjblgcgjndaa
