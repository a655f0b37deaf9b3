/- Walk of DiskFails. -/
import Derived.Test.YtfbjjblgcgjndaaTrips
import Derived.Test.YtfbjjblgcgjndaaDiskPlain3
set_option linter.unusedVariables false
set_option linter.unusedSimpArgs false
namespace Go.Proofs.Ytfbjjblgcgjndaa
open Go.RowKit

theorem fmod_nat (x m z : Nat) (h : z = x % m) : (x : Int).tmod (m : Int) = (z : Int) := tmod_nat x m z h
/-- what is known of the two disks behind k rounds -/
def TwoOk (n0 : Nat) (w : World) (p q o b k met : Nat) : Prop :=
  ∃ D C S T, DG n0 w p D S ∧ DG n0 w q C T ∧ Aside w S T ∧ FailOk D C o b met ∧ Small D k ∧ Small C k
set_option maxRecDepth 100000 in
set_option maxHeartbeats 8000000 in
theorem diskFails_any (o n : Nat) (A : Option Addr) (c : Nat) (l : List Nat) (w : World) (ho : o < 256) (hn : n < 256) (hA : At w A (ns .u16 l)) (hl : ∀ x ∈ l, x < 65536) (hbl : l.length ≤ 140737488355328) :
    Calls Try.prog 12 #[.int .u8 (o : Int), .int .u8 (n : Int), .slice A l.length c] w fun e w' => e = .returned (.bool true) ∧ Below w.heap.size w w' := by
  have HAT := Lib.hid hA
  have HL := Lib.hid hl
  have HNO := Lib.hid ho
  have HNN := Lib.hid hn
  obtain ⟨m, hm⟩ : ∃ m : Nat, m = o % 3 + 1 := ⟨_, rfl⟩
  have hm1 : IntKind.i64.wrap ((o : Int) % 3 + 1) = (m : Int) := by rw [IntKind.wrap_i64]; omega
  have hm2 : (o : Int) % 3 + 1 = (m : Int) := by omega
  obtain ⟨t, ht⟩ : ∃ t : Nat, t = n % 12 := ⟨_, rfl⟩
  have ht1 : (n : Int) % 12 = (t : Int) := by omega
  have HM := Lib.hid (show 1 ≤ m ∧ m ≤ 3 by omega)
  have HT := Lib.hid (show t < 12 by omega)
  have HST := Lib.hid (FailOk.start m t (by omega) (by omega))
  clear hA hl hm ht
  go_enter Try.func12, Try.ntmps12
  go_wp2_with fail
  refine (dg_newl 4 w (Nat.le_refl _) (by omega) (by omega)).mono ?_
  rintro e w1 ⟨pd, Sd1, rfl, hdd1, ht1, hb1⟩
  have hb01 := hb1
  clear hb1 ht1
  go_wp2_with fail
  refine (dg_newl 4 w1 hb01.size (by omega) (by omega)).mono ?_
  rintro e w2 ⟨pc, Sc2, rfl, hdc2, ht2, hb2⟩
  have hpcd2 := ht2 Sd1 hdd1.top
  have hb02 := below_next0 hb01 hb2
  have hdd2 := hdd1.below hb2
  clear hb01 hdd1 hb2 ht2
  go_wp2_with fail
  refine (known07_any w2).mono ?_
  rintro e w3 ⟨rfl, hb3⟩
  have hb03 := below_next0 hb02 hb3
  have hdd3 := hdd2.below hb3
  have hdc3 := hdc2.below hb3
  have hpcd3 := hpcd2.up hb3.size
  clear hb02 hdd2 hdc2 hpcd2 hb3
  go_wp2_with fail
  refine (dg_fail hdd3 hdd3.new_n (m : Int) (t : Int) (by omega)).mono ?_
  rintro e w4 ⟨he, Sd4, hdd4, hg4, hc4⟩
  rw [HST.out.1] at he
  subst he
  replace hdd4 : DG w.heap.size w4 pd ((Dsk.new 4).setFail (m : Int) (t : Int)).2 Sd4 := hdd4
  have hb04 := hdd3.after hb03 hc4
  have hdc4 := hdc3.chg (hpcd3.comm hdc3.top) hc4
  have hpcd4 := ((hpcd3.comm hdc3.top).now hg4 hc4.size).comm hdd4.top
  clear hdd3 hb03 hdc3 hpcd3 hc4 hg4
  have HDD : Hid (TwoOk w.heap.size w4 pd pc m t 0 0) := Lib.hid ⟨_, _, _, _, hdd4, hdc4, (hpcd4.comm hdc4.top), HST.out.2, (Small.new 4).setFail _ _, Small.new 4⟩
  have HBB := Lib.hid hb04
  clear hdd4 hdc4 hpcd4 hb04
  go_wp2_with fail
  go_loopw [13, 14] (fun me i wr => ∃ k : Nat, k ≤ 100 ∧ i = .int .i64 k ∧ (∃ met : Nat, me = .int .i64 (met : Int) ∧ met ≤ k ∧ TwoOk w.heap.size wr pd pc m t k met) ∧ Below w.heap.size w wr) (fun _ i _ => 100 - (intOf i).toNat)
  case atStart => exact ⟨0, by omega, rfl, ⟨0, rfl, by omega, HDD.out⟩, HBB.out⟩
  case round =>
    obtain ⟨k, hk, rfl, ⟨met, rfl, hmk, D, C, S, T, hd, hc, hp, hf, hsd, hsc⟩, hb⟩ := hrel
    by_cases hlt : k < l.length ∧ k < 100
    · obtain ⟨h1, h2⟩ := hlt
      obtain ⟨gl, ol, rfl, hcell⟩ := (HAT.out).num k h1
      have hx : nth l k < 65536 := HL.out _ (nth_mem l k h1)
      have hS := fun W' (h : Below w.heap.size w W') => (h.cell (p := ⟨gl, ol + k, none⟩) (World.block_lt_of_cell? w _ hcell)).trans hcell
      generalize nth l k = x at *
      have HX := Lib.hid hx
      have h3 : (k : Int) < (l.length : Int) := by omega
      have h4 : (k : Int) < 100 := by omega
      have c0 := hS wr hb
      obtain ⟨y, hy⟩ : ∃ y, y = x / 12 % 256 := ⟨_, rfl⟩
      obtain ⟨y0, hy0⟩ : ∃ y0, y0 = x / 12 := ⟨_, rfl⟩
      obtain ⟨z, hz⟩ : ∃ z, z = x / 3 % 4 := ⟨_, rfl⟩
      obtain ⟨u, hu⟩ : ∃ u, u = x % 3 + 1 := ⟨_, rfl⟩
      have HY := Lib.hid (show y < 256 by omega)
      have HZ := Lib.hid (show z < 4 by omega)
      have HU : u = 1 ∨ u = 2 ∨ u = 3 := by omega
      have hq1 : (x : Int) % 3 + 1 = (u : Int) := by omega
      have hq2 : (x : Int) / 3 % 4 = (z : Int) := by omega
      have hq3 : IntKind.u16.wrap ((x : Int) / 12) = (y0 : Int) := by rw [IntKind.wrap_u16]; omega
      have hq4 : (y0 : Int) % 256 = (y : Int) := by omega
      have hq5 : IntKind.u8.wrap (y0 : Int) = (y : Int) := by rw [IntKind.wrap_u8]; omega
      have hy256 : y < 256 := by omega
      have HSD := Lib.hid hsd
      have HSC := Lib.hid hsc
      have HF := Lib.hid hf
      have HPG := Lib.hid (show D.pages = 4 ∧ C.pages = 4 from ⟨hf.pages, by rw [← hf.pages]; unfold Dsk.pages; rw [hf.last]⟩)
      have HQ2 := Lib.hid hq2
      clear hq2
      clear hS hcell hy hy0 hz hu hsd hsc hf
      rcases HU with rfl | rfl | rfl
      · rcases (show ¬ 1 = m ∨ (1 = m ∧ met = t) ∨ (1 = m ∧ ¬ met = t) by omega) with hst | ⟨hst, hmt⟩ | ⟨hst, hmt⟩
        · have hk1 : ((1 : Int) == (m : Int)) = false := by simp; omega
          have hk2 : ¬ (1 : Int) = (m : Int) := by omega
          have HSTT := Lib.hid hst
          clear hst
          go_wp2_with fail
          refine (fill_any 1024 y wr (by omega) (by first | omega | assumption)).mono ?_
          rintro e w21 ⟨Aa, ca, rfl, hra21, hb21⟩
          have haad21 := (Aside.row hra21 hd.top).up (Nat.le_refl _)
          have haac21 := (Aside.row hra21 hc.top).up (Nat.le_refl _)
          have hb021 := below_next0 hb hb21
          have hdd21 := hd.below hb21
          have hdc21 := hc.below hb21
          have hpdc21 := hp.up hb21.size
          clear hb hd hc hp hb21
          obtain ⟨La, hEa⟩ : ∃ L, L = List.replicate 1024 y := ⟨_, rfl⟩
          rw [← hEa] at hra21
          have HLa := Lib.hid (show La.length = 1024 by rw [hEa, List.length_replicate])
          have HBa := Lib.hid (show Bytes La by rw [hEa]; exact rep_bytes _ _ (by first | omega | assumption))
          have HEa := Lib.hid hEa
          clear hEa
          have hres := HF.out.read z HZ.out
          rw [if_neg (fun e => HSTT.out e.1), if_neg HSTT.out] at hres
          rw [← HQ2.out] at hres
          have HRES := Lib.hid hres
          clear hres
          go_wp2_with fail
          with_reducible refine (dg_read hdd21 ((x : Int) / 3 % 4) (HSD.out.c (by omega)) (HSD.out.m (by omega) 1)).mono ?_
          rintro e w22 ⟨Ax, he, hrx22, hdd22, hc22⟩
          have hg22 := Grows.refl w21 S
          rw [HRES.out.1] at he
          subst he
          have hb022 := hdd21.after hb021 hc22
          have hdc22 := hdc21.chg hpdc21 hc22
          have hpdc22 := hpdc21.now hg22 hc22.size
          have haxd22 := Aside.clip (n := 0) (c := 0) hrx22 hdd21.top
          have hra22 := own_aside hra21 haad21 hc22
          have haad22 := haad21.now hg22 hc22.size
          have haac22 := haac21.up hc22.size
          clear hdd21 hb021 hdc21 hpdc21 hra21 haad21 haac21 hc22 hg22
          have HDX := Lib.hid hdd22
          have HCX := Lib.hid hdc22
          have HPX := Lib.hid hpdc22
          have HBX := Lib.hid hb022
          clear hdd22 hdc22 hpdc22 hb022
          go_wp2_with fail
          case roundEnd => exact ⟨⟨k + 1, by omega, by go_num, ⟨met, by go_num, by omega, _, _, _, _, HDX.out, HCX.out, HPX.out, HRES.out.2, HSD.out.read _, HSC.out.mono (by omega)⟩, HBX.out⟩, by simp [intOf]; omega⟩
        · have hk0 : ((1 : Int) == (m : Int)) = true := by simp; omega
          have HSTT := Lib.hid hst
          clear hst
          subst hmt
          go_wp2_with fail
          refine (fill_any 1024 y wr (by omega) (by first | omega | assumption)).mono ?_
          rintro e w21 ⟨Aa, ca, rfl, hra21, hb21⟩
          have haad21 := (Aside.row hra21 hd.top).up (Nat.le_refl _)
          have haac21 := (Aside.row hra21 hc.top).up (Nat.le_refl _)
          have hb021 := below_next0 hb hb21
          have hdd21 := hd.below hb21
          have hdc21 := hc.below hb21
          have hpdc21 := hp.up hb21.size
          clear hb hd hc hp hb21
          obtain ⟨La, hEa⟩ : ∃ L, L = List.replicate 1024 y := ⟨_, rfl⟩
          rw [← hEa] at hra21
          have HLa := Lib.hid (show La.length = 1024 by rw [hEa, List.length_replicate])
          have HBa := Lib.hid (show Bytes La by rw [hEa]; exact rep_bytes _ _ (by first | omega | assumption))
          have HEa := Lib.hid hEa
          clear hEa
          have hres := HF.out.read z HZ.out
          rw [if_pos ⟨HSTT.out, rfl⟩, if_pos HSTT.out] at hres
          rw [← HQ2.out] at hres
          have HRES := Lib.hid hres
          clear hres
          go_wp2_with fail
          with_reducible refine (dg_read hdd21 ((x : Int) / 3 % 4) (HSD.out.c (by omega)) (HSD.out.m (by omega) 1)).mono ?_
          rintro e w22 ⟨Ax, he, hrx22, hdd22, hc22⟩
          have hg22 := Grows.refl w21 S
          rw [HRES.out.1] at he
          subst he
          have hb022 := hdd21.after hb021 hc22
          have hdc22 := hdc21.chg hpdc21 hc22
          have hpdc22 := hpdc21.now hg22 hc22.size
          have haxd22 := Aside.clip (n := 0) (c := 0) hrx22 hdd21.top
          have hra22 := own_aside hra21 haad21 hc22
          have haad22 := haad21.now hg22 hc22.size
          have haac22 := haac21.up hc22.size
          clear hdd21 hb021 hdc21 hpdc21 hra21 haad21 haac21 hc22 hg22
          have HDX := Lib.hid hdd22
          have HCX := Lib.hid hdc22
          have HPX := Lib.hid hpdc22
          have HBX := Lib.hid hb022
          clear hdd22 hdc22 hpdc22 hb022
          go_wp2_with fail
          case roundEnd => exact ⟨⟨k + 1, by omega, by go_num, ⟨met + 1, by go_num, by omega, _, _, _, _, HDX.out, HCX.out, HPX.out, HRES.out.2, HSD.out.read _, HSC.out.mono (by omega)⟩, HBX.out⟩, by simp [intOf]; omega⟩
        · have hk0 : ((1 : Int) == (m : Int)) = true := by simp; omega
          have HSTT := Lib.hid hst
          clear hst
          have hk1 : ((met : Int) == (t : Int)) = false := by simp; omega
          have hk2 : ¬ (met : Int) = (t : Int) := by omega
          have HMT := Lib.hid hmt
          clear hmt
          go_wp2_with fail
          refine (fill_any 1024 y wr (by omega) (by first | omega | assumption)).mono ?_
          rintro e w21 ⟨Aa, ca, rfl, hra21, hb21⟩
          have haad21 := (Aside.row hra21 hd.top).up (Nat.le_refl _)
          have haac21 := (Aside.row hra21 hc.top).up (Nat.le_refl _)
          have hb021 := below_next0 hb hb21
          have hdd21 := hd.below hb21
          have hdc21 := hc.below hb21
          have hpdc21 := hp.up hb21.size
          clear hb hd hc hp hb21
          obtain ⟨La, hEa⟩ : ∃ L, L = List.replicate 1024 y := ⟨_, rfl⟩
          rw [← hEa] at hra21
          have HLa := Lib.hid (show La.length = 1024 by rw [hEa, List.length_replicate])
          have HBa := Lib.hid (show Bytes La by rw [hEa]; exact rep_bytes _ _ (by first | omega | assumption))
          have HEa := Lib.hid hEa
          clear hEa
          have hres := HF.out.read z HZ.out
          rw [if_neg (fun e => HMT.out e.2), if_pos HSTT.out] at hres
          rw [← HQ2.out] at hres
          have HRES := Lib.hid hres
          clear hres
          go_wp2_with fail
          with_reducible refine (dg_read hdd21 ((x : Int) / 3 % 4) (HSD.out.c (by omega)) (HSD.out.m (by omega) 1)).mono ?_
          rintro e w22 ⟨Ax, he, hrx22, hdd22, hc22⟩
          have hg22 := Grows.refl w21 S
          rw [HRES.out.1] at he
          subst he
          have hb022 := hdd21.after hb021 hc22
          have hdc22 := hdc21.chg hpdc21 hc22
          have hpdc22 := hpdc21.now hg22 hc22.size
          have haxd22 := Aside.clip (n := 0) (c := 0) hrx22 hdd21.top
          have hra22 := own_aside hra21 haad21 hc22
          have haad22 := haad21.now hg22 hc22.size
          have haac22 := haac21.up hc22.size
          clear hdd21 hb021 hdc21 hpdc21 hra21 haad21 haac21 hc22 hg22
          have HDX := Lib.hid hdd22
          have HCX := Lib.hid hdc22
          have HPX := Lib.hid hpdc22
          have HBX := Lib.hid hb022
          clear hdd22 hdc22 hpdc22 hb022
          go_wp2_with fail
          case roundEnd => exact ⟨⟨k + 1, by omega, by go_num, ⟨met + 1, by go_num, by omega, _, _, _, _, HDX.out, HCX.out, HPX.out, HRES.out.2, HSD.out.read _, HSC.out.mono (by omega)⟩, HBX.out⟩, by simp [intOf]; omega⟩
      · rcases (show ¬ 2 = m ∨ (2 = m ∧ met = t) ∨ (2 = m ∧ ¬ met = t) by omega) with hst | ⟨hst, hmt⟩ | ⟨hst, hmt⟩
        · have hk1 : ((2 : Int) == (m : Int)) = false := by simp; omega
          have hk2 : ¬ (2 : Int) = (m : Int) := by omega
          have HSTT := Lib.hid hst
          clear hst
          go_wp2_with fail
          refine (fill_any 1024 y wr (by omega) (by first | omega | assumption)).mono ?_
          rintro e w21 ⟨Aa, ca, rfl, hra21, hb21⟩
          have haad21 := (Aside.row hra21 hd.top).up (Nat.le_refl _)
          have haac21 := (Aside.row hra21 hc.top).up (Nat.le_refl _)
          have hb021 := below_next0 hb hb21
          have hdd21 := hd.below hb21
          have hdc21 := hc.below hb21
          have hpdc21 := hp.up hb21.size
          clear hb hd hc hp hb21
          obtain ⟨La, hEa⟩ : ∃ L, L = List.replicate 1024 y := ⟨_, rfl⟩
          rw [← hEa] at hra21
          have HLa := Lib.hid (show La.length = 1024 by rw [hEa, List.length_replicate])
          have HBa := Lib.hid (show Bytes La by rw [hEa]; exact rep_bytes _ _ (by first | omega | assumption))
          have HEa := Lib.hid hEa
          clear hEa
          have hres := HF.out.write z HZ.out La HLa.out
          rw [if_neg (fun e => HSTT.out e.1), if_neg (fun e => HSTT.out e.1), if_neg HSTT.out] at hres
          rw [← HQ2.out] at hres
          have HRES := Lib.hid hres
          clear hres
          go_wp2_with fail
          refine (dg_writeb hdd21 ((x : Int) / 3 % 4) 1024 Aa ca La hra21 haad21 HBa.out (by have := HLa.out; omega) (HSD.out.c (by omega)) (HSD.out.m (by omega) 2)).mono ?_
          rintro e w22 ⟨he, Sd22, hdd22, hg22, hc22⟩
          rw [HRES.out.1] at he
          subst he
          have hb022 := hdd21.after hb021 hc22
          have hdc22 := hdc21.chg hpdc21 hc22
          have hpdc22 := hpdc21.now hg22 hc22.size
          have hra22 := own_aside hra21 haad21 hc22
          have haad22 := haad21.now hg22 hc22.size
          have haac22 := haac21.up hc22.size
          clear hdd21 hb021 hdc21 hpdc21 hra21 haad21 haac21 hc22 hg22
          go_wp2_with fail
          refine (dg_writeb hdc22 ((x : Int) / 3 % 4) 1024 Aa ca La hra22 haac22 HBa.out (by have := HLa.out; omega) (HSC.out.c (by omega)) (HSC.out.m (by omega) 2)).mono ?_
          rintro e w23 ⟨he, Sc23, hdc23, hg23, hc23⟩
          obtain ⟨q23, rfl⟩ : ∃ q : Nat, e = .returned (.int .u16 (q : Nat)) := ⟨_, he⟩
          clear he
          have hb023 := hdc22.after hb022 hc23
          have hdd23 := hdd22.chg (hpdc22.comm hdd22.top) hc23
          have hpdc23 := ((hpdc22.comm hdd22.top).now hg23 hc23.size).comm hdc23.top
          have hra23 := own_aside hra22 haac22 hc23
          have haad23 := haad22.up hc23.size
          have haac23 := haac22.now hg23 hc23.size
          clear hdc22 hb022 hdd22 hpdc22 hra22 haad22 haac22 hc23 hg23
          have HDX := Lib.hid hdd23
          have HCX := Lib.hid hdc23
          have HPX := Lib.hid hpdc23
          have HBX := Lib.hid hb023
          clear hdd23 hdc23 hpdc23 hb023
          go_wp2_with fail
          case roundEnd => exact ⟨⟨k + 1, by omega, by go_num, ⟨met, by go_num, by omega, _, _, _, _, HDX.out, HCX.out, HPX.out, HRES.out.2, HSD.out.write _ _, HSC.out.write _ _⟩, HBX.out⟩, by simp [intOf]; omega⟩
        · have hk0 : ((2 : Int) == (m : Int)) = true := by simp; omega
          have HSTT := Lib.hid hst
          clear hst
          subst hmt
          go_wp2_with fail
          refine (fill_any 1024 y wr (by omega) (by first | omega | assumption)).mono ?_
          rintro e w21 ⟨Aa, ca, rfl, hra21, hb21⟩
          have haad21 := (Aside.row hra21 hd.top).up (Nat.le_refl _)
          have haac21 := (Aside.row hra21 hc.top).up (Nat.le_refl _)
          have hb021 := below_next0 hb hb21
          have hdd21 := hd.below hb21
          have hdc21 := hc.below hb21
          have hpdc21 := hp.up hb21.size
          clear hb hd hc hp hb21
          obtain ⟨La, hEa⟩ : ∃ L, L = List.replicate 1024 y := ⟨_, rfl⟩
          rw [← hEa] at hra21
          have HLa := Lib.hid (show La.length = 1024 by rw [hEa, List.length_replicate])
          have HBa := Lib.hid (show Bytes La by rw [hEa]; exact rep_bytes _ _ (by first | omega | assumption))
          have HEa := Lib.hid hEa
          clear hEa
          have hres := HF.out.write z HZ.out La HLa.out
          rw [if_pos ⟨HSTT.out, rfl⟩, if_pos ⟨HSTT.out, rfl⟩, if_pos HSTT.out] at hres
          rw [← HQ2.out] at hres
          have HRES := Lib.hid hres
          clear hres
          go_wp2_with fail
          refine (dg_writeb hdd21 ((x : Int) / 3 % 4) 1024 Aa ca La hra21 haad21 HBa.out (by have := HLa.out; omega) (HSD.out.c (by omega)) (HSD.out.m (by omega) 2)).mono ?_
          rintro e w22 ⟨he, Sd22, hdd22, hg22, hc22⟩
          rw [HRES.out.1] at he
          subst he
          have hb022 := hdd21.after hb021 hc22
          have hdc22 := hdc21.chg hpdc21 hc22
          have hpdc22 := hpdc21.now hg22 hc22.size
          have hra22 := own_aside hra21 haad21 hc22
          have haad22 := haad21.now hg22 hc22.size
          have haac22 := haac21.up hc22.size
          clear hdd21 hb021 hdc21 hpdc21 hra21 haad21 haac21 hc22 hg22
          have HDX := Lib.hid hdd22
          have HCX := Lib.hid hdc22
          have HPX := Lib.hid hpdc22
          have HBX := Lib.hid hb022
          clear hdd22 hdc22 hpdc22 hb022
          go_wp2_with fail
          case roundEnd => exact ⟨⟨k + 1, by omega, by go_num, ⟨met + 1, by go_num, by omega, _, _, _, _, HDX.out, HCX.out, HPX.out, HRES.out.2, HSD.out.write _ _, HSC.out.mono (by omega)⟩, HBX.out⟩, by simp [intOf]; omega⟩
        · have hk0 : ((2 : Int) == (m : Int)) = true := by simp; omega
          have HSTT := Lib.hid hst
          clear hst
          have hk1 : ((met : Int) == (t : Int)) = false := by simp; omega
          have hk2 : ¬ (met : Int) = (t : Int) := by omega
          have HMT := Lib.hid hmt
          clear hmt
          go_wp2_with fail
          refine (fill_any 1024 y wr (by omega) (by first | omega | assumption)).mono ?_
          rintro e w21 ⟨Aa, ca, rfl, hra21, hb21⟩
          have haad21 := (Aside.row hra21 hd.top).up (Nat.le_refl _)
          have haac21 := (Aside.row hra21 hc.top).up (Nat.le_refl _)
          have hb021 := below_next0 hb hb21
          have hdd21 := hd.below hb21
          have hdc21 := hc.below hb21
          have hpdc21 := hp.up hb21.size
          clear hb hd hc hp hb21
          obtain ⟨La, hEa⟩ : ∃ L, L = List.replicate 1024 y := ⟨_, rfl⟩
          rw [← hEa] at hra21
          have HLa := Lib.hid (show La.length = 1024 by rw [hEa, List.length_replicate])
          have HBa := Lib.hid (show Bytes La by rw [hEa]; exact rep_bytes _ _ (by first | omega | assumption))
          have HEa := Lib.hid hEa
          clear hEa
          have hres := HF.out.write z HZ.out La HLa.out
          rw [if_neg (fun e => HMT.out e.2), if_neg (fun e => HMT.out e.2), if_pos HSTT.out] at hres
          rw [← HQ2.out] at hres
          have HRES := Lib.hid hres
          clear hres
          go_wp2_with fail
          refine (dg_writeb hdd21 ((x : Int) / 3 % 4) 1024 Aa ca La hra21 haad21 HBa.out (by have := HLa.out; omega) (HSD.out.c (by omega)) (HSD.out.m (by omega) 2)).mono ?_
          rintro e w22 ⟨he, Sd22, hdd22, hg22, hc22⟩
          rw [HRES.out.1] at he
          subst he
          have hb022 := hdd21.after hb021 hc22
          have hdc22 := hdc21.chg hpdc21 hc22
          have hpdc22 := hpdc21.now hg22 hc22.size
          have hra22 := own_aside hra21 haad21 hc22
          have haad22 := haad21.now hg22 hc22.size
          have haac22 := haac21.up hc22.size
          clear hdd21 hb021 hdc21 hpdc21 hra21 haad21 haac21 hc22 hg22
          go_wp2_with fail
          refine (dg_writeb hdc22 ((x : Int) / 3 % 4) 1024 Aa ca La hra22 haac22 HBa.out (by have := HLa.out; omega) (HSC.out.c (by omega)) (HSC.out.m (by omega) 2)).mono ?_
          rintro e w23 ⟨he, Sc23, hdc23, hg23, hc23⟩
          obtain ⟨q23, rfl⟩ : ∃ q : Nat, e = .returned (.int .u16 (q : Nat)) := ⟨_, he⟩
          clear he
          have hb023 := hdc22.after hb022 hc23
          have hdd23 := hdd22.chg (hpdc22.comm hdd22.top) hc23
          have hpdc23 := ((hpdc22.comm hdd22.top).now hg23 hc23.size).comm hdc23.top
          have hra23 := own_aside hra22 haac22 hc23
          have haad23 := haad22.up hc23.size
          have haac23 := haac22.now hg23 hc23.size
          clear hdc22 hb022 hdd22 hpdc22 hra22 haad22 haac22 hc23 hg23
          have HDX := Lib.hid hdd23
          have HCX := Lib.hid hdc23
          have HPX := Lib.hid hpdc23
          have HBX := Lib.hid hb023
          clear hdd23 hdc23 hpdc23 hb023
          go_wp2_with fail
          case roundEnd => exact ⟨⟨k + 1, by omega, by go_num, ⟨met + 1, by go_num, by omega, _, _, _, _, HDX.out, HCX.out, HPX.out, HRES.out.2, HSD.out.write _ _, HSC.out.write _ _⟩, HBX.out⟩, by simp [intOf]; omega⟩
      · rcases (show ¬ 3 = m ∨ (3 = m ∧ met = t) ∨ (3 = m ∧ ¬ met = t) by omega) with hst | ⟨hst, hmt⟩ | ⟨hst, hmt⟩
        · have hk1 : ((3 : Int) == (m : Int)) = false := by simp; omega
          have hk2 : ¬ (3 : Int) = (m : Int) := by omega
          have HSTT := Lib.hid hst
          clear hst
          go_wp2_with fail
          refine (fill_any 1024 y wr (by omega) (by first | omega | assumption)).mono ?_
          rintro e w21 ⟨Aa, ca, rfl, hra21, hb21⟩
          have haad21 := (Aside.row hra21 hd.top).up (Nat.le_refl _)
          have haac21 := (Aside.row hra21 hc.top).up (Nat.le_refl _)
          have hb021 := below_next0 hb hb21
          have hdd21 := hd.below hb21
          have hdc21 := hc.below hb21
          have hpdc21 := hp.up hb21.size
          clear hb hd hc hp hb21
          obtain ⟨La, hEa⟩ : ∃ L, L = List.replicate 1024 y := ⟨_, rfl⟩
          rw [← hEa] at hra21
          have HLa := Lib.hid (show La.length = 1024 by rw [hEa, List.length_replicate])
          have HBa := Lib.hid (show Bytes La by rw [hEa]; exact rep_bytes _ _ (by first | omega | assumption))
          have HEa := Lib.hid hEa
          clear hEa
          have hres := HF.out.sync
          rw [if_neg (fun e => HSTT.out e.1), if_neg (fun e => HSTT.out e.1), if_neg HSTT.out] at hres
          have HRES := Lib.hid hres
          clear hres
          go_wp2_with fail
          with_reducible refine (dg_sync hdd21 hdd21.new_n (HSD.out.c (by omega)) (HSD.out.m (by omega) 3)).mono ?_
          rintro e w22 ⟨he, Sd22, hdd22, hg22, hc22⟩
          rw [HRES.out.1] at he
          subst he
          have hb022 := hdd21.after hb021 hc22
          have hdc22 := hdc21.chg hpdc21 hc22
          have hpdc22 := hpdc21.now hg22 hc22.size
          have hra22 := own_aside hra21 haad21 hc22
          have haad22 := haad21.now hg22 hc22.size
          have haac22 := haac21.up hc22.size
          clear hdd21 hb021 hdc21 hpdc21 hra21 haad21 haac21 hc22 hg22
          go_wp2_with fail
          with_reducible refine (dg_sync hdc22 hdc22.new_n (HSC.out.c (by omega)) (HSC.out.m (by omega) 3)).mono ?_
          rintro e w23 ⟨he, Sc23, hdc23, hg23, hc23⟩
          obtain ⟨q23, rfl⟩ : ∃ q : Nat, e = .returned (.int .u16 (q : Nat)) := ⟨_, he⟩
          clear he
          have hb023 := hdc22.after hb022 hc23
          have hdd23 := hdd22.chg (hpdc22.comm hdd22.top) hc23
          have hpdc23 := ((hpdc22.comm hdd22.top).now hg23 hc23.size).comm hdc23.top
          have hra23 := own_aside hra22 haac22 hc23
          have haad23 := haad22.up hc23.size
          have haac23 := haac22.now hg23 hc23.size
          clear hdc22 hb022 hdd22 hpdc22 hra22 haad22 haac22 hc23 hg23
          have HDX := Lib.hid hdd23
          have HCX := Lib.hid hdc23
          have HPX := Lib.hid hpdc23
          have HBX := Lib.hid hb023
          clear hdd23 hdc23 hpdc23 hb023
          go_wp2_with fail
          case roundEnd => exact ⟨⟨k + 1, by omega, by go_num, ⟨met, by go_num, by omega, _, _, _, _, HDX.out, HCX.out, HPX.out, HRES.out.2, HSD.out.sync, HSC.out.sync⟩, HBX.out⟩, by simp [intOf]; omega⟩
        · have hk0 : ((3 : Int) == (m : Int)) = true := by simp; omega
          have HSTT := Lib.hid hst
          clear hst
          subst hmt
          go_wp2_with fail
          refine (fill_any 1024 y wr (by omega) (by first | omega | assumption)).mono ?_
          rintro e w21 ⟨Aa, ca, rfl, hra21, hb21⟩
          have haad21 := (Aside.row hra21 hd.top).up (Nat.le_refl _)
          have haac21 := (Aside.row hra21 hc.top).up (Nat.le_refl _)
          have hb021 := below_next0 hb hb21
          have hdd21 := hd.below hb21
          have hdc21 := hc.below hb21
          have hpdc21 := hp.up hb21.size
          clear hb hd hc hp hb21
          obtain ⟨La, hEa⟩ : ∃ L, L = List.replicate 1024 y := ⟨_, rfl⟩
          rw [← hEa] at hra21
          have HLa := Lib.hid (show La.length = 1024 by rw [hEa, List.length_replicate])
          have HBa := Lib.hid (show Bytes La by rw [hEa]; exact rep_bytes _ _ (by first | omega | assumption))
          have HEa := Lib.hid hEa
          clear hEa
          have hres := HF.out.sync
          rw [if_pos ⟨HSTT.out, rfl⟩, if_pos ⟨HSTT.out, rfl⟩, if_pos HSTT.out] at hres
          have HRES := Lib.hid hres
          clear hres
          go_wp2_with fail
          with_reducible refine (dg_sync hdd21 hdd21.new_n (HSD.out.c (by omega)) (HSD.out.m (by omega) 3)).mono ?_
          rintro e w22 ⟨he, Sd22, hdd22, hg22, hc22⟩
          rw [HRES.out.1] at he
          subst he
          have hb022 := hdd21.after hb021 hc22
          have hdc22 := hdc21.chg hpdc21 hc22
          have hpdc22 := hpdc21.now hg22 hc22.size
          have hra22 := own_aside hra21 haad21 hc22
          have haad22 := haad21.now hg22 hc22.size
          have haac22 := haac21.up hc22.size
          clear hdd21 hb021 hdc21 hpdc21 hra21 haad21 haac21 hc22 hg22
          have HDX := Lib.hid hdd22
          have HCX := Lib.hid hdc22
          have HPX := Lib.hid hpdc22
          have HBX := Lib.hid hb022
          clear hdd22 hdc22 hpdc22 hb022
          go_wp2_with fail
          case roundEnd => exact ⟨⟨k + 1, by omega, by go_num, ⟨met + 1, by go_num, by omega, _, _, _, _, HDX.out, HCX.out, HPX.out, HRES.out.2, HSD.out.sync, HSC.out.mono (by omega)⟩, HBX.out⟩, by simp [intOf]; omega⟩
        · have hk0 : ((3 : Int) == (m : Int)) = true := by simp; omega
          have HSTT := Lib.hid hst
          clear hst
          have hk1 : ((met : Int) == (t : Int)) = false := by simp; omega
          have hk2 : ¬ (met : Int) = (t : Int) := by omega
          have HMT := Lib.hid hmt
          clear hmt
          go_wp2_with fail
          refine (fill_any 1024 y wr (by omega) (by first | omega | assumption)).mono ?_
          rintro e w21 ⟨Aa, ca, rfl, hra21, hb21⟩
          have haad21 := (Aside.row hra21 hd.top).up (Nat.le_refl _)
          have haac21 := (Aside.row hra21 hc.top).up (Nat.le_refl _)
          have hb021 := below_next0 hb hb21
          have hdd21 := hd.below hb21
          have hdc21 := hc.below hb21
          have hpdc21 := hp.up hb21.size
          clear hb hd hc hp hb21
          obtain ⟨La, hEa⟩ : ∃ L, L = List.replicate 1024 y := ⟨_, rfl⟩
          rw [← hEa] at hra21
          have HLa := Lib.hid (show La.length = 1024 by rw [hEa, List.length_replicate])
          have HBa := Lib.hid (show Bytes La by rw [hEa]; exact rep_bytes _ _ (by first | omega | assumption))
          have HEa := Lib.hid hEa
          clear hEa
          have hres := HF.out.sync
          rw [if_neg (fun e => HMT.out e.2), if_neg (fun e => HMT.out e.2), if_pos HSTT.out] at hres
          have HRES := Lib.hid hres
          clear hres
          go_wp2_with fail
          with_reducible refine (dg_sync hdd21 hdd21.new_n (HSD.out.c (by omega)) (HSD.out.m (by omega) 3)).mono ?_
          rintro e w22 ⟨he, Sd22, hdd22, hg22, hc22⟩
          rw [HRES.out.1] at he
          subst he
          have hb022 := hdd21.after hb021 hc22
          have hdc22 := hdc21.chg hpdc21 hc22
          have hpdc22 := hpdc21.now hg22 hc22.size
          have hra22 := own_aside hra21 haad21 hc22
          have haad22 := haad21.now hg22 hc22.size
          have haac22 := haac21.up hc22.size
          clear hdd21 hb021 hdc21 hpdc21 hra21 haad21 haac21 hc22 hg22
          go_wp2_with fail
          with_reducible refine (dg_sync hdc22 hdc22.new_n (HSC.out.c (by omega)) (HSC.out.m (by omega) 3)).mono ?_
          rintro e w23 ⟨he, Sc23, hdc23, hg23, hc23⟩
          obtain ⟨q23, rfl⟩ : ∃ q : Nat, e = .returned (.int .u16 (q : Nat)) := ⟨_, he⟩
          clear he
          have hb023 := hdc22.after hb022 hc23
          have hdd23 := hdd22.chg (hpdc22.comm hdd22.top) hc23
          have hpdc23 := ((hpdc22.comm hdd22.top).now hg23 hc23.size).comm hdc23.top
          have hra23 := own_aside hra22 haac22 hc23
          have haad23 := haad22.up hc23.size
          have haac23 := haac22.now hg23 hc23.size
          clear hdc22 hb022 hdd22 hpdc22 hra22 haad22 haac22 hc23 hg23
          have HDX := Lib.hid hdd23
          have HCX := Lib.hid hdc23
          have HPX := Lib.hid hpdc23
          have HBX := Lib.hid hb023
          clear hdd23 hdc23 hpdc23 hb023
          go_wp2_with fail
          case roundEnd => exact ⟨⟨k + 1, by omega, by go_num, ⟨met + 1, by go_num, by omega, _, _, _, _, HDX.out, HCX.out, HPX.out, HRES.out.2, HSD.out.sync, HSC.out.sync⟩, HBX.out⟩, by simp [intOf]; omega⟩
    · go_wp2_with fail
      all_goals
        have HPE := Lib.hid (show D.cache.map (·.1) = C.cache.map (·.1) by rw [hf.cache])
        obtain ⟨FD, hFD⟩ : ∃ F, F = D.last.flatten := ⟨_, rfl⟩
        obtain ⟨FC, hFC⟩ : ∃ F, F = C.last.flatten := ⟨_, rfl⟩
        have HIE := Lib.hid (show FD = FC by rw [hFD, hFC, hf.last])
        have HLF := Lib.hid (show FD.length ≤ 140737488355328 by rw [hFD]; exact image_small hd.ok)
        have HFD := Lib.hid hFD
        have HFC := Lib.hid hFC
        clear hFD hFC
        have HCD := Lib.hid (hsd.c (by omega))
        have HCC := Lib.hid (hsc.c (by omega))
        clear hf hsd hsc
        refine (dg_pending hd HCD.out).mono ?_
        rintro e w21 ⟨Ap, cp, rfl, hrp21, hb21⟩
        have hapd21 := (Aside.row hrp21 hd.top).up (Nat.le_refl _)
        have hapc21 := (Aside.row hrp21 hc.top).up (Nat.le_refl _)
        have hb021 := below_next0 hb hb21
        have hdd21 := hd.below hb21
        have hdc21 := hc.below hb21
        have hpdc21 := hp.up hb21.size
        clear hb hd hc hp hb21
        go_wp2_with fail
        refine (dg_pending hdc21 HCC.out).mono ?_
        rintro e w22 ⟨Aq, cq, rfl, hrq22, hb22⟩
        have haqd22 := (Aside.row hrq22 hdd21.top).up (Nat.le_refl _)
        have haqc22 := (Aside.row hrq22 hdc21.top).up (Nat.le_refl _)
        have hb022 := below_next0 hb021 hb22
        have hdd22 := hdd21.below hb22
        have hdc22 := hdc21.below hb22
        have hrp22 := own_below hrp21 hb22
        have hapd22 := hapd21.up hb22.size
        have hapc22 := hapc21.up hb22.size
        have hpdc22 := hpdc21.up hb22.size
        clear hb021 hdd21 hdc21 hrp21 hapd21 hapc21 hpdc21 hb22
        go_wp2_with fail
        refine (sameInts_eq _ _ _ _ _ _ _ _ w22 (by rw [List.length_map]) (by rw [List.length_map]) (by rw [List.length_map]; have := HCD.out; omega) HPE.out (ints_at hrp22) (ints_at hrq22)).mono ?_
        rintro e w23 ⟨rfl, hb23⟩
        have hb023 := below_next0 hb022 hb23
        have hdd23 := hdd22.below hb23
        have hdc23 := hdc22.below hb23
        have hrp23 := own_below hrp22 hb23
        have hapd23 := hapd22.up hb23.size
        have hapc23 := hapc22.up hb23.size
        have hrq23 := own_below hrq22 hb23
        have haqd23 := haqd22.up hb23.size
        have haqc23 := haqc22.up hb23.size
        have hpdc23 := hpdc22.up hb23.size
        clear hb022 hdd22 hdc22 hrp22 hapd22 hapc22 hrq22 haqd22 haqc22 hpdc22 hb23
        clear hrp23 hapd23 hapc23 hrq23 haqd23 haqc23
        go_wp2_with fail
        refine (dg_imagel hdd23 HFD.out).mono ?_
        rintro e w24 ⟨Ai, ci, rfl, hri24, hb24⟩
        have haid24 := (Aside.row hri24 hdd23.top).up (Nat.le_refl _)
        have haic24 := (Aside.row hri24 hdc23.top).up (Nat.le_refl _)
        have hb024 := below_next0 hb023 hb24
        have hdd24 := hdd23.below hb24
        have hdc24 := hdc23.below hb24
        have hpdc24 := hpdc23.up hb24.size
        clear hb023 hdd23 hdc23 hpdc23 hb24
        go_wp2_with fail
        refine (dg_imagel hdc24 HFC.out).mono ?_
        rintro e w25 ⟨Aj, cj, rfl, hrj25, hb25⟩
        have hajd25 := (Aside.row hrj25 hdd24.top).up (Nat.le_refl _)
        have hajc25 := (Aside.row hrj25 hdc24.top).up (Nat.le_refl _)
        have hb025 := below_next0 hb024 hb25
        have hdd25 := hdd24.below hb25
        have hdc25 := hdc24.below hb25
        have hri25 := own_below hri24 hb25
        have haid25 := haid24.up hb25.size
        have haic25 := haic24.up hb25.size
        have hpdc25 := hpdc24.up hb25.size
        clear hb024 hdd24 hdc24 hri24 haid24 haic24 hpdc24 hb25
        go_wp2_with fail
        refine (same_eq _ _ _ _ _ _ _ _ w25 rfl rfl HLF.out HIE.out (buf_at hri25).2 (buf_at hrj25).2).mono ?_
        rintro e w26 ⟨rfl, hb26⟩
        have hb026 := below_next0 hb025 hb26
        have hdd26 := hdd25.below hb26
        have hdc26 := hdc25.below hb26
        have hri26 := own_below hri25 hb26
        have haid26 := haid25.up hb26.size
        have haic26 := haic25.up hb26.size
        have hrj26 := own_below hrj25 hb26
        have hajd26 := hajd25.up hb26.size
        have hajc26 := hajc25.up hb26.size
        have hpdc26 := hpdc25.up hb26.size
        clear hb025 hdd25 hdc25 hri25 haid25 haic25 hrj25 hajd25 hajc25 hpdc25 hb26
        go_wp2
        go_ret
        exact ⟨rfl, hb026⟩
end Go.Proofs.Ytfbjjblgcgjndaa
