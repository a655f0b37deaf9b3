/- Contract of the disk laws' known. -/
import Derived.Test.YtfbjjblgcgjndaaDiskKn
import Derived.Test.YtfbjjblgcgjndaaDiskH
import Derived.Test.YtfbjjblgcgjndaaBuf
set_option linter.unusedVariables false
set_option linter.unusedSimpArgs false
namespace Go.Proofs.Ytfbjjblgcgjndaa
open Go.RowKit

theorem kn_xl : (kn3.read 0).2.1.length = 1024 := by rw [kn_x]; kernel_rfl
theorem kn_yl : (kn7.read 0).2.1.length = 1024 := by rw [kn_y]; kernel_rfl
theorem kn_pl : (kn2.cache.map (·.1)).length = 16 := by rw [kn_p]; kernel_rfl
set_option maxRecDepth 100000 in
set_option maxHeartbeats 4000000 in
theorem known07_any (w : World) : Calls Try.prog 47 #[] w fun e w' => e = .returned (.bool true) ∧ Below w.heap.size w w' := by
  go_enter Try.func47, Try.ntmps47
  go_wp2_with fail
  refine (dg_newl 2 w (Nat.le_refl _) (by omega) (by omega)).mono ?_
  rintro e w1 ⟨pd, Sd1, rfl, hdd1, ht1, hb1⟩
  have hb01 := hb1
  clear hb1 ht1
  go_wp2_with fail
  refine (fill_any 1024 97 w1 (by omega) (by first | omega | assumption)).mono ?_
  rintro e w2 ⟨Aa, ca, rfl, hra2, hb2⟩
  have haad2 := (Aside.row hra2 hdd1.top).up (Nat.le_refl _)
  have hb02 := below_next0 hb01 hb2
  have hdd2 := hdd1.below hb2
  clear hb01 hdd1 hb2
  go_wp2_with fail
  refine (dg_writef hdd2 0 1024 97 Aa ca hra2 haad2 (by first | omega | assumption) (by omega) (by show 0 ≤ _; omega) (by show (0 : Int) ≤ _; omega)).mono ?_
  rintro e w3 ⟨he, Sd3, hdd3, hg3, hc3⟩
  obtain ⟨q3, rfl⟩ : ∃ q : Nat, e = .returned (.int .u16 (q : Nat)) := ⟨_, he⟩
  clear he
  replace hdd3 : DG w.heap.size w3 pd kn1 Sd3 := hdd3
  have hb03 := hdd2.after hb02 hc3
  have hra3 := own_aside hra2 haad2 hc3
  have haad3 := haad2.now hg3 hc3.size
  clear hdd2 hb02 hra2 haad2 hc3 hg3
  clear hra3 haad3
  go_wp2_with fail
  refine (fill_any 1024 98 w3 (by omega) (by first | omega | assumption)).mono ?_
  rintro e w4 ⟨Ab, cb, rfl, hrb4, hb4⟩
  have habd4 := (Aside.row hrb4 hdd3.top).up (Nat.le_refl _)
  have hb04 := below_next0 hb03 hb4
  have hdd4 := hdd3.below hb4
  clear hb03 hdd3 hb4
  go_wp2_with fail
  refine (dg_writef hdd4 1 1024 98 Ab cb hrb4 habd4 (by first | omega | assumption) (by omega) (by have := kn_c; omega) (by have := kn_m; omega)).mono ?_
  rintro e w5 ⟨he, Sd5, hdd5, hg5, hc5⟩
  obtain ⟨q5, rfl⟩ : ∃ q : Nat, e = .returned (.int .u16 (q : Nat)) := ⟨_, he⟩
  clear he
  replace hdd5 : DG w.heap.size w5 pd kn2 Sd5 := hdd5
  have hb05 := hdd4.after hb04 hc5
  have hrb5 := own_aside hrb4 habd4 hc5
  have habd5 := habd4.now hg5 hc5.size
  clear hdd4 hb04 hrb4 habd4 hc5 hg5
  clear hrb5 habd5
  go_wp2_with fail
  refine (dg_pending hdd5 (by have := kn_c; omega)).mono ?_
  rintro e w6 ⟨Ap, cp, he, hrp6, hb6⟩
  rw [kn_pl] at he hrp6
  rw [kn_p] at hrp6
  subst he
  have hapd6 := (Aside.row hrp6 hdd5.top).up (Nat.le_refl _)
  have hb06 := below_next0 hb05 hb6
  have hdd6 := hdd5.below hb6
  clear hb05 hdd5 hb6
  go_wp2_with fail
  obtain ⟨w7, hw7⟩ : ∃ v, w6.alloc (.cells #[.bool true] 4) = v := ⟨_, rfl⟩
  rw [hw7]
  have hb7 : Below w6.heap.size w6 w7 := by rw [← hw7]; exact below_alloc0 (Below.refl _ _) _
  have hat7 : At w7 (some ⟨w6.heap.size, 0, none⟩) [.bool true] := by rw [← hw7]; exact At.whole (heap_alloc_new w6 _)
  have hoff7d : ∀ a : Addr, some (⟨w6.heap.size, 0, none⟩ : Addr) = some a → ¬ Sd5 a.block := fun a e h => by cases e; exact Nat.lt_irrefl _ (hdd6.top _ h)
  have hb07 := below_next0 hb06 hb7
  have hdd7 := hdd6.below hb7
  have hrp7 := own_below hrp6 hb7
  have hapd7 := hapd6.up hb7.size
  clear hb06 hdd6 hrp6 hapd6 hb7 hw7
  refine (dg_cut hdd7 hdd7.new_n (some ⟨w6.heap.size, 0, none⟩) 1 [true] (by have := kn_c; omega) (fun w' hc' => hat7.chg hc' hoff7d)).mono ?_
  rintro e w8 ⟨rfl, Sd8, hdd8, hg8, hc8⟩
  replace hdd8 : DG w.heap.size w8 pd kn3 Sd8 := hdd8
  have hb08 := hdd7.after hb07 hc8
  have hrp8 := own_aside hrp7 hapd7 hc8
  have hapd8 := hapd7.now hg8 hc8.size
  clear hdd7 hb07 hrp7 hapd7 hc8 hg8
  go_wp2_with fail
  refine (dg_read hdd8 0 (by have := kn_c; omega) (by have := kn_m; omega)).mono ?_
  rintro e w9 ⟨Ax, he, hrx9, hdd9, hc9⟩
  have hg9 := Grows.refl w8 Sd8
  rw [kn_xl, kn_f] at he
  subst he
  replace hdd9 : DG w.heap.size w9 pd kn4 Sd8 := hdd9
  have hb09 := hdd8.after hb08 hc9
  have haxd9 := Aside.clip (n := 0) (c := 0) hrx9 hdd8.top
  have hrp9 := own_aside hrp8 hapd8 hc9
  have hapd9 := hapd8.now hg9 hc9.size
  clear hdd8 hb08 hrp8 hapd8 hc9 hg9
  go_wp2_with fail
  refine (dg_fail hdd9 hdd9.new_n 2 0 (by omega)).mono ?_
  rintro e w10 ⟨he, Sd10, hdd10, hg10, hc10⟩
  obtain ⟨q10, rfl⟩ : ∃ q : Nat, e = .returned (.int .u16 (q : Nat)) := ⟨_, he⟩
  clear he
  replace hdd10 : DG w.heap.size w10 pd kn5 Sd10 := hdd10
  have hb010 := hdd9.after hb09 hc10
  have hrp10 := own_aside hrp9 hapd9 hc10
  have hapd10 := hapd9.now hg10 hc10.size
  have hrx10 := hrx9.chg haxd9 hc10
  have haxd10 := haxd9.now hg10 hc10.size
  clear hdd9 hb09 hrp9 hapd9 hrx9 haxd9 hc10 hg10
  go_wp2_with fail
  refine (fill_any 128 99 w10 (by omega) (by first | omega | assumption)).mono ?_
  rintro e w11 ⟨Ac, cc, rfl, hrc11, hb11⟩
  have hacd11 := (Aside.row hrc11 hdd10.top).up (Nat.le_refl _)
  have hb011 := below_next0 hb010 hb11
  have hdd11 := hdd10.below hb11
  have hrp11 := own_below hrp10 hb11
  have hapd11 := hapd10.up hb11.size
  have hrx11 := hrx10.below hb11
  have haxd11 := haxd10.up hb11.size
  clear hb010 hdd10 hrp10 hapd10 hrx10 haxd10 hb11
  go_wp2_with fail
  refine (dg_writef hdd11 0 128 99 Ac cc hrc11 hacd11 (by first | omega | assumption) (by omega) (by have := kn_c; omega) (by have := kn_m; omega)).mono ?_
  rintro e w12 ⟨he, Sd12, hdd12, hg12, hc12⟩
  rw [kn_g] at he
  subst he
  replace hdd12 : DG w.heap.size w12 pd kn6 Sd12 := hdd12
  have hb012 := hdd11.after hb011 hc12
  have hrp12 := own_aside hrp11 hapd11 hc12
  have hapd12 := hapd11.now hg12 hc12.size
  have hrx12 := hrx11.chg haxd11 hc12
  have haxd12 := haxd11.now hg12 hc12.size
  have hrc12 := own_aside hrc11 hacd11 hc12
  have hacd12 := hacd11.now hg12 hc12.size
  clear hdd11 hb011 hrp11 hapd11 hrx11 haxd11 hrc11 hacd11 hc12 hg12
  clear hrc12 hacd12
  go_wp2_with fail
  refine (fill_any 128 100 w12 (by omega) (by first | omega | assumption)).mono ?_
  rintro e w13 ⟨Ae, ce, rfl, hre13, hb13⟩
  have haed13 := (Aside.row hre13 hdd12.top).up (Nat.le_refl _)
  have hb013 := below_next0 hb012 hb13
  have hdd13 := hdd12.below hb13
  have hrp13 := own_below hrp12 hb13
  have hapd13 := hapd12.up hb13.size
  have hrx13 := hrx12.below hb13
  have haxd13 := haxd12.up hb13.size
  clear hb012 hdd12 hrp12 hapd12 hrx12 haxd12 hb13
  go_wp2_with fail
  refine (dg_writef hdd13 0 128 100 Ae ce hre13 haed13 (by first | omega | assumption) (by omega) (by have := kn_c; omega) (by have := kn_m; omega)).mono ?_
  rintro e w14 ⟨he, Sd14, hdd14, hg14, hc14⟩
  rw [kn_h] at he
  subst he
  replace hdd14 : DG w.heap.size w14 pd kn7 Sd14 := hdd14
  have hb014 := hdd13.after hb013 hc14
  have hrp14 := own_aside hrp13 hapd13 hc14
  have hapd14 := hapd13.now hg14 hc14.size
  have hrx14 := hrx13.chg haxd13 hc14
  have haxd14 := haxd13.now hg14 hc14.size
  have hre14 := own_aside hre13 haed13 hc14
  have haed14 := haed13.now hg14 hc14.size
  clear hdd13 hb013 hrp13 hapd13 hrx13 haxd13 hre13 haed13 hc14 hg14
  clear hre14 haed14
  go_wp2_with fail
  refine (dg_read hdd14 0 (by have := kn_c; omega) (by have := kn_m; omega)).mono ?_
  rintro e w15 ⟨Ay, he, hry15, hdd15, hc15⟩
  have hg15 := Grows.refl w14 Sd14
  rw [kn_yl, kn_i] at he
  subst he
  replace hdd15 : DG w.heap.size w15 pd kn8 Sd14 := hdd15
  have hb015 := hdd14.after hb014 hc15
  have hayd15 := Aside.clip (n := 0) (c := 0) hry15 hdd14.top
  have hrp15 := own_aside hrp14 hapd14 hc15
  have hapd15 := hapd14.now hg15 hc15.size
  have hrx15 := hrx14.chg haxd14 hc15
  have haxd15 := haxd14.now hg15 hc15.size
  clear hdd14 hb014 hrp14 hapd14 hrx14 haxd14 hc15 hg15
  obtain ⟨bp, capp, hvp, _, _, _⟩ := own_form hrp15 (by omega)
  injection hvp with e1 e2 e3
  subst e1 e3
  clear e2
  have cp15 := own_cell hrp15 15 (by omega)
  rw [show nth (List.range 16) 15 = 15 from rfl] at cp15
  go_wp2_with fail
  refine (dg_counts hdd15).mono ?_
  rintro e w16 ⟨he, hb16⟩
  rw [kn_n.1, kn_n.2.1, kn_n.2.2] at he
  subst he
  have hb016 := below_next0 hb015 hb16
  have hdd16 := hdd15.below hb16
  have hrp16 := own_below hrp15 hb16
  have hapd16 := hapd15.up hb16.size
  have hrx16 := hrx15.below hb16
  have haxd16 := haxd15.up hb16.size
  have hry16 := hry15.below hb16
  have hayd16 := hayd15.up hb16.size
  clear hb015 hdd15 hrp15 hapd15 hrx15 haxd15 hry15 hayd15 hb16
  clear cp15
  clear hrp16 hapd16
  clear hdd16 haxd16 hayd16
  go_wp2_with fail
  refine (fill_any 128 97 w16 (by omega) (by first | omega | assumption)).mono ?_
  rintro e w17 ⟨Af, cf, rfl, hrf17, hb17⟩
  have hb017 := below_next0 hb016 hb17
  have hrx17 := hrx16.below hb17
  have hry17 := hry16.below hb17
  clear hb016 hrx16 hry16 hb17
  have hI18 := (buf_ok hrf17 (rep_bytes 128 97 (by omega)) (by rw [List.length_replicate]; omega)).2
  have HL18 := hI18.lies
  have HN18 := Lib.hid hI18.nil
  clear hI18
  obtain ⟨L18, hL18⟩ : ∃ L, L = List.replicate 128 97 := ⟨_, rfl⟩
  have hl18 : L18.length = 128 := by rw [hL18, List.length_replicate]
  rw [← hL18] at HL18 hrf17
  have HH18 := Lib.hid hL18
  have Hl18 := Lib.hid hl18
  replace HL18 := Lib.hid HL18
  clear hL18 hl18 hrf17
  go_wp2_with (first | (at_builtin; refine buf_append rfl (.tmp 83) (.tmp 84) rfl Try.underlying23 Try.info5 w17.heap.size (.slice none 0 0) [] rfl (Buf.nil _ _) Af 128 cf L18 rfl Hl18.out.symm HL18.out HN18.out (by have := Hl18.out; simp only [List.length_nil]; omega) (Nat.le_refl _) (Below.refl _ _) ?_; intro v18 w18 hru18 hb18 hn18; rw [List.nil_append] at hru18; obtain ⟨Au, cu, hv18⟩ := own_slice hru18; rw [Hl18.out] at hv18; subst hv18) | (at_builtin; refine buf_zeros rfl (.tmp 86) (.const (.int .i64 896)) rfl Try.underlying23 Try.underlying3 Try.info5 w17.heap.size (.slice Au 128 cu) L18 rfl hru18 896 896 rfl rfl (by have := Hl18.out; omega) hn18 hb18 ?_; intro v19 w19 hru19 hb19 hn19))
  clear hru18 hb18 hn18
  obtain ⟨Z19, hZ19⟩ : ∃ Z, Z = L18 ++ List.replicate 896 0 := ⟨_, rfl⟩
  have hz19 : Z19.length = 1024 := by rw [hZ19, List.length_append, List.length_replicate, Hl18.out]
  rw [← hZ19] at hru19
  have HZ19 := Lib.hid hZ19
  have Hz19 := Lib.hid hz19
  clear hZ19 hz19
  obtain ⟨Auz, cuz, hv19⟩ := own_slice hru19
  rw [Hz19.out] at hv19
  subst hv19
  have hb019 := below_next0 hb017 hb19
  have hrx19 := hrx17.below hb19
  have hry19 := hry17.below hb19
  clear hb017 hrx17 hry17 hb19 hn19
  go_wp2_with fail
  refine (fill_any 128 100 w19 (by omega) (by first | omega | assumption)).mono ?_
  rintro e w20 ⟨Ah, ch, rfl, hrh20, hb20⟩
  have hb020 := below_next0 hb019 hb20
  have hrx20 := hrx19.below hb20
  have hry20 := hry19.below hb20
  have hru20 := own_below hru19 hb20
  clear hb019 hrx19 hry19 hru19 hb20
  have hI21 := (buf_ok hrh20 (rep_bytes 128 100 (by omega)) (by rw [List.length_replicate]; omega)).2
  have HL21 := hI21.lies
  have HN21 := Lib.hid hI21.nil
  clear hI21
  obtain ⟨L21, hL21⟩ : ∃ L, L = List.replicate 128 100 := ⟨_, rfl⟩
  have hl21 : L21.length = 128 := by rw [hL21, List.length_replicate]
  rw [← hL21] at HL21 hrh20
  have HH21 := Lib.hid hL21
  have Hl21 := Lib.hid hl21
  replace HL21 := Lib.hid HL21
  clear hL21 hl21 hrh20
  go_wp2_with (first | (at_builtin; refine buf_append rfl (.tmp 88) (.tmp 89) rfl Try.underlying23 Try.info5 w20.heap.size (.slice none 0 0) [] rfl (Buf.nil _ _) Ah 128 ch L21 rfl Hl21.out.symm HL21.out HN21.out (by have := Hl21.out; simp only [List.length_nil]; omega) (Nat.le_refl _) (Below.refl _ _) ?_; intro v21 w21 hrv21 hb21 hn21; rw [List.nil_append] at hrv21; obtain ⟨Av, cv, hv21⟩ := own_slice hrv21; rw [Hl21.out] at hv21; subst hv21) | (at_builtin; refine buf_zeros rfl (.tmp 91) (.const (.int .i64 896)) rfl Try.underlying23 Try.underlying3 Try.info5 w20.heap.size (.slice Av 128 cv) L21 rfl hrv21 896 896 rfl rfl (by have := Hl21.out; omega) hn21 hb21 ?_; intro v22 w22 hrv22 hb22 hn22))
  clear hrv21 hb21 hn21
  obtain ⟨Z22, hZ22⟩ : ∃ Z, Z = L21 ++ List.replicate 896 0 := ⟨_, rfl⟩
  have hz22 : Z22.length = 1024 := by rw [hZ22, List.length_append, List.length_replicate, Hl21.out]
  rw [← hZ22] at hrv22
  have HZ22 := Lib.hid hZ22
  have Hz22 := Lib.hid hz22
  clear hZ22 hz22
  obtain ⟨Avz, cvz, hv22⟩ := own_slice hrv22
  rw [Hz22.out] at hv22
  subst hv22
  have hb022 := below_next0 hb020 hb22
  have hrx22 := hrx20.below hb22
  have hry22 := hry20.below hb22
  have hru22 := own_below hru20 hb22
  clear hb020 hrx20 hry20 hru20 hb22 hn22
  go_wp2_with fail
  refine (same_eq _ _ 1024 1024 1024 _ _ _ w22 kn_xl.symm Hz19.out.symm (by rw [kn_xl]; omega) (by rw [kn_x, HZ19.out, HH18.out]) hrx22.at (buf_at hru22).2).mono ?_
  rintro e w23 ⟨rfl, hb23⟩
  have hb023 := below_next0 hb022 hb23
  have hrx23 := hrx22.below hb23
  have hry23 := hry22.below hb23
  have hru23 := own_below hru22 hb23
  have hrv23 := own_below hrv22 hb23
  clear hb022 hrx22 hry22 hru22 hrv22 hb23
  go_wp2_with fail
  refine (same_eq _ _ 1024 1024 1024 _ _ _ w23 kn_yl.symm Hz22.out.symm (by rw [kn_yl]; omega) (by rw [kn_y, HZ22.out, HH21.out]) hry23.at (buf_at hrv23).2).mono ?_
  rintro e w24 ⟨rfl, hb24⟩
  have hb024 := below_next0 hb023 hb24
  have hrx24 := hrx23.below hb24
  have hry24 := hry23.below hb24
  have hru24 := own_below hru23 hb24
  have hrv24 := own_below hrv23 hb24
  clear hb023 hrx23 hry23 hru23 hrv23 hb24
  go_wp2
  go_ret
  exact ⟨rfl, hb024⟩
end Go.Proofs.Ytfbjjblgcgjndaa
