/- Walk of DiskTorn. -/
import Derived.Test.YtfbjjblgcgjndaaTornP
import Derived.Test.YtfbjjblgcgjndaaKnown7
set_option linter.unusedVariables false
set_option linter.unusedSimpArgs false
namespace Go.Proofs.Ytfbjjblgcgjndaa
open Go.RowKit

set_option maxRecDepth 100000 in
set_option maxHeartbeats 4000000 in
theorem diskTorn_any (o n : Nat) (A : Option Addr) (c : Nat) (bs : List Bool) (w : World) (ho : o < 256) (hn : n < 256) (hA : At w A (bs.map .bool)) (hbl : bs.length ≤ 140737488355328) :
    Calls Try.prog 9 #[.int .u8 (o : Int), .int .u8 (n : Int), .slice A bs.length c] w fun e w' => e = .returned (.bool true) ∧ Below w.heap.size w w' := by
  have HBS := Lib.hid hbl
  have HAT := Lib.hid hA
  have HNO := Lib.hid ho
  have HNN := Lib.hid hn
  clear hA
  go_enter Try.func9, Try.ntmps9
  go_wp2_with fail
  refine (dg_newl 2 w (Nat.le_refl _) (by omega) (by omega)).mono ?_
  rintro e w1 ⟨pd, Sd1, rfl, hdd1, ht1, hb1⟩
  have hb01 := hb1
  clear hb1 ht1
  go_wp2_with fail
  refine (known07_any w1).mono ?_
  rintro e w2 ⟨rfl, hb2⟩
  have hb02 := below_next0 hb01 hb2
  have hdd2 := hdd1.below hb2
  clear hb01 hdd1 hb2
  go_wp2_with fail
  refine (fill_any 1024 o w2 (by omega) (by first | omega | assumption)).mono ?_
  rintro e w3 ⟨Aa, ca, rfl, hra3, hb3⟩
  have haad3 := (Aside.row hra3 hdd2.top).up (Nat.le_refl _)
  have hb03 := below_next0 hb02 hb3
  have hdd3 := hdd2.below hb3
  clear hb02 hdd2 hb3
  obtain ⟨La, hEa⟩ : ∃ L, L = List.replicate 1024 o := ⟨_, rfl⟩
  rw [← hEa] at hra3
  have HLa := Lib.hid (show La.length = 1024 by rw [hEa, List.length_replicate])
  have HBa := Lib.hid (show Bytes La by rw [hEa]; exact rep_bytes _ _ (by first | omega | assumption))
  have HFa := Lib.hid (Flat.of La _ _ hEa rfl)
  have HEa := Lib.hid hEa
  clear hEa
  go_wp2_with fail
  refine (dg_writeb hdd3 1 1024 Aa ca La hra3 haad3 HBa.out (by have := HLa.out; omega) (by show 0 ≤ _; omega) (by show (0 : Int) ≤ _; omega)).mono ?_
  rintro e w4 ⟨he, Sd4, hdd4, hg4, hc4⟩
  obtain ⟨q4, rfl⟩ : ∃ q : Nat, e = .returned (.int .u16 (q : Nat)) := ⟨_, he⟩
  clear he
  replace hdd4 : DG w.heap.size w4 pd (tn1 La) Sd4 := hdd4
  have hb04 := hdd3.after hb03 hc4
  have hra4 := own_aside hra3 haad3 hc4
  have haad4 := haad3.now hg4 hc4.size
  clear hdd3 hb03 hra3 haad3 hc4 hg4
  clear hra4 haad4
  have HS1 := Lib.hid (tn_small HFa.out HFa.out [])
  go_wp2_with fail
  refine (dg_sync hdd4 hdd4.new_n (by have := HS1.out; omega) (by have := HS1.out; omega)).mono ?_
  rintro e w5 ⟨he, Sd5, hdd5, hg5, hc5⟩
  obtain ⟨q5, rfl⟩ : ∃ q : Nat, e = .returned (.int .u16 (q : Nat)) := ⟨_, he⟩
  clear he
  replace hdd5 : DG w.heap.size w5 pd (tn2 La) Sd5 := hdd5
  have hb05 := hdd4.after hb04 hc5
  clear hdd4 hb04 hc5 hg5
  go_wp2_with fail
  refine (fill_any 1024 n w5 (by omega) (by first | omega | assumption)).mono ?_
  rintro e w6 ⟨Ab, cb, rfl, hrb6, hb6⟩
  have habd6 := (Aside.row hrb6 hdd5.top).up (Nat.le_refl _)
  have hb06 := below_next0 hb05 hb6
  have hdd6 := hdd5.below hb6
  clear hb05 hdd5 hb6
  obtain ⟨Lb, hEb⟩ : ∃ L, L = List.replicate 1024 n := ⟨_, rfl⟩
  rw [← hEb] at hrb6
  have HLb := Lib.hid (show Lb.length = 1024 by rw [hEb, List.length_replicate])
  have HBb := Lib.hid (show Bytes Lb by rw [hEb]; exact rep_bytes _ _ (by first | omega | assumption))
  have HFb := Lib.hid (Flat.of Lb _ _ hEb rfl)
  have HEb := Lib.hid hEb
  clear hEb
  have HSM := Lib.hid (tn_small HFa.out HFb.out bs)
  go_wp2_with fail
  refine (dg_writeb hdd6 1 1024 Ab cb Lb hrb6 habd6 HBb.out (by have := HLb.out; omega) (by have := HSM.out; omega) (by have := HSM.out; omega)).mono ?_
  rintro e w7 ⟨he, Sd7, hdd7, hg7, hc7⟩
  obtain ⟨q7, rfl⟩ : ∃ q : Nat, e = .returned (.int .u16 (q : Nat)) := ⟨_, he⟩
  clear he
  replace hdd7 : DG w.heap.size w7 pd (tn3 La Lb) Sd7 := hdd7
  have hb07 := hdd6.after hb06 hc7
  have hrb7 := own_aside hrb6 habd6 hc7
  have habd7 := habd6.now hg7 hc7.size
  clear hdd6 hb06 hrb6 habd6 hc7 hg7
  clear hrb7 habd7
  go_wp2_with fail
  refine (dg_cut hdd7 hdd7.new_n A c bs (by have := HSM.out; omega) (fun w' hc' => HAT.out.below (hdd7.after hb07 hc'))).mono ?_
  rintro e w8 ⟨rfl, Sd8, hdd8, hg8, hc8⟩
  replace hdd8 : DG w.heap.size w8 pd (tn4 La Lb bs) Sd8 := hdd8
  have hb08 := hdd7.after hb07 hc8
  clear hdd7 hb07 hc8 hg8
  go_wp2_with fail
  refine (dg_read hdd8 1 (by have := HSM.out; omega) (by have := HSM.out; omega)).mono ?_
  rintro e w9 ⟨Ax, he, hrx9, hdd9, hc9⟩
  have hg9 := Grows.refl w8 Sd8
  rw [tn_len HFa.out HFb.out, tn_ok HFa.out.1 HFb.out.1] at he
  subst he
  have hb09 := hdd8.after hb08 hc9
  have haxd9 := Aside.clip (n := 0) (c := 0) hrx9 hdd8.top
  clear hdd8 hb08 hc9 hg9
  go_wp2_with fail
  clear hdd9 haxd9
  have HSM2 := Lib.hid (tn_len HFa.out HFb.out bs)
  have HXP := Lib.hid (tn_part HFa.out HFb.out bs)
  clear HSM HS1
  generalize ((tn4 La Lb bs).read 1).2.1 = LX at *
  obtain ⟨gx, rfl⟩ := hrx9.form (by have := HSM2.out; omega)
  have HX := Lib.hid hrx9
  have HB := Lib.hid hb09
  clear hrx9 hb09
  go_loopw [11] (fun i wr => ∃ k : Nat, k ≤ 8 ∧ i = .int .i64 k ∧ At wr (some ⟨gx, 0, none⟩) (ns .u8 LX) ∧ Below w.heap.size w wr) (fun i _ => 8 - (intOf i).toNat)
  case atStart => exact ⟨0, by omega, rfl, HX.out.at, HB.out⟩
  case round =>
    obtain ⟨k, hk, rfl, hx, hb⟩ := hrel
    by_cases hlt : k < 8
    · have key : ∃ v, v = (if bs.getD k false = true then n else o) ∧ v < 256 := ⟨_, rfl, by have := HNO.out; have := HNN.out; split <;> omega⟩
      have hx2 := hx.part (128 * k) 128
      rw [HXP.out k hlt, Nat.zero_add] at hx2
      have hb2 := hb.size
      have h1 : (k : Int) < 8 := by omega
      have HXX := Lib.hid hx
      have HBB := Lib.hid hb
      by_cases hbs : k < bs.length
      · obtain ⟨b, o', e, hr⟩ := (HAT.out.below hb) (by intro e; have := congrArg List.length e; simp at this; rw [this] at hbs; simp at hbs)
        have hcell : wr.cell? ⟨b, o' + k, none⟩ = some (.bool (bs.getD k false)) := hr k _ (by simp [hbs, List.getD_eq_getElem?_getD])
        subst e
        have h2 : (k : Int) < (bs.length : Int) := by omega
        by_cases hkv : bs.getD k false = true
        · rw [if_pos hkv] at hx2
          rw [hkv] at hcell
          have HX2 := Lib.hid hx2
          clear hx2 hkv hr hx hb key
          go_wp2_with fail
          have hm1 : IntKind.i64.wrap (128 * (k : Int)) = 128 * (k : Int) := by rw [IntKind.wrap_i64]; omega
          have hm2 : IntKind.i64.wrap (128 * (k : Int) + 128) = 128 * (k : Int) + 128 := by rw [IntKind.wrap_i64]; omega
          have hm3 : (128 * (k : Int)).toNat = 128 * k := by omega
          have hm4 : (128 * (k : Int) + 128).toNat = 128 * k + 128 := by omega
          have hm5 : 0 ≤ 128 * (k : Int) := by omega
          have hm6 : 128 * (k : Int) + 128 ≤ 1024 := by omega
          have hm7 : 128 * (k : Int) ≤ 128 * (k : Int) + 128 := by omega
          have hm8 : 0 ≤ 128 * (k : Int) + 128 := by omega
          go_region_held3 (fun _ => True) (trivial) (first | (go_at_call 49; refine (fill_any 128 n _ (by omega) (by first | exact HNO.out | exact HNN.out)).mono ?_; rintro e w2 ⟨A2, c2, rfl, hv2, hb2⟩; replace hb2 := Lib.hid (below_next0 (below_drew0 (Below.refl _ wr)) hb2)) | (go_at_call 45; refine (same_eq _ _ 128 128 _ _ (List.replicate 128 n) (List.replicate 128 n) _ (by rw [List.length_replicate]) (by rw [List.length_replicate]) (by rw [List.length_replicate]; omega) rfl (HX2.out.below hb2.out) (buf_at hv2).2).mono ?_; rintro e w3 ⟨rfl, hb3⟩))
          all_goals
            have hb4 := Lib.hid (below_next0 HBB.out (below_next0 hb2.out hb3))
            have hx4 := Lib.hid ((HXX.out.below hb2.out).below hb3)
            clear hm1 hm2 hm3 hm4 hm5 hm6 hm7 hm8 hb2 hb3 hv2
            go_wp2
            case roundEnd => exact ⟨⟨k + 1, by omega, by go_num, hx4.out, hb4.out⟩, by simp [intOf]; omega⟩
        · rw [if_neg hkv] at hx2
          rw [show bs.getD k false = false by simpa using hkv] at hcell
          have HX2 := Lib.hid hx2
          clear hx2 hkv hr hx hb key
          go_wp2_with fail
          have hm1 : IntKind.i64.wrap (128 * (k : Int)) = 128 * (k : Int) := by rw [IntKind.wrap_i64]; omega
          have hm2 : IntKind.i64.wrap (128 * (k : Int) + 128) = 128 * (k : Int) + 128 := by rw [IntKind.wrap_i64]; omega
          have hm3 : (128 * (k : Int)).toNat = 128 * k := by omega
          have hm4 : (128 * (k : Int) + 128).toNat = 128 * k + 128 := by omega
          have hm5 : 0 ≤ 128 * (k : Int) := by omega
          have hm6 : 128 * (k : Int) + 128 ≤ 1024 := by omega
          have hm7 : 128 * (k : Int) ≤ 128 * (k : Int) + 128 := by omega
          have hm8 : 0 ≤ 128 * (k : Int) + 128 := by omega
          go_region_held3 (fun _ => True) (trivial) (first | (go_at_call 49; refine (fill_any 128 o _ (by omega) (by first | exact HNO.out | exact HNN.out)).mono ?_; rintro e w2 ⟨A2, c2, rfl, hv2, hb2⟩; replace hb2 := Lib.hid (below_next0 (below_drew0 (Below.refl _ wr)) hb2)) | (go_at_call 45; refine (same_eq _ _ 128 128 _ _ (List.replicate 128 o) (List.replicate 128 o) _ (by rw [List.length_replicate]) (by rw [List.length_replicate]) (by rw [List.length_replicate]; omega) rfl (HX2.out.below hb2.out) (buf_at hv2).2).mono ?_; rintro e w3 ⟨rfl, hb3⟩))
          all_goals
            have hb4 := Lib.hid (below_next0 HBB.out (below_next0 hb2.out hb3))
            have hx4 := Lib.hid ((HXX.out.below hb2.out).below hb3)
            clear hm1 hm2 hm3 hm4 hm5 hm6 hm7 hm8 hb2 hb3 hv2
            go_wp2
            case roundEnd => exact ⟨⟨k + 1, by omega, by go_num, hx4.out, hb4.out⟩, by simp [intOf]; omega⟩
      · rw [if_neg (by rw [List.getD_eq_getElem?_getD, List.getElem?_eq_none (by omega)]; simp)] at hx2
        have h2 : ¬ (k : Int) < (bs.length : Int) := by omega
        have HX2 := Lib.hid hx2
        clear hx2 hx hb key
        go_wp2_with fail
        have hm1 : IntKind.i64.wrap (128 * (k : Int)) = 128 * (k : Int) := by rw [IntKind.wrap_i64]; omega
        have hm2 : IntKind.i64.wrap (128 * (k : Int) + 128) = 128 * (k : Int) + 128 := by rw [IntKind.wrap_i64]; omega
        have hm3 : (128 * (k : Int)).toNat = 128 * k := by omega
        have hm4 : (128 * (k : Int) + 128).toNat = 128 * k + 128 := by omega
        have hm5 : 0 ≤ 128 * (k : Int) := by omega
        have hm6 : 128 * (k : Int) + 128 ≤ 1024 := by omega
        have hm7 : 128 * (k : Int) ≤ 128 * (k : Int) + 128 := by omega
        have hm8 : 0 ≤ 128 * (k : Int) + 128 := by omega
        go_region_held3 (fun _ => True) (trivial) (first | (go_at_call 49; refine (fill_any 128 o _ (by omega) (by first | exact HNO.out | exact HNN.out)).mono ?_; rintro e w2 ⟨A2, c2, rfl, hv2, hb2⟩; replace hb2 := Lib.hid (below_next0 (below_drew0 (Below.refl _ wr)) hb2)) | (go_at_call 45; refine (same_eq _ _ 128 128 _ _ (List.replicate 128 o) (List.replicate 128 o) _ (by rw [List.length_replicate]) (by rw [List.length_replicate]) (by rw [List.length_replicate]; omega) rfl (HX2.out.below hb2.out) (buf_at hv2).2).mono ?_; rintro e w3 ⟨rfl, hb3⟩))
        all_goals
          have hb4 := Lib.hid (below_next0 HBB.out (below_next0 hb2.out hb3))
          have hx4 := Lib.hid ((HXX.out.below hb2.out).below hb3)
          clear hm1 hm2 hm3 hm4 hm5 hm6 hm7 hm8 hb2 hb3 hv2
          go_wp2
          case roundEnd => exact ⟨⟨k + 1, by omega, by go_num, hx4.out, hb4.out⟩, by simp [intOf]; omega⟩
    · obtain rfl : k = 8 := by omega
      go_wp2
      go_ret
      exact ⟨rfl, hb⟩
end Go.Proofs.Ytfbjjblgcgjndaa
