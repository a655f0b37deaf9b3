/- The disk's Read: a page that is there. -/
import Derived.Test.YtfbjjblgcgjndaaDisk10
import Derived.Test.YtfbjjblgcgjndaaDiskLook2
import Derived.Test.YtfbjjblgcgjndaaDiskPlain
set_option linter.unusedVariables false
set_option linter.unusedSimpArgs false
namespace Go.Proofs.Ytfbjjblgcgjndaa
open Go.RowKit Go.Maps
attribute [local go_sem ↓] execOp_alloc183
attribute [local go_sem] run_alloc183'
theorem read_push {w wY w8 : World} {br : Nat} {v v1 : Value} {l l0 : List Nat} (F1 : Box wY br v 23) (F2 : Buf w.heap.size wY v l) (F4 : Chg (fun g => g = br) w wY) (hb : br < w.heap.size)
    (ho1 : w8.ownsRow w.heap.size 5 1 v1 (l.length + 128) (ns .u8 l ++ ns .u8 l0)) (hl0 : l0.length = 128)
    (hor1 : (wY.grownBy w8 v.ownBlock ∧ v1.ownBlock = v.ownBlock) ∨ (wY.grownBy w8 none ∧ ∃ g, v1.ownBlock = some g ∧ wY.heap.size ≤ g)) :
    Box w8 br v 23 ∧ Box (w8.setCell ⟨br, 0, none⟩ v1) br v1 23 ∧ Buf w.heap.size (w8.setCell ⟨br, 0, none⟩ v1) v1 (l ++ l0) ∧ Chg (fun g => g = br) w (w8.setCell ⟨br, 0, none⟩ v1) := by
  have hch := push_chg hor1
  have hbv : ¬ blk v br := fun h => by have := (row_lt F2 h).1; omega
  have hX := F1.keep hch hbv
  have hbv1 : ¬ blk v1 br := fun h => by
    rcases push_blk hor1 h with a | a
    · exact hbv a
    · have := F4.size; omega
  have hc8 : Chg (fun g => g = br) w w8 := F4.trans hch (fun g hg h => by have := (row_lt F2 h).1; omega)
  have hcs := setCell_chg w8 br 0 v1
  refine ⟨hX, ?_, ?_, hc8.trans hcs (fun _ _ h => h)⟩
  · have := heap_setCell_same w8 br 0 _ 23 v1 hX
    unfold Box
    rw [this]; rfl
  · have : Buf w.heap.size w8 v1 (l ++ l0) := by
      unfold Buf
      rw [List.length_append, hl0, ns_append]; exact ho1
    exact own_chg this hcs (fun g hg e => hbv1 (by rw [← show g = br from e]; exact hg))
set_option maxRecDepth 100000 in
set_option maxHeartbeats 4000000 in
theorem read_do (n0 : Nat) (w : World) (p : Nat) (D : Dsk) (S : Nat → Prop) (pg : Nat) (bp bd br : Nat) (h : DiskAt n0 w p D S) (h1 : Box w bp (.int .i64 (pg : Int)) 3) (h2 : Box w bd (.pointer (some ⟨p, 0, none⟩)) 74) (h3 : Box w br (.slice none 0 0) 23)
    (hpg : pg < D.pages) (hS : ∀ g, S g → g ≠ br) (ha1 : bp ≠ br) (ha2 : bd ≠ br) (hc : D.cache.length ≤ 1000000000000) :
    Calls Try.prog 126 #[.pointer (some ⟨bp, 0, none⟩), .pointer (some ⟨bd, 0, none⟩), .pointer (some ⟨br, 0, none⟩)] w fun e w' => e = .returned (.int .u16 0) ∧ ∃ v, Box w' br v 23 ∧ Buf w.heap.size w' v (D.secs (8 * pg) 8) ∧ Chg (fun g => g = br) w w' := by
  have c1 := h1.cell
  have c2 := h2.cell
  have hp := fun n => (pages_any (h.below (below_drewN (Below.refl w.heap.size w) n))).mono fun _ _ (h : _ ∧ _) => And.intro h.1 h.2.symm
  have HP := Lib.hid hp
  have hneg : ¬ ((pg : Int) < 0) := by omega
  have hd : decide ((pg : Int) < 0) = false := by simp
  have hd2 : decide ((D.pages : Int) ≤ (pg : Int)) = false := by simp; omega
  have hd3 : decide (D.pages ≤ pg) = false := by simp; omega
  have hpb : pg < 16384 := by obtain ⟨q, a, b, c⟩ := h.1.pages; unfold Dsk.pages at hpg; omega
  have hpl : 8 * pg + 8 ≤ D.last.length := by obtain ⟨q, a, b, c⟩ := h.1.pages; unfold Dsk.pages at hpg; omega
  have HPG := Lib.hid hpg
  have HPB := Lib.hid hpb
  have HPL := Lib.hid hpl
  have H1 := Lib.hid h1
  have H2 := Lib.hid h2
  have H3 := Lib.hid h3
  have HS := Lib.hid hS
  have A1 := Lib.hid ha1
  have A2 := Lib.hid ha2
  have HC := Lib.hid hc
  have OK := Lib.hid h.1
  obtain ⟨ok, q, M, hin, hft⟩ := h
  have HIN := Lib.hid hin
  have HFT := Lib.hid hft
  clear hp h1 h2 h3 hS ha1 ha2 hc hin hft ok hpg hpl
  go_enter Try.func126, Try.ntmps126
  go_wp2_with fail
  go_quiet ((go_at_call 121; exact Calls.quiet_of_same (HP.out _)))
  go_wp2_with fail
  go_loopw [4] (fun i wr => ∃ j : Nat, j ≤ 8 ∧ i = .int .i64 ((8 * pg + j : Nat) : Int) ∧ ∃ v, Box wr br v 23 ∧ Buf w.heap.size wr v (D.secs (8 * pg) j) ∧ Chg (fun g => g = br) w wr) (fun i _ => 8 * pg + 8 - (intOf i).toNat)
  case atStart =>
    refine ⟨0, by omega, ?_, _, H3.out.keep (G := fun _ => False) ((Chg.refl _ w).drewN nq) (fun h => h), ?_, (Chg.refl _ w).drewN nq⟩
    · simp; omega
    · rw [Dsk.secs_zero]; exact Buf.nil _ _
  case round =>
    obtain ⟨j, hj, rfl, v, hbox, hbuf, hch⟩ := hrel
    have b1 := H1.out.keep hch (fun h => A1.out h)
    have b2 := H2.out.keep hch (fun h => A2.out h)
    have c1 := b1.cell
    have c2 := b2.cell
    have hin := HIN.out.keep hch (fun g hg h => HS.out g (HFT.out g hg) h)
    by_cases hlt : j < 8
    · have d0 : wr.cell? ⟨p, 0, none⟩ = some (.slice (some ⟨q.b, 0, none⟩) D.last.length D.last.length) := hin.rcd.cell 0 (by omega)
      have d1 : wr.cell? ⟨p, 1, none⟩ = some q.C := hin.rcd.cell 1 (by omega)
      have d2 : wr.cell? ⟨p, 2, none⟩ = some (.map (some q.m)) := hin.rcd.cell 2 (by omega)
      obtain ⟨a, ha⟩ : ∃ a, a = 8 * pg + j := ⟨_, rfl⟩
      rw [← ha]
      have HA := Lib.hid ha
      have a1 : (a : Int) < (D.last.length : Int) := by have := HPL.out; omega
      have a2 : (a : Int) < ((pg : Int) + 1) * 8 := by omega
      have hHCH := Lib.hid hch
      have HB := Lib.hid hbuf
      have HBOX := Lib.hid hbox
      have HI := Lib.hid hin
      have l1 := b2.lt
      have l2 := hin.rcd.lt
      have l3 := hin.bases.2.2.2.2
      clear hch hbuf hbox hin ha b1 b2
      have hal : a < D.last.length := by omega
      have hl128 : (D.last.getD a []).length = 128 := by rw [List.getD_eq_getElem?_getD, List.getElem?_eq_getElem hal]; exact (OK.out.last _ (List.getElem_mem _)).1
      have hrg := HI.out.last.at a hal
      have hst := store183 wr zero128 (by simp [zero128]) _ hl128
      have HL128 := Lib.hid hl128
      clear hal hl128
      obtain ⟨l0, hl0⟩ : ∃ l0, l0 = D.last.getD a [] := ⟨_, rfl⟩
      rw [← hl0] at hrg hst HL128
      have HL0 := Lib.hid hl0
      clear hl0
      have i183 := Try.info183'
      have hnl0 : (ns .u8 l0).length = 128 := by rw [ns_length, HL128.out]
      go_wp2_with fail
      refine wp_load_mid 183 _ rfl q.b (a * 128) rfl (ns .u8 l0) _ hrg Try.underlying183 rfl (by rw [Try.info183', ns_length, HL128.out]) ?_
      clear hrg
      obtain ⟨w5, hw5⟩ : ∃ w5, w5 = wr.alloc (.cells (ns .u8 l0).toArray 183) := ⟨_, rfl⟩
      have hb5 : Below wr.heap.size wr w5 := by rw [hw5]; exact below_alloc0 (Below.refl _ _) _
      have hin5 := HI.out.keep (G := fun _ => False) (.of_below hb5) (fun _ _ h => h)
      have hlook := hin5.look a (by have := HPL.out; have := HPB.out; have := HA.out; omega)
      have e1 : w5.cell? ⟨bd, 0, none⟩ = some (.pointer (some ⟨p, 0, none⟩)) := (hb5.cell (p := ⟨bd, 0, none⟩) l1).trans c2
      have e2 : w5.cell? ⟨p, 2, none⟩ = some (.map (some q.m)) := (hb5.cell (p := ⟨p, 2, none⟩) l2).trans d2
      have e4 : w5.cell? ⟨p, 1, none⟩ = some q.C := (hb5.cell (p := ⟨p, 1, none⟩) l2).trans d1
      rw [← hw5] at hst
      have HW5 := Lib.hid hw5
      have HB5 := Lib.hid hb5
      have HIN5 := Lib.hid hin5
      have HC1 := Lib.hid c1
      have HC2 := Lib.hid c2
      clear hw5 hb5 hin5 c1 c2 d0 d1 d2 l1 l2 l3
      have fin : ∀ (s : List Nat) (wX : World), wX = wr.alloc (.cells (ns .u8 s).toArray 183) → s.length = 128 → s = D.sec a →
          ∃ wY, wX.drew = wY ∧ Box wY br v 23 ∧ Buf w.heap.size wY v (D.secs (8 * pg) j) ∧ At wY (some ⟨wr.heap.size, 0, none⟩) (ns .u8 s) ∧ Chg (fun g => g = br) w wY ∧ br < wr.heap.size ∧ w.heap.size ≤ wY.heap.size ∧ Box wX br v 23 := by
        rintro s wX rfl hs1 hs2
        have hbX : Below wr.heap.size wr (wr.alloc (.cells (ns .u8 s).toArray 183)).drew := below_drew0 (below_alloc0 (Below.refl _ _) _)
        refine ⟨_, rfl, HBOX.out.keep (G := fun _ => False) (.of_below hbX) (fun h => h), HB.out.below hbX, ?_, hHCH.out.trans (.of_below (F := fun g => g = br) hbX) (fun _ _ h => h), HBOX.out.lt, Nat.le_trans hHCH.out.size hbX.size, HBOX.out.keep (G := fun _ => False) (.of_below (below_alloc0 (Below.refl _ _) _)) (fun h => h)⟩
        exact At.whole (xs := ns .u8 s) (t := 183) (fr := (0, 0)) (heap_alloc_new wr _)
      have FIN := Lib.hid fin
      clear fin
      rcases hlook with ⟨hsec, c, hlk⟩ | ⟨i, x, hxi, hsec, hlk⟩
      · have HSEC := Lib.hid hsec
        clear hsec
        go_wp2_with fail
        obtain ⟨wY, hwY, f1, f2, f3, f4, f5, f6, f7⟩ := FIN.out l0 w5 HW5.out HL128.out (by rw [HL0.out, HSEC.out])
        have g1 := f7.cell
        have hbd : (D.secs (8 * pg) j).length + l0.length ≤ 140737488355328 := by
          rw [(D.secs_ok OK.out (8 * pg) j (by have := HPL.out; omega)).1, HL128.out]; omega
        have hsec' : D.secs (8 * pg) (j + 1) = D.secs (8 * pg) j ++ l0 := by rw [D.secs_succ, ← HA.out, HSEC.out, HL0.out]
        obtain ⟨A0, cc, rfl⟩ := own_slice f2
        have F1 := Lib.hid f1
        have F2 := Lib.hid f2
        have F3 := Lib.hid f3
        have F4 := Lib.hid f4
        have F6 := Lib.hid f6
        have SC := Lib.hid hsec'
        have HBD := Lib.hid hbd
        have HWY := Lib.hid hwY
        clear f1 f2 f3 f4 f6 f7 hlk e1 e2 e4 hst hbd hsec' hwY
        go_still_tail 2, (by kernel_rfl)
        change wpList _ _ _ _ _ w5.drew
        rw [HWY.out]
        refine wp_append2 rfl (.tmp 50) (.tmp 51) 23 5 (.int .u8 0) 1 1 rfl Try.underlying23 Try.info5 rfl (by decide) w.heap.size (.slice A0 (D.secs (8 * pg) j).length cc) (D.secs (8 * pg) j).length (ns .u8 (D.secs (8 * pg) j)) rfl F2.out (some ⟨wr.heap.size, 0, none⟩) 128 128 (ns .u8 l0) rfl (by rw [ns_length, HL128.out]) F3.out (by simp) (ns_one _ _) (by have := HBD.out; have := HL128.out; omega) (by have := HBD.out; have := HL128.out; omega) F6.out ?_
        intro v1 w8 ho1 hor1
        obtain ⟨A1, cc1, rfl⟩ := own_slice ho1
        obtain ⟨k1, k2, k3, k4⟩ := read_push F1.out F2.out F4.out H3.out.lt ho1 HL128.out hor1
        rw [← SC.out] at k3
        have m1 := k1.cell
        have m2 := frozen_of_row w8 br 0 _ 23 k1
        have K2 := Lib.hid k2
        have K3 := Lib.hid k3
        have K4 := Lib.hid k4
        clear k1 k2 k3 k4 ho1 hor1
        go_wp2
        case roundEnd =>
          have t1 := HA.out
          have t2 := HPB.out
          refine ⟨⟨j + 1, by omega, ?_, _, K2.out, K3.out, K4.out⟩, ?_⟩
          · congr 1; omega
          · simp only [intOf]; omega
      · have hsx := OK.out.cache x (List.mem_of_getElem? hxi)
        obtain ⟨V, cap, hCV, hAt, _⟩ := At.own HIN5.out.cache
        have hil := (List.getElem?_eq_some_iff.1 hxi).1
        obtain ⟨b, o, hV, hr⟩ := hAt (by intro e; have := congrArg List.length e; rw [wcells_length (c := D.cache) (fun x hx => (OK.out.cache x hx).2)] at this; simp at this; omega)
        subst hV
        rw [hCV] at e4
        have hxl : (ns .u8 x.2).length = 128 := by rw [ns_length, hsx.2.1]
        have hrx : w5.rangeAt b (o + i * 129 + 1) (ns .u8 x.2) := by
          intro k v hv
          have hk : k < 128 := by have := (List.getElem?_eq_some_iff.1 hv).1; omega
          rw [show o + i * 129 + 1 + k = o + (i * 129 + (k + 1)) by omega]
          refine hr _ _ ?_
          have := wcells_get (c := D.cache) (fun x hx => (OK.out.cache x hx).2) i hil (k + 1) (by omega)
          rw [this]
          rw [List.getElem?_eq_getElem hil] at hxi
          cases hxi
          simpa [wcell] using hv
        have a3 : (i : Int) < (D.cache.length : Int) := by omega
        have hst2 := store183 wr (ns .u8 l0).toArray (by simp [hnl0]) _ hsx.2.1
        rw [← HW5.out] at hst2
        obtain ⟨w6, hw6⟩ : ∃ w6, w6 = wr.alloc (.cells (ns .u8 x.2).toArray 183) := ⟨_, rfl⟩
        rw [← hw6] at hst2
        have HW6 := Lib.hid hw6
        have HXL := Lib.hid hsx.2.1
        have HSEC := Lib.hid hsec
        have HRX := Lib.hid hrx
        clear hw6 hsx hAt hr hsec hrx hxi hCV
        go_wp2_with fail
        refine wp_load_mid 183 _ rfl b (o + i * 129 + 1) rfl (ns .u8 x.2) _ HRX.out Try.underlying183 rfl (by rw [Try.info183', ns_length, HXL.out]) ?_
        go_wp2_with fail
        obtain ⟨wY, hwY, f1, f2, f3, f4, f5, f6, f7⟩ := FIN.out x.2 w6 HW6.out HXL.out HSEC.out.symm
        have g1 := f7.cell
        have hbd : (D.secs (8 * pg) j).length + x.2.length ≤ 140737488355328 := by
          rw [(D.secs_ok OK.out (8 * pg) j (by have := HPL.out; omega)).1, HXL.out]; omega
        have hsec' : D.secs (8 * pg) (j + 1) = D.secs (8 * pg) j ++ x.2 := by rw [D.secs_succ, ← HA.out, HSEC.out]
        obtain ⟨A0, cc, rfl⟩ := own_slice f2
        have F1 := Lib.hid f1
        have F2 := Lib.hid f2
        have F3 := Lib.hid f3
        have F4 := Lib.hid f4
        have F6 := Lib.hid f6
        have SC := Lib.hid hsec'
        have HBD := Lib.hid hbd
        have HWY := Lib.hid hwY
        clear f1 f2 f3 f4 f6 f7 hlk e1 e2 e4 hst hst2 hbd hsec' hwY
        go_still_tail 2, (by kernel_rfl)
        change wpList _ _ _ _ _ w6.drew
        rw [HWY.out]
        refine wp_append2 rfl (.tmp 50) (.tmp 51) 23 5 (.int .u8 0) 1 1 rfl Try.underlying23 Try.info5 rfl (by decide) w.heap.size (.slice A0 (D.secs (8 * pg) j).length cc) (D.secs (8 * pg) j).length (ns .u8 (D.secs (8 * pg) j)) rfl F2.out (some ⟨wr.heap.size, 0, none⟩) 128 128 (ns .u8 x.2) rfl (by rw [ns_length, HXL.out]) F3.out (by simp) (ns_one _ _) (by have := HBD.out; have := HXL.out; omega) (by have := HBD.out; have := HXL.out; omega) F6.out ?_
        intro v1 w8 ho1 hor1
        obtain ⟨A1, cc1, rfl⟩ := own_slice ho1
        obtain ⟨k1, k2, k3, k4⟩ := read_push F1.out F2.out F4.out H3.out.lt ho1 HXL.out hor1
        rw [← SC.out] at k3
        have m1 := k1.cell
        have m2 := frozen_of_row w8 br 0 _ 23 k1
        have K2 := Lib.hid k2
        have K3 := Lib.hid k3
        have K4 := Lib.hid k4
        clear k1 k2 k3 k4 ho1 hor1
        go_wp2
        case roundEnd =>
          have t1 := HA.out
          have t2 := HPB.out
          refine ⟨⟨j + 1, by omega, ?_, _, K2.out, K3.out, K4.out⟩, ?_⟩
          · congr 1; omega
          · simp only [intOf]; omega
    · obtain rfl : j = 8 := by omega
      have HV := Lib.hid hbuf
      have HX := Lib.hid hbox
      have HCH := Lib.hid hch
      clear hbuf hbox hch hin
      go_wp2_with fail
      go_ret
      exact ⟨rfl, v, HX.out, HV.out, HCH.out⟩
end Go.Proofs.Ytfbjjblgcgjndaa
