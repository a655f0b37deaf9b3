/- Contract of the disk's settle: the walk. -/
import Derived.Test.YtfbjjblgcgjndaaDisk7
set_option linter.unusedVariables false
set_option linter.unusedSimpArgs false
namespace Go.Proofs.Ytfbjjblgcgjndaa
open Go.RowKit Go.Maps
attribute [local go_sem ↓] execOp_alloc185
attribute [local go_sem] run_alloc185'
set_option maxRecDepth 100000 in
set_option maxHeartbeats 1000000 in
theorem settle_any (n0 : Nat) (w : World) (p : Nat) (D : Dsk) (S : Nat → Prop) (fi : FuncId) (caps : Array Value) (kept : Nat → Bool) (h : DiskAt n0 w p D S) (hc : D.cache.length ≤ 1000000000000)
    (hcf : ∀ args w, (callFunc fi args).run Try.prog w = .ok (.enter fi args) w)
    (hk : ∀ (i : Nat) w', i < D.cache.length → Chg S w w' → Calls Try.prog fi (#[.int .i64 i] ++ caps) w' fun e w'' => e = .returned (.bool (kept i)) ∧ ∃ k, w'' = w'.drewN k) :
    Calls Try.prog 123 #[.pointer (some ⟨p, 0, none⟩), .func (.func fi) #[] caps] w fun e w' => e = .returned (.tuple #[]) ∧ DiskAt n0 w' p (D.settle kept) S ∧ Chg S w w' := by
  obtain ⟨ok, q, M, hin, hft⟩ := h
  obtain ⟨V, cap, hCV, hAt, _⟩ := At.own hin.cache
  have c1 : w.cell? ⟨p, 1, none⟩ = some (.slice V D.cache.length cap) := by rw [← hCV]; exact hin.rcd.cell 1 (by omega)
  have hHK := Lib.hid hk
  have HIN := Lib.hid hin
  have HFT := Lib.hid hft
  have HAT := Lib.hid hAt
  have HCV := Lib.hid hCV
  have OK := Lib.hid ok
  have HC := Lib.hid hc
  clear hk hin hft hAt hCV ok hc
  go_enter Try.func123, Try.ntmps123
  go_wp2_with fail
  go_loopw [11] (fun i wr => ∃ j : Nat, j ≤ D.cache.length ∧ i = .int .i64 j ∧ DiskIn n0 wr p (D.laid kept j) q M ∧ Chg S w wr) (fun i _ => D.cache.length - (intOf i).toNat)
  case atStart => exact ⟨0, by omega, rfl, HIN.out, Chg.refl _ _⟩
  case round =>
    obtain ⟨j, hj, rfl, hd, hch⟩ := hrel
    by_cases hlt : j < D.cache.length
    · obtain ⟨V', cap', hCV', hAt', _⟩ := At.own hd.cache
      rw [HCV.out] at hCV'
      injection hCV' with e1 e2 e3
      subst e1 e3
      clear e2
      obtain ⟨b, o, hV, hr⟩ := hAt' (by intro e; have := congrArg List.length e; rw [wcells_length (c := (D.laid kept j).cache) (fun x hx => (OK.out.cache x hx).2)] at this; simp [Dsk.laid] at this; omega)
      clear hAt'
      have i185 : (Try.prog.info? 185).map (·.size) = some 129 := by
        obtain ⟨i0, hi, hzz⟩ := Option.map_eq_some_iff.1 Try.info185
        simp only [Prod.mk.injEq] at hzz
        rw [hi]; simp [hzz.2.1]
      subst hV
      have a1 : (j : Int) < (D.cache.length : Int) := by omega
      have HLT := Lib.hid hlt
      obtain ⟨x, hx⟩ : ∃ x, D.cache[j]? = some x := ⟨D.cache[j], List.getElem?_eq_getElem hlt⟩
      have hxm := List.mem_of_getElem? hx
      obtain ⟨hx1, hx2⟩ := OK.out.cache x hxm
      have hxl : (wcell x).length = 129 := by simp [wcell, ns_length, hx2.1]
      have hrx : wr.rangeAt b (o + j * 129) (wcell x) := by
        intro k v hv
        have hk : k < 129 := by have := (List.getElem?_eq_some_iff.1 hv).1; omega
        rw [show o + j * 129 + k = o + (j * 129 + k) by omega]
        refine hr _ _ ?_
        have := wcells_get (c := D.cache) (fun x hx => (OK.out.cache x hx).2) j hlt k hk
        rw [show (D.laid kept j).cache = D.cache from rfl, this, ← hv]
        rw [List.getElem?_eq_getElem hlt] at hx
        cases hx; rfl
      have HX := Lib.hid hx
      clear hx
      go_wp2_with fail
      refine wp_load_mid 185 _ rfl b (o + j * 129) rfl (wcell x) _ hrx Try.underlying185 rfl (by rw [hxl]; exact i185) ?_
      clear hr hrx
      have hst : (storeCells ⟨wr.heap.size, 0, none⟩ (wcell x)).run Try.prog (wr.alloc (.cells fresh129 185)) = .ok () (wr.alloc (.cells (wcell x).toArray 185)) := by
        have := run_storeCells_new (P := Try.prog) wr 185 fresh129 (wcell x).toArray (by rw [i185]; simp [hxl]) (by rw [fresh129_size]; simp [hxl]) (all_oneCell_toArray (fun v hv => by
          rcases List.mem_cons.1 hv with rfl | hv
          · rfl
          · exact ns_one _ _ v hv))
        simpa using this
      have HHCH := Lib.hid hch
      have HIND := Lib.hid hd
      have HXL := Lib.hid hxl
      have HX1 := Lib.hid hx1
      have HX2 := Lib.hid hx2
      clear hch hd hxl hx1 hx2 hxm
      have heq : wr.alloc (.cells fresh129 185) = wr.alloc (.cells fresh129 185) := rfl
      go_wp2_with fail
      have hb2 : Below wr.heap.size wr (wr.alloc (.cells (wcell x).toArray 185)) := below_alloc0 (Below.refl _ _) _
      have hch2 : Chg S w (wr.alloc (.cells (wcell x).toArray 185)) := HHCH.out.trans (.of_below (F := S) hb2) (fun _ _ h => h)
      refine (hHK.out j _ HLT.out hch2).mono ?_
      rintro e w2 ⟨rfl, nk, rfl⟩
      have HNEW := Lib.hid (heap_alloc_new wr (.cells (wcell x).toArray 185))
      have hd2 := HIND.out.keep (G := fun _ => False) (.of_below (below_drewN hb2 nk)) (fun _ _ h => h)
      have hnew : ((wr.alloc (.cells (wcell x).toArray 185)).drewN nk).heap[wr.heap.size]? = some (.cells (wcell x).toArray 185 (0, 0)) := HNEW.out
      have HCH2 := Lib.hid (hch2.drewN nk)
      clear hch2 hb2 hst
      generalize (wr.alloc (.cells (wcell x).toArray 185)).drewN nk = w2 at *
      have c0 : w2.cell? ⟨p, 0, none⟩ = some (.slice (some ⟨q.b, 0, none⟩) D.last.length D.last.length) := by
        have := hd2.rcd.cell 0 (by omega)
        simp only [Dsk.laid, dcell, settled_length] at this
        exact this
      have d0 : w2.cell? ⟨wr.heap.size, 0, none⟩ = some (.int .i64 (x.1 : Int)) := by
        rw [cell_of_row w2 _ 0 _ _ (0, 0) hnew]; simp [wcell]
      have HD2 := Lib.hid hd2
      have HNEW2 := Lib.hid hnew
      clear hd2 hnew HNEW
      by_cases hkj : kept j = true
      · rw [hkj]
        have a2 : (x.1 : Int) < (D.last.length : Int) := by have := HX1.out; omega
        go_wp2_with fail
        have hrl : w2.drew.rangeAt wr.heap.size 1 (ns .u8 x.2) := by
          intro k v hv
          have := cell_of_row w2.drew wr.heap.size (1 + k) _ _ (0, 0) HNEW2.out
          rw [this]
          simp only [wcell, List.getElem?_toArray]
          rw [show 1 + k = k + 1 by omega, List.getElem?_cons_succ]
          exact hv
        have HRL := Lib.hid hrl
        clear hrl
        go_still_tail 9, (by kernel_rfl)
        refine still_load rfl 183 _ rfl wr.heap.size 1 rfl (ns .u8 x.2) _ HRL.out Try.underlying183 rfl (by rw [Try.info183', ns_length, HX2.out.1]) ?_
        repeat still_step
        refine wpStill_nil ?_
        have hd3 := HD2.out.keep (w' := w2.drew) (G := fun _ => False) ((Chg.refl _ w2).drew) (fun _ _ h => h)
        have hsl : ∀ s ∈ (D.laid kept j).last, s.length = 128 := fun s hs => (settled_ok OK.out.last (fun x hx => (OK.out.cache x hx).2) kept j s hs).1
        have hxlt : x.1 < (D.laid kept j).last.length := by rw [show (D.laid kept j).last.length = D.last.length from settled_length _ _ _ _]; exact HX1.out
        have hth : w2.drew.there q.b (x.1 * 128) (ns .u8 x.2).toArray.size := by
          intro k hk
          have hk : k < 128 := by simpa [ns_length, HX2.out.1] using hk
          have := hd3.last.there (x.1 * 128 + k) (by have : (x.1 + 1) * 128 ≤ (D.laid kept j).last.length * 128 := Nat.mul_le_mul_right _ hxlt; omega)
          simpa using this
        obtain ⟨hd4, hc4⟩ := hd3.lay hsl x.1 hxlt x.2 HX2.out.1
        rw [← D.laid_yes HX.out hkj] at hd4
        have HD4 := Lib.hid hd4
        have HC4 := Lib.hid hc4
        have HTH := Lib.hid hth
        clear hd3 hd4 hc4 hxlt hsl hth hkj
        change wpList _ _ _ _ _ w2.drew
        refine wpList_store_mid rfl 183 _ _ rfl q.b (x.1 * 128) (ns .u8 x.2).toArray rfl rfl HTH.out (by rw [Try.info183']; simp [ns_length, HX2.out.1]) (all_oneCell_toArray (ns_one .u8 x.2)) ?_
        simp only [List.toList_toArray]
        have hcs : Chg S w (w2.drew.setCells q.b (x.1 * 128) (ns .u8 x.2)) := (HCH2.out.drew).trans HC4.out (fun g _ e => HFT.out g (.inr (.inl e)))
        have HCS := Lib.hid hcs
        clear hcs HC4 HTH
        generalize w2.drew.setCells q.b (x.1 * 128) (ns .u8 x.2) = w4 at *
        go_wp2
        case roundEnd =>
          have t1 := HC.out
          have t2 := HLT.out
          rw [show wrap64 ((j : Int) + 1) = (j : Int) + 1 by unfold wrap64; omega]
          exact ⟨⟨j + 1, by omega, by push_cast; rfl, HD4.out, HCS.out⟩, by simp only [intOf]; omega⟩
      · have hkj' : kept j = false := by simpa using hkj
        rw [hkj']
        have HD5 := Lib.hid (show DiskIn n0 w2 p (D.laid kept (j + 1)) q M by rw [D.laid_no hkj']; exact HD2.out)
        go_wp2
        case roundEnd =>
          have t1 := HC.out
          have t2 := HLT.out
          rw [show wrap64 ((j : Int) + 1) = (j : Int) + 1 by unfold wrap64; omega]
          exact ⟨⟨j + 1, by omega, by push_cast; rfl, HD5.out, HCH2.out⟩, by simp only [intOf]; omega⟩
    · obtain rfl : j = D.cache.length := by omega
      have c1 : wr.cell? ⟨p, 1, none⟩ = some q.C := hd.rcd.cell 1 (by omega)
      have c2 : wr.cell? ⟨p, 2, none⟩ = some (.map (some q.m)) := hd.rcd.cell 2 (by omega)
      have f1 := hd.rcd.frozen 1
      obtain ⟨w3, hcl, hm3, hc3⟩ := wipe (hd.map.setCell (a := ⟨p, 1, none⟩) (fun e => hd.sep.2.1 e.symm) (.slice none 0 0))
      obtain ⟨hd5, hc5⟩ := hd.thrown hm3 hc3
      rw [D.laid_all] at hd5
      have HD5 := Lib.hid hd5
      have HC5 := Lib.hid (hch.trans hc5 (fun g _ e => HFT.out g (e.elim .inl (fun e => .inr (.inr (.inl e))))))
      clear hd hd5 hc5 hc3 hm3 hch hlt hj
      go_wp2
      go_end0
      exact ⟨rfl, ⟨D.settle_ok OK.out kept, _, _, HD5.out, fun g hg => HFT.out g (by
        rcases hg with rfl | rfl | rfl | hg
        · exact .inl rfl
        · exact .inr (.inl rfl)
        · exact .inr (.inr (.inl rfl))
        · simp [blk, Value.ownBlock] at hg)⟩, HC5.out⟩
end Go.Proofs.Ytfbjjblgcgjndaa
