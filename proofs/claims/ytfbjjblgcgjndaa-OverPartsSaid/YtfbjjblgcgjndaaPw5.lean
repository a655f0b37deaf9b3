/- Joined texts: DiskFill, DiskLook, DiskLook2, DiskPlain, ReadDo, DiskPlain2, Disk11, DiskG, DiskH, DiskPlain3, RDisk1, RDisk2. -/
import Derived.Test.YtfbjjblgcgjndaaPw1
import Derived.Test.YtfbjjblgcgjndaaPw3
import Derived.Test.YtfbjjblgcgjndaaPw4
set_option linter.unusedVariables false
set_option linter.unusedSimpArgs false

/- Contracts of the law's filled and of SameInts. -/
namespace Go.Proofs.Ytfbjjblgcgjndaa
open Go.RowKit

def GivesFill (l : List Nat) (w : World) (e : Ending) (w' : World) : Prop := ∃ A c, e = .returned (.slice A l.length c) ∧ Buf w.heap.size w' (.slice A l.length c) l ∧ Below w.heap.size w w'
set_option maxRecDepth 100000 in
set_option maxHeartbeats 1000000 in
theorem fill7_any (n c : Nat) (w : World) (hn : n ≤ 1000000) (hc : c < 256) : Calls Try.prog 49 #[.int .i64 (n : Int), .int .u8 (c : Int)] w (GivesFill (List.replicate n c) w) := by
  have HM := made_ns .u8 n
  go_enter Try.func49, Try.ntmps49
  go_wp2_with (with_reducible refine wp_make rfl _ _ 23 5 (.int .u8 0) 1 1 rfl Try.underlying23 Try.info5 w.heap.size .i64 .i64 _ _ n rfl rfl rfl rfl (by omega) (by omega) (Nat.le_refl _) ?_; intro w1 ho1 hg1)
  have hb1 : Below w.heap.size w w1 := below_of_grown hg1
  have hX : w1.heap[w.heap.size]? = some (.cells (ns .u8 (fillAt (fun i => c) 0 0 n)).toArray 5 (0, 0)) := by
    have := own_full ho1
    rw [this, fillAt_zero, ← HM]; simp [Value.cells]
  clear ho1 hg1 HM
  go_loopw [6] (fun i wr => ∃ k : Nat, k ≤ n ∧ i = .int .i64 k ∧ wr.heap[w.heap.size]? = some (.cells (ns .u8 (fillAt (fun i => c) 0 k n)).toArray 5 (0, 0)) ∧ Below w.heap.size w wr) (fun i _ => n - (intOf i).toNat)
  case atStart => exact ⟨0, by omega, rfl, hX, hb1⟩
  case round =>
    clear hX hb1
    obtain ⟨k, hk, rfl, hX, hb⟩ := hrel
    by_cases hlt : k < n
    · have hset := Lib.hid (fillAt_set .u8 (fun i => c) 0 k n hlt)
      have HX := Lib.hid hX
      have hcx : wr.cell? ⟨w.heap.size, k, none⟩ = some (.int .u8 ((0 : Nat) : Int)) := by
        rw [cell_of_row wr _ k _ 5 (0, 0) hX]
        simp [ns, fillAt_get _ 0 k n k hlt]
      have hfr := frozen_of_row wr w.heap.size k _ 5 hX
      clear hX
      go_wp2
      case roundEnd =>
        refine ⟨⟨k + 1, by omega, by go_num, ?_, hb.setCell (Nat.le_refl _) _⟩, by simp [intOf]; omega⟩
        have h1 := heap_setCell_same wr w.heap.size k _ 5 (.int .u8 (c : Int)) HX.out
        rw [hset.out] at h1
        exact h1
    · obtain rfl : k = n := by omega
      have hB : Buf w.heap.size wr (.slice (some ⟨w.heap.size, 0, none⟩) (List.replicate k c).length k) (List.replicate k c) := by
        have e : fillAt (fun i => c) 0 k k = List.replicate k c := by
          rw [fillAt_all]; exact List.map_const' .. |>.trans (by simp)
        rw [e] at hX
        refine ⟨by simp [ns], .inr ⟨w.heap.size, k, (ns .u8 (List.replicate k c)).toArray, by simp, Nat.le_refl _, hX, by simp, by simp only [maxLen]; omega, by simp [ns], by simp [ns]⟩⟩
      rw [List.length_replicate] at hB
      have HB := Lib.hid hB
      clear hB hX
      go_wp2
      go_ret
      exact ⟨some ⟨w.heap.size, 0, none⟩, k, by rw [List.length_replicate]; rfl, by rw [List.length_replicate]; exact HB.out, hb⟩

/-- whole numbers as cells -/
def is64 (l : List Nat) : List Value := ns .i64 l
set_option maxRecDepth 100000 in
set_option maxHeartbeats 400000 in
theorem sameInts_any (A B : Option Addr) (c d : Nat) (l m : List Nat) (w : World) (hl : l.length ≤ 140737488355328) (hm : m.length ≤ 140737488355328) (hA : At w A (ns .i64 l)) (hB : At w B (ns .i64 m)) :
    Calls Try.prog 59 #[.slice A l.length c, .slice B m.length d] w fun e w' => e = .returned (.bool (decide (l = m))) ∧ Below w.heap.size w w' := by
  by_cases hlen : l.length = m.length
  · have h0 : ((l.length : Int) != (m.length : Int)) = false := by simp [hlen]
    have h0' : (l.length == m.length) = true := by simp [hlen]
    have HL := Lib.hid hlen
    clear hlen
    go_enter Try.func59, Try.ntmps59
    go_wp2
    go_loopw [5] (fun i wr => ∃ k : Nat, k ≤ l.length ∧ i = .int .i64 k ∧ Agree l m k ∧ Below w.heap.size w wr) (fun i _ => l.length - (intOf i).toNat)
    case atStart => exact ⟨0, by omega, rfl, Agree.zero l m, Below.refl _ _⟩
    case round =>
      clear h0 h0'
      obtain ⟨k, hk, rfl, hag, hb⟩ := hrel
      by_cases hlt : k < l.length
      · obtain ⟨b1, o1, rfl, hc1⟩ := (hA.below hb).num k hlt
        have hlt' : k < m.length := by have := HL.out; omega
        obtain ⟨b2, o2, rfl, hc2⟩ := (hB.below hb).num k hlt'
        by_cases he : nth l k = nth m k
        · have hne : (((nth l k : Nat) : Int) != ((nth m k : Nat) : Int)) = false := by simp [he]
          have HE := Lib.hid he
          clear he
          go_wp2
          go_quiet (fail)
          go_wp2
          go_roundw
          case rel => exact ⟨k + 1, by omega, by go_num, hag.succ HE.out, below_drewN hb _⟩
          case measure => simp [intOf]; omega
        · have hne : (((nth l k : Nat) : Int) != ((nth m k : Nat) : Int)) = true := by simp; omega
          have hfin : decide (l = m) = false := by
            rw [decide_eq_false_iff_not]; intro e; exact he (by rw [e])
          have HF := Lib.hid hfin
          clear he hfin
          go_wp2
          go_quiet (fail)
          go_wp2
          go_ret
          exact ⟨by rw [HF.out]; rfl, below_drewN hb _⟩
      · obtain rfl : k = l.length := by omega
        have hfin : decide (l = m) = true := by
          rw [decide_eq_true_eq]; exact list_ext_nth HL.out hag
        have HF := Lib.hid hfin
        clear hfin
        go_wp2
        go_ret
        exact ⟨by rw [HF.out]; rfl, hb⟩
  · have h0 : ((l.length : Int) != (m.length : Int)) = true := by simp; omega
    have h0' : (l.length == m.length) = false := by simp; omega
    have hfin : decide (l = m) = false := by
      rw [decide_eq_false_iff_not]; intro e; exact hlen (by rw [e])
    have HF := Lib.hid hfin
    clear hlen hfin
    go_enter Try.func59, Try.ntmps59
    go_wp2
    go_ret
    exact ⟨by rw [HF.out]; rfl, Below.refl _ _⟩
end Go.Proofs.Ytfbjjblgcgjndaa

/- Contracts of the disk's Pending and Image. -/
namespace Go.Proofs.Ytfbjjblgcgjndaa
open Go.RowKit Go.Maps
attribute [local go_sem ↓] execOp_alloc185
attribute [local go_sem] run_alloc185'

def GivesInts (l : List Nat) (w : World) (e : Ending) (w' : World) : Prop := ∃ A c, e = .returned (.slice A l.length c) ∧ w'.ownsRow w.heap.size 3 1 (.slice A l.length c) l.length (ns .i64 l) ∧ Below w.heap.size w w'
theorem own_slice {w : World} {n0 n : Nat} {e : TypeId} {v : Value} {xs : List Value} (h : w.ownsRow n0 e 1 v n xs) : ∃ A c, v = .slice A n c := by
  obtain ⟨A, c, e, _⟩ := At.own h
  exact ⟨A, c, e⟩
theorem take_snoc {α : Type} (l : List α) (j : Nat) (x : α) (h : l[j]? = some x) : l.take (j + 1) = l.take j ++ [x] := by
  rw [List.take_add_one, h]; rfl
set_option maxRecDepth 100000 in
set_option maxHeartbeats 1000000 in
theorem pending_any (n0 : Nat) (w : World) (p : Nat) (D : Dsk) (S : Nat → Prop) (h : DiskAt n0 w p D S) (hc : D.cache.length ≤ 1000000000000) :
    Calls Try.prog 55 #[.pointer (some ⟨p, 0, none⟩)] w (GivesInts (D.cache.map (·.1)) w) := by
  obtain ⟨ok, q, M, hin, hft⟩ := h
  obtain ⟨V, cap, hCV, hAt, _⟩ := At.own hin.cache
  have c1 : w.cell? ⟨p, 1, none⟩ = some (.slice V D.cache.length cap) := by rw [← hCV]; exact hin.rcd.cell 1 (by omega)
  have HIN := Lib.hid hin
  have HFT := Lib.hid hft
  have HAT := Lib.hid hAt
  have HCV := Lib.hid hCV
  have OK := Lib.hid ok
  have HC := Lib.hid hc
  clear hin hft hAt hCV ok hc
  go_enter Try.func55, Try.ntmps55
  go_wp2_with fail
  go_loopw [3, 11] (fun v i wr => ∃ j : Nat, j ≤ D.cache.length ∧ i = .int .i64 j ∧ wr.ownsRow w.heap.size 3 1 v j (ns .i64 ((D.cache.take j).map (·.1))) ∧ Below w.heap.size w wr) (fun _ i _ => D.cache.length - (intOf i).toNat)
  case atStart => exact ⟨0, by omega, rfl, World.ownsRow_nil _ _ _ _, Below.refl _ _⟩
  case round =>
    obtain ⟨j, hj, rfl, hv, hb⟩ := hrel
    by_cases hlt : j < D.cache.length
    · obtain ⟨b, o, hV, hr⟩ := (HAT.out.below hb) (by intro e; have := congrArg List.length e; rw [wcells_length (c := D.cache) (fun x hx => (OK.out.cache x hx).2)] at this; simp at this; omega)
      have i185 : (Try.prog.info? 185).map (·.size) = some 129 := by
        obtain ⟨i0, hi, hzz⟩ := Option.map_eq_some_iff.1 Try.info185
        simp only [Prod.mk.injEq] at hzz
        rw [hi]; simp [hzz.2.1]
      subst hV
      have a1 : (j : Int) < (D.cache.length : Int) := by omega
      have HLT := Lib.hid hlt
      obtain ⟨x, hx⟩ : ∃ x, D.cache[j]? = some x := ⟨D.cache[j], List.getElem?_eq_getElem hlt⟩
      have hxm := List.mem_of_getElem? hx
      obtain ⟨hx1, hx2⟩ := OK.out.cache x hxm
      have hxl : (wcell x).length = 129 := by simp [wcell, ns_length, hx2.1]
      have hrx : wr.rangeAt b (o + j * 129) (wcell x) := by
        intro k v hv
        have hk : k < 129 := by have := (List.getElem?_eq_some_iff.1 hv).1; omega
        rw [show o + j * 129 + k = o + (j * 129 + k) by omega]
        refine hr _ _ ?_
        have := wcells_get (c := D.cache) (fun x hx => (OK.out.cache x hx).2) j hlt k hk
        rw [this, ← hv]
        rw [List.getElem?_eq_getElem hlt] at hx
        cases hx; rfl
      have HX := Lib.hid hx
      clear hx
      go_wp2_with fail
      refine wp_load_mid 185 _ rfl b (o + j * 129) rfl (wcell x) _ hrx Try.underlying185 rfl (by rw [hxl]; exact i185) ?_
      clear hr hrx
      have hst : (storeCells ⟨wr.heap.size, 0, none⟩ (wcell x)).run Try.prog (wr.alloc (.cells fresh129 185)) = .ok () (wr.alloc (.cells (wcell x).toArray 185)) := by
        have := run_storeCells_new (P := Try.prog) wr 185 fresh129 (wcell x).toArray (by rw [i185]; simp [hxl]) (by rw [fresh129_size]; simp [hxl]) (all_oneCell_toArray (fun v hv => by
          rcases List.mem_cons.1 hv with rfl | hv
          · rfl
          · exact ns_one _ _ v hv))
        simpa using this
      have HB := Lib.hid hb
      have HV := Lib.hid hv
      clear hb hv hx1 hx2 hxm
      have d0 : (wr.alloc (.cells (wcell x).toArray 185)).cell? ⟨wr.heap.size, 0, none⟩ = some (.int .i64 (x.1 : Int)) := by
        rw [cell_of_row _ _ 0 _ _ (0, 0) (heap_alloc_new wr _)]; simp [wcell]
      obtain ⟨wA, hwA⟩ : ∃ wA, wA = wr.alloc (.cells (wcell x).toArray 185) := ⟨_, rfl⟩
      have hbA : Below wr.heap.size wr (wA.alloc (.cells #[.int .i64 (x.1 : Int)] 3)) := by rw [hwA]; exact below_alloc0 (below_alloc0 (Below.refl _ _) _) _
      have hvA := own_below HV.out hbA
      have hbB := below_next0 HB.out hbA
      have hAtA : At (wA.alloc (.cells #[.int .i64 (x.1 : Int)] 3)) (some ⟨wA.heap.size, 0, none⟩) [.int .i64 (x.1 : Int)] := At.whole (heap_alloc_new wA _)
      have hszA : w.heap.size ≤ (wA.alloc (.cells #[.int .i64 (x.1 : Int)] 3)).heap.size := hbB.size
      rw [← hwA] at hst d0
      have HWA := Lib.hid hwA
      have HHB := Lib.hid hbB
      have HVA := Lib.hid hvA
      have HAA := Lib.hid hAtA
      have HSA := Lib.hid hszA
      clear hwA hbA hvA hbB hAtA hszA
      obtain ⟨A0, c0, rfl⟩ := own_slice HV.out
      have hj12 : j ≤ 1000000000000 := by have := HC.out; omega
      go_wp2_with (at_builtin; go_loud (refine wp_append2 rfl (.tmp 15) (.tmp 18) 86 3 (.int .i64 0) 1 8 rfl Try.underlying86 Try.info3 rfl (by decide) w.heap.size (.slice A0 j c0) j _ rfl HVA.out (some ⟨wA.heap.size, 0, none⟩) 1 1 _ rfl rfl HAA.out (by simp) (by simp [Value.oneCell']) (by omega) (by omega) HSA.out ?_); intro v1 w1 ho1 hor1)
      have hch1 := push_chg hor1
      have HO1 := Lib.hid ho1
      have HCH1 := Lib.hid hch1
      clear ho1 hor1 hch1 hst d0
      obtain ⟨A1, c11, rfl⟩ := own_slice HO1.out
      go_wp2
      case roundEnd =>
        have t1 := HC.out
        have t2 := HLT.out
        refine ⟨⟨j + 1, by omega, by push_cast; rfl, ?_, ?_⟩, by simp only [intOf]; omega⟩
        · have := HO1.out
          rw [take_snoc _ _ _ HX.out, List.map_append, ns_append]
          exact this
        · exact HHB.out.trans (HCH1.out.below HSA.out (fun k hk => own_base HVA.out k hk))
    · obtain rfl : j = D.cache.length := by omega
      rw [List.take_length] at hv
      obtain ⟨A, c, rfl⟩ := own_slice hv
      have HV := Lib.hid hv
      clear hv
      go_wp2
      go_ret
      refine ⟨A, c, by rw [List.length_map]; rfl, ?_, hb⟩
      rw [List.length_map]; exact HV.out

end Go.Proofs.Ytfbjjblgcgjndaa

/- Contract of the disk's Image. -/
namespace Go.Proofs.Ytfbjjblgcgjndaa
open Go.RowKit Go.Maps

/-- the sectors so far -/
theorem flat_snoc (l : List (List Nat)) (j : Nat) (h : j < l.length) : (l.take (j + 1)).flatten = (l.take j).flatten ++ l.getD j [] := by
  rw [take_snoc l j l[j] (List.getElem?_eq_getElem h), List.flatten_append]
  simp [List.getD_eq_getElem?_getD, List.getElem?_eq_getElem h]
theorem flat_take {l : List (List Nat)} (h : ∀ s ∈ l, s.length = 128) (j : Nat) (hj : j ≤ l.length) : (l.take j).flatten.length = 128 * j := by
  induction j with
  | zero => simp
  | succ j ih =>
    rw [flat_snoc l j hj, List.length_append, ih (by omega)]
    have : (l.getD j []).length = 128 := by
      rw [List.getD_eq_getElem?_getD, List.getElem?_eq_getElem hj]; exact h _ (List.getElem_mem _)
    omega
set_option maxRecDepth 100000 in
set_option maxHeartbeats 1000000 in
theorem image_any (n0 : Nat) (w : World) (p : Nat) (D : Dsk) (S : Nat → Prop) (h : DiskAt n0 w p D S) :
    Calls Try.prog 57 #[.pointer (some ⟨p, 0, none⟩)] w (GivesFill D.last.flatten w) := by
  obtain ⟨ok, q, M, hin, hft⟩ := h
  have hlen : D.last.length ≤ 131072 := by obtain ⟨k, a, b, c⟩ := ok.pages; omega
  have h128 : ∀ s ∈ D.last, s.length = 128 := fun s hs => (ok.last s hs).1
  have c0 : w.cell? ⟨p, 0, none⟩ = some (.slice (some ⟨q.b, 0, none⟩) D.last.length D.last.length) := hin.rcd.cell 0 (by omega)
  have hwr : IntKind.i64.wrap ((D.last.length : Int) * 128) = ((D.last.length * 128 : Nat) : Int) := by rw [IntKind.wrap_i64]; omega
  have hlp := hin.rcd.lt
  have HL := Lib.hid hlen
  have HIN := Lib.hid hin
  have HFT := Lib.hid hft
  have H128 := Lib.hid h128
  have HC0 := Lib.hid c0
  clear hin hft ok h128
  go_enter Try.func57, Try.ntmps57
  go_wp2_with (with_reducible refine wp_make0 rfl _ _ 23 5 (.int .u8 0) 1 1 rfl Try.underlying23 Try.info5 w.heap.size .i64 .i64 _ (D.last.length * 128) rfl rfl (by push_cast; rfl) (by omega) (by omega) (Nat.le_refl _) ?_; intro w1 ho1 hg1; have c0 : w1.cell? ⟨p, 0, none⟩ = some (.slice (some ⟨q.b, 0, none⟩) D.last.length D.last.length) := ((below_of_grown hg1).cell (p := ⟨p, 0, none⟩) hlp).trans HC0.out)
  have hB0 : Buf w.heap.size w1 (.slice (some ⟨w.heap.size, 0, none⟩) 0 (D.last.length * 128)) [] := ho1
  have hb1 : Below w.heap.size w w1 := below_of_grown hg1
  have HB0 := Lib.hid hB0
  have HB1 := Lib.hid hb1
  clear hB0 hb1 ho1 hg1 hwr c0
  go_loopw [3, 17] (fun v i wr => ∃ j : Nat, j ≤ D.last.length ∧ i = .int .i64 j ∧ Buf w.heap.size wr v (D.last.take j).flatten ∧ Below w.heap.size w wr) (fun _ i _ => D.last.length - (intOf i).toNat)
  case atStart => exact ⟨0, by omega, rfl, HB0.out, HB1.out⟩
  case round =>
    obtain ⟨j, hj, rfl, hv, hb⟩ := hrel
    obtain ⟨A0, c0, rfl⟩ := own_slice hv
    have hfl := flat_take H128.out j hj
    rw [hfl] at hv ⊢
    by_cases hlt : j < D.last.length
    · have c1 : wr.cell? ⟨p, 0, none⟩ = some (.slice (some ⟨q.b, 0, none⟩) D.last.length D.last.length) := (hb.cell (p := ⟨p, 0, none⟩) hlp).trans HC0.out
      have hin := HIN.out.keep (G := fun _ => False) (.of_below hb) (fun _ _ h => h)
      have hrg : At wr (some ⟨q.b, j * 128, none⟩) (ns .u8 (D.last.getD j [])) := fun _ => ⟨_, _, rfl, hin.last.at j hlt⟩
      have h128 : (D.last.getD j []).length = 128 := by rw [List.getD_eq_getElem?_getD, List.getElem?_eq_getElem hlt]; exact H128.out _ (List.getElem_mem _)
      have a1 : (j : Int) < (D.last.length : Int) := by omega
      have HV := Lib.hid hv
      have HB := Lib.hid hb
      have HRG := Lib.hid hrg
      have HJ := Lib.hid h128
      have HFL := Lib.hid hfl
      have HIN2 := Lib.hid hin
      have hbd : (D.last.take j).flatten.length + (D.last.getD j []).length ≤ 140737488355328 := by have := HL.out; omega
      have HBD := Lib.hid hbd
      have hbs := Lib.hid hb.size
      clear hv hb hrg h128 hfl hin hbd
      go_wp2_with (at_builtin; go_loud (refine buf_append rfl (.tmp 20) (.tmp 27) rfl Try.underlying23 Try.info5 w.heap.size (.slice A0 (128 * j) c0) (D.last.take j).flatten rfl HV.out (some ⟨q.b, j * 128, none⟩) 128 128 (D.last.getD j []) rfl HJ.out.symm HRG.out (by simp) HBD.out hbs.out HB.out ?_); intro v1 w1 hv1 hb1 hn1)
      have HV1 := Lib.hid hv1
      clear hv1
      go_wp2
      case roundEnd =>
        have t1 := HL.out
        refine ⟨⟨j + 1, by omega, by push_cast; rfl, ?_, hb1⟩, by simp only [intOf]; omega⟩
        rw [flat_snoc _ _ hlt]; exact HV1.out
    · obtain rfl : j = D.last.length := by omega
      rw [List.take_length] at hv hfl
      have HV := Lib.hid hv
      have HFL := Lib.hid hfl
      clear hv hfl
      go_wp2
      go_ret
      refine ⟨A0, c0, ?_, ?_, hb⟩
      · rw [HFL.out]; rfl
      · rw [HFL.out]; exact HV.out
end Go.Proofs.Ytfbjjblgcgjndaa

/- Disk, plain laws: a disk that is calm; what settles, sector by sector. -/
namespace Go.Proofs.Ytfbjjblgcgjndaa

/-- nothing fails -/
def Dsk.Calm (D : Dsk) : Prop := D.dark = false ∧ D.trip = -1 ∧ ∀ j, D.f j = -1
theorem Dsk.Calm.begin {D : Dsk} (h : D.Calm) (k : Nat) : D.begin k = (0, D.go k) := by
  obtain ⟨h1, h2, h3⟩ := h
  unfold Dsk.begin
  rw [if_neg (by simp [h1]), if_neg (by omega), if_neg (by have := h3 k; omega)]
theorem Dsk.Calm.go {D : Dsk} (h : D.Calm) (k : Nat) : (D.go k).Calm := by
  obtain ⟨h1, h2, h3⟩ := h
  refine ⟨h1, ?_, fun j => ?_⟩
  · show dec1 D.trip = -1
    rw [h2]; rfl
  · show turn D.f k (dec1 (D.f k)) j = -1
    by_cases e : j = k
    · subst e; rw [turn_same, h3 j]; rfl
    · rw [turn_other _ _ _ _ e]; exact h3 j
theorem Dsk.Calm.put {D : Dsk} (h : D.Calm) (a : Nat) (b : List Nat) (k : Nat) : (D.put a b k).Calm := h
theorem Dsk.Calm.settle {D : Dsk} (h : D.Calm) (kept : Nat → Bool) : (D.settle kept).Calm := h
theorem Dsk.cut_calm (D : Dsk) (bs : List Bool) : (D.cut bs).Calm := ⟨rfl, rfl, fun _ => rfl⟩
theorem Dsk.new_calm (p : Nat) : (Dsk.new p).Calm := ⟨rfl, rfl, fun _ => rfl⟩
theorem Dsk.settle_pages (D : Dsk) (kept : Nat → Bool) : (D.settle kept).pages = D.pages := by
  unfold Dsk.pages; rw [show (D.settle kept).last.length = D.last.length from settled_length _ _ _ _]
theorem Dsk.cut_pages (D : Dsk) (bs : List Bool) : (D.cut bs).pages = D.pages := D.settle_pages _
theorem Dsk.new_pages (p : Nat) : (Dsk.new p).pages = p := by simp [Dsk.pages, Dsk.new]
theorem Dsk.Calm.write {D : Dsk} (h : D.Calm) (pg : Nat) (hp : pg < D.pages) (b : List Nat) (hb : b.length = 1024 ∨ b.length = 128) : D.write (pg : Int) b = (0, (D.go 2).put (8 * pg) b (b.length / 128)) := by
  unfold Dsk.write
  rw [h.begin 2, if_neg (by simp), if_neg (by omega), if_neg (by omega)]
  simp
theorem Dsk.Calm.sync {D : Dsk} (h : D.Calm) : D.sync = (0, (D.go 3).settle fun _ => true) := by
  unfold Dsk.sync
  rw [h.begin 3, if_neg (by simp)]
/-- a page of one byte, part by part -/
theorem puts_const (a c m k : Nat) (h : 128 * k ≤ m) : puts a (List.replicate m c) k = (List.range k).map fun i => (a + i, List.replicate 128 c) := by
  induction k with
  | zero => rfl
  | succ k ih =>
    rw [puts, ih (by omega), List.range_succ, List.map_append]
    simp only [List.map_cons, List.map_nil, List.drop_replicate, List.take_replicate]
    rw [show min 128 (m - 128 * k) = 128 by omega]
theorem settled_congr (l : List (List Nat)) (c d : List (Nat × List Nat)) (kept : Nat → Bool) (n : Nat) (h : ∀ i, i < n → c[i]? = d[i]?) : settled l c kept n = settled l d kept n := by
  induction n with
  | zero => rfl
  | succ n ih =>
    have e := ih (fun i hi => h i (by omega))
    simp only [settled, h n (by omega), e]
/-- one write more -/
theorem settled_snoc (l : List (List Nat)) (c : List (Nat × List Nat)) (x : Nat × List Nat) (kept : Nat → Bool) :
    settled l (c ++ [x]) kept (c.length + 1) = if kept c.length then (settled l c kept c.length).set x.1 x.2 else settled l c kept c.length := by
  have e := settled_congr l (c ++ [x]) c kept c.length (fun i hi => List.getElem?_append_left hi)
  simp only [settled, List.getElem?_concat_length, e]
theorem settled_none (l : List (List Nat)) (kept : Nat → Bool) (n : Nat) : settled l [] kept n = l := by
  induction n with
  | zero => rfl
  | succ n ih => simp [settled, ih]
theorem secs_last (D : Dsk) (h : D.cache = []) (a k : Nat) : D.secs a k = ((List.range k).map fun i => D.last.getD (a + i) []).flatten := by
  unfold Dsk.secs
  congr 1
  refine List.map_congr_left fun i _ => ?_
  unfold Dsk.sec
  rw [h]
  rfl
/-- the parts of rows of one length -/
theorem flat_part {L : List (List Nat)} {m : Nat} (h : ∀ s ∈ L, s.length = m) (i : Nat) (hi : i < L.length) : (L.flatten.drop (m * i)).take m = L.getD i [] := by
  induction L generalizing i with
  | nil => simp at hi
  | cons s L ih =>
    have hs : s.length = m := h s (by simp)
    cases i with
    | zero => simp [← hs]
    | succ i =>
      have := ih (fun t ht => h t (by simp [ht])) i (by simpa using hi)
      rw [List.flatten_cons, show m * (i + 1) = s.length + m * i by rw [hs, Nat.mul_add]; omega, ← List.drop_drop, List.drop_left, this]
      simp
theorem rows_length {L : List (List Nat)} {m : Nat} (h : ∀ s ∈ L, s.length = m) : L.flatten.length = m * L.length := by
  induction L with
  | nil => simp
  | cons s L ih =>
    rw [List.flatten_cons, List.length_append, ih (fun t ht => h t (by simp [ht])), h s (by simp), List.length_cons, Nat.mul_add]; omega
end Go.Proofs.Ytfbjjblgcgjndaa

/- The disk's Read: a page that is there. -/
namespace Go.Proofs.Ytfbjjblgcgjndaa
open Go.RowKit Go.Maps
attribute [local go_sem ↓] execOp_alloc183
attribute [local go_sem] run_alloc183'
theorem read_push {w wY w8 : World} {br : Nat} {v v1 : Value} {l l0 : List Nat} (F1 : Box wY br v 23) (F2 : Buf w.heap.size wY v l) (F4 : Chg (fun g => g = br) w wY) (hb : br < w.heap.size)
    (ho1 : w8.ownsRow w.heap.size 5 1 v1 (l.length + 128) (ns .u8 l ++ ns .u8 l0)) (hl0 : l0.length = 128)
    (hor1 : (wY.grownBy w8 v.ownBlock ∧ v1.ownBlock = v.ownBlock) ∨ (wY.grownBy w8 none ∧ ∃ g, v1.ownBlock = some g ∧ wY.heap.size ≤ g)) :
    Box w8 br v 23 ∧ Box (w8.setCell ⟨br, 0, none⟩ v1) br v1 23 ∧ Buf w.heap.size (w8.setCell ⟨br, 0, none⟩ v1) v1 (l ++ l0) ∧ Chg (fun g => g = br) w (w8.setCell ⟨br, 0, none⟩ v1) := by
  have hch := push_chg hor1
  have hbv : ¬ blk v br := fun h => by have := (row_lt F2 h).1; omega
  have hX := F1.keep hch hbv
  have hbv1 : ¬ blk v1 br := fun h => by
    rcases push_blk hor1 h with a | a
    · exact hbv a
    · have := F4.size; omega
  have hc8 : Chg (fun g => g = br) w w8 := F4.trans hch (fun g hg h => by have := (row_lt F2 h).1; omega)
  have hcs := setCell_chg w8 br 0 v1
  refine ⟨hX, ?_, ?_, hc8.trans hcs (fun _ _ h => h)⟩
  · have := heap_setCell_same w8 br 0 _ 23 v1 hX
    unfold Box
    rw [this]; rfl
  · have : Buf w.heap.size w8 v1 (l ++ l0) := by
      unfold Buf
      rw [List.length_append, hl0, ns_append]; exact ho1
    exact own_chg this hcs (fun g hg e => hbv1 (by rw [← show g = br from e]; exact hg))
set_option maxRecDepth 100000 in
set_option maxHeartbeats 4000000 in
theorem read_do (n0 : Nat) (w : World) (p : Nat) (D : Dsk) (S : Nat → Prop) (pg : Nat) (bp bd br : Nat) (h : DiskAt n0 w p D S) (h1 : Box w bp (.int .i64 (pg : Int)) 3) (h2 : Box w bd (.pointer (some ⟨p, 0, none⟩)) 74) (h3 : Box w br (.slice none 0 0) 23)
    (hpg : pg < D.pages) (hS : ∀ g, S g → g ≠ br) (ha1 : bp ≠ br) (ha2 : bd ≠ br) (hc : D.cache.length ≤ 1000000000000) :
    Calls Try.prog 126 #[.pointer (some ⟨bp, 0, none⟩), .pointer (some ⟨bd, 0, none⟩), .pointer (some ⟨br, 0, none⟩)] w fun e w' => e = .returned (.int .u16 0) ∧ ∃ v, Box w' br v 23 ∧ Buf w.heap.size w' v (D.secs (8 * pg) 8) ∧ Chg (fun g => g = br) w w' := by
  have c1 := h1.cell
  have c2 := h2.cell
  have hp := fun n => (pages_any (h.below (below_drewN (Below.refl w.heap.size w) n))).mono fun _ _ (h : _ ∧ _) => And.intro h.1 h.2.symm
  have HP := Lib.hid hp
  have hneg : ¬ ((pg : Int) < 0) := by omega
  have hd : decide ((pg : Int) < 0) = false := by simp
  have hd2 : decide ((D.pages : Int) ≤ (pg : Int)) = false := by simp; omega
  have hd3 : decide (D.pages ≤ pg) = false := by simp; omega
  have hpb : pg < 16384 := by obtain ⟨q, a, b, c⟩ := h.1.pages; unfold Dsk.pages at hpg; omega
  have hpl : 8 * pg + 8 ≤ D.last.length := by obtain ⟨q, a, b, c⟩ := h.1.pages; unfold Dsk.pages at hpg; omega
  have HPG := Lib.hid hpg
  have HPB := Lib.hid hpb
  have HPL := Lib.hid hpl
  have H1 := Lib.hid h1
  have H2 := Lib.hid h2
  have H3 := Lib.hid h3
  have HS := Lib.hid hS
  have A1 := Lib.hid ha1
  have A2 := Lib.hid ha2
  have HC := Lib.hid hc
  have OK := Lib.hid h.1
  obtain ⟨ok, q, M, hin, hft⟩ := h
  have HIN := Lib.hid hin
  have HFT := Lib.hid hft
  clear hp h1 h2 h3 hS ha1 ha2 hc hin hft ok hpg hpl
  go_enter Try.func126, Try.ntmps126
  go_wp2_with fail
  go_quiet ((go_at_call 121; exact Calls.quiet_of_same (HP.out _)))
  go_wp2_with fail
  go_loopw [4] (fun i wr => ∃ j : Nat, j ≤ 8 ∧ i = .int .i64 ((8 * pg + j : Nat) : Int) ∧ ∃ v, Box wr br v 23 ∧ Buf w.heap.size wr v (D.secs (8 * pg) j) ∧ Chg (fun g => g = br) w wr) (fun i _ => 8 * pg + 8 - (intOf i).toNat)
  case atStart =>
    refine ⟨0, by omega, ?_, _, H3.out.keep (G := fun _ => False) ((Chg.refl _ w).drewN nq) (fun h => h), ?_, (Chg.refl _ w).drewN nq⟩
    · simp; omega
    · rw [Dsk.secs_zero]; exact Buf.nil _ _
  case round =>
    obtain ⟨j, hj, rfl, v, hbox, hbuf, hch⟩ := hrel
    have b1 := H1.out.keep hch (fun h => A1.out h)
    have b2 := H2.out.keep hch (fun h => A2.out h)
    have c1 := b1.cell
    have c2 := b2.cell
    have hin := HIN.out.keep hch (fun g hg h => HS.out g (HFT.out g hg) h)
    by_cases hlt : j < 8
    · have d0 : wr.cell? ⟨p, 0, none⟩ = some (.slice (some ⟨q.b, 0, none⟩) D.last.length D.last.length) := hin.rcd.cell 0 (by omega)
      have d1 : wr.cell? ⟨p, 1, none⟩ = some q.C := hin.rcd.cell 1 (by omega)
      have d2 : wr.cell? ⟨p, 2, none⟩ = some (.map (some q.m)) := hin.rcd.cell 2 (by omega)
      obtain ⟨a, ha⟩ : ∃ a, a = 8 * pg + j := ⟨_, rfl⟩
      rw [← ha]
      have HA := Lib.hid ha
      have a1 : (a : Int) < (D.last.length : Int) := by have := HPL.out; omega
      have a2 : (a : Int) < ((pg : Int) + 1) * 8 := by omega
      have hHCH := Lib.hid hch
      have HB := Lib.hid hbuf
      have HBOX := Lib.hid hbox
      have HI := Lib.hid hin
      have l1 := b2.lt
      have l2 := hin.rcd.lt
      have l3 := hin.bases.2.2.2.2
      clear hch hbuf hbox hin ha b1 b2
      have hal : a < D.last.length := by omega
      have hl128 : (D.last.getD a []).length = 128 := by rw [List.getD_eq_getElem?_getD, List.getElem?_eq_getElem hal]; exact (OK.out.last _ (List.getElem_mem _)).1
      have hrg := HI.out.last.at a hal
      have hst := store183 wr zero128 (by simp [zero128]) _ hl128
      have HL128 := Lib.hid hl128
      clear hal hl128
      obtain ⟨l0, hl0⟩ : ∃ l0, l0 = D.last.getD a [] := ⟨_, rfl⟩
      rw [← hl0] at hrg hst HL128
      have HL0 := Lib.hid hl0
      clear hl0
      have i183 := Try.info183'
      have hnl0 : (ns .u8 l0).length = 128 := by rw [ns_length, HL128.out]
      go_wp2_with fail
      refine wp_load_mid 183 _ rfl q.b (a * 128) rfl (ns .u8 l0) _ hrg Try.underlying183 rfl (by rw [Try.info183', ns_length, HL128.out]) ?_
      clear hrg
      obtain ⟨w5, hw5⟩ : ∃ w5, w5 = wr.alloc (.cells (ns .u8 l0).toArray 183) := ⟨_, rfl⟩
      have hb5 : Below wr.heap.size wr w5 := by rw [hw5]; exact below_alloc0 (Below.refl _ _) _
      have hin5 := HI.out.keep (G := fun _ => False) (.of_below hb5) (fun _ _ h => h)
      have hlook := hin5.look a (by have := HPL.out; have := HPB.out; have := HA.out; omega)
      have e1 : w5.cell? ⟨bd, 0, none⟩ = some (.pointer (some ⟨p, 0, none⟩)) := (hb5.cell (p := ⟨bd, 0, none⟩) l1).trans c2
      have e2 : w5.cell? ⟨p, 2, none⟩ = some (.map (some q.m)) := (hb5.cell (p := ⟨p, 2, none⟩) l2).trans d2
      have e4 : w5.cell? ⟨p, 1, none⟩ = some q.C := (hb5.cell (p := ⟨p, 1, none⟩) l2).trans d1
      rw [← hw5] at hst
      have HW5 := Lib.hid hw5
      have HB5 := Lib.hid hb5
      have HIN5 := Lib.hid hin5
      have HC1 := Lib.hid c1
      have HC2 := Lib.hid c2
      clear hw5 hb5 hin5 c1 c2 d0 d1 d2 l1 l2 l3
      have fin : ∀ (s : List Nat) (wX : World), wX = wr.alloc (.cells (ns .u8 s).toArray 183) → s.length = 128 → s = D.sec a →
          ∃ wY, wX.drew = wY ∧ Box wY br v 23 ∧ Buf w.heap.size wY v (D.secs (8 * pg) j) ∧ At wY (some ⟨wr.heap.size, 0, none⟩) (ns .u8 s) ∧ Chg (fun g => g = br) w wY ∧ br < wr.heap.size ∧ w.heap.size ≤ wY.heap.size ∧ Box wX br v 23 := by
        rintro s wX rfl hs1 hs2
        have hbX : Below wr.heap.size wr (wr.alloc (.cells (ns .u8 s).toArray 183)).drew := below_drew0 (below_alloc0 (Below.refl _ _) _)
        refine ⟨_, rfl, HBOX.out.keep (G := fun _ => False) (.of_below hbX) (fun h => h), HB.out.below hbX, ?_, hHCH.out.trans (.of_below (F := fun g => g = br) hbX) (fun _ _ h => h), HBOX.out.lt, Nat.le_trans hHCH.out.size hbX.size, HBOX.out.keep (G := fun _ => False) (.of_below (below_alloc0 (Below.refl _ _) _)) (fun h => h)⟩
        exact At.whole (xs := ns .u8 s) (t := 183) (fr := (0, 0)) (heap_alloc_new wr _)
      have FIN := Lib.hid fin
      clear fin
      rcases hlook with ⟨hsec, c, hlk⟩ | ⟨i, x, hxi, hsec, hlk⟩
      · have HSEC := Lib.hid hsec
        clear hsec
        go_wp2_with fail
        obtain ⟨wY, hwY, f1, f2, f3, f4, f5, f6, f7⟩ := FIN.out l0 w5 HW5.out HL128.out (by rw [HL0.out, HSEC.out])
        have g1 := f7.cell
        have hbd : (D.secs (8 * pg) j).length + l0.length ≤ 140737488355328 := by
          rw [(D.secs_ok OK.out (8 * pg) j (by have := HPL.out; omega)).1, HL128.out]; omega
        have hsec' : D.secs (8 * pg) (j + 1) = D.secs (8 * pg) j ++ l0 := by rw [D.secs_succ, ← HA.out, HSEC.out, HL0.out]
        obtain ⟨A0, cc, rfl⟩ := own_slice f2
        have F1 := Lib.hid f1
        have F2 := Lib.hid f2
        have F3 := Lib.hid f3
        have F4 := Lib.hid f4
        have F6 := Lib.hid f6
        have SC := Lib.hid hsec'
        have HBD := Lib.hid hbd
        have HWY := Lib.hid hwY
        clear f1 f2 f3 f4 f6 f7 hlk e1 e2 e4 hst hbd hsec' hwY
        go_still_tail 2, (by kernel_rfl)
        change wpList _ _ _ _ _ w5.drew
        rw [HWY.out]
        refine wp_append2 rfl (.tmp 50) (.tmp 51) 23 5 (.int .u8 0) 1 1 rfl Try.underlying23 Try.info5 rfl (by decide) w.heap.size (.slice A0 (D.secs (8 * pg) j).length cc) (D.secs (8 * pg) j).length (ns .u8 (D.secs (8 * pg) j)) rfl F2.out (some ⟨wr.heap.size, 0, none⟩) 128 128 (ns .u8 l0) rfl (by rw [ns_length, HL128.out]) F3.out (by simp) (ns_one _ _) (by have := HBD.out; have := HL128.out; omega) (by have := HBD.out; have := HL128.out; omega) F6.out ?_
        intro v1 w8 ho1 hor1
        obtain ⟨A1, cc1, rfl⟩ := own_slice ho1
        obtain ⟨k1, k2, k3, k4⟩ := read_push F1.out F2.out F4.out H3.out.lt ho1 HL128.out hor1
        rw [← SC.out] at k3
        have m1 := k1.cell
        have m2 := frozen_of_row w8 br 0 _ 23 k1
        have K2 := Lib.hid k2
        have K3 := Lib.hid k3
        have K4 := Lib.hid k4
        clear k1 k2 k3 k4 ho1 hor1
        go_wp2
        case roundEnd =>
          have t1 := HA.out
          have t2 := HPB.out
          refine ⟨⟨j + 1, by omega, ?_, _, K2.out, K3.out, K4.out⟩, ?_⟩
          · congr 1; omega
          · simp only [intOf]; omega
      · have hsx := OK.out.cache x (List.mem_of_getElem? hxi)
        obtain ⟨V, cap, hCV, hAt, _⟩ := At.own HIN5.out.cache
        have hil := (List.getElem?_eq_some_iff.1 hxi).1
        obtain ⟨b, o, hV, hr⟩ := hAt (by intro e; have := congrArg List.length e; rw [wcells_length (c := D.cache) (fun x hx => (OK.out.cache x hx).2)] at this; simp at this; omega)
        subst hV
        rw [hCV] at e4
        have hxl : (ns .u8 x.2).length = 128 := by rw [ns_length, hsx.2.1]
        have hrx : w5.rangeAt b (o + i * 129 + 1) (ns .u8 x.2) := by
          intro k v hv
          have hk : k < 128 := by have := (List.getElem?_eq_some_iff.1 hv).1; omega
          rw [show o + i * 129 + 1 + k = o + (i * 129 + (k + 1)) by omega]
          refine hr _ _ ?_
          have := wcells_get (c := D.cache) (fun x hx => (OK.out.cache x hx).2) i hil (k + 1) (by omega)
          rw [this]
          rw [List.getElem?_eq_getElem hil] at hxi
          cases hxi
          simpa [wcell] using hv
        have a3 : (i : Int) < (D.cache.length : Int) := by omega
        have hst2 := store183 wr (ns .u8 l0).toArray (by simp [hnl0]) _ hsx.2.1
        rw [← HW5.out] at hst2
        obtain ⟨w6, hw6⟩ : ∃ w6, w6 = wr.alloc (.cells (ns .u8 x.2).toArray 183) := ⟨_, rfl⟩
        rw [← hw6] at hst2
        have HW6 := Lib.hid hw6
        have HXL := Lib.hid hsx.2.1
        have HSEC := Lib.hid hsec
        have HRX := Lib.hid hrx
        clear hw6 hsx hAt hr hsec hrx hxi hCV
        go_wp2_with fail
        refine wp_load_mid 183 _ rfl b (o + i * 129 + 1) rfl (ns .u8 x.2) _ HRX.out Try.underlying183 rfl (by rw [Try.info183', ns_length, HXL.out]) ?_
        go_wp2_with fail
        obtain ⟨wY, hwY, f1, f2, f3, f4, f5, f6, f7⟩ := FIN.out x.2 w6 HW6.out HXL.out HSEC.out.symm
        have g1 := f7.cell
        have hbd : (D.secs (8 * pg) j).length + x.2.length ≤ 140737488355328 := by
          rw [(D.secs_ok OK.out (8 * pg) j (by have := HPL.out; omega)).1, HXL.out]; omega
        have hsec' : D.secs (8 * pg) (j + 1) = D.secs (8 * pg) j ++ x.2 := by rw [D.secs_succ, ← HA.out, HSEC.out]
        obtain ⟨A0, cc, rfl⟩ := own_slice f2
        have F1 := Lib.hid f1
        have F2 := Lib.hid f2
        have F3 := Lib.hid f3
        have F4 := Lib.hid f4
        have F6 := Lib.hid f6
        have SC := Lib.hid hsec'
        have HBD := Lib.hid hbd
        have HWY := Lib.hid hwY
        clear f1 f2 f3 f4 f6 f7 hlk e1 e2 e4 hst hst2 hbd hsec' hwY
        go_still_tail 2, (by kernel_rfl)
        change wpList _ _ _ _ _ w6.drew
        rw [HWY.out]
        refine wp_append2 rfl (.tmp 50) (.tmp 51) 23 5 (.int .u8 0) 1 1 rfl Try.underlying23 Try.info5 rfl (by decide) w.heap.size (.slice A0 (D.secs (8 * pg) j).length cc) (D.secs (8 * pg) j).length (ns .u8 (D.secs (8 * pg) j)) rfl F2.out (some ⟨wr.heap.size, 0, none⟩) 128 128 (ns .u8 x.2) rfl (by rw [ns_length, HXL.out]) F3.out (by simp) (ns_one _ _) (by have := HBD.out; have := HXL.out; omega) (by have := HBD.out; have := HXL.out; omega) F6.out ?_
        intro v1 w8 ho1 hor1
        obtain ⟨A1, cc1, rfl⟩ := own_slice ho1
        obtain ⟨k1, k2, k3, k4⟩ := read_push F1.out F2.out F4.out H3.out.lt ho1 HXL.out hor1
        rw [← SC.out] at k3
        have m1 := k1.cell
        have m2 := frozen_of_row w8 br 0 _ 23 k1
        have K2 := Lib.hid k2
        have K3 := Lib.hid k3
        have K4 := Lib.hid k4
        clear k1 k2 k3 k4 ho1 hor1
        go_wp2
        case roundEnd =>
          have t1 := HA.out
          have t2 := HPB.out
          refine ⟨⟨j + 1, by omega, ?_, _, K2.out, K3.out, K4.out⟩, ?_⟩
          · congr 1; omega
          · simp only [intOf]; omega
    · obtain rfl : j = 8 := by omega
      have HV := Lib.hid hbuf
      have HX := Lib.hid hbox
      have HCH := Lib.hid hch
      clear hbuf hbox hch hin
      go_wp2_with fail
      go_ret
      exact ⟨rfl, v, HX.out, HV.out, HCH.out⟩
end Go.Proofs.Ytfbjjblgcgjndaa

/- Disk, plain laws: a trip, a fault. -/
namespace Go.Proofs.Ytfbjjblgcgjndaa

def Dsk.read (D : Dsk) (pg : Int) : Nat × List Nat × Dsk :=
  if (D.begin 1).1 ≠ 0 then ((D.begin 1).1, [], (D.begin 1).2)
  else if pg < 0 ∨ (D.pages : Int) ≤ pg then (2, [], D.go 1)
  else (0, D.secs (8 * pg.toNat) 8, D.go 1)
theorem Dsk.Calm.read {D : Dsk} (h : D.Calm) (pg : Nat) (hp : pg < D.pages) : D.read (pg : Int) = (0, D.secs (8 * pg) 8, D.go 1) := by
  unfold Dsk.read
  rw [h.begin 1, if_neg (by simp), if_neg (by omega)]
  simp

/-- behind i writes of a sector, with a trip of t -/
structure TripOk (D : Dsk) (t i m : Nat) : Prop where
  early : i ≤ t → D.dark = false ∧ D.trip = (t : Int) - (i : Int) ∧ D.cache.length = i ∧ D.n 2 = (i : Int)
  late : t < i → D.dark = true ∧ D.cache.length = t ∧ D.n 2 = (t : Int)
  f : ∀ j, D.f j = -1
  pages : D.pages = m
  reads : D.n 1 = 0
theorem TripOk.start (t m : Nat) : TripOk ((Dsk.new m).setTrip (t : Int)).2 t 0 m := by
  have e : ((Dsk.new m).setTrip (t : Int)).2 = { Dsk.new m with trip := (t : Int) } := by
    unfold Dsk.setTrip
    rw [if_neg (by omega)]
    rfl
  rw [e]
  exact ⟨fun _ => ⟨rfl, by simp, rfl, rfl⟩, fun h => absurd h (by omega), fun _ => rfl, by simp [Dsk.pages, Dsk.new], rfl⟩
theorem TripOk.step {D : Dsk} {t i m : Nat} (h : TripOk D t i m) (pg : Nat) (hp : pg < m) (b : List Nat) (hb : b.length = 128) :
    (D.write (pg : Int) b).1 = (if i < t then 0 else 4) ∧ TripOk (D.write (pg : Int) b).2 t (i + 1) m := by
  have hfj := h.f
  have hpg := h.pages
  by_cases hi : i ≤ t
  · obtain ⟨h1, h2, h3, h4⟩ := h.early hi
    by_cases hlt : i < t
    · have hbg : D.begin 2 = (0, D.go 2) := by
        unfold Dsk.begin
        rw [if_neg (by simp [h1]), if_neg (by omega), if_neg (by have := hfj 2; omega)]
      have hw : D.write (pg : Int) b = (0, (D.go 2).put (8 * pg) b (b.length / 128)) := by
        unfold Dsk.write
        rw [hbg, if_neg (by simp), if_neg (by omega), if_neg (by omega)]
        simp
      rw [hw, if_pos hlt]
      refine ⟨rfl, fun _ => ⟨h1, ?_, ?_, ?_⟩, fun h => absurd h (by omega), fun j => ?_, hpg, ?_⟩
      · show dec1 D.trip = _
        rw [h2, dec1_pos (by omega)]; omega
      · show (D.cache ++ puts (8 * pg) b (b.length / 128)).length = i + 1
        rw [List.length_append, puts_length, h3, hb]
      · show turn D.n 2 (D.n 2 + 1) 2 = _
        rw [turn_same, h4]; omega
      · show turn D.f 2 (dec1 (D.f 2)) j = -1
        by_cases e : j = 2
        · subst e; rw [turn_same, hfj 2]; rfl
        · rw [turn_other _ _ _ _ e]; exact hfj j
      · show turn D.n 2 (D.n 2 + 1) 1 = 0
        rw [turn_other _ _ _ _ (by omega)]; exact h.reads
    · obtain rfl : i = t := by omega
      have hbg : D.begin 2 = (4, D.off) := by
        unfold Dsk.begin
        rw [if_neg (by simp [h1]), if_pos (by omega)]
      have hw : D.write (pg : Int) b = (4, D.off) := by
        unfold Dsk.write
        rw [hbg, if_pos (by simp)]
      rw [hw, if_neg hlt]
      exact ⟨rfl, fun h => absurd h (by omega), fun _ => ⟨rfl, h3, h4⟩, hfj, hpg, h.reads⟩
  · obtain ⟨h1, h3, h4⟩ := h.late (by omega)
    have hbg : D.begin 2 = (4, D) := by
      unfold Dsk.begin
      rw [if_pos h1]
    have hw : D.write (pg : Int) b = (4, D) := by
      unfold Dsk.write
      rw [hbg, if_pos (by simp)]
    rw [hw, if_neg (by omega)]
    exact ⟨rfl, fun h => absurd h (by omega), fun _ => ⟨h1, h3, h4⟩, hfj, hpg, h.reads⟩
theorem TripOk.dark {D : Dsk} {t i m : Nat} (h : TripOk D t i m) : D.dark = decide (t < i) := by
  by_cases hi : i ≤ t
  · rw [(h.early hi).1, decide_eq_false (by omega)]
  · rw [(h.late (by omega)).1, decide_eq_true (by omega)]
theorem TripOk.count {D : Dsk} {t i m : Nat} (h : TripOk D t i m) : D.cache.length = min i t ∧ D.n 2 = ((min i t : Nat) : Int) := by
  by_cases hi : i ≤ t
  · obtain ⟨_, _, h3, h4⟩ := h.early hi
    rw [Nat.min_eq_left hi]; exact ⟨h3, h4⟩
  · obtain ⟨_, h3, h4⟩ := h.late (by omega)
    rw [Nat.min_eq_right (by omega)]; exact ⟨h3, h4⟩

/-- a disk with a fault beside one without -/
structure FailOk (D C : Dsk) (o b met : Nat) : Prop where
  dark : D.dark = false
  trip : D.trip = -1
  other : ∀ j, j ≠ o → D.f j = -1
  here : D.f o = if met ≤ b then (b : Int) - (met : Int) else -1
  last : D.last = C.last
  cache : D.cache = C.cache
  calm : C.Calm
  pages : D.pages = 4
theorem FailOk.start (o b : Nat) (h1 : 1 ≤ o) (h3 : o ≤ 3) : ((Dsk.new 4).setFail (o : Int) (b : Int)).1 = 0 ∧ FailOk ((Dsk.new 4).setFail (o : Int) (b : Int)).2 (Dsk.new 4) o b 0 := by
  have e : (Dsk.new 4).setFail (o : Int) (b : Int) = (0, { Dsk.new 4 with f := turn (Dsk.new 4).f o (b : Int) }) := by
    unfold Dsk.setFail
    rw [if_neg (by omega)]
    rfl
  rw [e]
  refine ⟨rfl, rfl, rfl, fun j hj => ?_, ?_, rfl, rfl, Dsk.new_calm 4, Dsk.new_pages 4⟩
  · show turn _ o _ j = -1
    rw [turn_other _ _ _ _ hj]; rfl
  · show turn _ o _ o = _
    rw [turn_same, if_pos (by omega)]; simp
theorem FailOk.begin {D C : Dsk} {o b met : Nat} (h : FailOk D C o b met) (k : Nat) :
    D.begin k = (if k = o ∧ met = b then (6, D.fall k) else (0, D.go k)) ∧ FailOk (D.begin k).2 C o b (if k = o then met + 1 else met) := by
  obtain ⟨a1, a2, a3, a4, a5, a6, a7, a8⟩ := h
  by_cases hk : k = o
  · subst hk
    by_cases hm : met = b
    · have hb : D.begin k = (6, D.fall k) := by
        unfold Dsk.begin
        rw [if_neg (by simp [a1]), if_neg (by omega), if_pos (by rw [a4, if_pos (by omega)]; omega)]
      rw [hb, if_pos ⟨rfl, hm⟩, if_pos rfl]
      refine ⟨rfl, a1, ?_, fun j hj => ?_, ?_, a5, a6, a7, a8⟩
      · show dec1 D.trip = -1
        rw [a2]; rfl
      · show turn D.f k (-1) j = -1
        rw [turn_other _ _ _ _ hj]; exact a3 j hj
      · show turn D.f k (-1) k = _
        rw [turn_same, if_neg (by omega)]
    · have hb : D.begin k = (0, D.go k) := by
        unfold Dsk.begin
        rw [if_neg (by simp [a1]), if_neg (by omega), if_neg (by rw [a4]; split <;> omega)]
      rw [hb, if_neg (by omega), if_pos rfl]
      refine ⟨rfl, a1, ?_, fun j hj => ?_, ?_, a5, a6, a7, a8⟩
      · show dec1 D.trip = -1
        rw [a2]; rfl
      · show turn D.f k (dec1 (D.f k)) j = -1
        rw [turn_other _ _ _ _ hj]; exact a3 j hj
      · show turn D.f k (dec1 (D.f k)) k = _
        rw [turn_same, a4]
        unfold dec1
        split <;> split <;> split <;> omega
  · have hb : D.begin k = (0, D.go k) := by
      unfold Dsk.begin
      rw [if_neg (by simp [a1]), if_neg (by omega), if_neg (by rw [a3 k hk]; omega)]
    rw [hb, if_neg (by omega), if_neg hk]
    refine ⟨rfl, a1, ?_, fun j hj => ?_, ?_, a5, a6, a7, a8⟩
    · show dec1 D.trip = -1
      rw [a2]; rfl
    · show turn D.f k (dec1 (D.f k)) j = -1
      by_cases e : j = k
      · subst e; rw [turn_same, a3 j hj]; rfl
      · rw [turn_other _ _ _ _ e]; exact a3 j hj
    · show turn D.f k (dec1 (D.f k)) o = _
      rw [turn_other _ _ _ _ (Ne.symm hk)]; exact a4
theorem FailOk.read {D C : Dsk} {o b met : Nat} (h : FailOk D C o b met) (pg : Nat) (hp : pg < 4) :
    (D.read (pg : Int)).1 = (if 1 = o ∧ met = b then 6 else 0) ∧ FailOk (D.read (pg : Int)).2.2 C o b (if 1 = o then met + 1 else met) := by
  obtain ⟨h1, h2⟩ := h.begin 1
  have hpg := h.pages
  unfold Dsk.read
  by_cases c : 1 = o ∧ met = b
  · rw [if_pos c] at h1
    rw [h1] at h2 ⊢
    rw [if_pos (by simp), if_pos c]
    exact ⟨rfl, h2⟩
  · rw [if_neg c] at h1
    rw [h1] at h2 ⊢
    rw [if_neg (by simp), if_neg (by omega), if_neg c]
    exact ⟨rfl, h2⟩
theorem FailOk.write {D C : Dsk} {o b met : Nat} (h : FailOk D C o b met) (pg : Nat) (hp : pg < 4) (l : List Nat) (hl : l.length = 1024) :
    (D.write (pg : Int) l).1 = (if 2 = o ∧ met = b then 6 else 0) ∧ FailOk (D.write (pg : Int) l).2 (if 2 = o ∧ met = b then C else (C.write (pg : Int) l).2) o b (if 2 = o then met + 1 else met) := by
  obtain ⟨h1, h2⟩ := h.begin 2
  have hpg := h.pages
  have hcp : C.pages = 4 := by rw [← hpg]; unfold Dsk.pages; rw [h.last]
  have hcw := h.calm.write pg (by omega) l (.inl hl)
  unfold Dsk.write
  by_cases c : 2 = o ∧ met = b
  · rw [if_pos c] at h1
    rw [h1] at h2 ⊢
    rw [if_pos (by simp), if_pos c, if_pos c]
    exact ⟨rfl, h2⟩
  · rw [if_neg c] at h1
    rw [h1] at h2
    rw [if_neg c, if_neg c, h1, if_neg (by simp), if_neg (by omega), if_neg (by omega)]
    unfold Dsk.write at hcw
    rw [hcw]
    obtain ⟨b1, b2, b3, b4, b5, b6, b7, b8⟩ := h2
    refine ⟨rfl, b1, b2, b3, b4, b5, ?_, h.calm.go 2, b8⟩
    show D.cache ++ puts (8 * (pg : Int).toNat) l (l.length / 128) = C.cache ++ puts (8 * pg) l (l.length / 128)
    rw [h.cache]; simp
theorem FailOk.sync {D C : Dsk} {o b met : Nat} (h : FailOk D C o b met) :
    D.sync.1 = (if 3 = o ∧ met = b then 6 else 0) ∧ FailOk D.sync.2 (if 3 = o ∧ met = b then C else C.sync.2) o b (if 3 = o then met + 1 else met) := by
  obtain ⟨h1, h2⟩ := h.begin 3
  have hcw := h.calm.sync
  unfold Dsk.sync
  by_cases c : 3 = o ∧ met = b
  · rw [if_pos c] at h1
    rw [h1] at h2 ⊢
    rw [if_pos (by simp), if_pos c, if_pos c]
    exact ⟨rfl, h2⟩
  · rw [if_neg c] at h1
    rw [h1] at h2
    rw [if_neg c, if_neg c, h1, if_neg (by simp)]
    unfold Dsk.sync at hcw
    rw [hcw]
    obtain ⟨b1, b2, b3, b4, b5, b6, b7, b8⟩ := h2
    refine ⟨rfl, b1, b2, b3, b4, ?_, rfl, (h.calm.go 3).settle _, ?_⟩
    · show settled D.last D.cache _ D.cache.length = settled C.last C.cache _ C.cache.length
      rw [h.last, h.cache]
    · rw [Dsk.settle_pages]; exact b8
end Go.Proofs.Ytfbjjblgcgjndaa

/- Contract of the disk's Read. -/
namespace Go.Proofs.Ytfbjjblgcgjndaa
open Go.RowKit Go.Maps

/-- bytes of the call's own, clipped: no room behind them, though their block may have some -/
def Clip (n0 : Nat) (w : World) (A : Option Addr) (l : List Nat) : Prop :=
  (A = none ∧ l = []) ∨ ∃ g cur, A = some ⟨g, 0, none⟩ ∧ n0 ≤ g ∧ w.heap[g]? = some (.cells cur 5 (0, 0)) ∧ l.length ≤ cur.size ∧ cur.size ≤ maxLen ∧ cur.toList.take l.length = ns .u8 l
theorem Clip.of {n0 : Nat} {w : World} {A : Option Addr} {c : Nat} {l : List Nat} (h : Buf n0 w (.slice A l.length c) l) : Clip n0 w A l := by
  rcases h.2 with ⟨h1, h2⟩ | ⟨g, cap, cur, h1, h2, h3, h4, h5, h6, h7⟩
  · injection h1 with h1
    exact .inl ⟨h1, List.eq_nil_of_length_eq_zero h2⟩
  · injection h1 with h1 _ h1c
    exact .inr ⟨g, cur, h1, h2, h3, by omega, by omega, by simpa using h7⟩
theorem Clip.mono {n0 n1 : Nat} {w : World} {A : Option Addr} {l : List Nat} (h : Clip n0 w A l) (hn : n1 ≤ n0) : Clip n1 w A l := by
  rcases h with h | ⟨g, cur, h1, h2, h3⟩
  · exact .inl h
  · exact .inr ⟨g, cur, h1, Nat.le_trans hn h2, h3⟩
theorem Clip.at {n0 : Nat} {w : World} {A : Option Addr} {l : List Nat} (h : Clip n0 w A l) : At w A (ns .u8 l) := by
  rcases h with ⟨rfl, rfl⟩ | ⟨g, cur, rfl, h1, h2, h3, h4, h5⟩
  · exact At.nil _ _
  · refine At.block h2 0 _ fun j v hv => ?_
    rw [← h5, List.getElem?_take] at hv
    split at hv
    · simpa using hv
    · cases hv
theorem Clip.keep {n0 : Nat} {w w' : World} {A : Option Addr} {l : List Nat} {G : Nat → Prop} (h : Clip n0 w A l) (hc : Chg G w w') (hG : ∀ a, A = some a → ¬ G a.block) : Clip n0 w' A l := by
  rcases h with ⟨rfl, rfl⟩ | ⟨g, cur, rfl, h1, h2, h3⟩
  · exact .inl ⟨rfl, rfl⟩
  · exact .inr ⟨g, cur, rfl, h1, by rw [hc.block g (Array.getElem?_eq_some_iff.1 h2).1 (hG _ rfl)]; exact h2, h3⟩
theorem Clip.base {n0 : Nat} {w : World} {A : Option Addr} {l : List Nat} (h : Clip n0 w A l) (a : Addr) (ha : A = some a) : n0 ≤ a.block ∧ a.block < w.heap.size := by
  rcases h with ⟨rfl, rfl⟩ | ⟨g, cur, rfl, h1, h2, h3⟩
  · cases ha
  · cases ha; exact ⟨h1, (Array.getElem?_eq_some_iff.1 h2).1⟩
theorem Clip.nil {n0 : Nat} {w : World} {l : List Nat} (h : Clip n0 w none l) : l.length = 0 := by
  rcases h with ⟨_, h⟩ | ⟨g, cur, h, _⟩
  · rw [h]; rfl
  · cases h
theorem Clip.inner {n0 : Nat} {w : World} {A : Option Addr} {l : List Nat} (h : Clip n0 w A l) (hb : Bytes l) (hs : l.length ≤ 140737488351232) : Inner.Ok w ⟨A, l, l.length⟩ :=
  ⟨h.at, (fun e => by subst e; exact h.nil), Nat.le_refl _, hs, hb⟩
set_option maxRecDepth 100000 in
theorem clip_any (n0 : Nat) (A : Option Addr) (c : Nat) (l : List Nat) (w : World) (h : Buf n0 w (.slice A l.length c) l) :
    Calls Try.prog 127 #[.slice A l.length c] w fun e w' => e = .returned (.slice A l.length l.length) ∧ w = w' := by
  obtain ⟨A', c', e, hA, hn, hle, hm⟩ := h.at
  cases e
  unfold maxLen at hm
  clear h hA hn
  go_enter Try.func127, Try.ntmps127
  go_wp2_with fail
  go_ret
  exact ⟨rfl, rfl⟩
/-- what a read leaves: bytes, a number, the disk -/
def ReadGives (n0 : Nat) (w : World) (p : Nat) (S : Nat → Prop) (r : Nat × List Nat × Dsk) (e : Ending) (w' : World) : Prop :=
  ∃ A, e = .returned (.tuple #[.slice A r.2.1.length r.2.1.length, .int .u16 (r.1 : Nat)]) ∧ Clip w.heap.size w' A r.2.1 ∧ DiskAt n0 w' p r.2.2 S ∧ Chg S w w'
def ReadMid (n0 : Nat) (w : World) (p br : Nat) (S : Nat → Prop) (r : Nat × List Nat × Dsk) (x : Nat) (w' : World) : Prop :=
  x = r.1 ∧ ∃ v, Box w' br v 23 ∧ Buf (br + 1) w' v r.2.1 ∧ DiskAt n0 w' p r.2.2 S ∧ Chg S w w'
set_option maxRecDepth 100000 in
set_option maxHeartbeats 1000000 in
theorem disk_read (n0 : Nat) (w : World) (p : Nat) (D : Dsk) (S : Nat → Prop) (pg : Int) (h : DiskAt n0 w p D S) (hc : D.cache.length ≤ 1000000000000) (hn : D.n 1 ≤ 4611686018427387904)
    (hSp : ∀ g, S g → g < w.heap.size) :
    Calls Try.prog 52 #[.pointer (some ⟨p, 0, none⟩), .int .i64 pg] w (ReadGives n0 w p S (D.read pg)) := by
  have hp := h.here
  obtain ⟨w1, hw1⟩ : ∃ w1, w1 = ((w.alloc (.cells #[.pointer (some ⟨p, 0, none⟩)] 74)).alloc (.cells #[.int .i64 pg] 3)).alloc (.cells #[.slice none 0 0] 23) := ⟨_, rfl⟩
  have hb1 : Below w.heap.size w w1 := by rw [hw1]; exact below_alloc0 (below_alloc0 (below_alloc0 (Below.refl _ _) _) _) _
  have hz1 : w1.heap.size = w.heap.size + 3 := by rw [hw1]; simp only [sz_alloc]
  have B1 : Box w1 w.heap.size (.pointer (some ⟨p, 0, none⟩)) 74 := by unfold Box; rw [hw1]; simp only [hp_alloc, sz_alloc]; (repeat (first | rw [if_neg (by omega)] | rw [if_pos (by omega)] | rw [if_pos trivial]))
  have B2 : Box w1 (w.heap.size + 1) (.int .i64 pg) 3 := by unfold Box; rw [hw1]; simp only [hp_alloc, sz_alloc]; (repeat (first | rw [if_neg (by omega)] | rw [if_pos (by omega)] | rw [if_pos trivial]))
  have B3 : Box w1 (w.heap.size + 1 + 1) (.slice none 0 0) 23 := by unfold Box; rw [hw1]; simp only [hp_alloc, sz_alloc]; (repeat (first | rw [if_neg (by omega)] | rw [if_pos (by omega)] | rw [if_pos trivial]))
  have hd1 := h.below hb1
  obtain ⟨ok, q, M, hin, hft⟩ := hd1
  have hcf : ∀ args w, (callFunc 126 args).run Try.prog w = .ok (.enter 126 args) w := fun args w => rfl
  have c1 := B1.cell
  have hw01 : Chg S w w1 := .of_below hb1
  have hop : Calls Try.prog 119 #[.pointer (some ⟨p, 0, none⟩), .int .i64 1, .func (.func 126) #[] #[.pointer (some ⟨w.heap.size + 1, 0, none⟩), .pointer (some ⟨w.heap.size, 0, none⟩), .pointer (some ⟨w.heap.size + 1 + 1, 0, none⟩)]] w1
      (fun e w'' => ∃ x : Nat, e = .returned (.int .u16 (x : Nat)) ∧ ReadMid n0 w p (w.heap.size + 1 + 1) S (D.read pg) x w'') := by
    by_cases hb : (D.begin 1).1 = 0
    · have hwr : D.read pg = if pg < 0 ∨ (D.pages : Int) ≤ pg then (2, [], D.go 1) else (0, D.secs (8 * pg.toNat) 8, D.go 1) := by
        unfold Dsk.read; rw [if_neg (by simpa using hb)]
      refine op_go1 _ _ _ p D 126 _ _ w1 hin.rcd ok hn hb hcf ?_
      intro w2 hrec hch
      have hin2 := hin.turned hrec hch rfl rfl
      have hd2 : DiskAt n0 w2 p (D.go 1) S := ⟨D.go_ok ok 1, q, M, hin2, hft⟩
      have hpw := hSp p hp
      have b1 := B1.keep hch (fun e => by have := (show w.heap.size = p from e); omega)
      have b2 := B2.keep hch (fun e => by have := (show w.heap.size + 1 = p from e); omega)
      have b3 := B3.keep hch (fun e => by have := (show w.heap.size + 1 + 1 = p from e); omega)
      have hw02 : Chg S w w2 := hw01.trans hch (fun g _ e => by rw [show g = p from e]; exact hp)
      by_cases c1 : pg < 0 ∨ (D.pages : Int) ≤ pg
      · rw [hwr, if_pos c1]
        refine (read_range n0 w2 p (D.go 1) S pg _ _ _ hd2 b2 b1 c1).mono ?_
        rintro e w3 ⟨rfl, hb3⟩
        exact ⟨2, rfl, rfl, _, b3.keep (G := fun _ => False) (.of_below hb3) (fun h => h), Buf.nil _ _, hd2.below hb3, hw02.trans (.of_below (F := fun _ => False) hb3) (fun _ _ h => h.elim)⟩
      · obtain ⟨n, rfl⟩ : ∃ n : Nat, pg = (n : Int) := ⟨pg.toNat, by omega⟩
        rw [hwr, if_neg c1]
        refine (read_do n0 w2 p (D.go 1) S n _ _ _ hd2 b2 b1 b3 (by show n < D.pages; omega) (fun g hg e => by have := hSp g hg; omega) (by omega) (by omega) hc).mono ?_
        rintro e w3 ⟨rfl, v, hx, hv, hc3⟩
        refine ⟨0, rfl, rfl, v, hx, ?_, hd2.keep hc3 (fun g _ hg e => by have := hSp g hg; have := show g = w.heap.size + 1 + 1 from e; omega), hw02.trans hc3 (fun g hg e => by have := show g = w.heap.size + 1 + 1 from e; omega)⟩
        rw [Int.toNat_natCast]
        exact own_up hv (fun g hg => by have := (hv.base g hg); have := hch.size; omega)
    · have hwr : D.read pg = ((D.begin 1).1, [], (D.begin 1).2) := by unfold Dsk.read; rw [if_pos hb]
      rw [hwr]
      refine (op_fails1 _ _ _ p D _ w1 hin.rcd ok hn hb).mono ?_
      rintro e w2 ⟨rfl, hrec, hch⟩
      have hin2 := hin.turned hrec hch (D.begin_last 1).1 (D.begin_last 1).2
      have hpw := hSp p hp
      exact ⟨_, rfl, rfl, _, B3.keep hch (fun e => by have := (show w.heap.size + 1 + 1 = p from e); omega), Buf.nil _ _, ⟨D.begin_ok ok 1, q, M, hin2, hft⟩, hw01.trans hch (fun g _ e => by rw [show g = p from e]; exact hp)⟩
  have HOP := Lib.hid hop
  have HSP := Lib.hid hSp
  clear hop hSp
  generalize D.read pg = r at *
  go_enter Try.func52, Try.ntmps52
  go_wp2_with fail
  rw [← hw1]
  have HW1 := Lib.hid hw1
  have HZ1 := Lib.hid hz1
  clear hw1 hz1
  go_wp2_with fail
  refine HOP.out.mono ?_
  rintro e w9 ⟨x, rfl, rfl, v, hx, hv, hd9, hc9⟩
  obtain ⟨A, cc, rfl⟩ := own_slice hv
  have g1 := hx.cell
  have hcl := clip_any _ A cc r.2.1 w9 hv
  have HX := Lib.hid hx
  have HV := Lib.hid hv
  have HD9 := Lib.hid hd9
  have HC9 := Lib.hid hc9
  have HCL := Lib.hid hcl
  clear hx hv hd9 hc9 hcl
  go_wp2_with fail
  refine HCL.out.mono ?_
  rintro e w10 ⟨rfl, rfl⟩
  have f1 := frozen_of_row w9 (w.heap.size + 1 + 1) 0 _ 23 HX.out
  go_wp2_with fail
  have hcs := setCell_chg w9 (w.heap.size + 1 + 1) 0 (.slice A r.2.1.length r.2.1.length)
  have hb9 := HV.out.base
  have hlt := HX.out.lt
  refine bodyPost_ret (v := .tuple #[.slice A r.2.1.length r.2.1.length, .int .u16 (r.1 : Nat)]) (by simp [results, Try.results52, go_sem, g1]) rfl ⟨A, rfl, ?_, ?_, HC9.out.trans hcs (fun g hg e => by have := show g = w.heap.size + 1 + 1 from e; omega)⟩
  · refine ((Clip.of HV.out).keep hcs (fun a ha e => ?_)).mono (by omega)
    have := hb9 a.block (by rw [ha]; rfl)
    have := show a.block = w.heap.size + 1 + 1 from e
    omega
  · exact HD9.out.keep hcs (fun g _ hg e => by have := HSP.out g hg; have := show g = w.heap.size + 1 + 1 from e; omega)
end Go.Proofs.Ytfbjjblgcgjndaa

/- The disk's contracts over a disk with its blocks known: what stays, what is new. -/
namespace Go.Proofs.Ytfbjjblgcgjndaa
open Go.RowKit

/-- a disk at p, all of it between n0 and the heap's end -/
structure DG (n0 : Nat) (w : World) (p : Nat) (D : Dsk) (S : Nat → Prop) : Prop where
  disk : DiskAt n0 w p D S
  lt : ∀ g, S g → n0 ≤ g ∧ g < w.heap.size
theorem DG.here {n0 : Nat} {w : World} {p : Nat} {D : Dsk} {S : Nat → Prop} (h : DG n0 w p D S) : S p := h.disk.here
theorem DG.ok {n0 : Nat} {w : World} {p : Nat} {D : Dsk} {S : Nat → Prop} (h : DG n0 w p D S) : D.Ok := h.disk.1
theorem DG.keep {n0 : Nat} {w w' : World} {p : Nat} {D : Dsk} {S G : Nat → Prop} (h : DG n0 w p D S) (hc : Chg G w w') (hG : ∀ g, S g → ¬ G g) : DG n0 w' p D S :=
  ⟨h.disk.keep hc (fun g _ hg => hG g hg), fun g hg => ⟨(h.lt g hg).1, Nat.lt_of_lt_of_le (h.lt g hg).2 hc.size⟩⟩
theorem DG.below {n0 : Nat} {w w' : World} {p : Nat} {D : Dsk} {S : Nat → Prop} (h : DG n0 w p D S) (hb : Below w.heap.size w w') : DG n0 w' p D S :=
  h.keep (G := fun _ => False) (.of_below hb) (fun _ _ h => h)
/-- the blocks of T are S's, or new -/
def Grows (w : World) (S T : Nat → Prop) : Prop := ∀ g, T g → S g ∨ w.heap.size ≤ g
theorem Grows.refl (w : World) (S : Nat → Prop) : Grows w S S := fun _ h => .inl h
theorem Grows.trans {w w' : World} {S T U : Nat → Prop} (h : Grows w S T) (k : Grows w' T U) (hw : w.heap.size ≤ w'.heap.size) : Grows w S U := fun g hg => by
  rcases k g hg with a | a
  · exact h g a
  · exact .inr (Nat.le_trans hw a)
/-- what is apart from S is apart from what S grows to -/
theorem Grows.apart {w : World} {S T X : Nat → Prop} (h : Grows w S T) (hx : ∀ g, X g → g < w.heap.size) (ha : ∀ g, X g → ¬ S g) : ∀ g, X g → ¬ T g := fun g hg ht => by
  rcases h g ht with a | a
  · exact ha g hg a
  · have := hx g hg; omega
def Now (n0 : Nat) (w : World) (p : Nat) (S : Nat → Prop) (D' : Dsk) (w' : World) : Prop := ∃ S', DG n0 w' p D' S' ∧ Grows w S S' ∧ Chg S w w'
theorem DG.now {n0 : Nat} {w w' : World} {p : Nat} {D D' : Dsk} {S : Nat → Prop} (h : DG n0 w p D S) (hn : n0 ≤ w.heap.size) (hd : DiskAt n0 w' p D' (Wide S w.heap.size w'.heap.size)) (hc : Chg S w w') : Now n0 w p S D' w' :=
  ⟨_, ⟨hd, fun g hg => by
    rcases hg with hg | hg
    · exact ⟨(h.lt g hg).1, Nat.lt_of_lt_of_le (h.lt g hg).2 hc.size⟩
    · exact ⟨Nat.le_trans hn hg.1, hg.2⟩⟩, fun g hg => hg.elim .inl (fun h => .inr h.1), hc⟩
def DkGives (n0 : Nat) (w : World) (p : Nat) (S : Nat → Prop) (x : Nat) (D' : Dsk) (e : Ending) (w' : World) : Prop := e = .returned (.int .u16 (x : Nat)) ∧ Now n0 w p S D' w'
theorem dg_write {n0 : Nat} {w : World} {p : Nat} {D : Dsk} {S : Nat → Prop} (h : DG n0 w p D S) (hn0 : n0 ≤ w.heap.size) (pg : Int) (A : Option Addr) (c : Nat) (l : List Nat) (hr : Inner.Ok w ⟨A, l, c⟩) (hA : ∀ a, A = some a → ¬ S a.block) (hc : D.cache.length ≤ 1000000000000) (hn : D.n 2 ≤ 4611686018427387904) :
    Calls Try.prog 48 #[.pointer (some ⟨p, 0, none⟩), .int .i64 pg, .slice A l.length c] w (DkGives n0 w p S (D.write pg l).1 (D.write pg l).2) :=
  (disk_write n0 w p D S pg ⟨A, l, c⟩ h.disk hr hc hn hn0 hA (fun g hg => (h.lt g hg).2) h.here).mono fun e w' ⟨a, b, d⟩ => ⟨a, h.now hn0 b d⟩
theorem dg_sync {n0 : Nat} {w : World} {p : Nat} {D : Dsk} {S : Nat → Prop} (h : DG n0 w p D S) (hn0 : n0 ≤ w.heap.size) (hc : D.cache.length ≤ 1000000000000) (hn : D.n 3 ≤ 4611686018427387904) :
    Calls Try.prog 50 #[.pointer (some ⟨p, 0, none⟩)] w (DkGives n0 w p S D.sync.1 D.sync.2) :=
  (disk_sync n0 w p D S h.disk hc hn (fun g hg => (h.lt g hg).2) h.here).mono fun e w' ⟨a, b, d⟩ => ⟨a, h.now hn0 b d⟩
theorem dg_trip {n0 : Nat} {w : World} {p : Nat} {D : Dsk} {S : Nat → Prop} (h : DG n0 w p D S) (hn0 : n0 ≤ w.heap.size) (n : Int) (hn : n ≤ 9223372036854775807) :
    Calls Try.prog 53 #[.pointer (some ⟨p, 0, none⟩), .int .i64 n] w (DkGives n0 w p S (D.setTrip n).1 (D.setTrip n).2) :=
  (disk_trip n0 w p D S n h.disk hn).mono fun e w' ⟨a, b, d⟩ => ⟨a, h.now hn0 b d⟩
theorem dg_fail {n0 : Nat} {w : World} {p : Nat} {D : Dsk} {S : Nat → Prop} (h : DG n0 w p D S) (hn0 : n0 ≤ w.heap.size) (k n : Int) (hn : n ≤ 9223372036854775807) :
    Calls Try.prog 58 #[.pointer (some ⟨p, 0, none⟩), .int .i64 k, .int .i64 n] w (DkGives n0 w p S (D.setFail k n).1 (D.setFail k n).2) :=
  (disk_fail n0 w p D S k n h.disk hn).mono fun e w' ⟨a, b, d⟩ => ⟨a, h.now hn0 b d⟩
theorem dg_cut {n0 : Nat} {w : World} {p : Nat} {D : Dsk} {S : Nat → Prop} (h : DG n0 w p D S) (hn0 : n0 ≤ w.heap.size) (A : Option Addr) (c : Nat) (bs : List Bool) (hc : D.cache.length ≤ 1000000000000) (hB : ∀ w', Chg S w w' → At w' A (bs.map .bool)) :
    Calls Try.prog 51 #[.pointer (some ⟨p, 0, none⟩), .slice A bs.length c] w fun e w' => e = .returned (.tuple #[]) ∧ Now n0 w p S (D.cut bs) w' :=
  (disk_cut n0 w p D S A c bs h.disk hc hB (fun g hg => (h.lt g hg).2)).mono fun e w' ⟨a, b, d⟩ => ⟨a, h.now hn0 (b.mono fun _ _ _ h => .inl h) d⟩
theorem dg_dark {n0 : Nat} {w : World} {p : Nat} {D : Dsk} {S : Nat → Prop} (h : DG n0 w p D S) : Calls Try.prog 54 #[.pointer (some ⟨p, 0, none⟩)] w fun e w' => e = .returned (.bool D.dark) ∧ w = w' := disk_dark n0 w p D S h.disk
theorem dg_counts {n0 : Nat} {w : World} {p : Nat} {D : Dsk} {S : Nat → Prop} (h : DG n0 w p D S) : Calls Try.prog 56 #[.pointer (some ⟨p, 0, none⟩)] w fun e w' => e = .returned (.agg #[.int .i64 (D.n 1), .int .i64 (D.n 2), .int .i64 (D.n 3)]) ∧ Below w.heap.size w w' := disk_counts n0 w p D S h.disk
theorem dg_new (n : Nat) (w : World) (h1 : 1 ≤ n) (h2 : n ≤ 16384) : Calls Try.prog 46 #[.int .i64 (n : Int)] w fun e w' => ∃ p S, e = .returned (.tuple #[.pointer (some ⟨p, 0, none⟩), .int .u16 0]) ∧ DG w.heap.size w' p (Dsk.new n) S ∧ Below w.heap.size w w' :=
  (new_ok n w h1 h2).mono fun e w' ⟨p, a, b, c⟩ => ⟨p, _, a, ⟨b, fun g hg => hg⟩, c⟩
theorem DG.new_n {n0 : Nat} {w : World} {p : Nat} {D : Dsk} {S : Nat → Prop} (h : DG n0 w p D S) : n0 ≤ w.heap.size := by have := h.lt p h.here; omega
def RdGives (n0 : Nat) (w : World) (p : Nat) (S : Nat → Prop) (r : Nat × List Nat × Dsk) (e : Ending) (w' : World) : Prop :=
  ∃ A, e = .returned (.tuple #[.slice A r.2.1.length r.2.1.length, .int .u16 (r.1 : Nat)]) ∧ Clip w.heap.size w' A r.2.1 ∧ DG n0 w' p r.2.2 S ∧ Chg S w w'
theorem dg_read {n0 : Nat} {w : World} {p : Nat} {D : Dsk} {S : Nat → Prop} (h : DG n0 w p D S) (pg : Int) (hc : D.cache.length ≤ 1000000000000) (hn : D.n 1 ≤ 4611686018427387904) :
    Calls Try.prog 52 #[.pointer (some ⟨p, 0, none⟩), .int .i64 pg] w (RdGives n0 w p S (D.read pg)) :=
  (disk_read n0 w p D S pg h.disk hc hn (fun g hg => (h.lt g hg).2)).mono fun e w' ⟨A, a, b, c, d⟩ => ⟨A, a, b, ⟨c, fun g hg => ⟨(h.lt g hg).1, Nat.lt_of_lt_of_le (h.lt g hg).2 d.size⟩⟩, d⟩
theorem dg_pending {n0 : Nat} {w : World} {p : Nat} {D : Dsk} {S : Nat → Prop} (h : DG n0 w p D S) (hc : D.cache.length ≤ 1000000000000) :
    Calls Try.prog 55 #[.pointer (some ⟨p, 0, none⟩)] w (GivesInts (D.cache.map (·.1)) w) := pending_any n0 w p D S h.disk hc
theorem dg_image {n0 : Nat} {w : World} {p : Nat} {D : Dsk} {S : Nat → Prop} (h : DG n0 w p D S) :
    Calls Try.prog 57 #[.pointer (some ⟨p, 0, none⟩)] w (GivesFill D.last.flatten w) := image_any n0 w p D S h.disk
end Go.Proofs.Ytfbjjblgcgjndaa

/- What a walk over a disk carries along: rows and clipped rows aside of the disk's blocks. -/
namespace Go.Proofs.Ytfbjjblgcgjndaa
open Go.RowKit

def Fills (n c : Nat) (w : World) (e : Ending) (w' : World) : Prop := ∃ A cc, e = .returned (.slice A n cc) ∧ Buf w.heap.size w' (.slice A n cc) (List.replicate n c) ∧ Below w.heap.size w w'
theorem fill_any (n c : Nat) (w : World) (hn : n ≤ 1000000) (hc : c < 256) : Calls Try.prog 49 #[.int .i64 (n : Int), .int .u8 (c : Int)] w (Fills n c w) := by
  refine (fill7_any n c w hn hc).mono ?_
  rintro e w' ⟨A, cc, h1, h2, h3⟩
  rw [List.length_replicate] at h1 h2
  exact ⟨A, cc, h1, h2, h3⟩
theorem rep_bytes (n c : Nat) (hc : c < 256) : Bytes (List.replicate n c) := fun x hx => by rw [(List.mem_replicate.1 hx).2]; exact hc
theorem buf_ok {n0 n c : Nat} {w : World} {A : Option Addr} {l : List Nat} (h : Buf n0 w (.slice A n c) l) (hb : Bytes l) (hs : l.length ≤ 140737488351232) : n = l.length ∧ Inner.Ok w ⟨A, l, c⟩ := by
  obtain ⟨A', c', e, h1, h2, h3, h4⟩ := h.at
  injection e with e1 e2 e3
  subst e1 e3
  exact ⟨e2, h1, h2, h3, hs, hb⟩
/-- blocks X that lie, and are none of S -/
structure Aside (w : World) (S X : Nat → Prop) : Prop where
  lt : ∀ g, X g → g < w.heap.size
  off : ∀ g, X g → ¬ S g
theorem Aside.up {w w' : World} {S X : Nat → Prop} (h : Aside w S X) (hs : w.heap.size ≤ w'.heap.size) : Aside w' S X := ⟨fun g hg => Nat.lt_of_lt_of_le (h.lt g hg) hs, h.off⟩
theorem Aside.now {w w' : World} {S S' X : Nat → Prop} (h : Aside w S X) (hg : Grows w S S') (hs : w.heap.size ≤ w'.heap.size) : Aside w' S' X := ⟨fun g hg => Nat.lt_of_lt_of_le (h.lt g hg) hs, hg.apart h.lt h.off⟩
theorem Aside.row {n0 : Nat} {w : World} {e : TypeId} {n : Nat} {v : Value} {xs : List Value} {S : Nat → Prop} (h : w.ownsRow n0 e 1 v n xs) (hS : ∀ g, S g → g < n0) : Aside w S (blk v) :=
  ⟨fun g hg => (row_lt h hg).2, fun g hg h' => by have := (row_lt h hg).1; have := hS g h'; omega⟩
theorem Aside.clip {n0 : Nat} {w : World} {A : Option Addr} {l : List Nat} {n c : Nat} {S : Nat → Prop} (h : Clip n0 w A l) (hS : ∀ g, S g → g < n0) : Aside w S (blk (.slice A n c)) :=
  ⟨fun g hg => by
    cases A with
    | none => cases hg
    | some a => cases hg; exact (h.base a rfl).2, fun g hg h' => by
    cases A with
    | none => cases hg
    | some a => cases hg; have := (h.base a rfl).1; have := hS _ h'; omega⟩
theorem Clip.chg {n0 : Nat} {w w' : World} {A : Option Addr} {l : List Nat} {n c : Nat} {S : Nat → Prop} (h : Clip n0 w A l) (ha : Aside w S (blk (.slice A n c))) (hc : Chg S w w') : Clip n0 w' A l :=
  h.keep hc (fun a e => ha.off _ (by rw [e]; rfl))
theorem Clip.below {n0 : Nat} {w w' : World} {A : Option Addr} {l : List Nat} (h : Clip n0 w A l) (hb : Below w.heap.size w w') : Clip n0 w' A l :=
  h.keep (G := fun _ => False) (.of_below hb) (fun _ _ h => h)
theorem own_aside {n0 : Nat} {w w' : World} {e : TypeId} {n : Nat} {v : Value} {xs : List Value} {S : Nat → Prop} (h : w.ownsRow n0 e 1 v n xs) (ha : Aside w S (blk v)) (hc : Chg S w w') : w'.ownsRow n0 e 1 v n xs := own_chg h hc ha.off
theorem DG.after {n0 : Nat} {w0 w w' : World} {p : Nat} {D : Dsk} {S : Nat → Prop} (h : DG n0 w p D S) (hb : Below n0 w0 w) (hc : Chg S w w') : Below n0 w0 w' := hb.trans (hc.below h.new_n (fun g hg => (h.lt g hg).1))
theorem DG.top {n0 : Nat} {w : World} {p : Nat} {D : Dsk} {S : Nat → Prop} (h : DG n0 w p D S) : ∀ g, S g → g < w.heap.size := fun g hg => (h.lt g hg).2
/-- a disk aside of another one's blocks -/
theorem DG.chg {n0 : Nat} {w w' : World} {p : Nat} {D : Dsk} {S T : Nat → Prop} (h : DG n0 w p D S) (ha : Aside w T S) (hc : Chg T w w') : DG n0 w' p D S := h.keep hc ha.off
theorem Aside.comm {w : World} {S T : Nat → Prop} (h : Aside w S T) (hS : ∀ g, S g → g < w.heap.size) : Aside w T S := ⟨hS, fun g hg ht => h.off g ht hg⟩
theorem dg_writeb {n0 m : Nat} {w : World} {p : Nat} {D : Dsk} {S : Nat → Prop} (h : DG n0 w p D S) (pg : Int) (n : Nat) (A : Option Addr) (c : Nat) (l : List Nat) (hv : Buf m w (.slice A n c) l) (ha : Aside w S (blk (.slice A n c))) (hl : Bytes l) (hs : l.length ≤ 140737488351232) (hc : D.cache.length ≤ 1000000000000) (hn : D.n 2 ≤ 4611686018427387904) :
    Calls Try.prog 48 #[.pointer (some ⟨p, 0, none⟩), .int .i64 pg, .slice A n c] w (DkGives n0 w p S (D.write pg l).1 (D.write pg l).2) := by
  obtain ⟨rfl, hok⟩ := buf_ok hv hl hs
  exact dg_write h h.new_n pg A c l hok (fun a e => ha.off _ (by rw [e]; rfl)) hc hn
theorem dg_writef {n0 m : Nat} {w : World} {p : Nat} {D : Dsk} {S : Nat → Prop} (h : DG n0 w p D S) (pg : Int) (n k : Nat) (A : Option Addr) (c : Nat) (hv : Buf m w (.slice A n c) (List.replicate n k)) (ha : Aside w S (blk (.slice A n c))) (hk : k < 256) (hs : n ≤ 1000000) (hc : D.cache.length ≤ 1000000000000) (hn : D.n 2 ≤ 4611686018427387904) :
    Calls Try.prog 48 #[.pointer (some ⟨p, 0, none⟩), .int .i64 pg, .slice A n c] w (DkGives n0 w p S (D.write pg (List.replicate n k)).1 (D.write pg (List.replicate n k)).2) :=
  dg_writeb h pg n A c _ hv ha (rep_bytes n k hk) (by rw [List.length_replicate]; omega) hc hn
theorem ints_at {n0 n c : Nat} {w : World} {A : Option Addr} {l : List Nat} (h : w.ownsRow n0 3 1 (.slice A n c) n (ns .i64 l)) : At w A (ns .i64 l) := by
  obtain ⟨A', c', e, h1, _⟩ := At.own h
  injection e with e1 e2 e3
  subst e1
  exact h1
theorem sameInts_eq (A B : Option Addr) (n k c d : Nat) (l m : List Nat) (w : World) (hn : n = l.length) (hk : k = m.length) (hl : l.length ≤ 140737488355328) (h : l = m) (hA : At w A (ns .i64 l)) (hB : At w B (ns .i64 m)) :
    Calls Try.prog 59 #[.slice A n c, .slice B k d] w fun e w' => e = .returned (.bool true) ∧ Below w.heap.size w w' := by
  subst hn hk
  refine (sameInts_any A B c d l m w hl (by rw [← h]; exact hl) hA hB).mono ?_
  rintro e w' ⟨rfl, hb⟩
  exact ⟨by rw [decide_eq_true h], hb⟩
theorem image_small {D : Dsk} (ok : D.Ok) : D.last.flatten.length ≤ 140737488355328 := by
  rw [rows_length (m := 128) (fun s hs => (ok.last s hs).1)]
  obtain ⟨p, h1, h2, h3⟩ := ok.pages
  omega
theorem dg_imagel {n0 : Nat} {w : World} {p : Nat} {D : Dsk} {S : Nat → Prop} {F : List Nat} (h : DG n0 w p D S) (hF : F = D.last.flatten) : Calls Try.prog 57 #[.pointer (some ⟨p, 0, none⟩)] w (GivesFill F w) := by
  rw [hF]; exact dg_image h
theorem own_down {w : World} {base b2 : Nat} {e : TypeId} {size n : Nat} {v : Value} {xs : List Value} (h : w.ownsRow base e size v n xs) (hb : b2 ≤ base) : w.ownsRow b2 e size v n xs :=
  own_up h (fun g hg => Nat.le_trans hb (row_lt h hg).1)
theorem DiskAt.lift {n0 n1 : Nat} {w : World} {p : Nat} {D : Dsk} {S : Nat → Prop} (h : DiskAt n1 w p D S) (hn : n0 ≤ n1) : DiskAt n0 w p D S := by
  obtain ⟨ok, q, M, hin, hft⟩ := h
  exact ⟨ok, q, M, ⟨hin.rcd, hin.last, own_down hin.cache hn, hin.map, hin.seen, ⟨Nat.le_trans hn hin.bases.1, Nat.le_trans hn hin.bases.2.1, Nat.le_trans hn hin.bases.2.2.1, hin.bases.2.2.2⟩, hin.sep⟩, hft⟩
theorem dg_newl {n0 : Nat} (n : Nat) (w : World) (hn : n0 ≤ w.heap.size) (h1 : 1 ≤ n) (h2 : n ≤ 16384) : Calls Try.prog 46 #[.int .i64 (n : Int)] w fun e w' => ∃ p S, e = .returned (.tuple #[.pointer (some ⟨p, 0, none⟩), .int .u16 0]) ∧ DG n0 w' p (Dsk.new n) S ∧ (∀ T, (∀ g, T g → g < w.heap.size) → Aside w' S T) ∧ Below w.heap.size w w' :=
  (dg_new n w h1 h2).mono fun e w' ⟨p, S, a, b, c⟩ => ⟨p, S, a, ⟨b.disk.lift hn, fun g hg => ⟨Nat.le_trans hn (b.lt g hg).1, (b.lt g hg).2⟩⟩, fun T hT => ⟨fun g hg => Nat.lt_of_lt_of_le (hT g hg) c.size, fun g hg hs => by have := hT g hg; have := (b.lt g hs).1; omega⟩, c⟩
theorem At.part {w : World} {g o : Nat} {l : List Nat} (h : At w (some ⟨g, o, none⟩) (ns .u8 l)) (i n : Nat) : At w (some ⟨g, o + i, none⟩) (ns .u8 ((l.drop i).take n)) := fun hn => by
  have hne : ns .u8 l ≠ [] := fun e => hn (by
    have : l = [] := by simpa [ns] using e
    rw [this]; simp [ns])
  obtain ⟨b, o', e, hr⟩ := h hne
  cases e
  refine ⟨g, o + i, rfl, fun j v hv => ?_⟩
  rw [show o + i + j = o + (i + j) by omega]
  refine hr (i + j) v ?_
  simp only [ns, List.getElem?_map, List.getElem?_take, List.getElem?_drop] at hv ⊢
  split at hv
  · exact hv
  · simp at hv
theorem Clip.form {n0 : Nat} {w : World} {A : Option Addr} {l : List Nat} (h : Clip n0 w A l) (hl : 0 < l.length) : ∃ g, A = some ⟨g, 0, none⟩ := by
  rcases h with ⟨rfl, rfl⟩ | ⟨g, cur, rfl, _⟩
  · simp at hl
  · exact ⟨g, rfl⟩
theorem same_num (A B : Option Addr) (n k c d : Nat) (l m : List Nat) (w : World) (hn : n = l.length) (hk : k = m.length) (hl : l.length ≤ 140737488355328) (hm : m.length ≤ 140737488355328) (hA : At w A (ns .u8 l)) (hB : At w B (ns .u8 m)) :
    Calls Try.prog 45 #[.slice A n c, .slice B k d] w fun e w' => e = .returned (.bool (decide (l = m))) ∧ Below w.heap.size w w' := by
  subst hn hk
  exact same_any A B c d l m w hl hm hA hB
theorem same_eq (A B : Option Addr) (n k c d : Nat) (l m : List Nat) (w : World) (hn : n = l.length) (hk : k = m.length) (hl : l.length ≤ 140737488355328) (h : l = m) (hA : At w A (ns .u8 l)) (hB : At w B (ns .u8 m)) :
    Calls Try.prog 45 #[.slice A n c, .slice B k d] w fun e w' => e = .returned (.bool true) ∧ Below w.heap.size w w' := by
  refine (same_num A B n k c d l m w hn hk hl (by rw [← h]; exact hl) hA hB).mono ?_
  rintro e w' ⟨rfl, hb⟩
  exact ⟨by rw [decide_eq_true h], hb⟩
theorem buf_at {n0 n c : Nat} {w : World} {A : Option Addr} {l : List Nat} (h : Buf n0 w (.slice A n c) l) : n = l.length ∧ At w A (ns .u8 l) := by
  obtain ⟨A', c', e, h1, _⟩ := h.at
  injection e with e1 e2 e3
  subst e1 e3
  exact ⟨e2, h1⟩
end Go.Proofs.Ytfbjjblgcgjndaa

/- Disk, plain laws: how far the counts and the cache have come. -/
namespace Go.Proofs.Ytfbjjblgcgjndaa

/-- behind k operations at most -/
def Small (D : Dsk) (k : Nat) : Prop := D.cache.length ≤ 8 * k ∧ ∀ j, D.n j ≤ (k : Int)
theorem Small.new (p : Nat) : Small (Dsk.new p) 0 := ⟨Nat.zero_le _, fun j => by simp [Dsk.new]⟩
theorem Small.mono {D : Dsk} {k m : Nat} (h : Small D k) (hk : k ≤ m) : Small D m := ⟨by have := h.1; omega, fun j => by have := h.2 j; omega⟩
theorem Small.more {D D' : Dsk} {k : Nat} (h : Small D k) (hc : D'.cache.length ≤ D.cache.length + 8) (hn : ∀ j, D'.n j ≤ D.n j + 1) : Small D' (k + 1) :=
  ⟨by have := h.1; omega, fun j => by have := h.2 j; have := hn j; omega⟩
theorem turn_le (n : Nat → Int) (k j : Nat) : turn n k (n k + 1) j ≤ n j + 1 := by
  by_cases e : j = k
  · subst e; rw [turn_same]; omega
  · rw [turn_other _ _ _ _ e]; omega
theorem Dsk.begin_n (D : Dsk) (k j : Nat) : (D.begin k).2.n j ≤ D.n j + 1 := by
  unfold Dsk.begin
  split
  · show D.n j ≤ _; omega
  · split
    · show D.n j ≤ _; omega
    · split
      · exact turn_le D.n k j
      · exact turn_le D.n k j
theorem Small.begin {D : Dsk} {k : Nat} (h : Small D k) (i : Nat) : Small (D.begin i).2 (k + 1) :=
  h.more (by rw [(D.begin_last i).2]; omega) (D.begin_n i)
theorem Small.go {D : Dsk} {k : Nat} (h : Small D k) (i : Nat) : Small (D.go i) (k + 1) :=
  h.more (by show D.cache.length ≤ _; omega) (turn_le D.n i)
theorem Small.write {D : Dsk} {k : Nat} (h : Small D k) (pg : Int) (b : List Nat) : Small (D.write pg b).2 (k + 1) := by
  unfold Dsk.write
  split
  · exact h.begin 2
  · split
    · exact h.go 2
    · split
      · exact h.go 2
      · rename_i hb
        refine h.more ?_ (turn_le D.n 2)
        show (D.cache ++ puts (8 * pg.toNat) b (b.length / 128)).length ≤ _
        rw [List.length_append, puts_length]
        have : b.length = 1024 ∨ b.length = 128 := by omega
        rcases this with e | e <;> rw [e] <;> omega
theorem Small.sync {D : Dsk} {k : Nat} (h : Small D k) : Small D.sync.2 (k + 1) := by
  unfold Dsk.sync
  split
  · exact h.begin 3
  · exact h.more (by show 0 ≤ _; omega) (turn_le D.n 3)
theorem Small.read {D : Dsk} {k : Nat} (h : Small D k) (pg : Int) : Small (D.read pg).2.2 (k + 1) := by
  unfold Dsk.read
  split
  · exact h.begin 1
  · split
    · exact h.go 1
    · exact h.go 1
theorem Small.cut {D : Dsk} {k : Nat} (h : Small D k) (bs : List Bool) : Small (D.cut bs) k := ⟨Nat.zero_le _, h.2⟩
theorem Small.setTrip {D : Dsk} {k : Nat} (h : Small D k) (n : Int) : Small (D.setTrip n).2 k := by
  unfold Dsk.setTrip
  split
  · exact h
  · split <;> exact h
theorem Small.setFail {D : Dsk} {k : Nat} (h : Small D k) (i n : Int) : Small (D.setFail i n).2 k := by
  unfold Dsk.setFail
  split
  · exact h
  · split <;> exact h
theorem Small.c {D : Dsk} {k : Nat} (h : Small D k) (hk : k ≤ 100000000) : D.cache.length ≤ 1000000000000 := by have := h.1; omega
theorem Small.m {D : Dsk} {k : Nat} (h : Small D k) (hk : k ≤ 100000000) (j : Nat) : D.n j ≤ 4611686018427387904 := by have := h.2 j; omega
end Go.Proofs.Ytfbjjblgcgjndaa

/- The reference's disk in memory, over the same plain disk. -/
namespace Go.Proofs.Ytfbjjblgcgjndaa
open Go.RowKit

/-- the reference disk's own cells -/
def rcell (L C V : Value) (D : Dsk) : Nat → Value
  | 0 => L
  | 1 => C
  | 2 => .bool D.dark
  | 3 => .int .i64 D.trip
  | 4 => V
  | 5 => .int .i64 (D.n 1)
  | 6 => .int .i64 (D.n 2)
  | 7 => .int .i64 (D.n 3)
  | _ => undef
/-- its four faults -/
def fourF (D : Dsk) : List Value := [.int .i64 (D.f 0), .int .i64 (D.f 1), .int .i64 (D.f 2), .int .i64 (D.f 3)]
/-- a value that is a slice of these bytes, its block among Y -/
def RowIn (w : World) (Y : Nat → Prop) (v : Value) (s : List Nat) : Prop := ∃ A c, v = .slice A s.length c ∧ At w A (ns .u8 s) ∧ (A = none → c = 0) ∧ ∀ a, A = some a → Y a.block
theorem RowIn.keep {w w' : World} {Y G : Nat → Prop} {v : Value} {s : List Nat} (h : RowIn w Y v s) (hc : Chg G w w') (hG : ∀ g, Y g → ¬ G g) : RowIn w' Y v s := by
  obtain ⟨A, c, h1, h2, h3, h4⟩ := h
  exact ⟨A, c, h1, h2.chg hc (fun a ha => hG _ (h4 a ha)), h3, h4⟩
theorem RowIn.mono {w : World} {Y Y' : Nat → Prop} {v : Value} {s : List Nat} (h : RowIn w Y v s) (hY : ∀ g, Y g → Y' g) : RowIn w Y' v s := by
  obtain ⟨A, c, h1, h2, h3, h4⟩ := h
  exact ⟨A, c, h1, h2, h3, fun a ha => hY _ (h4 a ha)⟩
/-- the cells of a write in the cache -/
def rwcell (x : Nat × Value) : List Value := [.int .i64 (x.1 : Int), x.2]
structure RParts where
  L : Value
  C : Value
  V : Value
  F : Nat → Value
  G : Nat → Value
/-- the cache's cells: where, and a slice -/
def ccells (c : List (Nat × List Nat)) (G : Nat → Value) : List Value := (List.range c.length).flatMap fun i => [.int .i64 (((c.getD i (0, [])).1 : Nat) : Int), G i]
/-- the containers' blocks -/
def RParts.box (p : Nat) (q : RParts) (g : Nat) : Prop := g = p ∨ blk q.L g ∨ blk q.C g ∨ blk q.V g
structure RDiskIn (n0 : Nat) (w : World) (p : Nat) (D : Dsk) (q : RParts) (Y : Nat → Prop) : Prop where
  rcd : RecAt w p 193 8 (rcell q.L q.C q.V D)
  last : w.ownsRow n0 23 1 q.L D.last.length (lst q.F D.last.length)
  rows : ∀ i, i < D.last.length → RowIn w Y (q.F i) (D.last.getD i [])
  cache : w.ownsRow n0 271 2 q.C D.cache.length (ccells D.cache q.G)
  crows : ∀ i, i < D.cache.length → RowIn w Y (q.G i) (D.cache.getD i (0, [])).2
  faults : w.ownsRow n0 3 1 q.V 4 (fourF D)
  base : n0 ≤ p
  sep : ¬ blk q.L p ∧ ¬ blk q.C p ∧ ¬ blk q.V p ∧ (∀ g, blk q.L g → ¬ blk q.C g ∧ ¬ blk q.V g) ∧ ∀ g, blk q.C g → ¬ blk q.V g
  apart : ∀ g, Y g → ¬ q.box p g
  lt : ∀ g, Y g → n0 ≤ g ∧ g < w.heap.size
/-- the reference's disk at p; all its blocks are S -/
def RD (n0 : Nat) (w : World) (p : Nat) (D : Dsk) (S : Nat → Prop) : Prop := D.Ok ∧ (∃ q Y, RDiskIn n0 w p D q Y ∧ (∀ g, Y g ∨ q.box p g → S g)) ∧ ∀ g, S g → n0 ≤ g ∧ g < w.heap.size
theorem RDiskIn.keep {n0 : Nat} {w w' : World} {p : Nat} {D : Dsk} {q : RParts} {Y G : Nat → Prop} (h : RDiskIn n0 w p D q Y) (hc : Chg G w w') (hG : ∀ g, Y g ∨ q.box p g → ¬ G g) : RDiskIn n0 w' p D q Y :=
  ⟨h.rcd.keep hc (hG p (.inr (.inl rfl))), own_chg h.last hc (fun g hg => hG g (.inr (.inr (.inl hg)))), fun i hi => (h.rows i hi).keep hc (fun g hg => hG g (.inl hg)), own_chg h.cache hc (fun g hg => hG g (.inr (.inr (.inr (.inl hg))))),
    fun i hi => (h.crows i hi).keep hc (fun g hg => hG g (.inl hg)), own_chg h.faults hc (fun g hg => hG g (.inr (.inr (.inr (.inr hg))))), h.base, h.sep, h.apart, fun g hg => ⟨(h.lt g hg).1, Nat.lt_of_lt_of_le (h.lt g hg).2 hc.size⟩⟩
theorem RD.keep {n0 : Nat} {w w' : World} {p : Nat} {D : Dsk} {S G : Nat → Prop} (h : RD n0 w p D S) (hc : Chg G w w') (hG : ∀ g, S g → ¬ G g) : RD n0 w' p D S := by
  obtain ⟨ok, ⟨q, Y, h1, h2⟩, h3⟩ := h
  exact ⟨ok, ⟨q, Y, h1.keep hc (fun g hg => hG g (h2 g hg)), h2⟩, fun g hg => ⟨(h3 g hg).1, Nat.lt_of_lt_of_le (h3 g hg).2 hc.size⟩⟩
theorem RD.below {n0 : Nat} {w w' : World} {p : Nat} {D : Dsk} {S : Nat → Prop} (h : RD n0 w p D S) (hb : Below w.heap.size w w') : RD n0 w' p D S :=
  h.keep (G := fun _ => False) (.of_below hb) (fun _ _ h => h)
theorem RD.top {n0 : Nat} {w : World} {p : Nat} {D : Dsk} {S : Nat → Prop} (h : RD n0 w p D S) : ∀ g, S g → g < w.heap.size := fun g hg => (h.2.2 g hg).2
theorem all8 {F F' : Nat → Value} (h0 : F 0 = F' 0) (h1 : F 1 = F' 1) (h2 : F 2 = F' 2) (h3 : F 3 = F' 3) (h4 : F 4 = F' 4) (h5 : F 5 = F' 5) (h6 : F 6 = F' 6) (h7 : F 7 = F' 7) : ∀ i, i < 8 → F i = F' i := fun i hi => by
  match i, hi with
  | 0, _ => exact h0
  | 1, _ => exact h1
  | 2, _ => exact h2
  | 3, _ => exact h3
  | 4, _ => exact h4
  | 5, _ => exact h5
  | 6, _ => exact h6
  | 7, _ => exact h7
/-- the record alone is written: the sectors and the cache stay -/
theorem RDiskIn.turned {n0 : Nat} {w w' : World} {p : Nat} {D D' : Dsk} {q : RParts} {Y : Nat → Prop} (h : RDiskIn n0 w p D q Y) (hr : RecAt w' p 193 8 (rcell q.L q.C q.V D')) (hf : w'.ownsRow n0 3 1 q.V 4 (fourF D')) (hc : Chg (fun g => g = p ∨ blk q.V g) w w') (h1 : D'.last = D.last) (h2 : D'.cache = D.cache) : RDiskIn n0 w' p D' q Y := by
  obtain ⟨s1, s2, s3, s4, s5⟩ := h.sep
  have hY : ∀ g, Y g → ¬ (g = p ∨ blk q.V g) := fun g hg e => h.apart g hg (e.elim .inl (fun e => .inr (.inr (.inr e))))
  refine ⟨hr, ?_, ?_, ?_, ?_, hf, h.base, h.sep, h.apart, fun g hg => ⟨(h.lt g hg).1, Nat.lt_of_lt_of_le (h.lt g hg).2 hc.size⟩⟩
  · rw [h1]; exact own_chg h.last hc (fun g hg e => e.elim (fun e => s1 (e ▸ hg)) (fun e => (s4 g hg).2 e))
  · rw [h1]; exact fun i hi => (h.rows i hi).keep hc hY
  · rw [h2]; exact own_chg h.cache hc (fun g hg e => e.elim (fun e => s2 (e ▸ hg)) (fun e => s5 g hg e))
  · rw [h2]; exact fun i hi => (h.crows i hi).keep hc hY
theorem RD.rcd_cell {n0 : Nat} {w : World} {p : Nat} {D : Dsk} {q : RParts} {Y : Nat → Prop} (h : RDiskIn n0 w p D q Y) (i : Nat) (hi : i < 8) : w.cell? ⟨p, i, none⟩ = some (rcell q.L q.C q.V D i) := h.rcd.cell i hi
set_option maxRecDepth 100000 in
theorem rpages_any {n0 : Nat} {w : World} {p : Nat} {D : Dsk} {S : Nat → Prop} (h : RD n0 w p D S) : Calls Try.prog 130 #[.pointer (some ⟨p, 0, none⟩)] w fun e w' => e = .returned (.int .i64 (D.pages : Int)) ∧ w = w' := by
  obtain ⟨ok, ⟨q, Y, hin, _⟩, _⟩ := h
  obtain ⟨A, c, e, _⟩ := At.own hin.last
  have c0 : w.cell? ⟨p, 0, none⟩ = some (.slice A D.last.length c) := by rw [← e]; exact hin.rcd.cell 0 (by omega)
  have hl : D.last.length ≤ 131072 := by obtain ⟨k, h1, h2, h3⟩ := ok.pages; omega
  unfold Dsk.pages
  clear hin e ok
  go_enter Try.func130, Try.ntmps130
  go_wp2
  go_ret
  exact ⟨by congr 2, rfl⟩
end Go.Proofs.Ytfbjjblgcgjndaa

/- Contracts of the reference disk's begins, Trip and Fail. -/
namespace Go.Proofs.Ytfbjjblgcgjndaa
open Go.RowKit

def PV (p : Nat) (q : RParts) (g : Nat) : Prop := g = p ∨ blk q.V g
section
variable {n0 : Nat} {w : World} {p : Nat} {D : Dsk} {q : RParts} {Y : Nat → Prop}
theorem chg_pv (w : World) (i : Nat) (x : Value) : Chg (PV p q) w (w.setCell ⟨p, i, none⟩ x) := (setCell_chg w p i x).mono (fun _ _ h => .inl h)
theorem RDiskIn.f_keep (h : RDiskIn n0 w p D q Y) (i : Nat) (x : Value) {D' : Dsk} (hf : D'.f = D.f) : (w.setCell ⟨p, i, none⟩ x).ownsRow n0 3 1 q.V 4 (fourF D') := by
  have := own_chg h.faults (setCell_chg w p i x) (fun g hg e => h.sep.2.2.1 (by rw [← show g = p from e]; exact hg))
  rw [show fourF D' = fourF D by unfold fourF; rw [hf]]
  exact this
theorem RDiskIn.inTrip (h : RDiskIn n0 w p D q Y) (x : Int) : RDiskIn n0 (w.setCell ⟨p, 3, none⟩ (.int .i64 x)) p { D with trip := x } q Y :=
  h.turned ((h.rcd.set 3 _).congr (all8 rfl rfl rfl rfl rfl rfl rfl rfl)) (h.f_keep 3 _ rfl) (chg_pv w 3 _) rfl rfl
theorem RDiskIn.inDark (h : RDiskIn n0 w p D q Y) (x : Bool) : RDiskIn n0 (w.setCell ⟨p, 2, none⟩ (.bool x)) p { D with dark := x } q Y :=
  h.turned ((h.rcd.set 2 _).congr (all8 rfl rfl rfl rfl rfl rfl rfl rfl)) (h.f_keep 2 _ rfl) (chg_pv w 2 _) rfl rfl
theorem RDiskIn.inN1 (h : RDiskIn n0 w p D q Y) (x : Int) : RDiskIn n0 (w.setCell ⟨p, 5, none⟩ (.int .i64 x)) p { D with n := turn D.n 1 x } q Y :=
  h.turned ((h.rcd.set 5 _).congr (all8 rfl rfl rfl rfl rfl rfl rfl rfl)) (h.f_keep 5 _ rfl) (chg_pv w 5 _) rfl rfl
theorem RDiskIn.inN2 (h : RDiskIn n0 w p D q Y) (x : Int) : RDiskIn n0 (w.setCell ⟨p, 6, none⟩ (.int .i64 x)) p { D with n := turn D.n 2 x } q Y :=
  h.turned ((h.rcd.set 6 _).congr (all8 rfl rfl rfl rfl rfl rfl rfl rfl)) (h.f_keep 6 _ rfl) (chg_pv w 6 _) rfl rfl
theorem RDiskIn.inN3 (h : RDiskIn n0 w p D q Y) (x : Int) : RDiskIn n0 (w.setCell ⟨p, 7, none⟩ (.int .i64 x)) p { D with n := turn D.n 3 x } q Y :=
  h.turned ((h.rcd.set 7 _).congr (all8 rfl rfl rfl rfl rfl rfl rfl rfl)) (h.f_keep 7 _ rfl) (chg_pv w 7 _) rfl rfl
theorem RDiskIn.inF (h : RDiskIn n0 w p D q Y) {g cap : Nat} (hV : q.V = .slice (some ⟨g, 0, none⟩) 4 cap) (k : Nat) (hk : k < 4) (x : Int) : RDiskIn n0 (w.setCell ⟨g, k, none⟩ (.int .i64 x)) p { D with f := turn D.f k x } q Y ∧ Chg (PV p q) w (w.setCell ⟨g, k, none⟩ (.int .i64 x)) := by
  have hgp : g ≠ p := fun e => h.sep.2.2.1 (by rw [hV, e]; rfl)
  have hch : Chg (PV p q) w (w.setCell ⟨g, k, none⟩ (.int .i64 x)) := (setCell_chg w g k _).mono (fun j _ e => .inr (by rw [show j = g from e, hV]; rfl))
  refine ⟨h.turned (h.rcd.keep (setCell_chg w g k _) (fun e => hgp (show p = g from e).symm)) ?_ hch rfl rfl, hch⟩
  have h1 := h.faults
  rw [hV] at h1 ⊢
  have h2 := (h1.stored k (.int .i64 x)).1
  have : (fourF D).set k (.int .i64 x) = fourF { D with f := turn D.f k x } := by
    match k, hk with
    | 0, _ => rfl
    | 1, _ => rfl
    | 2, _ => rfl
    | 3, _ => rfl
  rw [this] at h2
  exact h2
theorem RDiskIn.fcell (h : RDiskIn n0 w p D q Y) : ∃ g cap, q.V = .slice (some ⟨g, 0, none⟩) 4 cap ∧ g ≠ p ∧ (∀ k, k < 4 → w.cell? ⟨g, k, none⟩ = (fourF D)[k]?) ∧ ∀ k, w.frozen? ⟨g, k, none⟩ = false := by
  obtain ⟨g, cap, hV, _, _, _, _⟩ := own_form h.faults (by omega)
  have h1 := h.faults
  have hgp : g ≠ p := fun e => h.sep.2.2.1 (by rw [hV, e]; rfl)
  rw [hV] at h1
  refine ⟨g, cap, hV, hgp, fun k hk => ?_, fun k => ?_⟩
  · rw [h1.cellAt k (by omega)]
  · rcases h1.2 with ⟨e, _⟩ | ⟨g', cap', cur, e, _, hh, _⟩
    · cases e
    · cases e
      exact frozen_of_row w g k cur 3 hh
theorem RDiskIn.done {S : Nat → Prop} {w' : World} {D' : Dsk} (h : RD n0 w p D S) (hS : ∀ g, Y g ∨ q.box p g → S g) (ok : D'.Ok) (h' : RDiskIn n0 w' p D' q Y) (hc : Chg (PV p q) w w') : RD n0 w' p D' S ∧ Chg S w w' :=
  ⟨⟨ok, ⟨q, Y, h', hS⟩, fun g hg => ⟨(h.2.2 g hg).1, Nat.lt_of_lt_of_le (h.2.2 g hg).2 hc.size⟩⟩, hc.mono (fun g _ e => hS g (.inr (e.elim .inl (fun e => .inr (.inr (.inr e))))))⟩
end
theorem turn_self {α : Type} (f : Nat → α) (i : Nat) : turn f i (f i) = f := by
  funext j; unfold turn; split
  · rename_i e; rw [e]
  · rfl
/-- what a call on the reference's disk leaves -/
def RGives (n0 : Nat) (w : World) (p : Nat) (S : Nat → Prop) (x : Nat) (D' : Dsk) (e : Ending) (w' : World) : Prop := e = .returned (.int .u16 (x : Nat)) ∧ RD n0 w' p D' S ∧ Chg S w w'
set_option maxRecDepth 100000 in
set_option maxHeartbeats 4000000 in
theorem rtrip_any {n0 : Nat} {w : World} {p : Nat} {D : Dsk} {S : Nat → Prop} (h : RD n0 w p D S) (n : Int) (hn : n ≤ 9223372036854775807) : Calls Try.prog 161 #[.pointer (some ⟨p, 0, none⟩), .int .i64 n] w (RGives n0 w p S (D.setTrip n).1 (D.setTrip n).2) := by
  have HH := Lib.hid h
  obtain ⟨ok, ⟨q, Y, hin, hS⟩, _⟩ := h
  have c2 : w.cell? ⟨p, 2, none⟩ = some (.bool D.dark) := hin.rcd.cell 2 (by omega)
  have c3 : w.cell? ⟨p, 3, none⟩ = some (.int .i64 D.trip) := hin.rcd.cell 3 (by omega)
  have f3 := hin.rcd.frozen 3
  have HIN := Lib.hid hin
  have HS := Lib.hid hS
  have OK := Lib.hid ok
  unfold Dsk.setTrip RGives
  clear hin hS ok
  by_cases h1 : n < 0
  · rw [if_pos h1]
    go_enter Try.func161, Try.ntmps161
    go_wp2
    go_ret
    exact ⟨rfl, HH.out, Chg.refl _ _⟩
  · rw [if_neg h1]
    by_cases h2 : D.dark = true
    · rw [if_pos h2]
      rw [h2] at c2
      clear h2
      go_enter Try.func161, Try.ntmps161
      go_wp2
      go_ret
      exact ⟨rfl, HH.out, Chg.refl _ _⟩
    · rw [if_neg h2]
      rw [show D.dark = false by simpa using h2] at c2
      clear h2
      go_enter Try.func161, Try.ntmps161
      go_wp2
      go_ret
      exact ⟨rfl, RDiskIn.done (D' := { D with trip := n }) HH.out HS.out ⟨OK.out.last, OK.out.cache, OK.out.pages, ⟨by simp only; omega, hn⟩, OK.out.f, OK.out.n⟩ (HIN.out.inTrip n) (chg_pv w 3 _)⟩
set_option maxRecDepth 100000 in
set_option maxHeartbeats 4000000 in
theorem rfail_any {n0 : Nat} {w : World} {p : Nat} {D : Dsk} {S : Nat → Prop} (h : RD n0 w p D S) (k n : Int) (hn : n ≤ 9223372036854775807) : Calls Try.prog 162 #[.pointer (some ⟨p, 0, none⟩), .int .i64 k, .int .i64 n] w (RGives n0 w p S (D.setFail k n).1 (D.setFail k n).2) := by
  have HH := Lib.hid h
  obtain ⟨ok, ⟨q, Y, hin, hS⟩, _⟩ := h
  have c2 : w.cell? ⟨p, 2, none⟩ = some (.bool D.dark) := hin.rcd.cell 2 (by omega)
  have c4 : w.cell? ⟨p, 4, none⟩ = some q.V := hin.rcd.cell 4 (by omega)
  obtain ⟨g, cap, hV, hgp, hfc, hff⟩ := hin.fcell
  rw [hV] at c4
  have g1 : w.cell? ⟨g, 1, none⟩ = some (.int .i64 (D.f 1)) := hfc 1 (by omega)
  have g2 : w.cell? ⟨g, 2, none⟩ = some (.int .i64 (D.f 2)) := hfc 2 (by omega)
  have g3 : w.cell? ⟨g, 3, none⟩ = some (.int .i64 (D.f 3)) := hfc 3 (by omega)
  have f1 := hff 1
  have f2 := hff 2
  have f3 := hff 3
  have HIN := Lib.hid hin
  have HS := Lib.hid hS
  have OK := Lib.hid ok
  have HV := Lib.hid hV
  unfold Dsk.setFail RGives
  clear hin hS ok hV hfc hff
  by_cases h1 : (k < 1 ∨ 3 < k) ∨ n < 0
  · rw [if_pos h1]
    rcases (show k < 1 ∨ (¬ k < 1 ∧ 3 < k) ∨ (¬ k < 1 ∧ ¬ 3 < k ∧ n < 0) by omega) with a | ⟨a, b⟩ | ⟨a, b, c⟩
    all_goals
      clear h1
      go_enter Try.func162, Try.ntmps162
      go_wp2
      go_ret
      exact ⟨rfl, HH.out, Chg.refl _ _⟩
  · rw [if_neg h1]
    have hk : k = 1 ∨ k = 2 ∨ k = 3 := by omega
    have hnn : ¬ n < 0 := by omega
    clear h1
    by_cases h2 : D.dark = true
    · rw [if_pos h2]
      rw [h2] at c2
      clear h2
      rcases hk with rfl | rfl | rfl
      all_goals
        go_enter Try.func162, Try.ntmps162
        go_wp2
        go_ret
        exact ⟨rfl, HH.out, Chg.refl _ _⟩
    · rw [if_neg h2]
      rw [show D.dark = false by simpa using h2] at c2
      clear h2
      rcases hk with rfl | rfl | rfl
      all_goals
        go_enter Try.func162, Try.ntmps162
        go_wp2
        go_ret
      · exact ⟨rfl, RDiskIn.done (D' := { D with f := turn D.f 1 n }) HH.out HS.out ⟨OK.out.last, OK.out.cache, OK.out.pages, OK.out.trip, D.turn_f OK.out 1 n (by omega) hn, OK.out.n⟩ (HIN.out.inF HV.out 1 (by omega) n).1 (HIN.out.inF HV.out 1 (by omega) n).2⟩
      · exact ⟨rfl, RDiskIn.done (D' := { D with f := turn D.f 2 n }) HH.out HS.out ⟨OK.out.last, OK.out.cache, OK.out.pages, OK.out.trip, D.turn_f OK.out 2 n (by omega) hn, OK.out.n⟩ (HIN.out.inF HV.out 2 (by omega) n).1 (HIN.out.inF HV.out 2 (by omega) n).2⟩
      · exact ⟨rfl, RDiskIn.done (D' := { D with f := turn D.f 3 n }) HH.out HS.out ⟨OK.out.last, OK.out.cache, OK.out.pages, OK.out.trip, D.turn_f OK.out 3 n (by omega) hn, OK.out.n⟩ (HIN.out.inF HV.out 3 (by omega) n).1 (HIN.out.inF HV.out 3 (by omega) n).2⟩
end Go.Proofs.Ytfbjjblgcgjndaa
