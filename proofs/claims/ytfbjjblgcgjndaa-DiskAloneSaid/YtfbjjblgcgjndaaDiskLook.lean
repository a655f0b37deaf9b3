/- Contracts of the disk's Pending and Image. -/
import Derived.Test.YtfbjjblgcgjndaaSettle
import Derived.Test.YtfbjjblgcgjndaaOwnI
import Derived.Test.YtfbjjblgcgjndaaDiskFill
set_option linter.unusedVariables false
set_option linter.unusedSimpArgs false
namespace Go.Proofs.Ytfbjjblgcgjndaa
open Go.RowKit Go.Maps
attribute [local go_sem ↓] execOp_alloc185
attribute [local go_sem] run_alloc185'

def GivesInts (l : List Nat) (w : World) (e : Ending) (w' : World) : Prop := ∃ A c, e = .returned (.slice A l.length c) ∧ w'.ownsRow w.heap.size 3 1 (.slice A l.length c) l.length (ns .i64 l) ∧ Below w.heap.size w w'
theorem own_slice {w : World} {n0 n : Nat} {e : TypeId} {v : Value} {xs : List Value} (h : w.ownsRow n0 e 1 v n xs) : ∃ A c, v = .slice A n c := by
  obtain ⟨A, c, e, _⟩ := At.own h
  exact ⟨A, c, e⟩
theorem take_snoc {α : Type} (l : List α) (j : Nat) (x : α) (h : l[j]? = some x) : l.take (j + 1) = l.take j ++ [x] := by
  rw [List.take_add_one, h]; rfl
set_option maxRecDepth 100000 in
set_option maxHeartbeats 1000000 in
theorem pending_any (n0 : Nat) (w : World) (p : Nat) (D : Dsk) (S : Nat → Prop) (h : DiskAt n0 w p D S) (hc : D.cache.length ≤ 1000000000000) :
    Calls Try.prog 55 #[.pointer (some ⟨p, 0, none⟩)] w (GivesInts (D.cache.map (·.1)) w) := by
  obtain ⟨ok, q, M, hin, hft⟩ := h
  obtain ⟨V, cap, hCV, hAt, _⟩ := At.own hin.cache
  have c1 : w.cell? ⟨p, 1, none⟩ = some (.slice V D.cache.length cap) := by rw [← hCV]; exact hin.rcd.cell 1 (by omega)
  have HIN := Lib.hid hin
  have HFT := Lib.hid hft
  have HAT := Lib.hid hAt
  have HCV := Lib.hid hCV
  have OK := Lib.hid ok
  have HC := Lib.hid hc
  clear hin hft hAt hCV ok hc
  go_enter Try.func55, Try.ntmps55
  go_wp2_with fail
  go_loopw [3, 11] (fun v i wr => ∃ j : Nat, j ≤ D.cache.length ∧ i = .int .i64 j ∧ wr.ownsRow w.heap.size 3 1 v j (ns .i64 ((D.cache.take j).map (·.1))) ∧ Below w.heap.size w wr) (fun _ i _ => D.cache.length - (intOf i).toNat)
  case atStart => exact ⟨0, by omega, rfl, World.ownsRow_nil _ _ _ _, Below.refl _ _⟩
  case round =>
    obtain ⟨j, hj, rfl, hv, hb⟩ := hrel
    by_cases hlt : j < D.cache.length
    · obtain ⟨b, o, hV, hr⟩ := (HAT.out.below hb) (by intro e; have := congrArg List.length e; rw [wcells_length (c := D.cache) (fun x hx => (OK.out.cache x hx).2)] at this; simp at this; omega)
      have i185 : (Try.prog.info? 185).map (·.size) = some 129 := by
        obtain ⟨i0, hi, hzz⟩ := Option.map_eq_some_iff.1 Try.info185
        simp only [Prod.mk.injEq] at hzz
        rw [hi]; simp [hzz.2.1]
      subst hV
      have a1 : (j : Int) < (D.cache.length : Int) := by omega
      have HLT := Lib.hid hlt
      obtain ⟨x, hx⟩ : ∃ x, D.cache[j]? = some x := ⟨D.cache[j], List.getElem?_eq_getElem hlt⟩
      have hxm := List.mem_of_getElem? hx
      obtain ⟨hx1, hx2⟩ := OK.out.cache x hxm
      have hxl : (wcell x).length = 129 := by simp [wcell, ns_length, hx2.1]
      have hrx : wr.rangeAt b (o + j * 129) (wcell x) := by
        intro k v hv
        have hk : k < 129 := by have := (List.getElem?_eq_some_iff.1 hv).1; omega
        rw [show o + j * 129 + k = o + (j * 129 + k) by omega]
        refine hr _ _ ?_
        have := wcells_get (c := D.cache) (fun x hx => (OK.out.cache x hx).2) j hlt k hk
        rw [this, ← hv]
        rw [List.getElem?_eq_getElem hlt] at hx
        cases hx; rfl
      have HX := Lib.hid hx
      clear hx
      go_wp2_with fail
      refine wp_load_mid 185 _ rfl b (o + j * 129) rfl (wcell x) _ hrx Try.underlying185 rfl (by rw [hxl]; exact i185) ?_
      clear hr hrx
      have hst : (storeCells ⟨wr.heap.size, 0, none⟩ (wcell x)).run Try.prog (wr.alloc (.cells fresh129 185)) = .ok () (wr.alloc (.cells (wcell x).toArray 185)) := by
        have := run_storeCells_new (P := Try.prog) wr 185 fresh129 (wcell x).toArray (by rw [i185]; simp [hxl]) (by rw [fresh129_size]; simp [hxl]) (all_oneCell_toArray (fun v hv => by
          rcases List.mem_cons.1 hv with rfl | hv
          · rfl
          · exact ns_one _ _ v hv))
        simpa using this
      have HB := Lib.hid hb
      have HV := Lib.hid hv
      clear hb hv hx1 hx2 hxm
      have d0 : (wr.alloc (.cells (wcell x).toArray 185)).cell? ⟨wr.heap.size, 0, none⟩ = some (.int .i64 (x.1 : Int)) := by
        rw [cell_of_row _ _ 0 _ _ (0, 0) (heap_alloc_new wr _)]; simp [wcell]
      obtain ⟨wA, hwA⟩ : ∃ wA, wA = wr.alloc (.cells (wcell x).toArray 185) := ⟨_, rfl⟩
      have hbA : Below wr.heap.size wr (wA.alloc (.cells #[.int .i64 (x.1 : Int)] 3)) := by rw [hwA]; exact below_alloc0 (below_alloc0 (Below.refl _ _) _) _
      have hvA := own_below HV.out hbA
      have hbB := below_next0 HB.out hbA
      have hAtA : At (wA.alloc (.cells #[.int .i64 (x.1 : Int)] 3)) (some ⟨wA.heap.size, 0, none⟩) [.int .i64 (x.1 : Int)] := At.whole (heap_alloc_new wA _)
      have hszA : w.heap.size ≤ (wA.alloc (.cells #[.int .i64 (x.1 : Int)] 3)).heap.size := hbB.size
      rw [← hwA] at hst d0
      have HWA := Lib.hid hwA
      have HHB := Lib.hid hbB
      have HVA := Lib.hid hvA
      have HAA := Lib.hid hAtA
      have HSA := Lib.hid hszA
      clear hwA hbA hvA hbB hAtA hszA
      obtain ⟨A0, c0, rfl⟩ := own_slice HV.out
      have hj12 : j ≤ 1000000000000 := by have := HC.out; omega
      go_wp2_with (at_builtin; go_loud (refine wp_append2 rfl (.tmp 15) (.tmp 18) 86 3 (.int .i64 0) 1 8 rfl Try.underlying86 Try.info3 rfl (by decide) w.heap.size (.slice A0 j c0) j _ rfl HVA.out (some ⟨wA.heap.size, 0, none⟩) 1 1 _ rfl rfl HAA.out (by simp) (by simp [Value.oneCell']) (by omega) (by omega) HSA.out ?_); intro v1 w1 ho1 hor1)
      have hch1 := push_chg hor1
      have HO1 := Lib.hid ho1
      have HCH1 := Lib.hid hch1
      clear ho1 hor1 hch1 hst d0
      obtain ⟨A1, c11, rfl⟩ := own_slice HO1.out
      go_wp2
      case roundEnd =>
        have t1 := HC.out
        have t2 := HLT.out
        refine ⟨⟨j + 1, by omega, by push_cast; rfl, ?_, ?_⟩, by simp only [intOf]; omega⟩
        · have := HO1.out
          rw [take_snoc _ _ _ HX.out, List.map_append, ns_append]
          exact this
        · exact HHB.out.trans (HCH1.out.below HSA.out (fun k hk => own_base HVA.out k hk))
    · obtain rfl : j = D.cache.length := by omega
      rw [List.take_length] at hv
      obtain ⟨A, c, rfl⟩ := own_slice hv
      have HV := Lib.hid hv
      clear hv
      go_wp2
      go_ret
      refine ⟨A, c, by rw [List.length_map]; rfl, ?_, hb⟩
      rw [List.length_map]; exact HV.out

end Go.Proofs.Ytfbjjblgcgjndaa
