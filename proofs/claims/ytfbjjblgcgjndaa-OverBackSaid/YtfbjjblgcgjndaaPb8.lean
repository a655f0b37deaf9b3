/- Joined texts: Over5, Over7, Over8, RegI, RangeW, Chain1, Chain2, Chain3. -/
import Derived.OrdersHeld
import Derived.OrdersIn
import Derived.OwnWalkIn
import Derived.TacticsInMore
import Derived.Deep.RegionHeld3
import Derived.RangeFuncNested
import Derived.RangeFuncBound
import Derived.RangeFuncCalls
import Derived.RangeFuncLeaves
import Derived.Test.YtfbjjblgcgjndaaPb1
import Derived.Test.YtfbjjblgcgjndaaPb2
import Derived.Test.YtfbjjblgcgjndaaPb6
import Derived.Test.YtfbjjblgcgjndaaPb7
set_option linter.unusedVariables false
set_option linter.unusedSimpArgs false

/- Walk of the over laws' known (40). -/
namespace Go.Proofs.Ytfbjjblgcgjndaa
open Go.RowKit

theorem encRows_length (l u : List Nat) : (encRows l u).length = need l.length := by simp [encRows]
theorem encRow_length (l u : List Nat) (j : Nat) : (encRow l u j).length = 4 + min 1004 (l.length - 1004 * j) := by simp [encRow, le4]; omega
theorem encRows_get (l u : List Nat) (j : Nat) (h : j < need l.length) : (encRows l u).getD j [] = encRow l u j := by
  unfold encRows
  rw [List.getD_eq_getElem?_getD, List.getElem?_map, List.getElem?_range h]; rfl
/-- the j-th row of an encoded value -/
theorem enc_cell {n0 : Nat} {w : World} {l u : List Nat} {g cap : Nat} {F : Nat → Value} {Y : Nat → Prop} (h : Rows23 n0 w (.slice (some ⟨g, 0, none⟩) (need l.length) cap) (encRows l u) F Y) (hroom : ∀ i A n c, i < need l.length → F i = .slice A n c → n ≤ c) (j : Nat) (hj : j < need l.length) :
    ∃ A c, w.cell? ⟨g, j, none⟩ = some (.slice A (encRow l u j).length c) ∧ At w A (ns .u8 (encRow l u j)) ∧ (A = none → c = 0) ∧ (encRow l u j).length ≤ c := by
  have hr := h.rows j (by rw [encRows_length]; exact hj)
  rw [encRows_get l u j hj] at hr
  obtain ⟨A, c, e, hA, hn, _⟩ := hr
  have ho := h.own
  rw [encRows_length] at ho
  have hc := ho.cellAt j (by omega)
  refine ⟨A, c, ?_, hA, hn, hroom j A _ c hj e⟩
  rw [hc, ← e, lst_get F _ j hj]
set_option maxRecDepth 100000 in
set_option maxHeartbeats 4000000 in
theorem known12_any (w : World) : Calls Try.prog 40 #[] w fun e w' => e = .returned (.bool true) ∧ Below w.heap.size w w' := by
  obtain ⟨Z, hZ⟩ : ∃ Z, Z = List.replicate 70 0 := ⟨_, rfl⟩
  have hmk : ∀ w, (Instr.makeSlice 23 (.int .i64 70) (.int .i64 70)).run Try.prog w = .ok (.slice (some ⟨w.heap.size, 0, none⟩) 70 70) (w.alloc (.cells (ns .u8 Z).toArray 5)) := fun _ => by rw [hZ]; kernel_rfl
  have hZ70 : Z.length = 70 := by rw [hZ]; simp
  have hok : encOk Z [4] := by rw [hZ]; exact ⟨by decide, by decide, by decide⟩
  have hnd : need Z.length = 1 := by rw [hZ70]; decide
  have hr0 : (encRow Z [4] 0).length = 74 := by rw [encRow_length, hZ70]; decide
  have HZ70 := Lib.hid hZ70
  have HOK := Lib.hid hok
  have HND := Lib.hid hnd
  have HR0 := Lib.hid hr0
  clear hZ hZ70 hok hnd hr0
  go_enter Try.func40, Try.ntmps40
  go_wp2_with fail
  have hb2 : Below w.heap.size w ((w.alloc (.cells (ns .u8 Z).toArray 5)).alloc (.cells #[.int .u32 4] 22)) := below_alloc0 (below_alloc0 (Below.refl _ _) _) _
  have hA : At ((w.alloc (.cells (ns .u8 Z).toArray 5)).alloc (.cells #[.int .u32 4] 22)) (some ⟨w.heap.size, 0, none⟩) (ns .u8 Z) := (At.whole (heap_alloc_new w _)).below (below_alloc0 (Below.refl _ _) _)
  have hB : At ((w.alloc (.cells (ns .u8 Z).toArray 5)).alloc (.cells #[.int .u32 4] 22)) (some ⟨w.heap.size + 1, 0, none⟩) (ns .u32 [4]) := At.whole (xs := ns .u32 [4]) (by have := heap_alloc_new (w.alloc (.cells (ns .u8 Z).toArray 5)) (.cells #[.int .u32 4] 22); rwa [sz_alloc] at this)
  have hen := encode_yes (some ⟨w.heap.size, 0, none⟩) (some ⟨w.heap.size + 1, 0, none⟩) 70 1 Z [4] _ hA hB (by have := HZ70.out; omega) (by simp) HOK.out
  rw [HZ70.out] at hen
  have HEN := Lib.hid (show Calls Try.prog 34 #[.slice (some ⟨w.heap.size, 0, none⟩) 70 70, .slice (some ⟨w.heap.size + 1, 0, none⟩) 1 1] _ _ from hen)
  have HB2 := Lib.hid hb2
  clear hen hA hB hb2 hmk
  generalize ((w.alloc (.cells (ns .u8 Z).toArray 5)).alloc (.cells #[.int .u32 4] 22)) = w2 at *
  go_wp2_with fail
  refine HEN.out.mono ?_
  rintro e w3 ⟨v, F, Y, rfl, hr, hb3, hroom⟩
  have hn1 : (encRows Z [4]).length = 1 := by rw [encRows_length, HND.out]
  obtain ⟨g, cap, rfl, _⟩ := own_form hr.own (by omega)
  rw [hn1] at hr ⊢
  have hr' := hr
  rw [← HND.out] at hr'
  obtain ⟨A, c, hc0, _, _, _⟩ := enc_cell hr' hroom 0 (by rw [HND.out]; omega)
  rw [HR0.out] at hc0
  have HB3 := Lib.hid (below_next0 HB2.out hb3)
  have n64 := fun w => need_any 64 (by omega) w
  have n65 := fun w => need_any 65 (by omega) w
  have n1005 := fun w => need_any 1005 (by omega) w
  have n8192 := fun w => need_any 8192 (by omega) w
  rw [show need 64 = 0 by decide] at n64
  rw [show need 65 = 1 by decide] at n65
  rw [show need 1005 = 2 by decide] at n1005
  rw [show need 8192 = 9 by decide] at n8192
  have N64 := Lib.hid n64
  have N65 := Lib.hid n65
  have N1005 := Lib.hid n1005
  have N8192 := Lib.hid n8192
  clear n64 n65 n1005 n8192 hr hr' hb3 hn1 HEN hroom
  go_wp2_with fail
  refine (N64.out _).mono ?_
  rintro e w4 ⟨rfl, rfl⟩
  go_wp2_with fail
  refine (N65.out _).mono ?_
  rintro e w4 ⟨rfl, rfl⟩
  go_wp2_with fail
  refine (N1005.out _).mono ?_
  rintro e w4 ⟨rfl, rfl⟩
  go_wp2_with fail
  refine (N8192.out _).mono ?_
  rintro e w4 ⟨rfl, rfl⟩
  go_wp2_with fail
  go_ret
  exact ⟨rfl, HB3.out⟩
end Go.Proofs.Ytfbjjblgcgjndaa

/- over.Need (42) and the reference's Need (43) of any number; the reference's put (94). -/
namespace Go.Proofs.Ytfbjjblgcgjndaa
open Go.RowKit

def needI (z : Int) : Int := if z ≤ 64 ∨ 8192 < z then 0 else (z + 1003) / 1004
theorem needI_nat (n : Nat) : needI n = (need n : Int) := by
  unfold needI need
  by_cases h : n ≤ 64 ∨ 8192 < n
  · rw [if_pos (by omega), if_pos h]; rfl
  · rw [if_neg (by omega), if_neg h]; omega
set_option maxRecDepth 100000 in
theorem need_int (z : Int) (w : World) : Calls Try.prog 42 #[.int .i64 z] w fun e w' => e = .returned (.int .i64 (needI z)) ∧ w = w' := by
  by_cases h1 : z ≤ 64
  · have hz : needI z = 0 := by unfold needI; rw [if_pos (.inl h1)]
    rw [hz]
    clear hz
    go_enter Try.func42, Try.ntmps42
    go_wp2_with fail
    go_ret
    exact ⟨rfl, rfl⟩
  · by_cases h2 : 8192 < z
    · have hz : needI z = 0 := by unfold needI; rw [if_pos (.inr h2)]
      rw [hz]
      clear hz
      go_enter Try.func42, Try.ntmps42
      go_wp2_with fail
      go_ret
      exact ⟨rfl, rfl⟩
    · obtain ⟨n, rfl⟩ : ∃ n : Nat, z = n := ⟨z.toNat, by omega⟩
      rw [needI_nat]
      exact need_any n (by omega) w
set_option maxRecDepth 100000 in
theorem refneed_int (z : Int) (w : World) : Calls Try.prog 43 #[.int .i64 z] w fun e w' => e = .returned (.int .i64 (needI z)) ∧ w = w' := by
  by_cases h1 : z < 65
  · have hz : needI z = 0 := by unfold needI; rw [if_pos (.inl (by omega))]
    rw [hz]
    clear hz
    go_enter Try.func43, Try.ntmps43
    go_wp2_with fail
    go_ret
    exact ⟨rfl, rfl⟩
  · by_cases h2 : 8192 < z
    · have hz : needI z = 0 := by unfold needI; rw [if_pos (.inr h2)]
      rw [hz]
      clear hz
      go_enter Try.func43, Try.ntmps43
      go_wp2_with fail
      go_ret
      exact ⟨rfl, rfl⟩
    · obtain ⟨n, rfl⟩ : ∃ n : Nat, z = n := ⟨z.toNat, by omega⟩
      have hz : needI (n : Int) = ((n : Int) + 1003) / 1004 := by unfold needI; rw [if_neg (by omega)]
      have HZ := Lib.hid hz
      have e1 : ¬ (n : Int) < 65 := h1
      have e2 : ¬ (8192 : Int) < (n : Int) := h2
      have w1 : IntKind.i64.wrap ((n : Int) + 1003) = (n : Int) + 1003 := by rw [IntKind.wrap_i64]; omega
      clear hz h1 h2
      go_enter Try.func43, Try.ntmps43
      go_wp2_with fail
      go_ret
      refine ⟨?_, rfl⟩
      rw [HZ.out]
      try rfl
set_option maxRecDepth 100000 in
theorem refput_any (x : Nat) (hx : x < 4294967296) (w : World) : Calls Try.prog 94 #[.slice none 0 0, .int .u32 (x : Int)] w fun e w' => ∃ v, e = .returned v ∧ Buf w.heap.size w' v (le4 x) ∧ Below w.heap.size w w' := by
  have hby : ([Value.int IntKind.u8 ((x : Int) % 256), Value.int IntKind.u8 ((x : Int) / 256 % 256), Value.int IntKind.u8 ((x : Int) / 65536 % 256), Value.int IntKind.u8 ((x : Int) / 16777216)] : List Value) = ns .u8 (le4 x) := by
    have h3 : x / 16777216 % 256 = x / 16777216 := by omega
    simp [le4, ns, h3]
  obtain ⟨L, hL⟩ : ∃ L, L = [Value.int IntKind.u8 ((x : Int) % 256), Value.int IntKind.u8 ((x : Int) / 256 % 256), Value.int IntKind.u8 ((x : Int) / 65536 % 256), Value.int IntKind.u8 ((x : Int) / 16777216)] := ⟨_, rfl⟩
  have hLo : ∀ v ∈ L, v.oneCell' = true := by rw [hL, hby]; exact ns_one _ _
  have hat : At (w.alloc (.cells #[Value.int IntKind.u8 ((x : Int) % 256), Value.int IntKind.u8 ((x : Int) / 256 % 256), Value.int IntKind.u8 ((x : Int) / 65536 % 256), Value.int IntKind.u8 ((x : Int) / 16777216)] 5)) (some ⟨w.heap.size, 0, none⟩) L := by rw [hL]; exact At.whole (heap_alloc_new w _)
  have hL4 : L.length = 4 * 1 := by rw [hL]; rfl
  have hal : (w.alloc (.cells #[Value.int IntKind.u8 ((x : Int) % 256), Value.int IntKind.u8 ((x : Int) / 256 % 256), Value.int IntKind.u8 ((x : Int) / 65536 % 256), Value.int IntKind.u8 ((x : Int) / 16777216)] 5)).ownsRow w.heap.size 5 1 (.slice none 0 0) 0 [] := World.ownsRow_nil _ _ _ _
  have HE := Lib.hid (hL.trans hby)
  have hbl := below_alloc0 (Below.refl w.heap.size w) (.cells #[Value.int IntKind.u8 ((x : Int) % 256), Value.int IntKind.u8 ((x : Int) / 256 % 256), Value.int IntKind.u8 ((x : Int) / 65536 % 256), Value.int IntKind.u8 ((x : Int) / 16777216)] 5)
  clear hL hby
  go_enter Try.func94, Try.ntmps94
  go_wp2_with (at_builtin; go_loud (refine wp_append2 rfl (.tmp 5) (.tmp 17) 23 5 (.int .u8 0) 1 1 rfl Try.underlying23 Try.info5b rfl (by decide) w.heap.size (.slice none 0 0) 0 [] rfl hal (some ⟨w.heap.size, 0, none⟩) 4 4 L rfl hL4 hat (by simp) hLo (by omega) (by omega) (by simp) ?_); intro v4 w4 ho4 hor4)
  go_ret
  refine ⟨_, rfl, ?_, ?_⟩
  · unfold Buf
    rw [HE.out] at ho4
    exact ho4
  · have hc := push_chg hor4
    exact hbl.trans (hc.below (by simp) (fun g hg => by cases hg))
end Go.Proofs.Ytfbjjblgcgjndaa

/- The reference's Encode (38). -/
namespace Go.Proofs.Ytfbjjblgcgjndaa
open Go.RowKit

theorem under34e : Try.prog.underlying 34 = some (.slice 22) := by kernel_rfl
theorem isPg_yes {x : Nat} (h : isPg x = true) : 2 ≤ x ∧ x ≤ 16383 := by unfold isPg at h; simp at h; omega
theorem isPg_no {x : Nat} (h : isPg x = false) : x < 2 ∨ 16383 < x := by unfold isPg at h; simp at h; omega
set_option maxRecDepth 100000 in
set_option maxHeartbeats 1000000 in
theorem refenc_no (A B : Option Addr) (c cc : Nat) (l u : List Nat) (w : World) (hB : At w B (ns .u32 u)) (hu : ∀ x, x ∈ u → x < 4294967296) (hok : ¬ encOk l u) (hl : l.length ≤ 140737488355328) (hul : u.length ≤ 140737488355328) :
    Calls Try.prog 38 #[.slice A l.length c, .slice B u.length cc] w fun e w' => e = .returned (.tuple #[.slice none 0 0, .int .u16 120]) ∧ Below w.heap.size w w' := by
  have hnd := refneed_int l.length
  rw [needI_nat] at hnd
  obtain ⟨N, hN⟩ : ∃ N, N = need l.length := ⟨_, rfl⟩
  have hn9 := need_le l.length
  rw [← hN] at hnd hn9
  have HND := Lib.hid hnd
  clear hnd
  by_cases h0 : N = 0
  · have e1 : ((N : Int) == 0) = true := by simp; omega
    have e1' : (N : Int) = 0 := by omega
    clear hN hok h0
    go_enter Try.func38, Try.ntmps38
    go_wp2_with fail
    refine (HND.out _).mono ?_
    rintro e w1 ⟨rfl, rfl⟩
    go_wp2_with fail
    go_ret2
    exact ⟨rfl, Below.refl _ _⟩
  have e1 : ((N : Int) == 0) = false := by simp; omega
  have e1' : ¬ (N : Int) = 0 := by omega
  by_cases h1 : u.length = N
  · have e2 : ((u.length : Int) != (N : Int)) = false := by simp; omega
    have hex : ∃ k, k < u.length ∧ isPg (nth u k) = false := by
      refine Classical.byContradiction fun hno => hok ⟨by rw [← hN]; exact h0, by rw [h1, hN], ?_⟩
      rw [List.any_eq_false]
      intro x hx
      obtain ⟨k, hk, rfl⟩ := List.getElem_of_mem hx
      have : isPg u[k] = true := by
        cases hp : isPg u[k] with
        | true => rfl
        | false => exact absurd ⟨k, hk, by rw [nth_get u k hk]; exact hp⟩ hno
      simp [this]
    have HEX := Lib.hid hex
    have HB := Lib.hid hB
    have HU := Lib.hid hu
    have H1 := Lib.hid h1
    clear hN hok h0 hex hB hu h1
    go_enter Try.func38, Try.ntmps38
    go_wp2_with fail
    refine (HND.out _).mono ?_
    rintro e w1 ⟨rfl, rfl⟩
    go_wp2_with fail
    go_loop [7] (fun i => ∃ k : Nat, k ≤ N ∧ i = .int .i64 k ∧ ∀ j, j < k → isPg (nth u j) = true) (fun i => N - (intOf i).toNat)
    case atStart => exact ⟨0, by omega, rfl, fun j hj => by omega⟩
    case round =>
      obtain ⟨k, hk, rfl, hall⟩ := hrel
      by_cases hlt : k < N
      · have hki : (k : Int) < (N : Int) := by omega
        have hku : k < u.length := by rw [H1.out]; exact hlt
        have hkI : (k : Int) < (u.length : Int) := by omega
        obtain ⟨b, o, rfl, hcell⟩ := HB.out (by intro e; have : (ns .u32 u).length = 0 := by rw [e]; rfl
                                                rw [ns_length] at this; omega)
        have hc := hcell k (.int .u32 (nth u k : Int)) (by simp [ns, nth_eq u k hku])
        have hx := HU.out _ (nth_mem u k hku)
        have HALL := Lib.hid hall
        clear hall hcell
        cases hp : isPg (nth u k) with
        | true =>
          obtain ⟨hp1, hp2⟩ := isPg_yes hp
          have hq : ∀ j, j < k + 1 → isPg (nth u j) = true := fun j hj => by
            by_cases e : j = k
            · subst e; exact hp
            · exact HALL.out j (by omega)
          have HQ := Lib.hid hq
          clear hp hq
          generalize nth u k = y at *
          have f1 : ¬ (y : Int) < 2 := by omega
          have f2 : ¬ (16383 : Int) < (y : Int) := by omega
          go_wp2_with fail
          case roundEnd => exact ⟨⟨k + 1, by omega, by go_num, HQ.out⟩, by simp only [intOf]; omega⟩
        | false =>
          have hor := isPg_no hp
          clear hp
          generalize nth u k = y at *
          by_cases f1 : (y : Int) < 2
          · clear hor
            go_wp2_with fail
            go_ret2
            exact ⟨rfl, Below.refl _ _⟩
          · have f2 : (16383 : Int) < (y : Int) := by omega
            clear hor
            go_wp2_with fail
            go_ret2
            exact ⟨rfl, Below.refl _ _⟩
      · exfalso
        obtain ⟨j, hj, hp⟩ := HEX.out
        rw [hall j (by have := H1.out; omega)] at hp
        cases hp
  · have e2 : ((u.length : Int) != (N : Int)) = true := by simp; omega
    have e2' : ¬ (u.length : Int) = (N : Int) := by omega
    clear hN hok h0
    go_enter Try.func38, Try.ntmps38
    go_wp2_with fail
    refine (HND.out _).mono ?_
    rintro e w1 ⟨rfl, rfl⟩
    go_wp2_with fail
    go_ret2
    exact ⟨rfl, Below.refl _ _⟩
set_option maxRecDepth 100000 in
set_option maxHeartbeats 1000000 in
/-- over.Encode refuses likewise -/
theorem encode_no (A B : Option Addr) (c cc : Nat) (l u : List Nat) (w : World) (hB : At w B (ns .u32 u)) (hu : ∀ x, x ∈ u → x < 4294967296) (hok : ¬ encOk l u) (hl : l.length ≤ 140737488355328) (hul : u.length ≤ 140737488351232) :
    Calls Try.prog 34 #[.slice A l.length c, .slice B u.length cc] w fun e w' => e = .returned (.tuple #[.slice none 0 0, .int .u16 120]) ∧ Below w.heap.size w w' := by
  have hnd := need_any l.length hl
  obtain ⟨N, hN⟩ : ∃ N, N = need l.length := ⟨_, rfl⟩
  have hn9 := need_le l.length
  rw [← hN] at hnd hn9
  have HND := Lib.hid hnd
  have HNO := Lib.hid (fun w' (h : Below w.heap.size w w') => holdsno_any B cc u w' (hB.below h) hu hul)
  clear hnd
  by_cases h0 : N = 0
  · have e1 : ((N : Int) == 0) = true := by simp; omega
    have e1' : (N : Int) = 0 := by omega
    clear hN hok h0
    go_enter Try.func34, Try.ntmps34
    go_wp2_with fail
    refine (HND.out _).mono ?_
    rintro e w1 ⟨rfl, rfl⟩
    go_wp2_with fail
    go_ret2
    exact ⟨rfl, below_alloc0 (below_alloc0 (Below.refl _ _) _) _⟩
  have e1 : ((N : Int) == 0) = false := by simp; omega
  have e1' : ¬ (N : Int) = 0 := by omega
  by_cases h1 : u.length = N
  · have e2 : ((u.length : Int) != (N : Int)) = false := by simp; omega
    have hany : (u.any fun x => !isPg x) = true := by
      cases h : (u.any fun x => !isPg x) with
      | true => rfl
      | false => exact absurd ⟨by rw [← hN]; exact h0, by rw [h1, hN], h⟩ hok
    rw [hany] at HNO
    clear hN hok h0 hany h1
    go_enter Try.func34, Try.ntmps34
    go_wp2_with fail
    refine (HND.out _).mono ?_
    rintro e w1 ⟨rfl, rfl⟩
    go_wp2_with fail
    refine (HNO.out _ ?_).mono ?_
    · exact below_alloc0 (below_alloc0 (Below.refl _ _) _) _
    rintro e w1 ⟨rfl, rfl⟩
    go_wp2_with fail
    go_ret2
    exact ⟨rfl, below_alloc0 (below_alloc0 (Below.refl _ _) _) _⟩
  · have e2 : ((u.length : Int) != (N : Int)) = true := by simp; omega
    have e2' : ¬ (u.length : Int) = (N : Int) := by omega
    clear hN hok h0
    go_enter Try.func34, Try.ntmps34
    go_wp2_with fail
    refine (HND.out _).mono ?_
    rintro e w1 ⟨rfl, rfl⟩
    go_wp2_with fail
    go_ret2
    exact ⟨rfl, below_alloc0 (below_alloc0 (Below.refl _ _) _) _⟩
end Go.Proofs.Ytfbjjblgcgjndaa

/- Regions that draw their order, inside a fence and inside a round: what only reads may be taken first, as long as one later operation is still to come. -/
namespace Go.Proofs.Ytfbjjblgcgjndaa
open Go.RowKit

section
variable {F : Fence} {n : Nat} {P : Program} {ops : Array Oper} {Q : Exit → Act → World → Prop} {md : Region.Mode} {S : World → Prop} {L : Nat}
/-- it yields v in every world that meets S, and calls nothing -/
def YieldsI (P : Program) (ops : Array Oper) (S : World → Prop) (o : Oper) (v : Value) (a : Act) : Prop := YieldsIf P ops S o v a ∧ ∀ w, o.about P w a.eval = none
theorem YieldsI.op {i : Nat} {o : Oper} {v : Value} {a : Act} {w : World} {K : Act → World → Prop} (hd : ∀ c, o.op ≠ .defer c) (hi : ops[i]? = some o) (hy : YieldsI P ops S o v a) (hS : S w) (h : K (a.put o.dst v) w) : wpOpIn F n P ops Q i K a w := by
  have hab : ∀ f, o.about P w a.eval = some f → F.fn f := fun f hf => by rw [hy.2 w] at hf; cases hf
  unfold Go.wpOpIn
  rw [hi]
  rcases hy.1 with ⟨hw, hv⟩ | ⟨hw, rfl⟩
  · simp only [hw, if_true]
    unfold Oper.wpIn
    rw [Oper.semAt_plain F _ _ hd, hv w hS]
    exact ⟨hab, h⟩
  · simp only [hw, Bool.false_eq_true, if_false]
    exact ⟨hab, h⟩
theorem YieldsI.same {o : Oper} {v : Value} {a a' : Act} (hy : YieldsI P ops S o v a) (he : execOp a'.eval o = execOp a.eval o) (hw : Region.wanted o (yielded ops a'.tmps) = Region.wanted o (yielded ops a.tmps)) (hb : ∀ w, o.about P w a'.eval = o.about P w a.eval) : YieldsI P ops S o v a' :=
  ⟨hy.1.of_same he hw, fun w => by rw [hb w]; exact hy.2 w⟩
/-- another operation, apart from it, does not see whether it came up -/
theorem wpOpIn_putI {j : Nat} {oi oj : Oper} {v : Value} (hj : ops[j]? = some oj) (hap : oi.apart ops oj = true) (hdj : ∀ c, oj.op ≠ .defer c)
    (hsi : ∀ cs b, oi.op ≠ .select cs b) (hsj : ∀ cs b, oj.op ≠ .select cs b) (hQ : ∀ c a w, Q (.panic c) (a.put oi.dst v) w → Q (.panic c) a w)
    {K : Act → World → Prop} {a : Act} {w : World} (hy : YieldsI P ops S oi v a) (h : wpOpIn F n P ops Q j K (a.put oi.dst v) w) :
    wpOpIn F n P ops Q j (fun a' w' => YieldsI P ops S oi v a' ∧ K (a'.put oi.dst v) w') a w := by
  obtain ⟨p1, p2, p3⟩ := Oper.apart_spec hap
  have keep : ∀ (a : Act), YieldsI P ops S oi v a → ∀ u, YieldsI P ops S oi v (a.put oj.dst u) := fun a hy u => hy.same (execOp_put oi hsi a oj.dst u p3) (wanted_put oi a oj.dst u p3) (fun w => about_put oi w a oj.dst u p3)
  unfold wpOpIn at h ⊢
  simp only [hj] at h ⊢
  rw [wanted_put oj a oi.dst v p1] at h
  by_cases hw : Region.wanted oj (yielded ops a.tmps) = true
  · rw [if_pos hw] at h ⊢
    unfold Oper.wpIn at h ⊢
    obtain ⟨h1, h2⟩ := h
    refine ⟨fun f hf => h1 f (by rw [about_put oj w a oi.dst v p1]; exact hf), ?_⟩
    rw [Oper.semAt_plain F _ _ hdj] at h2 ⊢
    rw [execOp_put oj hsj a oi.dst v p1] at h2
    revert h2
    generalize (execOp a.eval oj).run P w = r
    intro h2
    cases r with
    | halt x w' =>
      cases x <;> simp only [Oper.uponIn] at h2 ⊢
      exact hQ _ _ _ h2
    | ok x w' =>
      cases x with
      | value u => exact ⟨keep a hy u, by rw [← Act.put_comm a v u p2]; exact h2⟩
      | skip => exact ⟨keep a hy _, by rw [← Act.put_comm a v undef p2]; exact h2⟩
      | defer d =>
        have hy' : YieldsI P ops S oi v { a with defers := d :: a.defers } := hy.same rfl rfl (fun _ => rfl)
        refine ⟨keep _ hy' _, ?_⟩
        rw [← Act.put_comm _ v undef p2, ← Act.put_defers]
        exact h2
      | enter f args =>
        refine ⟨h2.1, CallsIn.mono h2.2 fun e w'' he => ?_⟩
        cases e with
        | returned u => exact ⟨keep a hy u, by rw [← Act.put_comm a v u p2]; exact he⟩
        | panicked c => exact hQ _ _ _ he
        | outgrown => exact he
      | row row args => exact ⟨h2.1, RowsIn.mono h2.2 fun u w'' he => ⟨keep a hy u, by rw [← Act.put_comm a v u p2]; exact he⟩⟩
      | round l f tmps assign body =>
        refine ⟨h2.1, RoundIn.mono h2.2 fun e w'' he => ?_⟩
        cases e with
        | returned u => exact ⟨keep a hy u, by rw [← Act.put_comm a v u p2]; exact he⟩
        | panicked c => exact hQ _ _ _ he
        | outgrown => exact he
      | _ => simp only [Oper.uponIn] at h2
  · rw [if_neg hw] at h ⊢
    exact ⟨fun f hf => h.1 f (by rw [about_put oj w a oi.dst v p1]; exact hf), keep a hy _, by rw [← Act.put_comm a v undef p2]; exact h.2⟩
/-- in whatever order; S holds as long as operation L is still to come -/
def AnyI (F : Fence) (n : Nat) (P : Program) (md : Region.Mode) (ops : Array Oper) (Q : Exit → Act → World → Prop) (S : World → Prop) (L : Nat) : Nat → Array Bool → Act → World → Prop
  | 0, l, a, w => Region.ready md ops l = [] ∧ Q .normal a w
  | k + 1, l, a, w => (Region.ready md ops l = [] → Q .normal a w) ∧
      ∀ i ∈ Region.ready md ops l, wpOpIn F n P ops Q i (fun a' w' => ((l.setIfInBounds i true).getD L true = false → S w') ∧ AnyI F n P md ops Q S L k (l.setIfInBounds i true) a' w') a w
theorem AnyI.any : ∀ (k : Nat) (l : Array Bool) (a : Act) (w : World), AnyI F n P md ops Q S L k l a w → wpAnyIn F n P md ops Q k l a w
  | 0, _, _, _, h => h
  | k + 1, _, _, _, h => ⟨h.1, fun i hi => wpOpIn_mono (fun a' w' h' => AnyI.any k _ a' w' h'.2) (h.2 i hi)⟩
theorem AnyI.start {id : Nat} {a : Act} {w : World} (L : Nat) (S : World → Prop) (hm : P.follows .mixedOrders = true) (h : AnyI F n P .any ops Q S L ops.size (Array.replicate ops.size false) a w.drew) : (Code.region id ops true).wpIn F n P Q a w :=
  wpIn_region_any hm (AnyI.any _ _ _ _ h)
def NoP (Q : Exit → Act → World → Prop) : Exit → Act → World → Prop := fun e a w => (∀ c, e ≠ .panic c) ∧ Q e a w
theorem AnyI.begin {id : Nat} {a : Act} {w : World} (L : Nat) (S : World → Prop) (hm : P.follows .mixedOrders = true) (h : AnyI F n P .any ops (NoP Q) S L ops.size (Array.replicate ops.size false) a w.drew) : (Code.region id ops true).wpIn F n P Q a w :=
  Go.wpIn_mono (AnyI.start L S hm h) (fun _ _ _ hq => hq.2)
theorem AnyI.finish {k : Nat} {l : Array Bool} {a : Act} {w : World} (hr : Region.ready md ops l = []) (h : Q .normal a w) : AnyI F n P md ops (NoP Q) S L k l a w := by
  have h' : NoP Q .normal a w := ⟨fun c e => (by cases e), h⟩
  cases k with
  | zero => exact ⟨hr, h'⟩
  | succ k => exact ⟨fun _ => h', fun i hi => by rw [hr] at hi; cases hi⟩
/-- all of D are to come, L among them, and each of them waits for another one of D, but i -/
def chained (md : Region.Mode) (ops : Array Oper) (l : Array Bool) (L i : Nat) (D : List Nat) : Bool :=
  D.contains i && D.contains L && (L != i) && D.all (fun d => !l.getD d true) && D.all (fun d => d == i || D.any (fun e => bound md ops d e))
theorem bound_spec {d e : Nat} (h : bound md ops d e = true) : ∃ od, ops[d]? = some od ∧ ∃ q ∈ od.after, Region.binds md q = true ∧ q.on = e := by
  unfold bound at h
  split at h
  · rename_i o ho
    rw [Array.any_eq_true] at h
    obtain ⟨q, hq, h⟩ := h
    simp only [Bool.and_eq_true, beq_iff_eq] at h
    exact ⟨o, ho, _, Array.getElem_mem hq, h.1, h.2⟩
  · cases h
theorem AnyI.first {i : Nat} {oi : Oper} {v : Value} {D : List Nat} (hi : ops[i]? = some oi) (hnd : ∀ (j : Nat) (o : Oper) c, ops[j]? = some o → o.op ≠ .defer c) (hsel : ∀ (j : Nat) (o : Oper) cs b, ops[j]? = some o → o.op ≠ .select cs b) (hQ : ∀ c a w, Q (.panic c) (a.put oi.dst v) w → Q (.panic c) a w)
    (hiD : i ∈ D) (hLD : L ∈ D) (hLi : L ≠ i) (hD : ∀ d, d ∈ D → d = i ∨ ∃ e ∈ D, bound md ops d e = true) :
    ∀ (k : Nat) (l : Array Bool) (a : Act) (w : World),
      (∀ j oj, ops[j]? = some oj → j ≠ i → l.getD j true = false → (∀ e ∈ oj.after, Region.binds md e = true → e.on ≠ i) → oi.apart ops oj = true) →
      i ∈ Region.ready md ops l → (∀ d, d ∈ D → l.getD d true = false) → YieldsI P ops S oi v a → S w → AnyI F n P md ops Q S L k (l.setIfInBounds i true) (a.put oi.dst v) w → AnyI F n P md ops Q S L (k + 1) l a w := by
  have hdi : ∀ c, oi.op ≠ .defer c := fun c => hnd i oi c hi
  intro k
  induction k with
  | zero =>
    intro l a w _ hr hun hy hS H
    refine ⟨fun h => (by rw [h] at hr; cases hr), fun j hj => ?_⟩
    by_cases e : j = i
    · subst e; exact hy.op hdi hi hS ⟨fun _ => hS, H⟩
    · have := ready_mono hj e
      rw [H.1] at this
      cases this
  | succ k ih =>
    intro l a w hfree hr hun hy hS H
    refine ⟨fun h => (by rw [h] at hr; cases hr), fun j hj => ?_⟩
    by_cases e : j = i
    · subst e; exact hy.op hdi hi hS ⟨fun _ => hS, H⟩
    · have step := H.2 j (ready_mono hj e)
      obtain ⟨un, oj, hoj, all⟩ := mem_ready.1 hj
      have unl : ∀ x, l.getD x true = false → ∀ d ∈ oj.after, Region.binds md d = true → d.on ≠ x := fun x hx d hd hb heq => by
        have h1 := all d hd hb
        rw [heq] at h1
        rcases Nat.lt_or_ge x l.size with h' | h'
        · simp [h'] at hx h1; rw [hx] at h1; cases h1
        · simp [Array.getElem?_eq_none h'] at h1
      have hjD : j ∉ D := fun hjd => by
        rcases hD j hjd with h | ⟨x, hx, hb⟩
        · exact e h
        · obtain ⟨od, hod, q, hq, hqb, hqe⟩ := bound_spec hb
          rw [hoj] at hod
          cases hod
          exact unl x (hun x hx) q hq hqb hqe
      have free1 := unl i (hun i hiD)
      have hun' : ∀ d, d ∈ D → (l.setIfInBounds j true).getD d true = false := fun d hd => by
        rw [getD_set_ne true (fun e2 => hjD (by rw [e2]; exact hd))]; exact hun d hd
      have step2 := wpOpIn_putI hoj (hfree j oj hoj e un free1) (fun c => hnd j oj c hoj) (fun cs b => hsel i oi cs b hi) (fun cs b => hsel j oj cs b hoj) hQ hy step
      have hir : i ∈ Region.ready md ops (l.setIfInBounds j true) := ready_mono hr (Ne.symm e)
      refine wpOpIn_mono (fun a' w' h3 => ?_) step2
      obtain ⟨y1, y2, y3⟩ := h3
      have hSw : S w' := y2 (by rw [Array.setIfInBounds_comm _ _ (Ne.symm e), getD_set_ne true (Ne.symm hLi)]; exact hun' L hLD)
      refine ⟨fun _ => hSw, ih (l.setIfInBounds j true) a' w' ?_ hir hun' y1 hSw ?_⟩
      · intro m om hm hmi hmu hno
        refine hfree m om hm hmi ?_ hno
        by_cases hjm : j = m
        · subst hjm; exact un
        · rw [getD_set_ne true hjm] at hmu; exact hmu
      · rw [Array.setIfInBounds_comm _ _ e]; exact y3
def noDefer (ops : Array Oper) : Bool := ops.all fun o => match o.op with | .defer _ => false | _ => true
theorem noDefer_spec (h : noDefer ops = true) (j : Nat) (o : Oper) (c : Call) (hj : ops[j]? = some o) : o.op ≠ .defer c := fun e => by
  unfold noDefer at h
  rw [Array.all_eq_true] at h
  obtain ⟨hlt, rfl⟩ := Array.getElem?_eq_some_iff.1 hj
  have := h j hlt
  rw [e] at this
  cases this
theorem AnyI.take {i : Nat} {oi : Oper} {v : Value} {k : Nat} {l : Array Bool} {a : Act} {w : World} (D : List Nat) (hi : ops[i]? = some oi) (hd : noDefer ops = true) (hs : Region.noSelect ops = true) (hf : Region.free md ops l i = true) (hr : (Region.ready md ops l).contains i = true) (hb : chained md ops l L i D = true)
    (hQ : ∀ c a w, Q (.panic c) (a.put oi.dst v) w → Q (.panic c) a w) (hy : YieldsI P ops S oi v a) (hS : S w) (h : AnyI F n P md ops Q S L k (l.setIfInBounds i true) (a.put oi.dst v) w) : AnyI F n P md ops Q S L (k + 1) l a w := by
  unfold chained at hb
  simp only [Bool.and_eq_true, List.contains_iff_mem, bne_iff_ne, ne_eq, List.all_eq_true, Bool.not_eq_true', Bool.or_eq_true, beq_iff_eq, List.any_eq_true] at hb
  obtain ⟨⟨⟨⟨h1, h2⟩, h3⟩, h4⟩, h5⟩ := hb
  exact AnyI.first hi (noDefer_spec hd) (Region.noSelect_spec hs) hQ h1 h2 h3 h5 k l a w (Region.free_spec hi hf) (by simpa using hr) h4 hy hS h
/-- one alone may come up -/
theorem AnyI.one {i : Nat} {o : Oper} {k : Nat} {l : Array Bool} {a : Act} {w : World} (hr : Region.ready md ops l = [i]) (ho : ops[i]? = some o) (hw : Region.wanted o (yielded ops a.tmps) = true)
    (h : ∀ K : Act → World → Prop, (∀ a' w', ((l.setIfInBounds i true).getD L true = false → S w') → AnyI F n P md ops Q S L k (l.setIfInBounds i true) a' w' → K a' w') → Oper.wpIn F n P o a w K Q) : AnyI F n P md ops Q S L (k + 1) l a w := by
  refine ⟨fun h0 => (by rw [hr] at h0; cases h0), fun j hj => ?_⟩
  rw [hr, List.mem_singleton] at hj
  subst hj
  refine wpOpIn_step ho fun K' hK => ?_
  rw [if_pos hw]
  exact h K' fun a' w' h1 h2 => hK a' w' ⟨h1, h2⟩
/-- one alone may come up, and its guard lets it by -/
theorem AnyI.pass {i : Nat} {o : Oper} {k : Nat} {l : Array Bool} {a : Act} {w : World} (hr : Region.ready md ops l = [i]) (ho : ops[i]? = some o) (hw : Region.wanted o (yielded ops a.tmps) = false) (hab : o.about P w a.eval = none) (hS : (l.setIfInBounds i true).getD L true = false → S w)
    (h : AnyI F n P md ops Q S L k (l.setIfInBounds i true) (a.put o.dst undef) w) : AnyI F n P md ops Q S L (k + 1) l a w := by
  refine ⟨fun h0 => (by rw [hr] at h0; cases h0), fun j hj => ?_⟩
  rw [hr, List.mem_singleton] at hj
  subst hj
  refine wpOpIn_step ho fun K' hK => ?_
  rw [if_neg (by rw [hw]; simp)]
  exact ⟨fun f hf => (by rw [hab] at hf; cases hf), hK _ _ ⟨hS, h⟩⟩
/-- one of two -/
theorem AnyI.two {i i2 : Nat} {o o2 : Oper} {k : Nat} {l : Array Bool} {a : Act} {w : World} (hr : Region.ready md ops l = [i, i2]) (ho : ops[i]? = some o) (ho2 : ops[i2]? = some o2) (hw : Region.wanted o (yielded ops a.tmps) = true) (hw2 : Region.wanted o2 (yielded ops a.tmps) = true)
    (h : ∀ K : Act → World → Prop, (∀ a' w', ((l.setIfInBounds i true).getD L true = false → S w') → AnyI F n P md ops Q S L k (l.setIfInBounds i true) a' w' → K a' w') → Oper.wpIn F n P o a w K Q)
    (h2 : ∀ K : Act → World → Prop, (∀ a' w', ((l.setIfInBounds i2 true).getD L true = false → S w') → AnyI F n P md ops Q S L k (l.setIfInBounds i2 true) a' w' → K a' w') → Oper.wpIn F n P o2 a w K Q) : AnyI F n P md ops Q S L (k + 1) l a w := by
  refine ⟨fun h0 => (by rw [hr] at h0; cases h0), fun j hj => ?_⟩
  rw [hr] at hj
  simp only [List.mem_cons, List.not_mem_nil, or_false] at hj
  rcases hj with rfl | rfl
  · refine wpOpIn_step ho fun K' hK => ?_
    rw [if_pos hw]
    exact h K' fun a' w' h1 h2 => hK a' w' ⟨h1, h2⟩
  · refine wpOpIn_step ho2 fun K' hK => ?_
    rw [if_pos hw2]
    exact h2 K' fun a' w' h1 h2 => hK a' w' ⟨h1, h2⟩
theorem AnyI.done {k : Nat} {l : Array Bool} {a : Act} {w : World} (hr : Region.ready md ops l = []) (h : Q .normal a w) : AnyI F n P md ops Q S L k l a w := by
  cases k with
  | zero => exact ⟨hr, h⟩
  | succ k => exact ⟨fun _ => h, fun i hi => by rw [hr] at hi; cases hi⟩
end
end Go.Proofs.Ytfbjjblgcgjndaa

/- A range over a function whose iterator writes between the rounds; the body always goes on. -/
namespace Go.Proofs.Ytfbjjblgcgjndaa
open Go.RowKit

/-- the loop's two blocks lie as they were laid -/
def Blk2 (d : Nat) (o1 o2 : Obj) (W : World) : Prop := W.heap[d]? = some o1 ∧ W.heap[d + 1]? = some o2
theorem Blk2.chg {d : Nat} {o1 o2 : Obj} {W W' : World} {G : Nat → Prop} (h : Blk2 d o1 o2 W) (hc : Chg G W W') (h1 : ¬ G d) (h2 : ¬ G (d + 1)) : Blk2 d o1 o2 W' :=
  ⟨(hc.block _ (Array.getElem?_eq_some_iff.1 h.1).1 h1).trans h.1, (hc.block _ (Array.getElem?_eq_some_iff.1 h.2).1 h2).trans h.2⟩
theorem putObj_chg (W : World) (l : Nat) (o : Obj) : Chg (fun g => g = l) W (W.putObj l o) := .of_grown (grownBy_putObj' W l o) (fun g e => by cases e; rfl)
section
variable {F : Fence} {n : Nat} {P : Program}
theorem wpIn_rangeFunc_go {α : Type} {g : Operand} {ps : Array Tmp} {assign body : Code} {Q : Exit → Act → World → Prop} {a : Act} {w : World}
    (hro : F.round = none) (h1 : 1 ≤ n) {gf : Nat} {lb : Array Value} (hg : a.eval g = .func (.func gf) #[] lb) (hFg : F.fn gf) (eg : ∀ args w, (callFunc gf args).run P w = .ok (.enter gf args) w)
    {encs : α → Array Value} (hps : ∀ x, (encs x).size = ps.size)
    (A : List α → α → World → Prop) (B : List α → World → Prop) (M : List α → α → Act → World → Prop) (S : List α → Prop)
    (hB : ∀ pre W o, B pre W → B pre (W.putObj (w.heap.size + 1) o)) (hM : ∀ pre x a' W o, M pre x a' W → M pre x a' (W.putObj (w.heap.size + 1) o))
    (hseq : ∀ (o1 o2 : Obj), (∀ pre x W, Blk2 w.heap.size o1 o2 W → A pre x W → YieldAt F (n - 1 - 1) P (w.heap.size + 1) (encs x) W fun e W' => e = .returned (.bool true) ∧ B (pre ++ [x]) W' ∧ Blk2 w.heap.size o1 o2 W') →
      CallsIn F (n - 1) P gf (#[.func (.yield (w.heap.size + 1)) #[] #[]] ++ lb) ((w.alloc o1).alloc o2) fun e W' => (∃ v, e = .returned v) ∧ Blk2 w.heap.size o1 o2 W' ∧ ∃ xs, S xs ∧ B xs W')
    (hassign : ∀ (pre : List α) (x : α) (W : World) (K : Act → World → Prop) (o1 o2 : Obj), o2.isCells = false → Blk2 w.heap.size o1 o2 W → A pre x W → (∀ a' W', Blk2 w.heap.size o1 o2 W' → M pre x a' W' → K a' W') →
      assign.wpIn (F.inRound (w.heap.size + 1)) (n - 1 - 1) P (Exit.then K (fun _ _ _ => False)) { tmps := (ps.zip (encs x)).foldl (fun t (p, v) => t.setIfInBounds p v) a.tmps, defers := [] } W)
    (hbody : ∀ (pre : List α) (x : α) (a' : Act) (W : World) (o1 o2 : Obj), Blk2 w.heap.size o1 o2 W → M pre x a' W → body.wpIn (F.inRound (w.heap.size + 1)) (n - 1 - 1) P (fun e _ W' => e = .normal ∧ Blk2 w.heap.size o1 o2 W' ∧ B (pre ++ [x]) W') a' W)
    (hdone : ∀ (xs : List α) (W : World), S xs → B xs W → W.heap[w.heap.size]? = some (.deferred (some [])) → Q .normal { a with defers := { target := .collected w.heap.size, args := #[] } :: a.defers } W) :
    (Code.rangeFunc g ps assign body).wpIn F n P Q a w := by
  refine wpIn_rangeFunc fun fn hfn => ?_
  rw [hro]
  obtain ⟨rec, hrec⟩ : ∃ rec : LoopState → Loop, rec = fun st => { state := st, pending := none, fn, tmps := a.tmps, params := ps, assign, body, defers := w.heap.size } := ⟨_, rfl⟩
  have hput : ∀ (W : World) (o1 o2 o : Obj), Blk2 w.heap.size o1 o2 W → Blk2 w.heap.size o1 o (W.putObj (w.heap.size + 1) o) := fun W o1 o2 o h =>
    ⟨(World.putObj_heap_other (by omega)).trans h.1, World.putObj_heap_same (Array.getElem?_eq_some_iff.1 h.2).1⟩
  refine ⟨w.heap.size + 1, [{ target := .collected w.heap.size, args := #[] }], (w.alloc (.deferred (some []))).alloc (.loop (rec .ready)), { target := .fn (.func gf) lb, args := #[.func (.yield (w.heap.size + 1)) #[] #[]] }, (w.alloc (.deferred (some []))).alloc (.loop (rec .ready)), gf,
    #[.func (.yield (w.heap.size + 1)) #[] #[]] ++ lb, (w.alloc (.deferred (some []))).alloc (.loop (rec .ready)), ?_, ?_, ?_, ?_, fun _ => h1, ?_⟩
  · rw [hrec]; exact run_enterLoop_outer _ _ _ _ _
  · simp only [resolve, hg]
    simp [go_sem]
  · intro f' hf'
    simp [Target.leads] at hf'
    subst hf'; exact hFg
  · simp [invoke, go_sem, eg]
  · refine (hseq (.deferred (some [])) (.loop (rec .ready)) fun pre x W ht hax => ?_).mono ?_
    · have hy := run_yield (P := P) (args := encs x) ht.2 (by rw [hrec]; exact hps x)
      rw [hrec] at hy
      refine ⟨fn, _, assign, body, hy, roundIn_of_wpIn hfn (hassign pre x W _ _ _ rfl ht hax fun a' W' ht' hm => ?_)⟩
      refine ⟨_, run_beginRound ht'.2 (by rw [hrec]), ?_⟩
      have ht2 := hput W' _ _ (.loop { rec .ready with state := .busy }) ht'
      refine wpIn_mono (hbody pre x a' _ _ _ ht2 (hM _ _ _ _ _ hm)) ?_
      rintro e a3 W3 ⟨rfl, ht3, hb3⟩
      have hr := run_endRound (P := P) none ht3.2
      refine ⟨_, _, hr, rfl, hB _ _ _ hb3, ?_⟩
      have ht4 := hput W3 _ _ (.loop { rec .ready with state := .ready, pending := none }) ht3
      rw [hrec] at ht4 ⊢
      exact ht4
    · rintro e W2 ⟨⟨v, rfl⟩, ht, xs, hs, hb⟩
      exact ⟨none, _, by have := run_endLoop (P := P) ht.2 (by rw [hrec]; simp); rw [hrec] at this; exact this, hdone xs _ hs (hB _ _ _ hb) ((World.putObj_heap_other (by omega)).trans ht.1)⟩
end
end Go.Proofs.Ytfbjjblgcgjndaa

/- over.Read: what holds between the rounds of chain's iterator. -/
namespace Go.Proofs.Ytfbjjblgcgjndaa
open Go.RowKit

theorem PoolX.keepAlso {n0 : Nat} {w w' : World} {P d most : Nat} {D : Dsk} {L : List Hand} {c : Nat} {X : Nat → Prop} (h : PoolX n0 w P d most D L c X) {G : Nat → Prop} (hc : Chg G w w') (hG : ∀ g, g < w.heap.size → G g → X g) {Y : Nat → Prop} (hY : ∀ g, Y g → w.heap.size ≤ g ∧ g < w'.heap.size) : PoolX n0 w' P d most D L c (fun g => X g ∨ Y g) := by
  obtain ⟨S, T, h, hx⟩ := h
  have hc' : Chg (fun g => G g ∧ g < w.heap.size) w w' := ⟨hc.os, hc.tape, hc.output, hc.size, fun k hk hF => hc.block k hk (fun e => hF ⟨e, hk⟩)⟩
  have hG' : ∀ g, G g ∧ g < w.heap.size → X g := fun g hg => hG g hg.2 hg.1
  refine ⟨S, T, ⟨h.disk.keep hc' (fun g hg e => (hx g (hG' g e)).2.1 hg), h.pool.keep hc' (fun g hg e => (hx g (hG' g e)).2.2 hg), h.sep⟩, fun g hg => ?_⟩
  rcases hg with hg | hg
  · exact ⟨Nat.lt_of_lt_of_le (hx g hg).1 hc.size, (hx g hg).2⟩
  · obtain ⟨a, b⟩ := hY g hg
    exact ⟨b, fun e => by have := h.disk.top g e; omega, fun e => by have := (h.pool.2 g e).2; omega⟩
/-- what the reader holds aside of pool and disk -/
def RX (X0 : Nat → Prop) (h : Nat) (v1 v2 : Value) (g : Nat) : Prop := X0 g ∨ (h ≤ g ∧ g < h + 10) ∨ blk v1 g ∨ blk v2 g
structure RIn (n0 : Nat) (w : World) (P d most N j0 c0 : Nat) (C : Nat → Option (Nat × List Nat)) (X0 : Nat → Prop) (l u : List Nat) (kr kb sz at_ : Nat) (W : World) (D : Dsk) (L : List Hand) (v1 v2 : Value) : Prop where
  pool : PoolX n0 W P d most D L (c0 + kr) (RX X0 w.heap.size v1 v2)
  even : Even most (j0 + kr) N D L C
  b6 : Boxed W w.heap.size 23 (.slice none 0 0)
  b7 : Boxed W (w.heap.size + 1) 34 (.slice none 0 0)
  b8 : Boxed W (w.heap.size + 2) 37 (.int .u16 0)
  b9 : Boxed W (w.heap.size + 3) 23 v1
  b10 : Boxed W (w.heap.size + 4) 34 v2
  bp : Boxed W (w.heap.size + 5) 127 (.pointer (some ⟨P, 0, none⟩))
  ba : Boxed W (w.heap.size + 6) 22 (.int .u32 (at_ : Int))
  bz : Boxed W (w.heap.size + 7) 3 (.int .i64 (sz : Int))
  buf : Buf (w.heap.size + 10) W v1 (l.take (1004 * kb))
  row : W.ownsRow (w.heap.size + 10) 22 1 v2 kb (ns .u32 (u.take kb))
  sep : ∀ g, blk v1 g → ¬ blk v2 g
  fr : Step n0 X0 w W
  big : w.heap.size + 10 ≤ W.heap.size
  n0h : n0 ≤ w.heap.size
section
variable {n0 : Nat} {w : World} {P d most N j0 c0 : Nat} {C : Nat → Option (Nat × List Nat)} {X0 : Nat → Prop} {l u : List Nat} {kr kb sz at_ : Nat} {W W' : World} {D D' : Dsk} {L L' : List Hand} {v1 v2 : Value}
theorem RIn.up (h : RIn n0 w P d most N j0 c0 C X0 l u kr kb sz at_ W D L v1 v2) (hb : Below W.heap.size W W') : RIn n0 w P d most N j0 c0 C X0 l u kr kb sz at_ W' D L v1 v2 :=
  ⟨h.pool.below hb, h.even, bx_below h.b6 hb, bx_below h.b7 hb, bx_below h.b8 hb, bx_below h.b9 hb, bx_below h.b10 hb, bx_below h.bp hb, bx_below h.ba hb, bx_below h.bz hb, own_below h.buf hb, own_below h.row hb, h.sep,
    h.fr.trans (Step.of_below (X := X0) hb h.pool.n_le) (fun _ h => h), Nat.le_trans h.big hb.size, h.n0h⟩
theorem RIn.read (h : RIn n0 w P d most N j0 c0 C X0 l u kr kb sz at_ W D L v1 v2) {pay : Value} (he : Even most (j0 + kr + 1) N D' L' C) (hx : PoolX n0 W' P d most D' L' (c0 + kr + 1) (fun g => RX X0 w.heap.size v1 v2 g ∨ blk pay g)) (hs : Step n0 (RX X0 w.heap.size v1 v2) W W') :
    RIn n0 w P d most N j0 c0 C X0 l u (kr + 1) kb sz at_ W' D' L' v1 v2 := by
  have hc := hs.1
  have bx : ∀ {g t v}, Boxed W g t v → w.heap.size ≤ g → g < w.heap.size + 10 → Boxed W' g t v := fun {g t v} hb h1 h2 => bx_chg hb hc (fun hn => hn (.inr (.inl ⟨h1, h2⟩)))
  exact ⟨hx.less (fun g hg => .inl hg), he, bx h.b6 (by omega) (by omega), bx h.b7 (by omega) (by omega), bx h.b8 (by omega) (by omega), bx h.b9 (by omega) (by omega), bx h.b10 (by omega) (by omega), bx h.bp (by omega) (by omega), bx h.ba (by omega) (by omega), bx h.bz (by omega) (by omega),
    own_chg h.buf hc (fun g hg hn => hn (.inr (.inr (.inl hg)))), own_chg h.row hc (fun g hg hn => hn (.inr (.inr (.inr hg)))), h.sep, h.fr.trans hs (fun g hg => .inl hg), Nat.le_trans h.big hc.size, h.n0h⟩
/-- a block of the reader's own that none of these tells is turned -/
theorem RIn.other (h : RIn n0 w P d most N j0 c0 C X0 l u kr kb sz at_ W D L v1 v2) {x : Nat} (hx1 : w.heap.size ≤ x) (hx2 : x < w.heap.size + 10) (hc : Chg (fun g => g = x) W W')
    (h6 : x ≠ w.heap.size) (h7 : x ≠ w.heap.size + 1) (h8 : x ≠ w.heap.size + 2) (h9 : x ≠ w.heap.size + 3) (h10 : x ≠ w.heap.size + 4) (hp : x ≠ w.heap.size + 5) {at' sz' : Nat} (ha : Boxed W' (w.heap.size + 6) 22 (.int .u32 (at' : Int))) (hz : Boxed W' (w.heap.size + 7) 3 (.int .i64 (sz' : Int))) :
    RIn n0 w P d most N j0 c0 C X0 l u kr kb sz' at' W' D L v1 v2 := by
  have bx : ∀ {g t v}, Boxed W g t v → x ≠ g → Boxed W' g t v := fun {g t v} hb hne => bx_chg hb hc (fun e => hne e.symm)
  have hw := h.fr.1.size
  refine ⟨h.pool.keep hc (fun g _ e => by subst e; exact .inr (.inl ⟨hx1, hx2⟩)), h.even, bx h.b6 h6, bx h.b7 h7, bx h.b8 h8, bx h.b9 h9, bx h.b10 h10, bx h.bp hp, ha, hz,
    own_chg h.buf hc (fun g hg e => by have := (row_lt h.buf hg).1; omega), own_chg h.row hc (fun g hg e => by have := (row_lt h.row hg).1; omega), h.sep, ?_, Nat.le_trans h.big hc.size, h.n0h⟩
  refine ⟨h.fr.1.trans hc (fun j hj e => by omega), h.fr.2.trans (hc.below h.pool.n_le (fun g e => ?_))⟩
  have := h.fr.2.size
  have hn : n0 ≤ w.heap.size := h.n0h
  omega
theorem RIn.setz (h : RIn n0 w P d most N j0 c0 C X0 l u kr kb sz at_ W D L v1 v2) (z : Nat) : RIn n0 w P d most N j0 c0 C X0 l u kr kb z at_ (W.setCell ⟨w.heap.size + 7, 0, none⟩ (.int .i64 (z : Int))) D L v1 v2 :=
  h.other (x := w.heap.size + 7) (by omega) (by omega) (setCell_chg _ _ _ _) (by omega) (by omega) (by omega) (by omega) (by omega) (by omega) (bx_chg h.ba (setCell_chg _ _ _ _) (fun e => by omega)) (h.bz.set _)
theorem RIn.seta (h : RIn n0 w P d most N j0 c0 C X0 l u kr kb sz at_ W D L v1 v2) (z : Nat) : RIn n0 w P d most N j0 c0 C X0 l u kr kb sz z (W.setCell ⟨w.heap.size + 6, 0, none⟩ (.int .u32 (z : Int))) D L v1 v2 :=
  h.other (x := w.heap.size + 6) (by omega) (by omega) (setCell_chg _ _ _ _) (by omega) (by omega) (by omega) (by omega) (by omega) (by omega) (h.ba.set _) (bx_chg h.bz (setCell_chg _ _ _ _) (fun e => by omega))
theorem RIn.obj (h : RIn n0 w P d most N j0 c0 C X0 l u kr kb sz at_ W D L v1 v2) (o : Obj) : RIn n0 w P d most N j0 c0 C X0 l u kr kb sz at_ (W.putObj (w.heap.size + 8 + 1) o) D L v1 v2 :=
  h.other (x := w.heap.size + 8 + 1) (by omega) (by omega) (putObj_chg _ _ _) (by omega) (by omega) (by omega) (by omega) (by omega) (by omega) (bx_chg h.ba (putObj_chg _ _ _) (fun e => by omega)) (bx_chg h.bz (putObj_chg _ _ _) (fun e => by omega))
/-- the body has put a part behind -/
theorem RIn.body (h : RIn n0 w P d most N j0 c0 C X0 l u kr kb sz at_ W D L v1 v2) {w1 w2 : Value} (hc : Chg (fun g => g = w.heap.size + 3 ∨ g = w.heap.size + 4 ∨ blk v1 g ∨ blk v2 g) W W') (h9 : Boxed W' (w.heap.size + 3) 23 w1) (h10 : Boxed W' (w.heap.size + 4) 34 w2)
    (hbuf : Buf (w.heap.size + 10) W' w1 (l.take (1004 * (kb + 1)))) (hrow : W'.ownsRow (w.heap.size + 10) 22 1 w2 (kb + 1) (ns .u32 (u.take (kb + 1)))) (hn1 : ∀ g, blk w1 g → blk v1 g ∨ W.heap.size ≤ g) (hn2 : ∀ g, blk w2 g → blk v2 g ∨ W.heap.size ≤ g) (hsep : ∀ g, blk w1 g → ¬ blk w2 g) :
    RIn n0 w P d most N j0 c0 C X0 l u kr (kb + 1) sz at_ W' D L w1 w2 := by
  have lo : ∀ g, blk v1 g ∨ blk v2 g → w.heap.size + 10 ≤ g := fun g hg => by
    rcases hg with hg | hg
    · exact (row_lt h.buf hg).1
    · exact (row_lt h.row hg).1
  have bx : ∀ {g t v}, Boxed W g t v → g < w.heap.size + 10 → g ≠ w.heap.size + 3 → g ≠ w.heap.size + 4 → Boxed W' g t v := fun {g t v} hb hlt hn3 hn4 => bx_chg hb hc (fun e => by
    rcases e with e | e | e | e
    · exact hn3 e
    · exact hn4 e
    · have := lo _ (.inl e); omega
    · have := lo _ (.inr e); omega)
  have hp := h.pool.keepAlso hc (fun g _ e => by
    rcases e with e | e | e | e
    · exact .inr (.inl ⟨by omega, by omega⟩)
    · exact .inr (.inl ⟨by omega, by omega⟩)
    · exact .inr (.inr (.inl e))
    · exact .inr (.inr (.inr e))) (Y := fun g => W.heap.size ≤ g ∧ g < W'.heap.size) (fun g hg => hg)
  have hcw := h.fr.1.size
  refine ⟨hp.less (fun g hg => ?_), h.even, bx h.b6 (by omega) (by omega) (by omega), bx h.b7 (by omega) (by omega) (by omega), bx h.b8 (by omega) (by omega) (by omega), h9, h10, bx h.bp (by omega) (by omega) (by omega), bx h.ba (by omega) (by omega) (by omega), bx h.bz (by omega) (by omega) (by omega), hbuf, hrow, hsep, ?_, Nat.le_trans h.big hc.size, h.n0h⟩
  · rcases hg with hg | hg | hg | hg
    · exact .inl (.inl hg)
    · exact .inl (.inr (.inl hg))
    · rcases hn1 g hg with e | e
      · exact .inl (.inr (.inr (.inl e)))
      · exact .inr ⟨e, (row_lt hbuf hg).2⟩
    · rcases hn2 g hg with e | e
      · exact .inl (.inr (.inr (.inr e)))
      · exact .inr ⟨e, (row_lt hrow hg).2⟩
  · have hlow : ∀ g, (g = w.heap.size + 3 ∨ g = w.heap.size + 4 ∨ blk v1 g ∨ blk v2 g) → w.heap.size ≤ g := fun g e => by
      rcases e with e | e | e | e
      · omega
      · omega
      · have := lo _ (.inl e); omega
      · have := lo _ (.inr e); omega
    refine ⟨h.fr.1.trans hc (fun j hj e => by have := hlow j e; omega), h.fr.2.trans (hc.below h.pool.n_le (fun g e => ?_))⟩
    have := hlow g e
    have := h.n0h
    omega
end
end Go.Proofs.Ytfbjjblgcgjndaa

/- over.chain's iterator (167). -/
namespace Go.Proofs.Ytfbjjblgcgjndaa
open Go.RowKit Go.Shelf

attribute [local go_sem] Oper.semAt_some

/-- what the pages say, and the state, between two rounds -/
structure Chn (l u : List Nat) (N : Nat) (C : Nat → Option (Nat × List Nat)) : Prop where
  ok : encOk l u
  lt : ∀ i, i < u.length → nth u i < N
  has : ∀ i, i < u.length → C (nth u i) = some (3, encRow l u i)
def RI (n0 : Nat) (w : World) (P d most N j0 c0 : Nat) (C : Nat → Option (Nat × List Nat)) (X0 : Nat → Prop) (l u : List Nat) (kr kb sz at_ : Nat) (W : World) : Prop := ∃ D L v1 v2, RIn n0 w P d most N j0 c0 C X0 l u kr kb sz at_ W D L v1 v2
/-- at the yield: the link -/
def ChA (n0 : Nat) (w : World) (P d most N j0 c0 : Nat) (C : Nat → Option (Nat × List Nat)) (X0 : Nat → Prop) (l u : List Nat) (pre : List (Nat × Value)) (x : Nat × Value) (W : World) : Prop :=
  pre.length < u.length ∧ x.1 = nth u pre.length ∧ (∃ g o m c, x.2 = .slice (some ⟨g, o, none⟩) m c ∧ 0 < m ∧ m = ((l.drop (1004 * pre.length)).take 1004).length ∧ At W (some ⟨g, o, none⟩) (ns .u8 ((l.drop (1004 * pre.length)).take 1004))) ∧ RI n0 w P d most N j0 c0 C X0 l u (pre.length + 1) pre.length (l.length - 1004 * (pre.length + 1)) (nth u pre.length) W
/-- behind the round -/
def ChB (n0 : Nat) (w : World) (P d most N j0 c0 : Nat) (C : Nat → Option (Nat × List Nat)) (X0 : Nat → Prop) (l u : List Nat) (pre : List (Nat × Value)) (W : World) : Prop :=
  ∃ at_, RI n0 w P d most N j0 c0 C X0 l u pre.length pre.length (l.length - 1004 * pre.length) at_ W
theorem or_add (a b k : Nat) (ha : a < 2 ^ k) : a ||| (b * 2 ^ k) = a + b * 2 ^ k := by
  rw [Nat.or_comm, Nat.mul_comm b, ← Nat.two_pow_add_eq_or_of_lt ha]; omega
theorem le4_or (x : Nat) (hx : x < 4294967296) : bits BinOp.or IntKind.u32 (bits BinOp.or IntKind.u32 (bits BinOp.or IntKind.u32 ((x : Int) % 256) ((x : Int) / 256 % 256 * 256)) ((x : Int) / 65536 % 256 * 65536)) ((x : Int) / 16777216 % 256 * 16777216) = (x : Int) := by
  have e0 : (x : Int) % 256 = ((x % 256 : Nat) : Int) := by omega
  have e1 : (x : Int) / 256 % 256 * 256 = ((x / 256 % 256 * 2 ^ 8 : Nat) : Int) := by omega
  have e2 : (x : Int) / 65536 % 256 * 65536 = ((x / 65536 % 256 * 2 ^ 16 : Nat) : Int) := by omega
  have e3 : (x : Int) / 16777216 % 256 * 16777216 = ((x / 16777216 % 256 * 2 ^ 24 : Nat) : Int) := by omega
  rw [e0, e1, e2, e3, u32_or_nat _ _ (by omega) (by omega), or_add _ _ 8 (by omega), u32_or_nat _ _ (by omega) (by omega), or_add _ _ 16 (by omega), u32_or_nat _ _ (by omega) (by omega), or_add _ _ 24 (by omega)]
  congr 1
  omega
theorem told_chn {l u : List Nat} {N : Nat} {C : Nat → Option (Nat × List Nat)} (h : Chn l u N C) {i : Nat} (hi : i < u.length) : told N C (nth u i) = (3, encRow l u i, 0) := by
  unfold told
  rw [if_neg (by have := h.lt i hi; omega), h.has i hi]
set_option maxRecDepth 100000 in
set_option maxHeartbeats 8000000 in
theorem chain_in (m : Nat) (hm1 : 4 ≤ m) (n0 : Nat) (w : World) (P d most N j0 c0 : Nat) (C : Nat → Option (Nat × List Nat)) (X0 : Nat → Prop) (l u : List Nat) (hc : Chn l u N C) (hj0 : j0 ≤ 1000) (hc0 : c0 ≤ 1000) (hmost : most ≤ 256) (o1 o2 : Obj)
    (hY : ∀ pre x W, Blk2 (w.heap.size + 8) o1 o2 W → ChA n0 w P d most N j0 c0 C X0 l u pre x W → YieldAt Fence.wide (m - 1) Try.prog (w.heap.size + 8 + 1) #[.agg #[.int .u32 (x.1 : Int), x.2, .int .u16 0]] W fun e W' => e = .returned (.bool true) ∧ ChB n0 w P d most N j0 c0 C X0 l u (pre ++ [x]) W' ∧ Blk2 (w.heap.size + 8) o1 o2 W')
    (W : World) (h0 : RI n0 w P d most N j0 c0 C X0 l u 0 0 l.length (nth u 0) W) (h2 : Blk2 (w.heap.size + 8) o1 o2 W) :
    CallsIn Fence.wide m Try.prog 167 #[.func (.yield (w.heap.size + 8 + 1)) #[] #[], .pointer (some ⟨w.heap.size + 7, 0, none⟩), .pointer (some ⟨w.heap.size + 5, 0, none⟩), .pointer (some ⟨w.heap.size + 6, 0, none⟩)] W fun e W' => (∃ v, e = .returned v) ∧ Blk2 (w.heap.size + 8) o1 o2 W' ∧ ∃ xs, xs.length = u.length ∧ ChB n0 w P d most N j0 c0 C X0 l u xs W' := by
  have h1m : 1 ≤ m := by omega
  have hn0 := hc.ok.1
  obtain ⟨hl1, hl2, hne⟩ := need_yes hn0
  have hul := hc.ok.2.1
  have hn9 := need_le l.length
  obtain ⟨K, hK⟩ : ∃ K, K = need l.length := ⟨_, rfl⟩
  rw [← hK] at hne hul hn9 hn0
  have HC := Lib.hid hc
  have HUL := Lib.hid hul
  have HNE := Lib.hid hne
  have HY := Lib.hid hY
  clear hc hul hne hK hY
  refine callsIn_of_wp Try.func167 rfl trivial ?_ rfl
  simp only [Try.ntmps167, List.size_toArray, List.length_cons, List.length_nil, Nat.reduceAdd, Nat.reduceSub, Array.replicate_succ, Array.replicate_zero, List.push_toArray, List.append_toArray, List.nil_append, List.cons_append]
  gi_wp2
  gi_loopw [9] (fun _ wr => ∃ pre : List (Nat × Value), pre.length ≤ K ∧ RI n0 w P d most N j0 c0 C X0 l u pre.length pre.length (l.length - 1004 * pre.length) (if pre.length < K then nth u pre.length else 0) wr ∧ Blk2 (w.heap.size + 8) o1 o2 wr)
    (fun _ wr => (intOf ((wr.cell? ⟨w.heap.size + 7, 0, none⟩).getD undef)).toNat)
  case atStart => exact ⟨[], by simp, by simpa [Nat.pos_of_ne_zero hn0] using h0, h2⟩
  case round =>
    clear h0 h2
    obtain ⟨pre, hk, ⟨D, L, v1, v2, hI⟩, hB⟩ := hrel
    have cz := hI.bz.cell
    have HI := Lib.hid hI
    have HB := Lib.hid hB
    clear hI hB
    by_cases hlt : pre.length < K
    · have hlu : pre.length < u.length := by rw [HUL.out]; exact hlt
      have hat : (if pre.length < K then nth u pre.length else 0) = nth u pre.length := if_pos hlt
      rw [hat] at HI
      clear hat
      obtain ⟨s, hs⟩ : ∃ s, s = l.length - 1004 * pre.length := ⟨_, rfl⟩
      rw [← hs] at cz HI
      obtain ⟨pg, hpg⟩ : ∃ pg, pg = nth u pre.length := ⟨_, rfl⟩
      rw [← hpg] at HI
      have hpg32 : pg < 4294967296 := by
        rw [hpg]
        have hok := HC.out.ok.2.2
        rw [List.any_eq_false] at hok
        have := hok _ (nth_mem u _ hlu)
        have h2 := isPg_yes (x := nth u pre.length) (by simpa using this)
        omega
      have ca := HI.out.ba.cell
      have cp := HI.out.bp.cell
      have hs0 : 0 < s := by have := HNE.out; omega
      have z1 : (0 : Int) < (s : Int) := by omega
      have htl := told_chn HC.out hlu
      rw [← hpg] at htl
      have hrd := ev_read1 HI.out.pool HI.out.even pg hpg32 3 (encRow l u pre.length) 0 htl (by omega) hmost (by omega)
      have HRD := Lib.hid hrd
      have HS := Lib.hid hs
      have HPG := Lib.hid hpg
      have hml := encRow_length l u pre.length
      rw [← hs] at hml
      have HML := Lib.hid hml
      clear hs hpg hrd htl hml
      have HM0 := Lib.hid cz
      by_cases hlast : pre.length + 1 < K
      · have q1 : (1004 : Int) < (s : Int) := by have := HS.out; have := HNE.out; omega
        have q2 : ¬ (s : Int) < 1004 := by omega
        have q3 : (1004 : Int) ≤ (s : Int) := by omega
        have q4 : ¬ (s : Int) ≤ 1004 := by omega
        obtain ⟨M, hM⟩ : ∃ M, M = (encRow l u pre.length).length := ⟨_, rfl⟩
        obtain ⟨s1, hs1⟩ : ∃ s1, s1 = l.length - 1004 * (pre.length + 1) := ⟨_, rfl⟩
        have hMv : M = 1008 := by have := HML.out; omega
        have hs1v : s1 = s - 1004 := by have := HS.out; omega
        obtain ⟨nx, hnx⟩ : ∃ nx, nx = nth u (pre.length + 1) := ⟨_, rfl⟩
        have hrow : encRow l u pre.length = le4 nx ++ (l.drop (1004 * pre.length)).take 1004 := by unfold encRow; rw [if_pos (by rw [HUL.out]; exact hlast), ← hnx]
        have hpt : isPg nx = true := by
          have hok := HC.out.ok.2.2
          rw [List.any_eq_false] at hok
          have := hok _ (nth_mem u (pre.length + 1) (by rw [HUL.out]; exact hlast))
          rw [hnx]
          simpa using this
        have hpgx := isPg_yes hpt
        have hnif : (if pre.length + 1 < K then nth u (pre.length + 1) else 0) = nx := by rw [if_pos hlast, hnx]
        have hnx32 : nx < 4294967296 := by omega
        have hpl : ((l.drop (1004 * pre.length)).take 1004).length = M - 4 := by rw [List.length_take, List.length_drop]; have := HS.out; omega
        have HROW := Lib.hid hrow
        have HM := Lib.hid hM
        have HNIF := Lib.hid hnif
        have HS1 := Lib.hid hs1
        have HPL := Lib.hid hpl
        have hp := fun w => ispage_any nx hnx32 w
        rw [hpt] at hp
        have HP : Hid (∀ w, Calls Try.prog 92 #[.int .u32 (nx : Int)] w fun e w2 => e = .returned (.bool true) ∧ w2 = w) := Lib.hid (fun w => Calls.mono (hp w) (fun e w2 h => ⟨h.1, h.2.symm⟩))
        have n1 : ((M : Int) != 1008) = false := by rw [hMv]; rfl
        have hw1 : wrap64 ((s : Int) - 1004) = (s1 : Int) := by unfold wrap64; omega
        have r1 : (0 : Int) < (s1 : Int) := by omega
        have r2 : ((s1 : Int) == 0) = false := by simp; omega
        have r3 : decide ((0 : Int) < (s1 : Int)) = true := by simpa using r1
        have r1n : 0 < s1 := by omega
        have r5 : decide (0 < s1) = true := by simpa using r1n
        have r6 : ¬ s1 = 0 := by omega
        have b0 : (3 : Int) < (M : Int) := by omega
        have b1 : (0 : Int) < (M : Int) := by omega
        have b2 : (1 : Int) < (M : Int) := by omega
        have b3 : (2 : Int) < (M : Int) := by omega
        have b4 : (4 : Int) ≤ (M : Int) := by omega
        have b5 : 4 ≤ M := by omega
        have b6 : 4 < M := by omega
        have hMi : (M : Int) = 1008 := by omega
        have HS1V := Lib.hid hs1v
        clear hrow hM hnx hnif hs1 hpl hp hpt hMv hs1v
        gi_wp2_with fail
        refine ⟨trivial, ?_⟩
        refine (callsIn_wide.2 HRD.out).mono ?_
        rintro e w1 ⟨A, cap, D1, L1, rfl, hbf, hev, hpx, hst⟩
        have hbo : w1.ownsRow wr.heap.size 5 1 (.slice A M cap) M (ns .u8 (encRow l u pre.length)) := by
          have h := hbf
          unfold Buf at h
          rw [← HM.out] at h
          exact h
        rw [← HM.out] at hpx
        rw [← HM.out]
        obtain ⟨g, cp, hform, hwr, hlt1, hcapM, hcap2⟩ := own_form hbo (by omega)
        injection hform with ha _ hc2
        subst ha hc2
        have hI1 := HI.out.read hev hpx hst
        have cz1 := hI1.bz.cell
        have fz1 := hI1.bz.frozen
        have by0 : w1.cell? ⟨g, 0, none⟩ = some (.int .u8 ((nx : Int) % 256)) := by rw [hbo.cellAt 0 (by omega), HROW.out]; simp [ns, le4]
        have by1 : w1.cell? ⟨g, 1, none⟩ = some (.int .u8 ((nx : Int) / 256 % 256)) := by rw [hbo.cellAt 1 (by omega), HROW.out]; simp [ns, le4]
        have by2 : w1.cell? ⟨g, 2, none⟩ = some (.int .u8 ((nx : Int) / 65536 % 256)) := by rw [hbo.cellAt 2 (by omega), HROW.out]; simp [ns, le4]
        have by3 : w1.cell? ⟨g, 3, none⟩ = some (.int .u8 ((nx : Int) / 16777216 % 256)) := by rw [hbo.cellAt 3 (by omega), HROW.out]; simp [ns, le4]
        have hpart : At w1 (some ⟨g, 0 + 4, none⟩) (ns .u8 ((l.drop (1004 * pre.length)).take 1004)) := by
          obtain ⟨A', c', e', hA', _⟩ := At.own hbo
          cases e'
          have := hA'.part 4 1004
          rw [HROW.out, show (le4 nx ++ (l.drop (1004 * pre.length)).take 1004).drop 4 = (l.drop (1004 * pre.length)).take 1004 from rfl, List.take_take, Nat.min_self] at this
          exact this
        have HI1 := Lib.hid hI1
        have HB1 := Lib.hid (HB.out.chg hst.1 (fun hn => hn (.inr (.inl ⟨by omega, by omega⟩))) (fun hn => hn (.inr (.inl ⟨by omega, by omega⟩))))
        have HPA := Lib.hid hpart
        have hw1s := hst.1.size
        have hbig := HI.out.big
        clear hev hpx hst hbf hbo hI1 hpart
        gi_wp2
        have hfol : Try.prog.follows Departure.mixedOrders = true := by kernel_rfl
        refine wpIn_region_quiet_lit rfl (by assumption) (by kernel_rfl) ?_
        repeat (gi_big_quiet_step (fail))
        refine wpQuietIn_nil ?_
        intro wq hw'
        obtain ⟨nq, hw''⟩ := hw'
        subst hw''
        rw [le4_or nx hnx32]
        gi_wp2
        rw [hw1]
        obtain ⟨W2, hW2⟩ : ∃ W2, W2 = (w1.drewN nq).setCell ⟨w.heap.size + 7, 0, none⟩ (.int .i64 (s1 : Int)) := ⟨_, rfl⟩
        have hI2 := (HI1.out.up (below_drewN (Below.refl _ _) nq)).setz s1
        have hch2 : Chg (fun x => x = w.heap.size + 7) w1 W2 := by rw [hW2]; exact ((Chg.refl _ w1).drewN nq).setCell _ _ (.inl rfl)
        have hB2 := HB1.out.chg hch2 (by omega) (by omega)
        have hP2 := HPA.out.chg hch2 (fun a ha e => by cases ha; simp only at e; omega)
        rw [← hW2] at hI2
        rw [← hW2]
        have cz2 := hI2.bz.cell
        have HI2 := Lib.hid hI2
        have HB2 := Lib.hid hB2
        have HP2 := Lib.hid hP2
        clear hI2 hB2 hP2 hW2 hch2 cz1 fz1 by0 by1 by2 by3 cz ca cp
        have cz2d : W2.drew.cell? ⟨w.heap.size + 7, 0, none⟩ = some (.int .i64 (s1 : Int)) := cz2
        refine AnyI.begin 12 (fun w5 : World => w5.cell? ⟨w.heap.size + 7, 0, none⟩ = some (.int .i64 (s1 : Int))) (by kernel_rfl) ?_
        obtain ⟨W2d, hW2d⟩ : ∃ W2d, W2d = W2.drew := ⟨_, rfl⟩
        rw [← hW2d] at cz2d ⊢
        have HWD := Lib.hid hW2d
        clear hW2d
        refine AnyI.take (i := 0) (oi := { dst := some 65, op := Op.load 3 (Operand.tmp 1), type := 3, pos := "over.go:65", after := #[], guard := none }) (v := ?_) [0, 1, 4, 5, 12] rfl (by kernel_rfl) (by kernel_rfl) (by kernel_rfl) (by kernel_rfl) (by kernel_rfl) (fun _ _ _ h => absurd rfl (h.1 _)) ⟨Or.inl ⟨by rfl, ?_⟩, fun _ => rfl⟩ cz2d ?_
        rotate_left
        · (intro w5 hSw; have s1' := hSw; go_simp; try with_reducible rfl)
        simp only [Act.put, List.setIfInBounds_toArray, List.set_cons_zero, List.set_cons_succ]
        refine AnyI.take (i := 1) (oi := { dst := some 66, op := Op.binOp BinOp.gtr 3 (Operand.tmp 65) (Operand.const (Value.int IntKind.i64 0)) 3, type := 4, pos := "over.go:65", after := #[{ on := 0, ground := Ground.data }], guard := none }) (v := ?_) [1, 4, 5, 12] rfl (by kernel_rfl) (by kernel_rfl) (by kernel_rfl) (by kernel_rfl) (by kernel_rfl) (fun _ _ _ h => absurd rfl (h.1 _)) ⟨Or.inl ⟨by rfl, ?_⟩, fun _ => rfl⟩ cz2d ?_
        rotate_left
        · (intro w5 hSw; have s1' := hSw; go_simp; try with_reducible rfl)
        simp only [Act.put, List.setIfInBounds_toArray, List.set_cons_zero, List.set_cons_succ]
        refine AnyI.take (i := 2) (oi := { dst := some 67, op := Op.move (Operand.tmp 9), type := 22, pos := "over.go:65", after := #[], guard := none }) (v := ?_) [2, 3, 5, 12] rfl (by kernel_rfl) (by kernel_rfl) (by kernel_rfl) (by kernel_rfl) (by kernel_rfl) (fun _ _ _ h => absurd rfl (h.1 _)) ⟨Or.inl ⟨by rfl, ?_⟩, fun _ => rfl⟩ cz2d ?_
        rotate_left
        · (intro w5 hSw; have s1' := hSw; go_simp; try with_reducible rfl)
        simp only [Act.put, List.setIfInBounds_toArray, List.set_cons_zero, List.set_cons_succ]
        refine AnyI.one (i := 3) (o := { dst := some 68, op := Op.call { callee := Callee.value (Operand.func 92), args := #[Operand.tmp 67], argTypes := #[22] }, type := 4, pos := "over.go:65", after := #[{ on := 2, ground := Ground.data }], guard := none }) (by kernel_rfl) rfl (by rfl) (fun K hK => ?_)
        have H8 := Lib.hid hK
        clear hK
        go_simp
        refine ⟨trivial, (callsIn_wide.2 (HP.out _)).mono ?_⟩
        rintro e w9 ⟨rfl, rfl⟩
        replace hK := H8.out
        refine hK _ _ (fun _ => cz2d) ?_
        clear H8 hK K
        try simp only [Act.put, List.setIfInBounds_toArray, List.set_cons_zero, List.set_cons_succ]
        refine AnyI.one (i := 4) (o := { dst := some 69, op := Op.binOp BinOp.neq 4 (Operand.tmp 66) (Operand.tmp 68) 4, type := 4, pos := "over.go:65", after := #[{ on := 1, ground := Ground.data }, { on := 3, ground := Ground.data }], guard := none }) (by kernel_rfl) rfl (by rfl) (fun K hK => ?_)
        have H8 := Lib.hid hK
        clear hK
        go_simp
        replace hK := H8.out
        refine hK _ _ (fun _ => cz2d) ?_
        clear H8 hK K
        try simp only [Act.put, List.setIfInBounds_toArray, List.set_cons_zero, List.set_cons_succ]
        refine AnyI.one (i := 5) (o := { dst := some 70, op := Op.move (Operand.tmp 69), type := 4, pos := "over.go:65", after := #[{ on := 4, ground := Ground.data }, { on := 3, ground := Ground.chain }], guard := none }) (by kernel_rfl) rfl (by rfl) (fun K hK => ?_)
        have H8 := Lib.hid hK
        clear hK
        go_simp
        replace hK := H8.out
        refine hK _ _ (fun _ => cz2d) ?_
        clear H8 hK K
        try simp only [Act.put, List.setIfInBounds_toArray, List.set_cons_zero, List.set_cons_succ]
        refine AnyI.one (i := 6) (o := { dst := some 71, op := Op.load 3 (Operand.tmp 1), type := 3, pos := "over.go:65", after := #[{ on := 5, ground := Ground.guard }], guard := some (5, false) }) (by kernel_rfl) rfl (by rfl) (fun K hK => ?_)
        have H8 := Lib.hid hK
        clear hK
        go_simp
        replace hK := H8.out
        refine hK _ _ (fun _ => cz2d) ?_
        clear H8 hK K
        try simp only [Act.put, List.setIfInBounds_toArray, List.set_cons_zero, List.set_cons_succ]
        refine AnyI.one (i := 7) (o := { dst := some 72, op := Op.binOp BinOp.eql 3 (Operand.tmp 71) (Operand.const (Value.int IntKind.i64 0)) 3, type := 4, pos := "over.go:65", after := #[{ on := 6, ground := Ground.data }, { on := 5, ground := Ground.guard }], guard := some (5, false) }) (by kernel_rfl) rfl (by rfl) (fun K hK => ?_)
        have H8 := Lib.hid hK
        clear hK
        go_simp
        replace hK := H8.out
        refine hK _ _ (fun _ => cz2d) ?_
        clear H8 hK K
        try simp only [Act.put, List.setIfInBounds_toArray, List.set_cons_zero, List.set_cons_succ]
        refine AnyI.one (i := 8) (o := { dst := some 73, op := Op.move (Operand.tmp 72), type := 4, pos := "over.go:65", after := #[{ on := 7, ground := Ground.data }, { on := 5, ground := Ground.chain }, { on := 5, ground := Ground.guard }], guard := some (5, false) }) (by kernel_rfl) rfl (by rfl) (fun K hK => ?_)
        have H8 := Lib.hid hK
        clear hK
        go_simp
        replace hK := H8.out
        refine hK _ _ (fun _ => cz2d) ?_
        clear H8 hK K
        try simp only [Act.put, List.setIfInBounds_toArray, List.set_cons_zero, List.set_cons_succ]
        refine AnyI.pass (i := 9) (o := { dst := some 74, op := Op.move (Operand.tmp 9), type := 22, pos := "over.go:65", after := #[{ on := 8, ground := Ground.guard }], guard := some (8, true) }) (by kernel_rfl) rfl (by rfl) rfl (fun _ => cz2d) ?_
        try simp only [Act.put, List.setIfInBounds_toArray, List.set_cons_zero, List.set_cons_succ]
        refine AnyI.pass (i := 10) (o := { dst := some 75, op := Op.binOp BinOp.neq 22 (Operand.tmp 74) (Operand.const (Value.int IntKind.u32 0)) 22, type := 4, pos := "over.go:65", after := #[{ on := 9, ground := Ground.data }, { on := 8, ground := Ground.guard }], guard := some (8, true) }) (by kernel_rfl) rfl (by rfl) rfl (fun _ => cz2d) ?_
        try simp only [Act.put, List.setIfInBounds_toArray, List.set_cons_zero, List.set_cons_succ]
        refine AnyI.one (i := 11) (o := { dst := some 76, op := Op.pick (Operand.tmp 73) (Operand.tmp 75) (Operand.const (Value.bool false)), type := 4, pos := "over.go:65", after := #[{ on := 8, ground := Ground.data }, { on := 10, ground := Ground.data }, { on := 5, ground := Ground.guard }], guard := some (5, false) }) (by kernel_rfl) rfl (by rfl) (fun K hK => ?_)
        have H8 := Lib.hid hK
        clear hK
        go_simp
        replace hK := H8.out
        refine hK _ _ (fun _ => cz2d) ?_
        clear H8 hK K
        try simp only [Act.put, List.setIfInBounds_toArray, List.set_cons_zero, List.set_cons_succ]
        refine AnyI.one (i := 12) (o := { dst := some 77, op := Op.pick (Operand.tmp 70) (Operand.const (Value.bool true)) (Operand.tmp 76), type := 4, pos := "over.go:65", after := #[{ on := 5, ground := Ground.data }, { on := 11, ground := Ground.data }], guard := none }) (by kernel_rfl) rfl (by rfl) (fun K hK => ?_)
        have H8 := Lib.hid hK
        clear hK
        go_simp
        replace hK := H8.out
        refine hK _ _ (fun _ => cz2d) ?_
        clear H8 hK K
        try simp only [Act.put, List.setIfInBounds_toArray, List.set_cons_zero, List.set_cons_succ]
        refine AnyI.finish (by kernel_rfl) ?_
        have hW2d := HWD.out
        subst hW2d
        clear HWD
        gi_wp2
        have hbd : Below W2.heap.size W2 (W2.drew).drew := below_drew0 (below_drew0 (Below.refl _ _))
        have hI3 := HI2.out.up hbd
        have hB3 := HB2.out.chg (G := fun _ => False) (.of_below hbd) (fun h => h) (fun h => h)
        have hP3 := HP2.out.below hbd
        have ca3 := hI3.ba.cell
        obtain ⟨W3, hW3⟩ : ∃ W3, W3 = (W2.drew).drew := ⟨_, rfl⟩
        rw [← hW3] at hI3 hB3 hP3 ca3
        have HW3 := Lib.hid hW3
        clear hW3
        obtain ⟨fn, ytmps, yassign, ybody, hy, hR⟩ := HY.out pre (pg, .slice (some ⟨g, 0 + 4, none⟩) (M - 4) (cap - 4)) W3 hB3 ⟨hlu, by rw [HPG.out], ⟨g, 0 + 4, M - 4, cap - 4, rfl, by omega, HPL.out.symm, hP3⟩, by rw [← HS1.out, ← HPG.out]; exact ⟨_, _, _, _, hI3⟩⟩
        simp only [Nat.zero_add] at hy
        have HR := Lib.hid hR
        have k1 : 4 ≤ cap := by omega
        have k2 : ¬ cap = 4 := by omega
        have k3 : 4 < cap := by omega
        have k4 : ¬ cap ≤ 4 := by omega
        have k5 : ¬ 4 = cap := by omega
        have k6 : ¬ cap - 4 = 0 := by omega
        clear hI3 hB3 hP3 hR hbd
        refine AnyI.begin 5 (fun w5 : World => w5.cell? ⟨w.heap.size + 6, 0, none⟩ = some (.int .u32 (pg : Int))) (by kernel_rfl) ?_
        rw [← HW3.out]
        refine AnyI.take (i := 0) (oi := { dst := some 81, op := Op.move (Operand.tmp 0), type := 269, pos := "over.go:69", after := #[], guard := none }) (v := ?_) [0, 5] rfl (by kernel_rfl) (by kernel_rfl) (by kernel_rfl) (by kernel_rfl) (by kernel_rfl) (fun _ _ _ h => absurd rfl (h.1 _)) ⟨Or.inl ⟨by rfl, ?_⟩, fun _ => rfl⟩ ca3 ?_
        rotate_left
        · (intro w5 hSw; have s1 := hSw; go_simp; try with_reducible rfl)
        simp only [Act.put, List.setIfInBounds_toArray, List.set_cons_zero, List.set_cons_succ]
        refine AnyI.take (i := 1) (oi := { dst := some 82, op := Op.load 22 (Operand.tmp 3), type := 22, pos := "over.go:69", after := #[], guard := none }) (v := ?_) [1, 4, 5] rfl (by kernel_rfl) (by kernel_rfl) (by kernel_rfl) (by kernel_rfl) (by kernel_rfl) (fun _ _ _ h => absurd rfl (h.1 _)) ⟨Or.inl ⟨by rfl, ?_⟩, fun _ => rfl⟩ ca3 ?_
        rotate_left
        · (intro w5 hSw; have s1 := hSw; go_simp; try with_reducible rfl)
        simp only [Act.put, List.setIfInBounds_toArray, List.set_cons_zero, List.set_cons_succ]
        refine AnyI.take (i := 2) (oi := { dst := some 83, op := Op.move (Operand.tmp 6), type := 23, pos := "over.go:69", after := #[], guard := none }) (v := ?_) [2, 3, 4, 5] rfl (by kernel_rfl) (by kernel_rfl) (by kernel_rfl) (by kernel_rfl) (by kernel_rfl) (fun _ _ _ h => absurd rfl (h.1 _)) ⟨Or.inl ⟨by rfl, ?_⟩, fun _ => rfl⟩ ca3 ?_
        rotate_left
        · (intro w5 hSw; have s1 := hSw; go_simp; try with_reducible rfl)
        simp only [Act.put, List.setIfInBounds_toArray, List.set_cons_zero, List.set_cons_succ]
        refine AnyI.take (i := 3) (oi := { dst := some 84, op := Op.slice 23 (Operand.tmp 83) (some (Operand.const (Value.int IntKind.i64 4))) none none, type := 23, pos := "over.go:69", after := #[{ on := 2, ground := Ground.data }], guard := none }) (v := ?_) [3, 4, 5] rfl (by kernel_rfl) (by kernel_rfl) (by kernel_rfl) (by kernel_rfl) (by kernel_rfl) (fun _ _ _ h => absurd rfl (h.1 _)) ⟨Or.inl ⟨by rfl, ?_⟩, fun _ => rfl⟩ ca3 ?_
        rotate_left
        · (intro w5 hSw; have s1 := hSw; go_simp; try with_reducible rfl)
        simp only [Act.put, List.setIfInBounds_toArray, List.set_cons_zero, List.set_cons_succ]
        refine AnyI.one (i := 4) (o := { dst := some 85, op := Op.build 213 #[(0, Operand.tmp 82), (1, Operand.tmp 84), (2, Operand.const (Value.int IntKind.u16 0))], type := 213, pos := "over.go:69", after := #[{ on := 1, ground := Ground.data }, { on := 3, ground := Ground.data }], guard := none }) (by kernel_rfl) rfl (by rfl) (fun K hK => ?_)
        have H8 := Lib.hid hK
        clear hK
        go_simp
        replace hK := H8.out
        refine hK _ _ (fun _ => ca3) ?_
        clear H8 hK K
        try simp only [Act.put, List.setIfInBounds_toArray, List.set_cons_zero, List.set_cons_succ]
        refine AnyI.one (i := 5) (o := { dst := some 86, op := Op.call { callee := Callee.value (Operand.tmp 81), args := #[Operand.tmp 85], argTypes := #[213] }, type := 4, pos := "over.go:69", after := #[{ on := 0, ground := Ground.data }, { on := 4, ground := Ground.data }], guard := none }) (by kernel_rfl) rfl (by rfl) (fun K hK => ?_)
        have H8 := Lib.hid hK
        clear hK
        go_simp
        refine HR.out.mono ?_
        rintro e W4 ⟨rfl, ⟨at4, D4, L4, v41, v42, hI4⟩, hB4⟩
        have ca4 := hI4.ba.cell
        have fa4 := hI4.ba.frozen
        have cz4 := hI4.bz.cell
        have HI4 := Lib.hid hI4
        have HB4 := Lib.hid hB4
        clear hI4 hB4
        replace hK := H8.out
        refine hK _ _ (fun h => by simp at h) ?_
        clear H8 hK K
        try simp only [Act.put, List.setIfInBounds_toArray, List.set_cons_zero, List.set_cons_succ]
        refine AnyI.one (i := 6) (o := { dst := some 87, op := Op.unOp UnOp.not 4 (Operand.tmp 86), type := 4, pos := "over.go:69", after := #[{ on := 5, ground := Ground.data }], guard := none }) (by kernel_rfl) rfl (by rfl) (fun K hK => ?_)
        have H8 := Lib.hid hK
        clear hK
        go_simp
        replace hK := H8.out
        refine hK _ _ (fun h => by simp at h) ?_
        clear H8 hK K
        try simp only [Act.put, List.setIfInBounds_toArray, List.set_cons_zero, List.set_cons_succ]
        refine AnyI.finish (by kernel_rfl) ?_
        gi_wp2
        have hI5 := HI4.out.seta nx
        have hch5 := setCell_chg W4 (w.heap.size + 6) 0 (.int .u32 (nx : Int))
        have hB5 := HB4.out.chg hch5 (by omega) (by omega)
        have cz5 := hI5.bz.cell
        simp only [List.length_append, List.length_singleton] at hI5 cz5
        rw [← HS1.out] at hI5 cz5
        have HI5 := Lib.hid hI5
        have HB5 := Lib.hid hB5
        clear hI5 hB5
        go_roundw
        case rel => exact ⟨pre ++ [(pg, .slice (some ⟨g, 0 + 4, none⟩) (M - 4) (cap - 4))], by simp; omega, by simp only [List.length_append, List.length_singleton]; rw [← HS1.out, HNIF.out]; exact ⟨_, _, _, _, HI5.out⟩, HB5.out⟩
        case measure => rw [HM0.out, cz5]; simp only [Option.getD_some, intOf]; have := HS1V.out; omega
      by_cases hs4 : s < 1004
      · have q1 : (s : Int) < 1004 := by omega
        have q2 : ¬ (1004 : Int) < (s : Int) := by omega
        have q3 : ¬ (1004 : Int) ≤ (s : Int) := by omega
        have q4 : (s : Int) ≤ 1004 := by omega
        obtain ⟨M, hM⟩ : ∃ M, M = (encRow l u pre.length).length := ⟨_, rfl⟩
        obtain ⟨s1, hs1⟩ : ∃ s1, s1 = l.length - 1004 * (pre.length + 1) := ⟨_, rfl⟩
        have hMv : M = 4 + s := by have := HML.out; omega
        have hs1v : s1 = 0 := by have := HNE.out; omega
        obtain ⟨nx, hnx⟩ : ∃ nx : Nat, nx = 0 := ⟨_, rfl⟩
        have hrow : encRow l u pre.length = le4 nx ++ (l.drop (1004 * pre.length)).take 1004 := by unfold encRow; rw [if_neg (by rw [HUL.out]; exact hlast), ← hnx]
        have hpt : isPg nx = false := by rw [hnx]; rfl
        have hnif : (if pre.length + 1 < K then nth u (pre.length + 1) else 0) = nx := by rw [if_neg hlast, hnx]
        have hnx32 : nx < 4294967296 := by omega
        have hpl : ((l.drop (1004 * pre.length)).take 1004).length = M - 4 := by rw [List.length_take, List.length_drop]; have := HS.out; omega
        have HROW := Lib.hid hrow
        have HM := Lib.hid hM
        have HNIF := Lib.hid hnif
        have HS1 := Lib.hid hs1
        have HPL := Lib.hid hpl
        have hp := fun w => ispage_any nx hnx32 w
        rw [hpt] at hp
        have HP : Hid (∀ w, Calls Try.prog 92 #[.int .u32 (nx : Int)] w fun e w2 => e = .returned (.bool false) ∧ w2 = w) := Lib.hid (fun w => Calls.mono (hp w) (fun e w2 h => ⟨h.1, h.2.symm⟩))
        have w4 : IntKind.i64.wrap (4 + (s : Int)) = 4 + (s : Int) := by rw [IntKind.wrap_i64]; omega
        have n1 : ((M : Int) != 4 + (s : Int)) = false := by simp; omega
        have r4 : ((nx : Int) != 0) = false := by rw [hnx]; rfl
        have hw1 : wrap64 ((s : Int) - (s : Int)) = (s1 : Int) := by unfold wrap64; omega
        have b0 : (3 : Int) < (M : Int) := by omega
        have b1 : (0 : Int) < (M : Int) := by omega
        have b2 : (1 : Int) < (M : Int) := by omega
        have b3 : (2 : Int) < (M : Int) := by omega
        have b4 : (4 : Int) ≤ (M : Int) := by omega
        have b5 : 4 ≤ M := by omega
        have b6 : 4 < M := by omega
        have HS1V := Lib.hid hs1v
        clear hrow hM hnx hnif hs1 hpl hp hpt hMv hs1v
        gi_wp2_with fail
        refine ⟨trivial, ?_⟩
        refine (callsIn_wide.2 HRD.out).mono ?_
        rintro e w1 ⟨A, cap, D1, L1, rfl, hbf, hev, hpx, hst⟩
        have hbo : w1.ownsRow wr.heap.size 5 1 (.slice A M cap) M (ns .u8 (encRow l u pre.length)) := by
          have h := hbf
          unfold Buf at h
          rw [← HM.out] at h
          exact h
        rw [← HM.out] at hpx
        rw [← HM.out]
        obtain ⟨g, cp, hform, hwr, hlt1, hcapM, hcap2⟩ := own_form hbo (by omega)
        injection hform with ha _ hc2
        subst ha hc2
        have hI1 := HI.out.read hev hpx hst
        have cz1 := hI1.bz.cell
        have fz1 := hI1.bz.frozen
        have by0 : w1.cell? ⟨g, 0, none⟩ = some (.int .u8 ((nx : Int) % 256)) := by rw [hbo.cellAt 0 (by omega), HROW.out]; simp [ns, le4]
        have by1 : w1.cell? ⟨g, 1, none⟩ = some (.int .u8 ((nx : Int) / 256 % 256)) := by rw [hbo.cellAt 1 (by omega), HROW.out]; simp [ns, le4]
        have by2 : w1.cell? ⟨g, 2, none⟩ = some (.int .u8 ((nx : Int) / 65536 % 256)) := by rw [hbo.cellAt 2 (by omega), HROW.out]; simp [ns, le4]
        have by3 : w1.cell? ⟨g, 3, none⟩ = some (.int .u8 ((nx : Int) / 16777216 % 256)) := by rw [hbo.cellAt 3 (by omega), HROW.out]; simp [ns, le4]
        have hpart : At w1 (some ⟨g, 0 + 4, none⟩) (ns .u8 ((l.drop (1004 * pre.length)).take 1004)) := by
          obtain ⟨A', c', e', hA', _⟩ := At.own hbo
          cases e'
          have := hA'.part 4 1004
          rw [HROW.out, show (le4 nx ++ (l.drop (1004 * pre.length)).take 1004).drop 4 = (l.drop (1004 * pre.length)).take 1004 from rfl, List.take_take, Nat.min_self] at this
          exact this
        have HI1 := Lib.hid hI1
        have HB1 := Lib.hid (HB.out.chg hst.1 (fun hn => hn (.inr (.inl ⟨by omega, by omega⟩))) (fun hn => hn (.inr (.inl ⟨by omega, by omega⟩))))
        have HPA := Lib.hid hpart
        have hw1s := hst.1.size
        have hbig := HI.out.big
        clear hev hpx hst hbf hbo hI1 hpart
        gi_wp2
        have hfol : Try.prog.follows Departure.mixedOrders = true := by kernel_rfl
        refine wpIn_region_quiet_lit rfl (by assumption) (by kernel_rfl) ?_
        repeat (gi_big_quiet_step (fail))
        refine wpQuietIn_nil ?_
        intro wq hw'
        obtain ⟨nq, hw''⟩ := hw'
        subst hw''
        rw [le4_or nx hnx32]
        gi_wp2
        obtain ⟨W2, hW2⟩ : ∃ W2, W2 = (w1.drewN nq).setCell ⟨w.heap.size + 7, 0, none⟩ (.int .i64 (s1 : Int)) := ⟨_, rfl⟩
        have hI2 := (HI1.out.up (below_drewN (Below.refl _ _) nq)).setz s1
        have hch2 : Chg (fun x => x = w.heap.size + 7) w1 W2 := by rw [hW2]; exact ((Chg.refl _ w1).drewN nq).setCell _ _ (.inl rfl)
        have hB2 := HB1.out.chg hch2 (by omega) (by omega)
        have hP2 := HPA.out.chg hch2 (fun a ha e => by cases ha; simp only at e; omega)
        rw [← hW2] at hI2
        rw [show (w1.drewN nq).setCell ⟨w.heap.size + 7, 0, none⟩ (.int .i64 0) = W2 from by rw [hW2, HS1V.out]; rfl]
        have cz2 := hI2.bz.cell
        rw [HS1V.out] at cz2
        have HI2 := Lib.hid hI2
        have HB2 := Lib.hid hB2
        have HP2 := Lib.hid hP2
        clear hI2 hB2 hP2 hW2 hch2 cz1 fz1 by0 by1 by2 by3 cz ca cp
        have cz2d : W2.drew.cell? ⟨w.heap.size + 7, 0, none⟩ = some (.int .i64 0) := cz2
        refine AnyI.begin 12 (fun w5 : World => w5.cell? ⟨w.heap.size + 7, 0, none⟩ = some (.int .i64 0)) (by kernel_rfl) ?_
        obtain ⟨W2d, hW2d⟩ : ∃ W2d, W2d = W2.drew := ⟨_, rfl⟩
        rw [← hW2d] at cz2d ⊢
        have HWD := Lib.hid hW2d
        clear hW2d
        refine AnyI.take (i := 0) (oi := { dst := some 65, op := Op.load 3 (Operand.tmp 1), type := 3, pos := "over.go:65", after := #[], guard := none }) (v := ?_) [0, 1, 4, 5, 12] rfl (by kernel_rfl) (by kernel_rfl) (by kernel_rfl) (by kernel_rfl) (by kernel_rfl) (fun _ _ _ h => absurd rfl (h.1 _)) ⟨Or.inl ⟨by rfl, ?_⟩, fun _ => rfl⟩ cz2d ?_
        rotate_left
        · (intro w5 hSw; have s1' := hSw; go_simp; try with_reducible rfl)
        simp only [Act.put, List.setIfInBounds_toArray, List.set_cons_zero, List.set_cons_succ]
        refine AnyI.take (i := 1) (oi := { dst := some 66, op := Op.binOp BinOp.gtr 3 (Operand.tmp 65) (Operand.const (Value.int IntKind.i64 0)) 3, type := 4, pos := "over.go:65", after := #[{ on := 0, ground := Ground.data }], guard := none }) (v := ?_) [1, 4, 5, 12] rfl (by kernel_rfl) (by kernel_rfl) (by kernel_rfl) (by kernel_rfl) (by kernel_rfl) (fun _ _ _ h => absurd rfl (h.1 _)) ⟨Or.inl ⟨by rfl, ?_⟩, fun _ => rfl⟩ cz2d ?_
        rotate_left
        · (intro w5 hSw; have s1' := hSw; go_simp; try with_reducible rfl)
        simp only [Act.put, List.setIfInBounds_toArray, List.set_cons_zero, List.set_cons_succ]
        refine AnyI.take (i := 2) (oi := { dst := some 67, op := Op.move (Operand.tmp 9), type := 22, pos := "over.go:65", after := #[], guard := none }) (v := ?_) [2, 3, 5, 12] rfl (by kernel_rfl) (by kernel_rfl) (by kernel_rfl) (by kernel_rfl) (by kernel_rfl) (fun _ _ _ h => absurd rfl (h.1 _)) ⟨Or.inl ⟨by rfl, ?_⟩, fun _ => rfl⟩ cz2d ?_
        rotate_left
        · (intro w5 hSw; have s1' := hSw; go_simp; try with_reducible rfl)
        simp only [Act.put, List.setIfInBounds_toArray, List.set_cons_zero, List.set_cons_succ]
        refine AnyI.one (i := 3) (o := { dst := some 68, op := Op.call { callee := Callee.value (Operand.func 92), args := #[Operand.tmp 67], argTypes := #[22] }, type := 4, pos := "over.go:65", after := #[{ on := 2, ground := Ground.data }], guard := none }) (by kernel_rfl) rfl (by rfl) (fun K hK => ?_)
        have H8 := Lib.hid hK
        clear hK
        go_simp
        refine ⟨trivial, (callsIn_wide.2 (HP.out _)).mono ?_⟩
        rintro e w9 ⟨rfl, rfl⟩
        replace hK := H8.out
        refine hK _ _ (fun _ => cz2d) ?_
        clear H8 hK K
        try simp only [Act.put, List.setIfInBounds_toArray, List.set_cons_zero, List.set_cons_succ]
        refine AnyI.one (i := 4) (o := { dst := some 69, op := Op.binOp BinOp.neq 4 (Operand.tmp 66) (Operand.tmp 68) 4, type := 4, pos := "over.go:65", after := #[{ on := 1, ground := Ground.data }, { on := 3, ground := Ground.data }], guard := none }) (by kernel_rfl) rfl (by rfl) (fun K hK => ?_)
        have H8 := Lib.hid hK
        clear hK
        go_simp
        replace hK := H8.out
        refine hK _ _ (fun _ => cz2d) ?_
        clear H8 hK K
        try simp only [Act.put, List.setIfInBounds_toArray, List.set_cons_zero, List.set_cons_succ]
        refine AnyI.one (i := 5) (o := { dst := some 70, op := Op.move (Operand.tmp 69), type := 4, pos := "over.go:65", after := #[{ on := 4, ground := Ground.data }, { on := 3, ground := Ground.chain }], guard := none }) (by kernel_rfl) rfl (by rfl) (fun K hK => ?_)
        have H8 := Lib.hid hK
        clear hK
        go_simp
        replace hK := H8.out
        refine hK _ _ (fun _ => cz2d) ?_
        clear H8 hK K
        try simp only [Act.put, List.setIfInBounds_toArray, List.set_cons_zero, List.set_cons_succ]
        refine AnyI.one (i := 6) (o := { dst := some 71, op := Op.load 3 (Operand.tmp 1), type := 3, pos := "over.go:65", after := #[{ on := 5, ground := Ground.guard }], guard := some (5, false) }) (by kernel_rfl) rfl (by rfl) (fun K hK => ?_)
        have H8 := Lib.hid hK
        clear hK
        go_simp
        replace hK := H8.out
        refine hK _ _ (fun _ => cz2d) ?_
        clear H8 hK K
        try simp only [Act.put, List.setIfInBounds_toArray, List.set_cons_zero, List.set_cons_succ]
        refine AnyI.one (i := 7) (o := { dst := some 72, op := Op.binOp BinOp.eql 3 (Operand.tmp 71) (Operand.const (Value.int IntKind.i64 0)) 3, type := 4, pos := "over.go:65", after := #[{ on := 6, ground := Ground.data }, { on := 5, ground := Ground.guard }], guard := some (5, false) }) (by kernel_rfl) rfl (by rfl) (fun K hK => ?_)
        have H8 := Lib.hid hK
        clear hK
        go_simp
        replace hK := H8.out
        refine hK _ _ (fun _ => cz2d) ?_
        clear H8 hK K
        try simp only [Act.put, List.setIfInBounds_toArray, List.set_cons_zero, List.set_cons_succ]
        refine AnyI.one (i := 8) (o := { dst := some 73, op := Op.move (Operand.tmp 72), type := 4, pos := "over.go:65", after := #[{ on := 7, ground := Ground.data }, { on := 5, ground := Ground.chain }, { on := 5, ground := Ground.guard }], guard := some (5, false) }) (by kernel_rfl) rfl (by rfl) (fun K hK => ?_)
        have H8 := Lib.hid hK
        clear hK
        go_simp
        replace hK := H8.out
        refine hK _ _ (fun _ => cz2d) ?_
        clear H8 hK K
        try simp only [Act.put, List.setIfInBounds_toArray, List.set_cons_zero, List.set_cons_succ]
        refine AnyI.one (i := 9) (o := { dst := some 74, op := Op.move (Operand.tmp 9), type := 22, pos := "over.go:65", after := #[{ on := 8, ground := Ground.guard }], guard := some (8, true) }) (by kernel_rfl) rfl (by rfl) (fun K hK => ?_)
        have H8 := Lib.hid hK
        clear hK
        go_simp
        replace hK := H8.out
        refine hK _ _ (fun _ => cz2d) ?_
        clear H8 hK K
        try simp only [Act.put, List.setIfInBounds_toArray, List.set_cons_zero, List.set_cons_succ]
        refine AnyI.one (i := 10) (o := { dst := some 75, op := Op.binOp BinOp.neq 22 (Operand.tmp 74) (Operand.const (Value.int IntKind.u32 0)) 22, type := 4, pos := "over.go:65", after := #[{ on := 9, ground := Ground.data }, { on := 8, ground := Ground.guard }], guard := some (8, true) }) (by kernel_rfl) rfl (by rfl) (fun K hK => ?_)
        have H8 := Lib.hid hK
        clear hK
        go_simp
        replace hK := H8.out
        refine hK _ _ (fun _ => cz2d) ?_
        clear H8 hK K
        try simp only [Act.put, List.setIfInBounds_toArray, List.set_cons_zero, List.set_cons_succ]
        refine AnyI.one (i := 11) (o := { dst := some 76, op := Op.pick (Operand.tmp 73) (Operand.tmp 75) (Operand.const (Value.bool false)), type := 4, pos := "over.go:65", after := #[{ on := 8, ground := Ground.data }, { on := 10, ground := Ground.data }, { on := 5, ground := Ground.guard }], guard := some (5, false) }) (by kernel_rfl) rfl (by rfl) (fun K hK => ?_)
        have H8 := Lib.hid hK
        clear hK
        go_simp
        replace hK := H8.out
        refine hK _ _ (fun _ => cz2d) ?_
        clear H8 hK K
        try simp only [Act.put, List.setIfInBounds_toArray, List.set_cons_zero, List.set_cons_succ]
        refine AnyI.one (i := 12) (o := { dst := some 77, op := Op.pick (Operand.tmp 70) (Operand.const (Value.bool true)) (Operand.tmp 76), type := 4, pos := "over.go:65", after := #[{ on := 5, ground := Ground.data }, { on := 11, ground := Ground.data }], guard := none }) (by kernel_rfl) rfl (by rfl) (fun K hK => ?_)
        have H8 := Lib.hid hK
        clear hK
        go_simp
        replace hK := H8.out
        refine hK _ _ (fun _ => cz2d) ?_
        clear H8 hK K
        try simp only [Act.put, List.setIfInBounds_toArray, List.set_cons_zero, List.set_cons_succ]
        refine AnyI.finish (by kernel_rfl) ?_
        have hW2d := HWD.out
        subst hW2d
        clear HWD
        gi_wp2
        have hbd : Below W2.heap.size W2 (W2.drew).drew := below_drew0 (below_drew0 (Below.refl _ _))
        have hI3 := HI2.out.up hbd
        have hB3 := HB2.out.chg (G := fun _ => False) (.of_below hbd) (fun h => h) (fun h => h)
        have hP3 := HP2.out.below hbd
        have ca3 := hI3.ba.cell
        obtain ⟨W3, hW3⟩ : ∃ W3, W3 = (W2.drew).drew := ⟨_, rfl⟩
        rw [← hW3] at hI3 hB3 hP3 ca3
        have HW3 := Lib.hid hW3
        clear hW3
        obtain ⟨fn, ytmps, yassign, ybody, hy, hR⟩ := HY.out pre (pg, .slice (some ⟨g, 0 + 4, none⟩) (M - 4) (cap - 4)) W3 hB3 ⟨hlu, by rw [HPG.out], ⟨g, 0 + 4, M - 4, cap - 4, rfl, by omega, HPL.out.symm, hP3⟩, by rw [← HS1.out, ← HPG.out]; exact ⟨_, _, _, _, hI3⟩⟩
        simp only [Nat.zero_add] at hy
        have HR := Lib.hid hR
        have k1 : 4 ≤ cap := by omega
        have k2 : ¬ cap = 4 := by omega
        have k3 : 4 < cap := by omega
        have k4 : ¬ cap ≤ 4 := by omega
        have k5 : ¬ 4 = cap := by omega
        have k6 : ¬ cap - 4 = 0 := by omega
        clear hI3 hB3 hP3 hR hbd
        refine AnyI.begin 5 (fun w5 : World => w5.cell? ⟨w.heap.size + 6, 0, none⟩ = some (.int .u32 (pg : Int))) (by kernel_rfl) ?_
        rw [← HW3.out]
        refine AnyI.take (i := 0) (oi := { dst := some 81, op := Op.move (Operand.tmp 0), type := 269, pos := "over.go:69", after := #[], guard := none }) (v := ?_) [0, 5] rfl (by kernel_rfl) (by kernel_rfl) (by kernel_rfl) (by kernel_rfl) (by kernel_rfl) (fun _ _ _ h => absurd rfl (h.1 _)) ⟨Or.inl ⟨by rfl, ?_⟩, fun _ => rfl⟩ ca3 ?_
        rotate_left
        · (intro w5 hSw; have s1 := hSw; go_simp; try with_reducible rfl)
        simp only [Act.put, List.setIfInBounds_toArray, List.set_cons_zero, List.set_cons_succ]
        refine AnyI.take (i := 1) (oi := { dst := some 82, op := Op.load 22 (Operand.tmp 3), type := 22, pos := "over.go:69", after := #[], guard := none }) (v := ?_) [1, 4, 5] rfl (by kernel_rfl) (by kernel_rfl) (by kernel_rfl) (by kernel_rfl) (by kernel_rfl) (fun _ _ _ h => absurd rfl (h.1 _)) ⟨Or.inl ⟨by rfl, ?_⟩, fun _ => rfl⟩ ca3 ?_
        rotate_left
        · (intro w5 hSw; have s1 := hSw; go_simp; try with_reducible rfl)
        simp only [Act.put, List.setIfInBounds_toArray, List.set_cons_zero, List.set_cons_succ]
        refine AnyI.take (i := 2) (oi := { dst := some 83, op := Op.move (Operand.tmp 6), type := 23, pos := "over.go:69", after := #[], guard := none }) (v := ?_) [2, 3, 4, 5] rfl (by kernel_rfl) (by kernel_rfl) (by kernel_rfl) (by kernel_rfl) (by kernel_rfl) (fun _ _ _ h => absurd rfl (h.1 _)) ⟨Or.inl ⟨by rfl, ?_⟩, fun _ => rfl⟩ ca3 ?_
        rotate_left
        · (intro w5 hSw; have s1 := hSw; go_simp; try with_reducible rfl)
        simp only [Act.put, List.setIfInBounds_toArray, List.set_cons_zero, List.set_cons_succ]
        refine AnyI.take (i := 3) (oi := { dst := some 84, op := Op.slice 23 (Operand.tmp 83) (some (Operand.const (Value.int IntKind.i64 4))) none none, type := 23, pos := "over.go:69", after := #[{ on := 2, ground := Ground.data }], guard := none }) (v := ?_) [3, 4, 5] rfl (by kernel_rfl) (by kernel_rfl) (by kernel_rfl) (by kernel_rfl) (by kernel_rfl) (fun _ _ _ h => absurd rfl (h.1 _)) ⟨Or.inl ⟨by rfl, ?_⟩, fun _ => rfl⟩ ca3 ?_
        rotate_left
        · (intro w5 hSw; have s1 := hSw; go_simp; try with_reducible rfl)
        simp only [Act.put, List.setIfInBounds_toArray, List.set_cons_zero, List.set_cons_succ]
        refine AnyI.one (i := 4) (o := { dst := some 85, op := Op.build 213 #[(0, Operand.tmp 82), (1, Operand.tmp 84), (2, Operand.const (Value.int IntKind.u16 0))], type := 213, pos := "over.go:69", after := #[{ on := 1, ground := Ground.data }, { on := 3, ground := Ground.data }], guard := none }) (by kernel_rfl) rfl (by rfl) (fun K hK => ?_)
        have H8 := Lib.hid hK
        clear hK
        go_simp
        replace hK := H8.out
        refine hK _ _ (fun _ => ca3) ?_
        clear H8 hK K
        try simp only [Act.put, List.setIfInBounds_toArray, List.set_cons_zero, List.set_cons_succ]
        refine AnyI.one (i := 5) (o := { dst := some 86, op := Op.call { callee := Callee.value (Operand.tmp 81), args := #[Operand.tmp 85], argTypes := #[213] }, type := 4, pos := "over.go:69", after := #[{ on := 0, ground := Ground.data }, { on := 4, ground := Ground.data }], guard := none }) (by kernel_rfl) rfl (by rfl) (fun K hK => ?_)
        have H8 := Lib.hid hK
        clear hK
        go_simp
        refine HR.out.mono ?_
        rintro e W4 ⟨rfl, ⟨at4, D4, L4, v41, v42, hI4⟩, hB4⟩
        have ca4 := hI4.ba.cell
        have fa4 := hI4.ba.frozen
        have cz4 := hI4.bz.cell
        have HI4 := Lib.hid hI4
        have HB4 := Lib.hid hB4
        clear hI4 hB4
        replace hK := H8.out
        refine hK _ _ (fun h => by simp at h) ?_
        clear H8 hK K
        try simp only [Act.put, List.setIfInBounds_toArray, List.set_cons_zero, List.set_cons_succ]
        refine AnyI.one (i := 6) (o := { dst := some 87, op := Op.unOp UnOp.not 4 (Operand.tmp 86), type := 4, pos := "over.go:69", after := #[{ on := 5, ground := Ground.data }], guard := none }) (by kernel_rfl) rfl (by rfl) (fun K hK => ?_)
        have H8 := Lib.hid hK
        clear hK
        go_simp
        replace hK := H8.out
        refine hK _ _ (fun h => by simp at h) ?_
        clear H8 hK K
        try simp only [Act.put, List.setIfInBounds_toArray, List.set_cons_zero, List.set_cons_succ]
        refine AnyI.finish (by kernel_rfl) ?_
        gi_wp2
        have hI5 := HI4.out.seta nx
        have hch5 := setCell_chg W4 (w.heap.size + 6) 0 (.int .u32 (nx : Int))
        have hB5 := HB4.out.chg hch5 (by omega) (by omega)
        have cz5 := hI5.bz.cell
        simp only [List.length_append, List.length_singleton] at hI5 cz5
        rw [← HS1.out] at hI5 cz5
        have HI5 := Lib.hid hI5
        have HB5 := Lib.hid hB5
        clear hI5 hB5
        go_roundw
        case rel => exact ⟨pre ++ [(pg, .slice (some ⟨g, 0 + 4, none⟩) (M - 4) (cap - 4))], by simp; omega, by simp only [List.length_append, List.length_singleton]; rw [← HS1.out, HNIF.out]; exact ⟨_, _, _, _, HI5.out⟩, HB5.out⟩
        case measure => rw [HM0.out, cz5]; simp only [Option.getD_some, intOf]; have := HS1V.out; omega
      · have q0 : s = 1004 := by have := HS.out; have := HNE.out; omega
        have q1 : ¬ (s : Int) < 1004 := by omega
        have q2 : ¬ (1004 : Int) < (s : Int) := by omega
        have q3 : (1004 : Int) ≤ (s : Int) := by omega
        have q4 : (s : Int) ≤ 1004 := by omega
        obtain ⟨M, hM⟩ : ∃ M, M = (encRow l u pre.length).length := ⟨_, rfl⟩
        obtain ⟨s1, hs1⟩ : ∃ s1, s1 = l.length - 1004 * (pre.length + 1) := ⟨_, rfl⟩
        have hMv : M = 4 + s := by have := HML.out; omega
        have hs1v : s1 = 0 := by have := HNE.out; omega
        obtain ⟨nx, hnx⟩ : ∃ nx : Nat, nx = 0 := ⟨_, rfl⟩
        have hrow : encRow l u pre.length = le4 nx ++ (l.drop (1004 * pre.length)).take 1004 := by unfold encRow; rw [if_neg (by rw [HUL.out]; exact hlast), ← hnx]
        have hpt : isPg nx = false := by rw [hnx]; rfl
        have hnif : (if pre.length + 1 < K then nth u (pre.length + 1) else 0) = nx := by rw [if_neg hlast, hnx]
        have hnx32 : nx < 4294967296 := by omega
        have hpl : ((l.drop (1004 * pre.length)).take 1004).length = M - 4 := by rw [List.length_take, List.length_drop]; have := HS.out; omega
        have HROW := Lib.hid hrow
        have HM := Lib.hid hM
        have HNIF := Lib.hid hnif
        have HS1 := Lib.hid hs1
        have HPL := Lib.hid hpl
        have hp := fun w => ispage_any nx hnx32 w
        rw [hpt] at hp
        have HP : Hid (∀ w, Calls Try.prog 92 #[.int .u32 (nx : Int)] w fun e w2 => e = .returned (.bool false) ∧ w2 = w) := Lib.hid (fun w => Calls.mono (hp w) (fun e w2 h => ⟨h.1, h.2.symm⟩))
        have n1 : ((M : Int) != 1008) = false := by rw [hMv, q0]; rfl
        have hMi : (M : Int) = 1008 := by omega
        have hw1' : (s : Int) - 1004 = (s1 : Int) := by omega
        have r4 : ((nx : Int) != 0) = false := by rw [hnx]; rfl
        have r1 : ¬ (0 : Int) < (s1 : Int) := by omega
        have r2 : ((s1 : Int) == 0) = true := by simp; omega
        have r1n : ¬ 0 < s1 := by omega
        have r5 : decide (0 < s1) = false := by simpa using r1n
        have r3 : decide ((0 : Int) < (s1 : Int)) = false := by simpa using r1
        have b0 : (3 : Int) < (M : Int) := by omega
        have b1 : (0 : Int) < (M : Int) := by omega
        have b2 : (1 : Int) < (M : Int) := by omega
        have b3 : (2 : Int) < (M : Int) := by omega
        have b4 : (4 : Int) ≤ (M : Int) := by omega
        have b5 : 4 ≤ M := by omega
        have b6 : 4 < M := by omega
        have HS1V := Lib.hid hs1v
        clear hrow hM hnx hnif hs1 hpl hp hpt hMv hs1v q0
        gi_wp2_with fail
        refine ⟨trivial, ?_⟩
        refine (callsIn_wide.2 HRD.out).mono ?_
        rintro e w1 ⟨A, cap, D1, L1, rfl, hbf, hev, hpx, hst⟩
        have hbo : w1.ownsRow wr.heap.size 5 1 (.slice A M cap) M (ns .u8 (encRow l u pre.length)) := by
          have h := hbf
          unfold Buf at h
          rw [← HM.out] at h
          exact h
        rw [← HM.out] at hpx
        rw [← HM.out]
        obtain ⟨g, cp, hform, hwr, hlt1, hcapM, hcap2⟩ := own_form hbo (by omega)
        injection hform with ha _ hc2
        subst ha hc2
        have hI1 := HI.out.read hev hpx hst
        have cz1 := hI1.bz.cell
        have fz1 := hI1.bz.frozen
        have by0 : w1.cell? ⟨g, 0, none⟩ = some (.int .u8 ((nx : Int) % 256)) := by rw [hbo.cellAt 0 (by omega), HROW.out]; simp [ns, le4]
        have by1 : w1.cell? ⟨g, 1, none⟩ = some (.int .u8 ((nx : Int) / 256 % 256)) := by rw [hbo.cellAt 1 (by omega), HROW.out]; simp [ns, le4]
        have by2 : w1.cell? ⟨g, 2, none⟩ = some (.int .u8 ((nx : Int) / 65536 % 256)) := by rw [hbo.cellAt 2 (by omega), HROW.out]; simp [ns, le4]
        have by3 : w1.cell? ⟨g, 3, none⟩ = some (.int .u8 ((nx : Int) / 16777216 % 256)) := by rw [hbo.cellAt 3 (by omega), HROW.out]; simp [ns, le4]
        have hpart : At w1 (some ⟨g, 0 + 4, none⟩) (ns .u8 ((l.drop (1004 * pre.length)).take 1004)) := by
          obtain ⟨A', c', e', hA', _⟩ := At.own hbo
          cases e'
          have := hA'.part 4 1004
          rw [HROW.out, show (le4 nx ++ (l.drop (1004 * pre.length)).take 1004).drop 4 = (l.drop (1004 * pre.length)).take 1004 from rfl, List.take_take, Nat.min_self] at this
          exact this
        have HI1 := Lib.hid hI1
        have HB1 := Lib.hid (HB.out.chg hst.1 (fun hn => hn (.inr (.inl ⟨by omega, by omega⟩))) (fun hn => hn (.inr (.inl ⟨by omega, by omega⟩))))
        have HPA := Lib.hid hpart
        have hw1s := hst.1.size
        have hbig := HI.out.big
        clear hev hpx hst hbf hbo hI1 hpart
        gi_wp2
        have hfol : Try.prog.follows Departure.mixedOrders = true := by kernel_rfl
        refine wpIn_region_quiet_lit rfl (by assumption) (by kernel_rfl) ?_
        repeat (gi_big_quiet_step (fail))
        refine wpQuietIn_nil ?_
        intro wq hw'
        obtain ⟨nq, hw''⟩ := hw'
        subst hw''
        rw [le4_or nx hnx32]
        gi_wp2
        obtain ⟨W2, hW2⟩ : ∃ W2, W2 = (w1.drewN nq).setCell ⟨w.heap.size + 7, 0, none⟩ (.int .i64 (s1 : Int)) := ⟨_, rfl⟩
        have hI2 := (HI1.out.up (below_drewN (Below.refl _ _) nq)).setz s1
        have hch2 : Chg (fun x => x = w.heap.size + 7) w1 W2 := by rw [hW2]; exact ((Chg.refl _ w1).drewN nq).setCell _ _ (.inl rfl)
        have hB2 := HB1.out.chg hch2 (by omega) (by omega)
        have hP2 := HPA.out.chg hch2 (fun a ha e => by cases ha; simp only at e; omega)
        rw [← hW2] at hI2
        rw [← hW2]
        have cz2 := hI2.bz.cell
        have HI2 := Lib.hid hI2
        have HB2 := Lib.hid hB2
        have HP2 := Lib.hid hP2
        clear hI2 hB2 hP2 hW2 hch2 cz1 fz1 by0 by1 by2 by3 cz ca cp
        have cz2d : W2.drew.cell? ⟨w.heap.size + 7, 0, none⟩ = some (.int .i64 (s1 : Int)) := cz2
        refine AnyI.begin 12 (fun w5 : World => w5.cell? ⟨w.heap.size + 7, 0, none⟩ = some (.int .i64 (s1 : Int))) (by kernel_rfl) ?_
        obtain ⟨W2d, hW2d⟩ : ∃ W2d, W2d = W2.drew := ⟨_, rfl⟩
        rw [← hW2d] at cz2d ⊢
        have HWD := Lib.hid hW2d
        clear hW2d
        refine AnyI.take (i := 0) (oi := { dst := some 65, op := Op.load 3 (Operand.tmp 1), type := 3, pos := "over.go:65", after := #[], guard := none }) (v := ?_) [0, 1, 4, 5, 12] rfl (by kernel_rfl) (by kernel_rfl) (by kernel_rfl) (by kernel_rfl) (by kernel_rfl) (fun _ _ _ h => absurd rfl (h.1 _)) ⟨Or.inl ⟨by rfl, ?_⟩, fun _ => rfl⟩ cz2d ?_
        rotate_left
        · (intro w5 hSw; have s1' := hSw; go_simp; try with_reducible rfl)
        simp only [Act.put, List.setIfInBounds_toArray, List.set_cons_zero, List.set_cons_succ]
        refine AnyI.take (i := 1) (oi := { dst := some 66, op := Op.binOp BinOp.gtr 3 (Operand.tmp 65) (Operand.const (Value.int IntKind.i64 0)) 3, type := 4, pos := "over.go:65", after := #[{ on := 0, ground := Ground.data }], guard := none }) (v := ?_) [1, 4, 5, 12] rfl (by kernel_rfl) (by kernel_rfl) (by kernel_rfl) (by kernel_rfl) (by kernel_rfl) (fun _ _ _ h => absurd rfl (h.1 _)) ⟨Or.inl ⟨by rfl, ?_⟩, fun _ => rfl⟩ cz2d ?_
        rotate_left
        · (intro w5 hSw; have s1' := hSw; go_simp; try with_reducible rfl)
        simp only [Act.put, List.setIfInBounds_toArray, List.set_cons_zero, List.set_cons_succ]
        refine AnyI.take (i := 2) (oi := { dst := some 67, op := Op.move (Operand.tmp 9), type := 22, pos := "over.go:65", after := #[], guard := none }) (v := ?_) [2, 3, 5, 12] rfl (by kernel_rfl) (by kernel_rfl) (by kernel_rfl) (by kernel_rfl) (by kernel_rfl) (fun _ _ _ h => absurd rfl (h.1 _)) ⟨Or.inl ⟨by rfl, ?_⟩, fun _ => rfl⟩ cz2d ?_
        rotate_left
        · (intro w5 hSw; have s1' := hSw; go_simp; try with_reducible rfl)
        simp only [Act.put, List.setIfInBounds_toArray, List.set_cons_zero, List.set_cons_succ]
        refine AnyI.one (i := 3) (o := { dst := some 68, op := Op.call { callee := Callee.value (Operand.func 92), args := #[Operand.tmp 67], argTypes := #[22] }, type := 4, pos := "over.go:65", after := #[{ on := 2, ground := Ground.data }], guard := none }) (by kernel_rfl) rfl (by rfl) (fun K hK => ?_)
        have H8 := Lib.hid hK
        clear hK
        go_simp
        refine ⟨trivial, (callsIn_wide.2 (HP.out _)).mono ?_⟩
        rintro e w9 ⟨rfl, rfl⟩
        replace hK := H8.out
        refine hK _ _ (fun _ => cz2d) ?_
        clear H8 hK K
        try simp only [Act.put, List.setIfInBounds_toArray, List.set_cons_zero, List.set_cons_succ]
        refine AnyI.one (i := 4) (o := { dst := some 69, op := Op.binOp BinOp.neq 4 (Operand.tmp 66) (Operand.tmp 68) 4, type := 4, pos := "over.go:65", after := #[{ on := 1, ground := Ground.data }, { on := 3, ground := Ground.data }], guard := none }) (by kernel_rfl) rfl (by rfl) (fun K hK => ?_)
        have H8 := Lib.hid hK
        clear hK
        go_simp
        replace hK := H8.out
        refine hK _ _ (fun _ => cz2d) ?_
        clear H8 hK K
        try simp only [Act.put, List.setIfInBounds_toArray, List.set_cons_zero, List.set_cons_succ]
        refine AnyI.one (i := 5) (o := { dst := some 70, op := Op.move (Operand.tmp 69), type := 4, pos := "over.go:65", after := #[{ on := 4, ground := Ground.data }, { on := 3, ground := Ground.chain }], guard := none }) (by kernel_rfl) rfl (by rfl) (fun K hK => ?_)
        have H8 := Lib.hid hK
        clear hK
        go_simp
        replace hK := H8.out
        refine hK _ _ (fun _ => cz2d) ?_
        clear H8 hK K
        try simp only [Act.put, List.setIfInBounds_toArray, List.set_cons_zero, List.set_cons_succ]
        refine AnyI.one (i := 6) (o := { dst := some 71, op := Op.load 3 (Operand.tmp 1), type := 3, pos := "over.go:65", after := #[{ on := 5, ground := Ground.guard }], guard := some (5, false) }) (by kernel_rfl) rfl (by rfl) (fun K hK => ?_)
        have H8 := Lib.hid hK
        clear hK
        go_simp
        replace hK := H8.out
        refine hK _ _ (fun _ => cz2d) ?_
        clear H8 hK K
        try simp only [Act.put, List.setIfInBounds_toArray, List.set_cons_zero, List.set_cons_succ]
        refine AnyI.one (i := 7) (o := { dst := some 72, op := Op.binOp BinOp.eql 3 (Operand.tmp 71) (Operand.const (Value.int IntKind.i64 0)) 3, type := 4, pos := "over.go:65", after := #[{ on := 6, ground := Ground.data }, { on := 5, ground := Ground.guard }], guard := some (5, false) }) (by kernel_rfl) rfl (by rfl) (fun K hK => ?_)
        have H8 := Lib.hid hK
        clear hK
        go_simp
        replace hK := H8.out
        refine hK _ _ (fun _ => cz2d) ?_
        clear H8 hK K
        try simp only [Act.put, List.setIfInBounds_toArray, List.set_cons_zero, List.set_cons_succ]
        refine AnyI.one (i := 8) (o := { dst := some 73, op := Op.move (Operand.tmp 72), type := 4, pos := "over.go:65", after := #[{ on := 7, ground := Ground.data }, { on := 5, ground := Ground.chain }, { on := 5, ground := Ground.guard }], guard := some (5, false) }) (by kernel_rfl) rfl (by rfl) (fun K hK => ?_)
        have H8 := Lib.hid hK
        clear hK
        go_simp
        replace hK := H8.out
        refine hK _ _ (fun _ => cz2d) ?_
        clear H8 hK K
        try simp only [Act.put, List.setIfInBounds_toArray, List.set_cons_zero, List.set_cons_succ]
        refine AnyI.one (i := 9) (o := { dst := some 74, op := Op.move (Operand.tmp 9), type := 22, pos := "over.go:65", after := #[{ on := 8, ground := Ground.guard }], guard := some (8, true) }) (by kernel_rfl) rfl (by rfl) (fun K hK => ?_)
        have H8 := Lib.hid hK
        clear hK
        go_simp
        replace hK := H8.out
        refine hK _ _ (fun _ => cz2d) ?_
        clear H8 hK K
        try simp only [Act.put, List.setIfInBounds_toArray, List.set_cons_zero, List.set_cons_succ]
        refine AnyI.one (i := 10) (o := { dst := some 75, op := Op.binOp BinOp.neq 22 (Operand.tmp 74) (Operand.const (Value.int IntKind.u32 0)) 22, type := 4, pos := "over.go:65", after := #[{ on := 9, ground := Ground.data }, { on := 8, ground := Ground.guard }], guard := some (8, true) }) (by kernel_rfl) rfl (by rfl) (fun K hK => ?_)
        have H8 := Lib.hid hK
        clear hK
        go_simp
        replace hK := H8.out
        refine hK _ _ (fun _ => cz2d) ?_
        clear H8 hK K
        try simp only [Act.put, List.setIfInBounds_toArray, List.set_cons_zero, List.set_cons_succ]
        refine AnyI.one (i := 11) (o := { dst := some 76, op := Op.pick (Operand.tmp 73) (Operand.tmp 75) (Operand.const (Value.bool false)), type := 4, pos := "over.go:65", after := #[{ on := 8, ground := Ground.data }, { on := 10, ground := Ground.data }, { on := 5, ground := Ground.guard }], guard := some (5, false) }) (by kernel_rfl) rfl (by rfl) (fun K hK => ?_)
        have H8 := Lib.hid hK
        clear hK
        go_simp
        replace hK := H8.out
        refine hK _ _ (fun _ => cz2d) ?_
        clear H8 hK K
        try simp only [Act.put, List.setIfInBounds_toArray, List.set_cons_zero, List.set_cons_succ]
        refine AnyI.one (i := 12) (o := { dst := some 77, op := Op.pick (Operand.tmp 70) (Operand.const (Value.bool true)) (Operand.tmp 76), type := 4, pos := "over.go:65", after := #[{ on := 5, ground := Ground.data }, { on := 11, ground := Ground.data }], guard := none }) (by kernel_rfl) rfl (by rfl) (fun K hK => ?_)
        have H8 := Lib.hid hK
        clear hK
        go_simp
        replace hK := H8.out
        refine hK _ _ (fun _ => cz2d) ?_
        clear H8 hK K
        try simp only [Act.put, List.setIfInBounds_toArray, List.set_cons_zero, List.set_cons_succ]
        refine AnyI.finish (by kernel_rfl) ?_
        have hW2d := HWD.out
        subst hW2d
        clear HWD
        gi_wp2
        have hbd : Below W2.heap.size W2 (W2.drew).drew := below_drew0 (below_drew0 (Below.refl _ _))
        have hI3 := HI2.out.up hbd
        have hB3 := HB2.out.chg (G := fun _ => False) (.of_below hbd) (fun h => h) (fun h => h)
        have hP3 := HP2.out.below hbd
        have ca3 := hI3.ba.cell
        obtain ⟨W3, hW3⟩ : ∃ W3, W3 = (W2.drew).drew := ⟨_, rfl⟩
        rw [← hW3] at hI3 hB3 hP3 ca3
        have HW3 := Lib.hid hW3
        clear hW3
        obtain ⟨fn, ytmps, yassign, ybody, hy, hR⟩ := HY.out pre (pg, .slice (some ⟨g, 0 + 4, none⟩) (M - 4) (cap - 4)) W3 hB3 ⟨hlu, by rw [HPG.out], ⟨g, 0 + 4, M - 4, cap - 4, rfl, by omega, HPL.out.symm, hP3⟩, by rw [← HS1.out, ← HPG.out]; exact ⟨_, _, _, _, hI3⟩⟩
        simp only [Nat.zero_add] at hy
        have HR := Lib.hid hR
        have k1 : 4 ≤ cap := by omega
        have k2 : ¬ cap = 4 := by omega
        have k3 : 4 < cap := by omega
        have k4 : ¬ cap ≤ 4 := by omega
        have k5 : ¬ 4 = cap := by omega
        have k6 : ¬ cap - 4 = 0 := by omega
        clear hI3 hB3 hP3 hR hbd
        refine AnyI.begin 5 (fun w5 : World => w5.cell? ⟨w.heap.size + 6, 0, none⟩ = some (.int .u32 (pg : Int))) (by kernel_rfl) ?_
        rw [← HW3.out]
        refine AnyI.take (i := 0) (oi := { dst := some 81, op := Op.move (Operand.tmp 0), type := 269, pos := "over.go:69", after := #[], guard := none }) (v := ?_) [0, 5] rfl (by kernel_rfl) (by kernel_rfl) (by kernel_rfl) (by kernel_rfl) (by kernel_rfl) (fun _ _ _ h => absurd rfl (h.1 _)) ⟨Or.inl ⟨by rfl, ?_⟩, fun _ => rfl⟩ ca3 ?_
        rotate_left
        · (intro w5 hSw; have s1 := hSw; go_simp; try with_reducible rfl)
        simp only [Act.put, List.setIfInBounds_toArray, List.set_cons_zero, List.set_cons_succ]
        refine AnyI.take (i := 1) (oi := { dst := some 82, op := Op.load 22 (Operand.tmp 3), type := 22, pos := "over.go:69", after := #[], guard := none }) (v := ?_) [1, 4, 5] rfl (by kernel_rfl) (by kernel_rfl) (by kernel_rfl) (by kernel_rfl) (by kernel_rfl) (fun _ _ _ h => absurd rfl (h.1 _)) ⟨Or.inl ⟨by rfl, ?_⟩, fun _ => rfl⟩ ca3 ?_
        rotate_left
        · (intro w5 hSw; have s1 := hSw; go_simp; try with_reducible rfl)
        simp only [Act.put, List.setIfInBounds_toArray, List.set_cons_zero, List.set_cons_succ]
        refine AnyI.take (i := 2) (oi := { dst := some 83, op := Op.move (Operand.tmp 6), type := 23, pos := "over.go:69", after := #[], guard := none }) (v := ?_) [2, 3, 4, 5] rfl (by kernel_rfl) (by kernel_rfl) (by kernel_rfl) (by kernel_rfl) (by kernel_rfl) (fun _ _ _ h => absurd rfl (h.1 _)) ⟨Or.inl ⟨by rfl, ?_⟩, fun _ => rfl⟩ ca3 ?_
        rotate_left
        · (intro w5 hSw; have s1 := hSw; go_simp; try with_reducible rfl)
        simp only [Act.put, List.setIfInBounds_toArray, List.set_cons_zero, List.set_cons_succ]
        refine AnyI.take (i := 3) (oi := { dst := some 84, op := Op.slice 23 (Operand.tmp 83) (some (Operand.const (Value.int IntKind.i64 4))) none none, type := 23, pos := "over.go:69", after := #[{ on := 2, ground := Ground.data }], guard := none }) (v := ?_) [3, 4, 5] rfl (by kernel_rfl) (by kernel_rfl) (by kernel_rfl) (by kernel_rfl) (by kernel_rfl) (fun _ _ _ h => absurd rfl (h.1 _)) ⟨Or.inl ⟨by rfl, ?_⟩, fun _ => rfl⟩ ca3 ?_
        rotate_left
        · (intro w5 hSw; have s1 := hSw; go_simp; try with_reducible rfl)
        simp only [Act.put, List.setIfInBounds_toArray, List.set_cons_zero, List.set_cons_succ]
        refine AnyI.one (i := 4) (o := { dst := some 85, op := Op.build 213 #[(0, Operand.tmp 82), (1, Operand.tmp 84), (2, Operand.const (Value.int IntKind.u16 0))], type := 213, pos := "over.go:69", after := #[{ on := 1, ground := Ground.data }, { on := 3, ground := Ground.data }], guard := none }) (by kernel_rfl) rfl (by rfl) (fun K hK => ?_)
        have H8 := Lib.hid hK
        clear hK
        go_simp
        replace hK := H8.out
        refine hK _ _ (fun _ => ca3) ?_
        clear H8 hK K
        try simp only [Act.put, List.setIfInBounds_toArray, List.set_cons_zero, List.set_cons_succ]
        refine AnyI.one (i := 5) (o := { dst := some 86, op := Op.call { callee := Callee.value (Operand.tmp 81), args := #[Operand.tmp 85], argTypes := #[213] }, type := 4, pos := "over.go:69", after := #[{ on := 0, ground := Ground.data }, { on := 4, ground := Ground.data }], guard := none }) (by kernel_rfl) rfl (by rfl) (fun K hK => ?_)
        have H8 := Lib.hid hK
        clear hK
        go_simp
        refine HR.out.mono ?_
        rintro e W4 ⟨rfl, ⟨at4, D4, L4, v41, v42, hI4⟩, hB4⟩
        have ca4 := hI4.ba.cell
        have fa4 := hI4.ba.frozen
        have cz4 := hI4.bz.cell
        have HI4 := Lib.hid hI4
        have HB4 := Lib.hid hB4
        clear hI4 hB4
        replace hK := H8.out
        refine hK _ _ (fun h => by simp at h) ?_
        clear H8 hK K
        try simp only [Act.put, List.setIfInBounds_toArray, List.set_cons_zero, List.set_cons_succ]
        refine AnyI.one (i := 6) (o := { dst := some 87, op := Op.unOp UnOp.not 4 (Operand.tmp 86), type := 4, pos := "over.go:69", after := #[{ on := 5, ground := Ground.data }], guard := none }) (by kernel_rfl) rfl (by rfl) (fun K hK => ?_)
        have H8 := Lib.hid hK
        clear hK
        go_simp
        replace hK := H8.out
        refine hK _ _ (fun h => by simp at h) ?_
        clear H8 hK K
        try simp only [Act.put, List.setIfInBounds_toArray, List.set_cons_zero, List.set_cons_succ]
        refine AnyI.finish (by kernel_rfl) ?_
        gi_wp2
        have hI5 := HI4.out.seta nx
        have hch5 := setCell_chg W4 (w.heap.size + 6) 0 (.int .u32 (nx : Int))
        have hB5 := HB4.out.chg hch5 (by omega) (by omega)
        have cz5 := hI5.bz.cell
        simp only [List.length_append, List.length_singleton] at hI5 cz5
        rw [← HS1.out] at hI5 cz5
        have HI5 := Lib.hid hI5
        have HB5 := Lib.hid hB5
        clear hI5 hB5
        go_roundw
        case rel => exact ⟨pre ++ [(pg, .slice (some ⟨g, 0 + 4, none⟩) (M - 4) (cap - 4))], by simp; omega, by simp only [List.length_append, List.length_singleton]; rw [← HS1.out, HNIF.out]; exact ⟨_, _, _, _, HI5.out⟩, HB5.out⟩
        case measure => rw [HM0.out, cz5]; simp only [Option.getD_some, intOf]; have := HS1V.out; omega
    · have he : pre.length = K := by omega
      have hz : l.length - 1004 * pre.length = 0 := by have := HNE.out; omega
      rw [hz] at cz
      gi_wp2
      go_end0
      exact ⟨⟨_, rfl⟩, HB.out, pre, by rw [HUL.out, he], _, D, L, v1, v2, HI.out⟩
end Go.Proofs.Ytfbjjblgcgjndaa

/- over.Read: what the range over chain's links keeps; what a round of its body leaves. -/
namespace Go.Proofs.Ytfbjjblgcgjndaa
open Go.RowKit Go.Shelf

section
variable {n0 : Nat} {w : World} {P d most N j0 c0 : Nat} {C : Nat → Option (Nat × List Nat)} {X0 : Nat → Prop} {l u : List Nat}
theorem ChB.obj {pre : List (Nat × Value)} {W : World} (o : Obj) (h : ChB n0 w P d most N j0 c0 C X0 l u pre W) : ChB n0 w P d most N j0 c0 C X0 l u pre (W.putObj (w.heap.size + 8 + 1) o) := by
  obtain ⟨a, D, L, v1, v2, h⟩ := h
  exact ⟨a, D, L, v1, v2, h.obj o⟩
/-- behind the assignment: the link lies in a box -/
def ChM (n0 : Nat) (w : World) (P d most N j0 c0 : Nat) (C : Nat → Option (Nat × List Nat)) (X0 : Nat → Prop) (l u : List Nat) (act : Nat → Nat × Value → Act) (pre : List (Nat × Value)) (x : Nat × Value) (a' : Act) (W : World) : Prop :=
  ∃ Bx, a' = act Bx x ∧ W.heap[Bx]? = some (.cells #[.int .u32 (x.1 : Int), x.2, .int .u16 0] 213 (0, 0)) ∧ w.heap.size + 10 ≤ Bx ∧ pre.length < u.length ∧ x.1 = nth u pre.length ∧
    ∃ g o m c D L v1 v2, x.2 = .slice (some ⟨g, o, none⟩) m c ∧ 0 < m ∧ m = ((l.drop (1004 * pre.length)).take 1004).length ∧ At W (some ⟨g, o, none⟩) (ns .u8 ((l.drop (1004 * pre.length)).take 1004)) ∧ g ≠ w.heap.size + 8 + 1 ∧
      RIn n0 w P d most N j0 c0 C X0 l u (pre.length + 1) pre.length (l.length - 1004 * (pre.length + 1)) (nth u pre.length) W D L v1 v2 ∧ ¬ blk v1 Bx ∧ ¬ blk v2 Bx
theorem ChM.obj {act : Nat → Nat × Value → Act} {pre : List (Nat × Value)} {x : Nat × Value} {a' : Act} {W : World} (o : Obj) (h : ChM n0 w P d most N j0 c0 C X0 l u act pre x a' W) : ChM n0 w P d most N j0 c0 C X0 l u act pre x a' (W.putObj (w.heap.size + 8 + 1) o) := by
  obtain ⟨Bx, h1, h2, h3, h4, h5, g, o', m, c, D, L, v1, v2, e1, e2, e3, e4, e5, e6, e7, e8⟩ := h
  exact ⟨Bx, h1, ((putObj_chg W _ o).block _ (Array.getElem?_eq_some_iff.1 h2).1 (by omega)).trans h2, h3, h4, h5, g, o', m, c, D, L, v1, v2, e1, e2, e3, e4.chg (putObj_chg W _ o) (fun a ha e => by cases ha; exact e5 e), e5, e6.obj o, e7, e8⟩
/-- the assignment boxes the link -/
theorem ChA.box {act : Nat → Nat × Value → Act} {pre : List (Nat × Value)} {x : Nat × Value} {W : World} {o1 o2 : Obj} (h : ChA n0 w P d most N j0 c0 C X0 l u pre x W) (ht : Blk2 (w.heap.size + 8) o1 o2 W) (ho : o2.isCells = false) :
    ChM n0 w P d most N j0 c0 C X0 l u act pre x (act W.heap.size x) (W.alloc (.cells #[.int .u32 (x.1 : Int), x.2, .int .u16 0] 213)) := by
  obtain ⟨h4, h5, ⟨g, o', m, c, e1, e2, e3, e4⟩, D, L, v1, v2, e6⟩ := h
  have hb : Below W.heap.size W (W.alloc (.cells #[.int .u32 (x.1 : Int), x.2, .int .u16 0] 213)) := below_alloc0 (Below.refl _ _) _
  refine ⟨W.heap.size, rfl, heap_alloc_new W _, e6.big, h4, h5, g, o', m, c, D, L, v1, v2, e1, e2, e3, e4.below hb, ?_, e6.up hb, fun hx => ?_, fun hx => ?_⟩
  · intro hg
    obtain ⟨b, o3, eb, hr⟩ := e4 (by intro hn; have : (ns .u8 ((l.drop (1004 * pre.length)).take 1004)).length = 0 := by rw [hn]; rfl
                                     rw [ns_length] at this; omega)
    cases eb
    have hc := hr 0 _ (ns_get .u8 _ 0 (by omega))
    unfold World.cell? at hc
    rw [hg, ht.2] at hc
    cases o2 <;> simp [Obj.isCells] at ho hc
  · have := (row_lt e6.buf hx).2; omega
  · have := (row_lt e6.row hx).2; omega
/-- what a round's two appends and two stores leave -/
theorem read_fin {kr kb sz at_ num : Nat} {W Wp W3 : World} {D : Dsk} {L : List Hand} {v1 v2 w1 w2 : Value} (h : RIn n0 w P d most N j0 c0 C X0 l u kr kb sz at_ W D L v1 v2) (hcp : Chg (blk v1) W Wp) (hbuf : Buf (w.heap.size + 10) Wp w1 (l.take (1004 * (kb + 1)))) (hn1 : ∀ g, blk w1 g → blk v1 g ∨ W.heap.size ≤ g)
    (hkb : kb < u.length) (hnum : num = nth u kb) (hrow : W3.ownsRow (w.heap.size + 10) 22 1 w2 (kb + 1) (ns .u32 (u.take kb) ++ [.int .u32 (num : Int)])) (hc3 : Chg (blk v2) Wp W3) (hor : ∀ g, blk w2 g → blk v2 g ∨ Wp.heap.size ≤ g) :
    RIn n0 w P d most N j0 c0 C X0 l u kr (kb + 1) sz at_ ((W3.setCell ⟨w.heap.size + 3, 0, none⟩ w1).setCell ⟨w.heap.size + 4, 0, none⟩ w2) D L w1 w2 ∧ Chg (fun g => g = w.heap.size + 3 ∨ g = w.heap.size + 4 ∨ blk v1 g ∨ blk v2 g) W ((W3.setCell ⟨w.heap.size + 3, 0, none⟩ w1).setCell ⟨w.heap.size + 4, 0, none⟩ w2) := by
  have lo1 : ∀ g, blk v1 g → w.heap.size + 10 ≤ g ∧ g < W.heap.size := fun g hg => row_lt h.buf hg
  have lo2 : ∀ g, blk v2 g → w.heap.size + 10 ≤ g ∧ g < W.heap.size := fun g hg => row_lt h.row hg
  have c13 : Chg (fun g => blk v1 g ∨ blk v2 g) W W3 := (hcp.mono fun g _ hg => .inl hg).trans hc3 (fun g _ hg => .inr hg)
  have c15 : Chg (fun g => g = w.heap.size + 3 ∨ g = w.heap.size + 4 ∨ blk v1 g ∨ blk v2 g) W ((W3.setCell ⟨w.heap.size + 3, 0, none⟩ w1).setCell ⟨w.heap.size + 4, 0, none⟩ w2) :=
    ((c13.mono fun g _ hg => .inr (.inr hg)).setCell _ _ (.inl (.inl rfl))).setCell _ _ (.inl (.inr (.inl rfl)))
  have hs1 : ∀ g, blk w1 g → ¬ blk v2 g := fun g hg hg2 => by
    rcases hn1 g hg with e | e
    · exact h.sep g e hg2
    · have := (lo2 g hg2).2; omega
  have b1 : ∀ g, blk w1 g → w.heap.size + 10 ≤ g ∧ g < Wp.heap.size := fun g hg => row_lt hbuf hg
  have b2 : ∀ g, blk w2 g → w.heap.size + 10 ≤ g := fun g hg => (row_lt hrow hg).1
  have h9 : Boxed W3 (w.heap.size + 3) 23 v1 := bx_chg h.b9 c13 (fun e => e.elim (fun e => by have := (lo1 _ e).1; omega) (fun e => by have := (lo2 _ e).1; omega))
  have h10 : Boxed W3 (w.heap.size + 4) 34 v2 := bx_chg h.b10 c13 (fun e => e.elim (fun e => by have := (lo1 _ e).1; omega) (fun e => by have := (lo2 _ e).1; omega))
  have s1 := setCell_chg W3 (w.heap.size + 3) 0 w1
  have s2 := setCell_chg (W3.setCell ⟨w.heap.size + 3, 0, none⟩ w1) (w.heap.size + 4) 0 w2
  have htk : u.take (kb + 1) = u.take kb ++ [num] := by rw [take_nth u kb hkb, ← hnum]
  have hrow' : W3.ownsRow (w.heap.size + 10) 22 1 w2 (kb + 1) (ns .u32 (u.take (kb + 1))) := by rw [htk, ns_append]; exact hrow
  refine ⟨h.body c15 (bx_chg (h9.set w1) s2 (fun e => by omega)) ((bx_chg h10 s1 (fun e => by omega)).set w2) ?_ ?_ hn1 (fun g hg => ?_) (fun g hg hg2 => ?_), c15⟩
  · exact own_chg (own_chg (own_chg hbuf hc3 hs1) s1 (fun g hg e => by have := (b1 g hg).1; omega)) s2 (fun g hg e => by have := (b1 g hg).1; omega)
  · exact own_chg (own_chg hrow' s1 (fun g hg e => by have := b2 g hg; omega)) s2 (fun g hg e => by have := b2 g hg; omega)
  · rcases hor g hg with e | e
    · exact .inl e
    · exact .inr (Nat.le_trans hcp.size e)
  · rcases hor g hg2 with e | e
    · exact hs1 g hg e
    · have := (b1 g hg).2; omega
/-- append's word in another form -/
theorem app_blk {w w' : World} {v v' : Value} (h : v'.ownBlock = v.ownBlock ∨ v'.ownBlock = some w.heap.size) : ∀ g, blk v' g → blk v g ∨ w.heap.size ≤ g := fun g hg => by
  rcases h with e | e
  · exact .inl (by unfold blk at hg ⊢; rw [← e]; exact hg)
  · unfold blk at hg; rw [e] at hg; cases hg; exact .inr (Nat.le_refl _)
theorem app_chg {w w' : World} {v : Value} (h : w.grownBy w' v.ownBlock) : Chg (blk v) w w' := .of_grown h (fun g e => e)
end
end Go.Proofs.Ytfbjjblgcgjndaa
