/- Contracts of the reference's get and Open. -/
import Derived.Test.YtfbjjblgcgjndaaPage5
import Derived.IntWalk
set_option linter.unusedVariables false
set_option linter.unusedSimpArgs false
namespace Go.Proofs.Ytfbjjblgcgjndaa
open Go.RowKit

/-- the last ones of k from at on -/
def seg (l : List Nat) (at_ k : Nat) : List Nat := (l.drop at_).take k
theorem seg_cons (l : List Nat) (a k : Nat) (h : a < l.length) : seg l a (k + 1) = nth l a :: seg l (a + 1) k := by
  unfold seg
  have : l.drop a = nth l a :: l.drop (a + 1) := by rw [List.drop_eq_getElem_cons h, nth_get l a h]
  rw [this, List.take_succ_cons]
theorem el_seg (l : List Nat) (a k : Nat) (h : a < l.length) : el (seg l a (k + 1)) = nth l a + 256 * el (seg l (a + 1) k) := by rw [seg_cons l a k h, el]
theorem el_seg_lt (l : List Nat) (a k : Nat) (hb : Bytes l) : el (seg l a k) < 256 ^ k := by
  have h1 := el_lt (seg l a k) ((hb.drop a).take k)
  have h2 : (seg l a k).length ≤ k := by simp [seg]; omega
  exact Nat.lt_of_lt_of_le h1 (Nat.pow_le_pow_right (by decide) h2)

set_option maxRecDepth 100000 in
set_option maxHeartbeats 1000000 in
theorem get_any (A : Option Addr) (c n : Nat) (l : List Nat) (a k : Nat) (w : World) (hn : n = l.length) (hs : l.length ≤ 1000000000) (hak : a + k ≤ l.length) (hk : k ≤ 8) (hA : At w A (ns .u8 l)) (hb : Bytes l) :
    Calls Try.prog 138 #[.slice A n c, .int .i64 (a : Int), .int .i64 (k : Int)] w fun e w' => e = .returned (.int .u64 ((el (seg l a k) : Nat) : Int)) ∧ w = w' := by
  subst hn
  go_enter Try.func138, Try.ntmps138
  go_wp2
  go_loop [7, 8] (fun n i => ∃ j : Nat, j ≤ k ∧ i = .int .i64 ((j : Int) - 1) ∧ n = .int .u64 ((el (seg l (a + j) (k - j)) : Nat) : Int)) (fun _ i => (intOf i + 1).toNat)
  case atStart => exact ⟨k, by omega, rfl, by simp [seg, el]⟩
  case round =>
    obtain ⟨j, hj, rfl, rfl⟩ := hrel
    by_cases hlt : 0 < j
    · obtain ⟨i, rfl⟩ : ∃ i, j = i + 1 := ⟨j - 1, by omega⟩
      obtain ⟨g, o, rfl, hc⟩ := hA.num (a + i) (by omega)
      have hst := el_seg l (a + i) (k - (i + 1)) (by omega)
      rw [show k - (i + 1) + 1 = k - i by omega] at hst
      have hlt2 := el_seg_lt l (a + (i + 1)) (k - (i + 1)) hb
      have hv := hb.nth (a + i) (by omega)
      have hp7 : 256 ^ (k - (i + 1)) ≤ 256 ^ 7 := Nat.pow_le_pow_right (by decide) (by omega)
      rw [show a + i + 1 = a + (i + 1) by omega] at hst
      have e7 : (256 : Nat) ^ 7 = 72057594037927936 := by decide
      have HST := Lib.hid hst
      have hE : el (seg l (a + (i + 1)) (k - (i + 1))) < 72057594037927936 := by omega
      clear hst hlt2 hp7 e7
      generalize el (seg l (a + (i + 1)) (k - (i + 1))) = E at hE HST
      have e1 : ((i + 1 : Nat) : Int) - 1 = (i : Int) := by omega
      rw [e1]
      go_wp2
      go_round
      case rel => exact ⟨i, by omega, by go_num, by rw [HST.out]; go_num⟩
      case measure => simp [intOf]
    · obtain rfl : j = 0 := by omega
      go_wp2
      go_ret
      exact ⟨rfl, rfl⟩

theorem At.cut {w : World} {g o : Nat} {kd : IntKind} {l : List Nat} (h : At w (some ⟨g, o, none⟩) (ns kd l)) (k : Nat) : At w (some ⟨g, o + k, none⟩) (ns kd (l.drop k)) := by
  intro hn
  obtain ⟨b, o', e, hr⟩ := h (by intro he; apply hn; have := congrArg List.length he; simp [ns] at this; rw [this]; simp [ns])
  cases e
  refine ⟨g, o + k, rfl, fun j v hv => ?_⟩
  rw [Nat.add_assoc]
  refine hr (k + j) v ?_
  simpa [ns] using hv

/-- append at a step of a region that draws its order, of what the call owns -/
theorem step_buf_append {P : Program} {ops : Array Oper} {o : Oper} {a : Act} {w w0 : World} {K : Act → World → Prop} {Q : Exit → Act → World → Prop} {E : Prop} (hgd : o.guard = none) (s x : Operand)
    (ho : o.op = .call { callee := .builtin .append, args := #[s, x], argTypes := #[23, 23] })
    (ht : P.underlying 23 = some (.slice 5)) (hinfo : (P.info? 5).map (fun i => (i.zero, i.size, i.bytes)) = some (some (.int .u8 0), 1, 1))
    (n0 : Nat) (v : Value) (l : List Nat) (hs : a.eval s = v) (hown : Buf n0 w v l)
    (ad : Addr) (m c : Nat) (l2 : List Nat) (hx : a.eval x = .slice (some ad) m c) (hm : m = l2.length) (hAt : At w (some ad) (ns .u8 l2))
    (hsm : l.length + l2.length ≤ 140737488355328) (hbase : n0 ≤ w.heap.size) (hb : Below n0 w0 w)
    (h : ∀ v' w', Buf n0 w' v' (l ++ l2) → Below n0 w0 w' → n0 ≤ w'.heap.size → K (a.put o.dst v') w') :
    if Region.wanted o (yielded ops a.tmps) = true then Oper.wp P o a w K Q else E := by
  have hw : Region.wanted o (yielded ops a.tmps) = true := by simp [Region.wanted, hgd]
  rw [if_pos hw]
  subst hm
  obtain ⟨i0, hi, hzz⟩ := Option.map_eq_some_iff.1 hinfo
  simp only [Prod.mk.injEq] at hzz
  obtain ⟨hz0, hz1, hz2⟩ := hzz
  have hnews : ∀ j u, (ns .u8 l2)[j]? = some u → w.cell? (ad.add j) = some u := fun j u hu => by
    obtain ⟨b, o, e, hr⟩ := hAt (by intro hn; rw [hn] at hu; simp at hu)
    cases e
    rw [Addr.add_mid]; exact hr j u hu
  obtain ⟨v', w', hr, h2, h3, h4, h5⟩ := run_append_own_at (P := P) w n0 23 o.type 5 i0 (.int .u8 0) 1 1 ht hi hz0 hz1 hz2 rfl (by decide) v l.length (ns .u8 l) hown ad l2.length c (ns .u8 l2) (by simp [ns]) hnews (ns_one _ _) (by simp only [maxLen]; omega) (by omega) hbase
  unfold Oper.wp execOp
  simp only [ho, resolve, invoke, builtin, Sem.run_bind, Sem.run_pure, Result.andThen_ok, List.map_toArray, List.map_cons, List.map_nil, hs, hx, hr]
  refine h v' w' ?_ (hown.grown hb h3 hbase) (Nat.le_trans hbase h3.size)
  unfold Buf
  rw [List.length_append, ns_append]; exact h2

set_option maxRecDepth 100000 in
set_option maxHeartbeats 2000000 in
theorem ropen_yes (number : Nat) (A : Option Addr) (c : Nat) (l : List Nat) (w : World) (hs : l.length ≤ 1000000000) (hA : At w A (ns .u8 l)) (hb : Bytes l) (hcl : l.length ≤ c) (hn : number < 4294967296) (hp : IsPage number l) :
    Calls Try.prog 70 #[.int .u32 (number : Int), .slice A l.length c] w fun e w' => ∃ v, e = .returned (.tuple #[.int .u8 (kindOf l : Int), v, .int .u16 0]) ∧ Buf w.heap.size w' v (payOf l) ∧ Below w.heap.size w w' ∧ w.heap.size ≤ w'.heap.size := by
  have hlen := hp.length
  obtain ⟨h12, hfit, hso, heq⟩ := hp
  have hget := get_any A c _ l 8 2 w rfl hs (by omega) (by omega) hA hb
  rw [show el (seg l 8 2) = lenOf l from rfl] at hget
  have hpl : (payOf l).length = lenOf l := by simp only [payOf, List.length_take, List.length_drop]; omega
  have h1008 := hso.2.2
  have hk := kindOf_lt hb h12
  obtain ⟨g, o, rfl, hc⟩ := hA.num 2 (by omega)
  rw [show nth l 2 = kindOf l from rfl] at hc
  have hpb : Bytes (payOf l) := (hb.drop 12).take _
  have hAp : At w (some ⟨g, o + 12, none⟩) (ns .u8 (payOf l)) := by
    have h1 := (At.cut hA 12).takes (lenOf l)
    exact h1
  generalize kindOf l = K at *
  generalize payOf l = Y at *
  generalize lenOf l = N at *
  subst hpl
  have HG := Lib.hid hget
  have HEQ := Lib.hid heq
  have hso2 : 1 ≤ K ∧ K ≤ 4 := ⟨hso.1, hso.2.1⟩
  have HSO := Lib.hid hso
  have hc12 : (12 + Y.length : Int) ≤ (c : Int) := by omega
  have hc1024 : 1024 ≤ c := by omega
  clear hget heq hso hfit hs h12 hcl
  have HLEN := Lib.hid hlen
  rw [hlen] at HG ⊢
  clear hlen
  go_enter Try.func70, Try.ntmps70
  go_wp2_with fail
  refine HG.out.mono ?_
  rintro e w1 ⟨rfl, rfl⟩
  go_wp2_with fail
  have x1 : IntKind.i64.wrap (12 + (Y.length : Int)) = 12 + (Y.length : Int) := IntWalk.i64_in _ (by omega)
  have x2 : (12 : Int) ≤ 12 + (Y.length : Int) := by omega
  have x3 : (0 : Int) ≤ 12 + (Y.length : Int) := by omega
  have x4 : (12 + (Y.length : Int)).toNat = 12 + Y.length := by omega
  have x5 : ¬ (c = 12) := by omega
  have x6 : 12 + Y.length - 12 = Y.length := by omega
  go_region_held3 (fun w' => Below w.heap.size w w' ∧ w'.cell? ⟨g, o + 2, none⟩ = some (.int .u8 (K : Int))) (first | exact ⟨Below.refl _ _, hc⟩ | exact ⟨below_drew0 (Below.refl _ _), hc⟩ | exact ⟨below_next0 (below_drew0 (Below.refl _ _)) (by assumption), Eq.trans (Below.cell (B := w.heap.size) (below_next0 (below_drew0 (Below.refl _ _)) (by assumption)) (World.block_lt_of_cell? w _ hc)) hc⟩ | assumption)
    (first | (go_at_call 67; refine (rseal_ok K number (some ⟨g, o + 12, none⟩) (c - 12) Y _ HSO.out hk hn hpb (hAp.below (by first | exact Below.refl _ _ | exact below_drew0 (Below.refl _ _) | exact And.left (by assumption))) (by simp)).mono ?_; rintro e w2 ⟨v2, rfl, hv2, hb2, hs2⟩))
  clear x1 x2 x3 x4 x5 x6
  rw [← HEQ.out] at hv2
  obtain ⟨A2, c2, e2, hA2, hnil2, hc2, hm2⟩ := hv2.at
  rw [HLEN.out] at e2
  subst e2
  have hbw : Below w.heap.size w w2 := below_next0 (below_drew0 (Below.refl _ _)) hb2
  have hlw := hA.below hbw
  have k1 := conv_str (P := Try.prog) w2 A2 c2 l 1024 HLEN.out.symm hA2 Try.underlying23 Try.underlying5 Try.underlying9
  have k2 := conv_str (P := Try.prog) w2 (some ⟨g, o, none⟩) c l 1024 HLEN.out.symm hlw Try.underlying23 Try.underlying5 Try.underlying9
  have hcw : w2.cell? ⟨g, o + 2, none⟩ = some (.int .u8 (K : Int)) := (hbw.cell (World.block_lt_of_cell? w _ hc)).trans hc
  have hAw := hAp.below hbw
  go_wp2_with fail
  have x1 : IntKind.i64.wrap (12 + (Y.length : Int)) = 12 + (Y.length : Int) := IntWalk.i64_in _ (by omega)
  have x2 : (12 : Int) ≤ 12 + (Y.length : Int) := by omega
  have x3 : (0 : Int) ≤ 12 + (Y.length : Int) := by omega
  have x4 : (12 + (Y.length : Int)).toNat = 12 + Y.length := by omega
  have x5 : ¬ (c = 12) := by omega
  have x6 : 12 + Y.length - 12 = Y.length := by omega
  have hsz : w.heap.size ≤ w2.heap.size := hbw.size
  go_region_held3 (fun w' => Below w.heap.size w w' ∧ w'.cell? ⟨g, o + 2, none⟩ = some (.int .u8 (K : Int))) (first | exact ⟨hbw, hcw⟩ | exact ⟨hbw.drew, hcw⟩ | exact ⟨by assumption, Eq.trans (Below.cell (B := w.heap.size) (by assumption) (World.block_lt_of_cell? w _ hc)) hc⟩ | assumption)
    ((refine step_buf_append (w0 := w) (by rfl) _ _ (by rfl) Try.underlying23 Try.info5 w.heap.size (.slice none 0 0) [] (by rfl) (Buf.nil _ _) ⟨g, o + 12, none⟩ Y.length (c - 12) Y (by rfl) rfl (hAw.below (below_drew0 (Below.refl _ _))) (by simp; omega) hsz hbw.drew ?_; intro v3 w3 hv3 hb3 hs3))
  rw [List.nil_append] at hv3
  clear x1 x2 x3 x4 x5 x6
  go_wp2
  go_ret3
  exact ⟨_, rfl, hv3, hb3, hs3⟩

set_option maxRecDepth 100000 in
set_option maxHeartbeats 2000000 in
theorem ropen_no (number : Nat) (A : Option Addr) (c : Nat) (l : List Nat) (w : World) (hs : l.length ≤ 1000000000) (hA : At w A (ns .u8 l)) (hb : Bytes l) (hcl : l.length ≤ c) (hn : number < 4294967296) (hp : ¬ IsPage number l) :
    Calls Try.prog 70 #[.int .u32 (number : Int), .slice A l.length c] w fun e w' => e = .returned (.tuple #[.int .u8 0, .slice none 0 0, .int .u16 80]) ∧ Below w.heap.size w w' := by
  by_cases hlen : l.length = 1024
  · have hget := get_any A c _ l 8 2 w rfl hs (by omega) (by omega) hA hb
    rw [show el (seg l 8 2) = lenOf l from rfl] at hget
    by_cases h1008 : lenOf l ≤ 1008
    · have hpl : (payOf l).length = lenOf l := by simp only [payOf, List.length_take, List.length_drop]; omega
      have hrest : ¬ SealOk (kindOf l) (payOf l) ∨ (SealOk (kindOf l) (payOf l) ∧ sealed (kindOf l) number (payOf l) ≠ l) := by
        rcases no_page hp with (h | ⟨_, h⟩) | ⟨_, _, h⟩
        · omega
        · omega
        · exact h
      have hk := kindOf_lt hb (by omega)
      obtain ⟨g, o, rfl, hc⟩ := hA.num 2 (by omega)
      rw [show nth l 2 = kindOf l from rfl] at hc
      have hpb : Bytes (payOf l) := (hb.drop 12).take _
      have hAp : At w (some ⟨g, o + 12, none⟩) (ns .u8 (payOf l)) := by
        have h1 := (At.cut hA 12).takes (lenOf l)
        exact h1
      have hsb : SealOk (kindOf l) (payOf l) → Bytes (sealed (kindOf l) number (payOf l)) := fun _ => sealed_bytes _ _ _ hk hpb
      have hsl : SealOk (kindOf l) (payOf l) → (sealed (kindOf l) number (payOf l)).length = 1024 := fun h => sealed_length _ _ _ h.2.2
      clear hp
      generalize kindOf l = K at *
      generalize payOf l = Y at *
      generalize lenOf l = N at *
      subst hpl
      have HG := Lib.hid hget
      have hc1024 : 1024 ≤ c := by omega
      have HLEN := Lib.hid hlen
      clear hget hs hcl
      rw [hlen] at HG ⊢
      clear hlen
      rcases hrest with hso | ⟨hso, hne⟩
      · go_enter Try.func70, Try.ntmps70
        go_wp2_with fail
        refine HG.out.mono ?_
        rintro e w1 ⟨rfl, rfl⟩
        go_wp2_with fail
        have x1 : IntKind.i64.wrap (12 + (Y.length : Int)) = 12 + (Y.length : Int) := IntWalk.i64_in _ (by omega)
        have x2 : (12 : Int) ≤ 12 + (Y.length : Int) := by omega
        have x2b : 12 + (Y.length : Int) ≤ (c : Int) := by omega
        have x3 : (0 : Int) ≤ 12 + (Y.length : Int) := by omega
        have x4 : (12 + (Y.length : Int)).toNat = 12 + Y.length := by omega
        have x5 : ¬ (c = 12) := by omega
        have x6 : 12 + Y.length - 12 = Y.length := by omega
        go_region_held3 (fun w' => Below w.heap.size w w' ∧ w'.cell? ⟨g, o + 2, none⟩ = some (.int .u8 (K : Int))) (first | exact ⟨Below.refl _ _, hc⟩ | exact ⟨below_drew0 (Below.refl _ _), hc⟩ | assumption)
          (first | (go_at_call 67; refine (rseal_no K number (some ⟨g, o + 12, none⟩) (c - 12) Y _ hso).mono ?_; rintro e w2 ⟨rfl, rfl⟩))
        clear x1 x2 x2b x3 x4 x5 x6
        go_wp2
        go_ret3
        exact ⟨rfl, below_drew0 (Below.refl _ _)⟩
      · have hsb' := hsb hso
        have hsl' := hsl hso
        generalize hS : sealed K number Y = S at hne hsb' hsl'
        have HS := Lib.hid hS
        have HSO := Lib.hid hso
        have HNE := Lib.hid hne
        have HSL := Lib.hid hsl'
        clear hS hne hsb hsl hso hsl'
        go_enter Try.func70, Try.ntmps70
        go_wp2_with fail
        refine HG.out.mono ?_
        rintro e w1 ⟨rfl, rfl⟩
        go_wp2_with fail
        have x1 : IntKind.i64.wrap (12 + (Y.length : Int)) = 12 + (Y.length : Int) := IntWalk.i64_in _ (by omega)
        have x2 : (12 : Int) ≤ 12 + (Y.length : Int) := by omega
        have x2b : 12 + (Y.length : Int) ≤ (c : Int) := by omega
        have x3 : (0 : Int) ≤ 12 + (Y.length : Int) := by omega
        have x4 : (12 + (Y.length : Int)).toNat = 12 + Y.length := by omega
        have x5 : ¬ (c = 12) := by omega
        have x6 : 12 + Y.length - 12 = Y.length := by omega
        go_region_held3 (fun w' => Below w.heap.size w w' ∧ w'.cell? ⟨g, o + 2, none⟩ = some (.int .u8 (K : Int))) (first | exact ⟨Below.refl _ _, hc⟩ | exact ⟨below_drew0 (Below.refl _ _), hc⟩ | exact ⟨below_next0 (below_drew0 (Below.refl _ _)) (by assumption), Eq.trans (Below.cell (B := w.heap.size) (below_next0 (below_drew0 (Below.refl _ _)) (by assumption)) (World.block_lt_of_cell? w _ hc)) hc⟩ | assumption)
          (first | (go_at_call 67; refine (rseal_ok K number (some ⟨g, o + 12, none⟩) (c - 12) Y _ HSO.out hk hn hpb (hAp.below (by first | exact Below.refl _ _ | exact below_drew0 (Below.refl _ _) | exact And.left (by assumption))) (by simp)).mono ?_; rintro e w2 ⟨v2, rfl, hv2, hb2, hs2⟩))
        clear x1 x2 x2b x3 x4 x5 x6
        rw [HS.out] at hv2
        obtain ⟨A2, c2, e2, hA2, hnil2, hc2, hm2⟩ := hv2.at
        rw [HSL.out] at e2
        subst e2
        have hbw : Below w.heap.size w w2 := below_next0 (below_drew0 (Below.refl _ _)) hb2
        have hlw := hA.below hbw
        have k1 := conv_str (P := Try.prog) w2 A2 c2 S 1024 HSL.out.symm hA2 Try.underlying23 Try.underlying5 Try.underlying9
        have k2 := conv_str (P := Try.prog) w2 (some ⟨g, o, none⟩) c l 1024 HLEN.out.symm hlw Try.underlying23 Try.underlying5 Try.underlying9
        have k3 := str_beq S l hsb' hb
        rw [decide_eq_false HNE.out] at k3
        go_wp2
        go_ret3
        exact ⟨rfl, hbw⟩
    · have hn1 : 1008 < lenOf l := by omega
      have hN : lenOf l < 65536 := by
        have := el_seg_lt l 8 2 hb
        exact this
      generalize lenOf l = N at *
      have HG := Lib.hid hget
      clear hget hs hcl hp h1008
      rw [hlen] at HG ⊢
      clear hlen
      go_enter Try.func70, Try.ntmps70
      go_wp2_with fail
      refine HG.out.mono ?_
      rintro e w1 ⟨rfl, rfl⟩
      go_wp2
      go_ret3
      exact ⟨rfl, Below.refl _ _⟩
  · have h0 : ((l.length : Int) != 1024) = true := by simp; omega
    have h0' : (l.length == 1024) = false := by simp; omega
    have h0'' : (l.length != 1024) = true := by simp; omega
    clear hlen hp
    go_enter Try.func70, Try.ntmps70
    go_wp2
    go_ret3
    exact ⟨rfl, Below.refl _ _⟩
end Go.Proofs.Ytfbjjblgcgjndaa
