/- Joined texts: Page6, Meta1, Meta2, Meta3, Meta4, Meta5, Meta6, Meta7, Meta8, Best1, PageKnown, SealCall, DiskPlain3, Pool6, Pool7. -/
import Derived.IntWalk
import Derived.Deep.AppendSrc
import Derived.ArgAppend
import Derived.Laws.StructEq
import Derived.Test.YtfbjjblgcgjndaaPb3
import Derived.Test.YtfbjjblgcgjndaaPb4
set_option linter.unusedVariables false
set_option linter.unusedSimpArgs false

/- Contracts of the reference's get and Open. -/
namespace Go.Proofs.Ytfbjjblgcgjndaa
open Go.RowKit

/-- the last ones of k from at on -/
def seg (l : List Nat) (at_ k : Nat) : List Nat := (l.drop at_).take k
theorem seg_cons (l : List Nat) (a k : Nat) (h : a < l.length) : seg l a (k + 1) = nth l a :: seg l (a + 1) k := by
  unfold seg
  have : l.drop a = nth l a :: l.drop (a + 1) := by rw [List.drop_eq_getElem_cons h, nth_get l a h]
  rw [this, List.take_succ_cons]
theorem el_seg (l : List Nat) (a k : Nat) (h : a < l.length) : el (seg l a (k + 1)) = nth l a + 256 * el (seg l (a + 1) k) := by rw [seg_cons l a k h, el]
theorem el_seg_lt (l : List Nat) (a k : Nat) (hb : Bytes l) : el (seg l a k) < 256 ^ k := by
  have h1 := el_lt (seg l a k) ((hb.drop a).take k)
  have h2 : (seg l a k).length ≤ k := by simp [seg]; omega
  exact Nat.lt_of_lt_of_le h1 (Nat.pow_le_pow_right (by decide) h2)

set_option maxRecDepth 100000 in
set_option maxHeartbeats 1000000 in
theorem get_any (A : Option Addr) (c n : Nat) (l : List Nat) (a k : Nat) (w : World) (hn : n = l.length) (hs : l.length ≤ 1000000000) (hak : a + k ≤ l.length) (hk : k ≤ 8) (hA : At w A (ns .u8 l)) (hb : Bytes l) :
    Calls Try.prog 138 #[.slice A n c, .int .i64 (a : Int), .int .i64 (k : Int)] w fun e w' => e = .returned (.int .u64 ((el (seg l a k) : Nat) : Int)) ∧ w = w' := by
  subst hn
  go_enter Try.func138, Try.ntmps138
  go_wp2
  go_loop [7, 8] (fun n i => ∃ j : Nat, j ≤ k ∧ i = .int .i64 ((j : Int) - 1) ∧ n = .int .u64 ((el (seg l (a + j) (k - j)) : Nat) : Int)) (fun _ i => (intOf i + 1).toNat)
  case atStart => exact ⟨k, by omega, rfl, by simp [seg, el]⟩
  case round =>
    obtain ⟨j, hj, rfl, rfl⟩ := hrel
    by_cases hlt : 0 < j
    · obtain ⟨i, rfl⟩ : ∃ i, j = i + 1 := ⟨j - 1, by omega⟩
      obtain ⟨g, o, rfl, hc⟩ := hA.num (a + i) (by omega)
      have hst := el_seg l (a + i) (k - (i + 1)) (by omega)
      rw [show k - (i + 1) + 1 = k - i by omega] at hst
      have hlt2 := el_seg_lt l (a + (i + 1)) (k - (i + 1)) hb
      have hv := hb.nth (a + i) (by omega)
      have hp7 : 256 ^ (k - (i + 1)) ≤ 256 ^ 7 := Nat.pow_le_pow_right (by decide) (by omega)
      rw [show a + i + 1 = a + (i + 1) by omega] at hst
      have e7 : (256 : Nat) ^ 7 = 72057594037927936 := by decide
      have HST := Lib.hid hst
      have hE : el (seg l (a + (i + 1)) (k - (i + 1))) < 72057594037927936 := by omega
      clear hst hlt2 hp7 e7
      generalize el (seg l (a + (i + 1)) (k - (i + 1))) = E at hE HST
      have e1 : ((i + 1 : Nat) : Int) - 1 = (i : Int) := by omega
      rw [e1]
      go_wp2
      go_round
      case rel => exact ⟨i, by omega, by go_num, by rw [HST.out]; go_num⟩
      case measure => simp [intOf]
    · obtain rfl : j = 0 := by omega
      go_wp2
      go_ret
      exact ⟨rfl, rfl⟩

theorem At.cut {w : World} {g o : Nat} {kd : IntKind} {l : List Nat} (h : At w (some ⟨g, o, none⟩) (ns kd l)) (k : Nat) : At w (some ⟨g, o + k, none⟩) (ns kd (l.drop k)) := by
  intro hn
  obtain ⟨b, o', e, hr⟩ := h (by intro he; apply hn; have := congrArg List.length he; simp [ns] at this; rw [this]; simp [ns])
  cases e
  refine ⟨g, o + k, rfl, fun j v hv => ?_⟩
  rw [Nat.add_assoc]
  refine hr (k + j) v ?_
  simpa [ns] using hv

/-- append at a step of a region that draws its order, of what the call owns -/
theorem step_buf_append {P : Program} {ops : Array Oper} {o : Oper} {a : Act} {w w0 : World} {K : Act → World → Prop} {Q : Exit → Act → World → Prop} {E : Prop} (hgd : o.guard = none) (s x : Operand)
    (ho : o.op = .call { callee := .builtin .append, args := #[s, x], argTypes := #[23, 23] })
    (ht : P.underlying 23 = some (.slice 5)) (hinfo : (P.info? 5).map (fun i => (i.zero, i.size, i.bytes)) = some (some (.int .u8 0), 1, 1))
    (n0 : Nat) (v : Value) (l : List Nat) (hs : a.eval s = v) (hown : Buf n0 w v l)
    (ad : Addr) (m c : Nat) (l2 : List Nat) (hx : a.eval x = .slice (some ad) m c) (hm : m = l2.length) (hAt : At w (some ad) (ns .u8 l2))
    (hsm : l.length + l2.length ≤ 140737488355328) (hbase : n0 ≤ w.heap.size) (hb : Below n0 w0 w)
    (h : ∀ v' w', Buf n0 w' v' (l ++ l2) → Below n0 w0 w' → n0 ≤ w'.heap.size → K (a.put o.dst v') w') :
    if Region.wanted o (yielded ops a.tmps) = true then Oper.wp P o a w K Q else E := by
  have hw : Region.wanted o (yielded ops a.tmps) = true := by simp [Region.wanted, hgd]
  rw [if_pos hw]
  subst hm
  obtain ⟨i0, hi, hzz⟩ := Option.map_eq_some_iff.1 hinfo
  simp only [Prod.mk.injEq] at hzz
  obtain ⟨hz0, hz1, hz2⟩ := hzz
  have hnews : ∀ j u, (ns .u8 l2)[j]? = some u → w.cell? (ad.add j) = some u := fun j u hu => by
    obtain ⟨b, o, e, hr⟩ := hAt (by intro hn; rw [hn] at hu; simp at hu)
    cases e
    rw [Addr.add_mid]; exact hr j u hu
  obtain ⟨v', w', hr, h2, h3, h4, h5⟩ := run_append_own_at (P := P) w n0 23 o.type 5 i0 (.int .u8 0) 1 1 ht hi hz0 hz1 hz2 rfl (by decide) v l.length (ns .u8 l) hown ad l2.length c (ns .u8 l2) (by simp [ns]) hnews (ns_one _ _) (by simp only [maxLen]; omega) (by omega) hbase
  unfold Oper.wp execOp
  simp only [ho, resolve, invoke, builtin, Sem.run_bind, Sem.run_pure, Result.andThen_ok, List.map_toArray, List.map_cons, List.map_nil, hs, hx, hr]
  refine h v' w' ?_ (hown.grown hb h3 hbase) (Nat.le_trans hbase h3.size)
  unfold Buf
  rw [List.length_append, ns_append]; exact h2

set_option maxRecDepth 100000 in
set_option maxHeartbeats 2000000 in
theorem ropen_yes (number : Nat) (A : Option Addr) (c : Nat) (l : List Nat) (w : World) (hs : l.length ≤ 1000000000) (hA : At w A (ns .u8 l)) (hb : Bytes l) (hcl : l.length ≤ c) (hn : number < 4294967296) (hp : IsPage number l) :
    Calls Try.prog 70 #[.int .u32 (number : Int), .slice A l.length c] w fun e w' => ∃ v, e = .returned (.tuple #[.int .u8 (kindOf l : Int), v, .int .u16 0]) ∧ Buf w.heap.size w' v (payOf l) ∧ Below w.heap.size w w' ∧ w.heap.size ≤ w'.heap.size := by
  have hlen := hp.length
  obtain ⟨h12, hfit, hso, heq⟩ := hp
  have hget := get_any A c _ l 8 2 w rfl hs (by omega) (by omega) hA hb
  rw [show el (seg l 8 2) = lenOf l from rfl] at hget
  have hpl : (payOf l).length = lenOf l := by simp only [payOf, List.length_take, List.length_drop]; omega
  have h1008 := hso.2.2
  have hk := kindOf_lt hb h12
  obtain ⟨g, o, rfl, hc⟩ := hA.num 2 (by omega)
  rw [show nth l 2 = kindOf l from rfl] at hc
  have hpb : Bytes (payOf l) := (hb.drop 12).take _
  have hAp : At w (some ⟨g, o + 12, none⟩) (ns .u8 (payOf l)) := by
    have h1 := (At.cut hA 12).takes (lenOf l)
    exact h1
  generalize kindOf l = K at *
  generalize payOf l = Y at *
  generalize lenOf l = N at *
  subst hpl
  have HG := Lib.hid hget
  have HEQ := Lib.hid heq
  have hso2 : 1 ≤ K ∧ K ≤ 4 := ⟨hso.1, hso.2.1⟩
  have HSO := Lib.hid hso
  have hc12 : (12 + Y.length : Int) ≤ (c : Int) := by omega
  have hc1024 : 1024 ≤ c := by omega
  clear hget heq hso hfit hs h12 hcl
  have HLEN := Lib.hid hlen
  rw [hlen] at HG ⊢
  clear hlen
  go_enter Try.func70, Try.ntmps70
  go_wp2_with fail
  refine HG.out.mono ?_
  rintro e w1 ⟨rfl, rfl⟩
  go_wp2_with fail
  have x1 : IntKind.i64.wrap (12 + (Y.length : Int)) = 12 + (Y.length : Int) := IntWalk.i64_in _ (by omega)
  have x2 : (12 : Int) ≤ 12 + (Y.length : Int) := by omega
  have x3 : (0 : Int) ≤ 12 + (Y.length : Int) := by omega
  have x4 : (12 + (Y.length : Int)).toNat = 12 + Y.length := by omega
  have x5 : ¬ (c = 12) := by omega
  have x6 : 12 + Y.length - 12 = Y.length := by omega
  go_region_held3 (fun w' => Below w.heap.size w w' ∧ w'.cell? ⟨g, o + 2, none⟩ = some (.int .u8 (K : Int))) (first | exact ⟨Below.refl _ _, hc⟩ | exact ⟨below_drew0 (Below.refl _ _), hc⟩ | exact ⟨below_next0 (below_drew0 (Below.refl _ _)) (by assumption), Eq.trans (Below.cell (B := w.heap.size) (below_next0 (below_drew0 (Below.refl _ _)) (by assumption)) (World.block_lt_of_cell? w _ hc)) hc⟩ | assumption)
    (first | (go_at_call 67; refine (rseal_ok K number (some ⟨g, o + 12, none⟩) (c - 12) Y _ HSO.out hk hn hpb (hAp.below (by first | exact Below.refl _ _ | exact below_drew0 (Below.refl _ _) | exact And.left (by assumption))) (by simp)).mono ?_; rintro e w2 ⟨v2, rfl, hv2, hb2, hs2⟩))
  clear x1 x2 x3 x4 x5 x6
  rw [← HEQ.out] at hv2
  obtain ⟨A2, c2, e2, hA2, hnil2, hc2, hm2⟩ := hv2.at
  rw [HLEN.out] at e2
  subst e2
  have hbw : Below w.heap.size w w2 := below_next0 (below_drew0 (Below.refl _ _)) hb2
  have hlw := hA.below hbw
  have k1 := conv_str (P := Try.prog) w2 A2 c2 l 1024 HLEN.out.symm hA2 Try.underlying23 Try.underlying5 Try.underlying9
  have k2 := conv_str (P := Try.prog) w2 (some ⟨g, o, none⟩) c l 1024 HLEN.out.symm hlw Try.underlying23 Try.underlying5 Try.underlying9
  have hcw : w2.cell? ⟨g, o + 2, none⟩ = some (.int .u8 (K : Int)) := (hbw.cell (World.block_lt_of_cell? w _ hc)).trans hc
  have hAw := hAp.below hbw
  go_wp2_with fail
  have x1 : IntKind.i64.wrap (12 + (Y.length : Int)) = 12 + (Y.length : Int) := IntWalk.i64_in _ (by omega)
  have x2 : (12 : Int) ≤ 12 + (Y.length : Int) := by omega
  have x3 : (0 : Int) ≤ 12 + (Y.length : Int) := by omega
  have x4 : (12 + (Y.length : Int)).toNat = 12 + Y.length := by omega
  have x5 : ¬ (c = 12) := by omega
  have x6 : 12 + Y.length - 12 = Y.length := by omega
  have hsz : w.heap.size ≤ w2.heap.size := hbw.size
  go_region_held3 (fun w' => Below w.heap.size w w' ∧ w'.cell? ⟨g, o + 2, none⟩ = some (.int .u8 (K : Int))) (first | exact ⟨hbw, hcw⟩ | exact ⟨hbw.drew, hcw⟩ | exact ⟨by assumption, Eq.trans (Below.cell (B := w.heap.size) (by assumption) (World.block_lt_of_cell? w _ hc)) hc⟩ | assumption)
    ((refine step_buf_append (w0 := w) (by rfl) _ _ (by rfl) Try.underlying23 Try.info5 w.heap.size (.slice none 0 0) [] (by rfl) (Buf.nil _ _) ⟨g, o + 12, none⟩ Y.length (c - 12) Y (by rfl) rfl (hAw.below (below_drew0 (Below.refl _ _))) (by simp; omega) hsz hbw.drew ?_; intro v3 w3 hv3 hb3 hs3))
  rw [List.nil_append] at hv3
  clear x1 x2 x3 x4 x5 x6
  go_wp2
  go_ret3
  exact ⟨_, rfl, hv3, hb3, hs3⟩

set_option maxRecDepth 100000 in
set_option maxHeartbeats 2000000 in
theorem ropen_no (number : Nat) (A : Option Addr) (c : Nat) (l : List Nat) (w : World) (hs : l.length ≤ 1000000000) (hA : At w A (ns .u8 l)) (hb : Bytes l) (hcl : l.length ≤ c) (hn : number < 4294967296) (hp : ¬ IsPage number l) :
    Calls Try.prog 70 #[.int .u32 (number : Int), .slice A l.length c] w fun e w' => e = .returned (.tuple #[.int .u8 0, .slice none 0 0, .int .u16 80]) ∧ Below w.heap.size w w' := by
  by_cases hlen : l.length = 1024
  · have hget := get_any A c _ l 8 2 w rfl hs (by omega) (by omega) hA hb
    rw [show el (seg l 8 2) = lenOf l from rfl] at hget
    by_cases h1008 : lenOf l ≤ 1008
    · have hpl : (payOf l).length = lenOf l := by simp only [payOf, List.length_take, List.length_drop]; omega
      have hrest : ¬ SealOk (kindOf l) (payOf l) ∨ (SealOk (kindOf l) (payOf l) ∧ sealed (kindOf l) number (payOf l) ≠ l) := by
        rcases no_page hp with (h | ⟨_, h⟩) | ⟨_, _, h⟩
        · omega
        · omega
        · exact h
      have hk := kindOf_lt hb (by omega)
      obtain ⟨g, o, rfl, hc⟩ := hA.num 2 (by omega)
      rw [show nth l 2 = kindOf l from rfl] at hc
      have hpb : Bytes (payOf l) := (hb.drop 12).take _
      have hAp : At w (some ⟨g, o + 12, none⟩) (ns .u8 (payOf l)) := by
        have h1 := (At.cut hA 12).takes (lenOf l)
        exact h1
      have hsb : SealOk (kindOf l) (payOf l) → Bytes (sealed (kindOf l) number (payOf l)) := fun _ => sealed_bytes _ _ _ hk hpb
      have hsl : SealOk (kindOf l) (payOf l) → (sealed (kindOf l) number (payOf l)).length = 1024 := fun h => sealed_length _ _ _ h.2.2
      clear hp
      generalize kindOf l = K at *
      generalize payOf l = Y at *
      generalize lenOf l = N at *
      subst hpl
      have HG := Lib.hid hget
      have hc1024 : 1024 ≤ c := by omega
      have HLEN := Lib.hid hlen
      clear hget hs hcl
      rw [hlen] at HG ⊢
      clear hlen
      rcases hrest with hso | ⟨hso, hne⟩
      · go_enter Try.func70, Try.ntmps70
        go_wp2_with fail
        refine HG.out.mono ?_
        rintro e w1 ⟨rfl, rfl⟩
        go_wp2_with fail
        have x1 : IntKind.i64.wrap (12 + (Y.length : Int)) = 12 + (Y.length : Int) := IntWalk.i64_in _ (by omega)
        have x2 : (12 : Int) ≤ 12 + (Y.length : Int) := by omega
        have x2b : 12 + (Y.length : Int) ≤ (c : Int) := by omega
        have x3 : (0 : Int) ≤ 12 + (Y.length : Int) := by omega
        have x4 : (12 + (Y.length : Int)).toNat = 12 + Y.length := by omega
        have x5 : ¬ (c = 12) := by omega
        have x6 : 12 + Y.length - 12 = Y.length := by omega
        go_region_held3 (fun w' => Below w.heap.size w w' ∧ w'.cell? ⟨g, o + 2, none⟩ = some (.int .u8 (K : Int))) (first | exact ⟨Below.refl _ _, hc⟩ | exact ⟨below_drew0 (Below.refl _ _), hc⟩ | assumption)
          (first | (go_at_call 67; refine (rseal_no K number (some ⟨g, o + 12, none⟩) (c - 12) Y _ hso).mono ?_; rintro e w2 ⟨rfl, rfl⟩))
        clear x1 x2 x2b x3 x4 x5 x6
        go_wp2
        go_ret3
        exact ⟨rfl, below_drew0 (Below.refl _ _)⟩
      · have hsb' := hsb hso
        have hsl' := hsl hso
        generalize hS : sealed K number Y = S at hne hsb' hsl'
        have HS := Lib.hid hS
        have HSO := Lib.hid hso
        have HNE := Lib.hid hne
        have HSL := Lib.hid hsl'
        clear hS hne hsb hsl hso hsl'
        go_enter Try.func70, Try.ntmps70
        go_wp2_with fail
        refine HG.out.mono ?_
        rintro e w1 ⟨rfl, rfl⟩
        go_wp2_with fail
        have x1 : IntKind.i64.wrap (12 + (Y.length : Int)) = 12 + (Y.length : Int) := IntWalk.i64_in _ (by omega)
        have x2 : (12 : Int) ≤ 12 + (Y.length : Int) := by omega
        have x2b : 12 + (Y.length : Int) ≤ (c : Int) := by omega
        have x3 : (0 : Int) ≤ 12 + (Y.length : Int) := by omega
        have x4 : (12 + (Y.length : Int)).toNat = 12 + Y.length := by omega
        have x5 : ¬ (c = 12) := by omega
        have x6 : 12 + Y.length - 12 = Y.length := by omega
        go_region_held3 (fun w' => Below w.heap.size w w' ∧ w'.cell? ⟨g, o + 2, none⟩ = some (.int .u8 (K : Int))) (first | exact ⟨Below.refl _ _, hc⟩ | exact ⟨below_drew0 (Below.refl _ _), hc⟩ | exact ⟨below_next0 (below_drew0 (Below.refl _ _)) (by assumption), Eq.trans (Below.cell (B := w.heap.size) (below_next0 (below_drew0 (Below.refl _ _)) (by assumption)) (World.block_lt_of_cell? w _ hc)) hc⟩ | assumption)
          (first | (go_at_call 67; refine (rseal_ok K number (some ⟨g, o + 12, none⟩) (c - 12) Y _ HSO.out hk hn hpb (hAp.below (by first | exact Below.refl _ _ | exact below_drew0 (Below.refl _ _) | exact And.left (by assumption))) (by simp)).mono ?_; rintro e w2 ⟨v2, rfl, hv2, hb2, hs2⟩))
        clear x1 x2 x2b x3 x4 x5 x6
        rw [HS.out] at hv2
        obtain ⟨A2, c2, e2, hA2, hnil2, hc2, hm2⟩ := hv2.at
        rw [HSL.out] at e2
        subst e2
        have hbw : Below w.heap.size w w2 := below_next0 (below_drew0 (Below.refl _ _)) hb2
        have hlw := hA.below hbw
        have k1 := conv_str (P := Try.prog) w2 A2 c2 S 1024 HSL.out.symm hA2 Try.underlying23 Try.underlying5 Try.underlying9
        have k2 := conv_str (P := Try.prog) w2 (some ⟨g, o, none⟩) c l 1024 HLEN.out.symm hlw Try.underlying23 Try.underlying5 Try.underlying9
        have k3 := str_beq S l hsb' hb
        rw [decide_eq_false HNE.out] at k3
        go_wp2
        go_ret3
        exact ⟨rfl, hbw⟩
    · have hn1 : 1008 < lenOf l := by omega
      have hN : lenOf l < 65536 := by
        have := el_seg_lt l 8 2 hb
        exact this
      generalize lenOf l = N at *
      have HG := Lib.hid hget
      clear hget hs hcl hp h1008
      rw [hlen] at HG ⊢
      clear hlen
      go_enter Try.func70, Try.ntmps70
      go_wp2_with fail
      refine HG.out.mono ?_
      rintro e w1 ⟨rfl, rfl⟩
      go_wp2
      go_ret3
      exact ⟨rfl, Below.refl _ _⟩
  · have h0 : ((l.length : Int) != 1024) = true := by simp; omega
    have h0' : (l.length == 1024) = false := by simp; omega
    have h0'' : (l.length != 1024) = true := by simp; omega
    clear hlen hp
    go_enter Try.func70, Try.ntmps70
    go_wp2
    go_ret3
    exact ⟨rfl, Below.refl _ _⟩
end Go.Proofs.Ytfbjjblgcgjndaa

/- Contracts of page.may and of the reference's May. -/
namespace Go.Proofs.Ytfbjjblgcgjndaa
open Go.RowKit

theorem beq_nat (a b : Nat) : ((((a : Int) == 0) = ((b : Int) == 0)) ↔ (a = 0 ↔ b = 0)) := by
  rw [Bool.eq_iff_iff]
  simp
theorem ret_bool {a b : Bool} (h : a = b) : Ending.returned (.bool a) = .returned (.bool b) := by rw [h]
structure Meta where
  gen : Nat
  root : Nat
  free : Nat
  pages : Nat
  keys : Nat
deriving DecidableEq
def Meta.cells (m : Meta) : Array Value := #[.int .u64 (m.gen : Int), .int .u32 (m.root : Int), .int .u32 (m.free : Int), .int .u32 (m.pages : Int), .int .u64 (m.keys : Int)]
def Meta.val (m : Meta) : Value := .agg m.cells
structure Meta.Ok (m : Meta) : Prop where
  gen : m.gen < 18446744073709551616
  root : m.root < 4294967296
  free : m.free < 4294967296
  pages : m.pages < 4294967296
  keys : m.keys < 18446744073709551616
def MayBe (m : Meta) : Prop := (1 ≤ m.gen ∧ m.gen ≤ 4611686018427387904 ∧ 2 ≤ m.pages ∧ m.pages ≤ 16384 ∧ m.keys ≤ 4611686018427387904) ∧ (m.root = 0 ∨ (2 ≤ m.root ∧ m.root < m.pages)) ∧ (m.free = 0 ∨ (2 ≤ m.free ∧ m.free < m.pages)) ∧ (m.root ≠ m.free ∨ m.root = 0) ∧ (m.keys = 0 ↔ m.root = 0)
instance (m : Meta) : Decidable (MayBe m) := inferInstanceAs (Decidable (_ ∧ _ ∧ _ ∧ _ ∧ _))

set_option maxRecDepth 100000 in
set_option maxHeartbeats 2000000 in
theorem rmay_any (m : Meta) (w : World) (h : m.Ok) :
    Calls Try.prog 140 #[m.val] w fun e w' => e = .returned (.bool (decide (MayBe m))) ∧ Below w.heap.size w w' := by
  obtain ⟨g, r, f, p, k⟩ := m
  obtain ⟨h1, h2, h3, h4, h5⟩ := h
  simp only at h1 h2 h3 h4 h5
  unfold Meta.val Meta.cells
  simp only
  obtain ⟨D, hD, hiff⟩ : ∃ D, decide (MayBe ⟨g, r, f, p, k⟩) = D ∧ (D = true ↔ (1 ≤ g ∧ g ≤ 4611686018427387904 ∧ 2 ≤ p ∧ p ≤ 16384 ∧ k ≤ 4611686018427387904) ∧ (r = 0 ∨ (2 ≤ r ∧ r < p)) ∧ (f = 0 ∨ (2 ≤ f ∧ f < p)) ∧ (r ≠ f ∨ r = 0) ∧ (k = 0 ↔ r = 0)) := ⟨_, rfl, decide_eq_true_iff⟩
  rw [hD]
  have HD := Lib.hid hiff
  clear hiff hD
  go_enter Try.func140, Try.ntmps140
  go_wp2
  all_goals
    go_ret
    refine ⟨ret_bool ?_, below_alloc0 (Below.refl _ _) _⟩
    rw [Bool.eq_iff_iff, HD.out]
    clear HD
    simp [beq_nat] at *
    omega

set_option maxRecDepth 100000 in
set_option maxHeartbeats 2000000 in
theorem may_any (m : Meta) (w : World) (h : m.Ok) :
    Calls Try.prog 139 #[m.val] w fun e w' => e = .returned (.bool (decide (MayBe m))) ∧ Below w.heap.size w w' := by
  obtain ⟨g, r, f, p, k⟩ := m
  obtain ⟨h1, h2, h3, h4, h5⟩ := h
  simp only at h1 h2 h3 h4 h5
  unfold Meta.val Meta.cells
  simp only
  obtain ⟨D, hD, hiff⟩ : ∃ D, decide (MayBe ⟨g, r, f, p, k⟩) = D ∧ (D = true ↔ (1 ≤ g ∧ g ≤ 4611686018427387904 ∧ 2 ≤ p ∧ p ≤ 16384 ∧ k ≤ 4611686018427387904) ∧ (r = 0 ∨ (2 ≤ r ∧ r < p)) ∧ (f = 0 ∨ (2 ≤ f ∧ f < p)) ∧ (r ≠ f ∨ r = 0) ∧ (k = 0 ↔ r = 0)) := ⟨_, rfl, decide_eq_true_iff⟩
  rw [hD]
  have HD := Lib.hid hiff
  clear hiff hD
  have hmf : ∀ (fn : Fn) (first cap : Array Value) (w : World), (Instr.makeFunc fn first cap).run Try.prog w = .ok (.func fn first cap) w := fun _ _ _ _ => rfl
  go_enter Try.func139, Try.ntmps139
  go_wp2
  all_goals
    go_ret
    refine ⟨ret_bool ?_, below_alloc0 (Below.refl _ _) _⟩
    rw [Bool.eq_iff_iff, HD.out]
    clear HD
    simp [beq_nat] at *
    omega
end Go.Proofs.Ytfbjjblgcgjndaa

/- Contracts of page.PutMeta and of the reference's PutMeta. -/
namespace Go.Proofs.Ytfbjjblgcgjndaa
open Go.RowKit

theorem buf_append_str {P : Program} {ops : Array Oper} {rest : List Oper} {o : Oper} {a : Act} {w w0 : World} {Q : Exit → Act → World → Prop} (hgd : o.guard = none) (s x : Operand)
    (ho : o.op = .call { callee := .builtin .append, args := #[s, x], argTypes := #[23, 9] })
    (ht : P.underlying 23 = some (.slice 5)) (h9 : P.underlying 9 = some .string) (hinfo : (P.info? 5).map (fun i => (i.zero, i.size, i.bytes)) = some (some (.int .u8 0), 1, 1))
    (n0 : Nat) (hs : a.eval s = .slice none 0 0) (b : ByteArray) (l : List Nat) (hx : a.eval x = .string b) (hb : byteCells b = ns .u8 l) (h0 : 0 < l.length) (hsm : l.length ≤ 1000000) (hbase : n0 ≤ w.heap.size) (hbel : Below n0 w0 w)
    (h : ∀ v' w', Buf n0 w' v' l → Below n0 w0 w' → n0 ≤ w'.heap.size → wpList P ops Q rest (a.put o.dst v') w') :
    wpList P ops Q (o :: rest) a w := by
  obtain ⟨i0, hi, hzz⟩ := Option.map_eq_some_iff.1 hinfo
  simp only [Prod.mk.injEq] at hzz
  obtain ⟨hz0, hz1, hz2⟩ := hzz
  have hlen : b.size = l.length := by
    have := congrArg List.length hb
    rw [byteCells_length] at this
    simpa [ns] using this
  have hsrc := Src.ofString (P := P) (w := w) h9 b
  rw [hb, hlen] at hsrc
  have hr := run_append_grow_src (P := P) w 23 9 o.type 5 i0 (.int .u8 0) ht hi hz0 none 0 0 [] (by simp [Builtin.firstCells]) (.string b) l.length (ns .u8 l) (by rw [hz1]; exact hsrc) (by omega) (by omega) (by
    rw [hz2, nextslicecap_zero (by omega)]; omega)
  simp only [Nat.zero_add, List.nil_append] at hr
  refine Lib.wpList_append_run w hgd s x 23 9 ho _ _ hs hx _ _ hr ?_
  have hge := grownCap_ge w l.length 0 5
  have hcm : grownCap w l.length 0 5 ≤ maxLen := grownCap_le_maxLen w l.length 0 5 (by simp only [maxLen]; omega)
  refine h _ _ ⟨by simp [ns], .inr ⟨w.heap.size, _, _, rfl, hbase, heap_alloc_new w.drew _, hge, hcm, ?_, ?_⟩⟩ (hbel.drew.alloc hbase _) (by simp; omega)
  · simp only [Array.size_append, List.size_toArray, size_zeroCells, ns_length]
    simp [Value.cells]
    omega
  · simp only [Array.toList_append]
    rw [Nat.mul_one]
    have : (ns .u8 l).length = l.length := ns_length _ _
    rw [← this]
    exact List.take_left

def metaBytes (m : Meta) : List Nat := [67, 77, 69, 84] ++ le m.gen 8 ++ le m.root 4 ++ le m.free 4 ++ le m.pages 4 ++ le m.keys 8
theorem metaBytes_length (m : Meta) : (metaBytes m).length = 32 := by simp [metaBytes, le_length]
theorem metaBytes_bytes (m : Meta) : Bytes (metaBytes m) := by
  refine Bytes.append (Bytes.append (Bytes.append (Bytes.append (Bytes.append ?_ (le_bytes _ _)) (le_bytes _ _)) (le_bytes _ _)) (le_bytes _ _)) (le_bytes _ _)
  exact Bytes.cons (by omega) (Bytes.cons (by omega) (Bytes.cons (by omega) (Bytes.cons (by omega) Bytes.nil)))
/-- a state as a sector -/
def sector (m : Meta) : List Nat := closed (fill (metaBytes m) 124)
theorem sector_length (m : Meta) : (sector m).length = 128 := by
  rw [sector, closed_length, fill_length _ _ (by rw [metaBytes_length]; omega)]
theorem sector_bytes (m : Meta) : Bytes (sector m) := closed_bytes _ (fill_bytes _ _ (metaBytes_bytes m))

theorem meta_cells {m : Meta} {W : World} {b : Nat} (h : W.heap[b]? = some (.cells m.cells 116 (0, 0))) :
    W.cell? ⟨b, 0, none⟩ = some (.int .u64 (m.gen : Int)) ∧ W.cell? ⟨b, 1, none⟩ = some (.int .u32 (m.root : Int)) ∧ W.cell? ⟨b, 2, none⟩ = some (.int .u32 (m.free : Int)) ∧ W.cell? ⟨b, 3, none⟩ = some (.int .u32 (m.pages : Int)) ∧ W.cell? ⟨b, 4, none⟩ = some (.int .u64 (m.keys : Int)) := by
  refine ⟨?_, ?_, ?_, ?_, ?_⟩ <;> (rw [cell_of_row W b _ _ 116 (0, 0) h]; rfl)
theorem box_kept {cs : Array Value} {t : TypeId} {w W : World} (hb : Below (w.heap.size + 1) (w.alloc (.cells cs t)) W) : W.heap[w.heap.size]? = some (.cells cs t (0, 0)) := by
  rw [hb.block _ (by omega)]; exact heap_alloc_new w _
theorem below_box {cs : Array Value} {t : TypeId} {w W : World} (hb : Below (w.heap.size + 1) (w.alloc (.cells cs t)) W) : Below w.heap.size w W :=
  (below_alloc0 (Below.refl w.heap.size w) _).trans ⟨hb.os, hb.tape, hb.output, by have := hb.size; simp at this; simpa using hb.size, fun i hi => hb.block i (by omega)⟩

set_option maxRecDepth 100000 in
set_option maxHeartbeats 2000000 in
theorem rput_no (m : Meta) (w : World) (h : m.Ok) (hm : ¬ MayBe m) :
    Calls Try.prog 72 #[m.val] w fun e w' => e = .returned (.tuple #[.slice none 0 0, .int .u16 80]) ∧ Below w.heap.size w w' := by
  have hmay := fun w => rmay_any m w h
  rw [decide_eq_false hm] at hmay
  simp only [Meta.val, Meta.cells] at hmay ⊢
  have HM := Lib.hid hmay
  clear hmay
  go_enter Try.func72, Try.ntmps72
  go_wp2_with fail
  refine (HM.out _).mono ?_
  rintro e w1 ⟨rfl, hb1⟩
  go_wp2
  go_ret2
  exact ⟨rfl, below_next0 (below_alloc0 (Below.refl _ _) _) hb1⟩

set_option maxRecDepth 100000 in
set_option maxHeartbeats 2000000 in
theorem put_no (m : Meta) (w : World) (h : m.Ok) (hm : ¬ MayBe m) :
    Calls Try.prog 71 #[m.val] w fun e w' => e = .returned (.tuple #[.slice none 0 0, .int .u16 80]) ∧ Below w.heap.size w w' := by
  have hmay := fun w => may_any m w h
  rw [decide_eq_false hm] at hmay
  simp only [Meta.val, Meta.cells] at hmay ⊢
  have HM := Lib.hid hmay
  clear hmay
  go_enter Try.func71, Try.ntmps71
  go_wp2_with fail
  refine (HM.out _).mono ?_
  rintro e w1 ⟨rfl, hb1⟩
  go_wp2
  go_ret2
  exact ⟨rfl, below_next0 (below_alloc0 (Below.refl _ _) _) hb1⟩

set_option maxRecDepth 100000 in
set_option maxHeartbeats 2000000 in
theorem rput_ok (m : Meta) (w : World) (h : m.Ok) (hm : MayBe m) :
    Calls Try.prog 72 #[m.val] w fun e w' => ∃ v, e = .returned (.tuple #[v, .int .u16 0]) ∧ Buf w.heap.size w' v (sector m) ∧ Below w.heap.size w w' ∧ w.heap.size ≤ w'.heap.size := by
  have hmay := fun w => rmay_any m w h
  rw [decide_eq_true hm] at hmay
  simp only [Meta.val, Meta.cells] at hmay ⊢
  have HM := Lib.hid hmay
  clear hmay hm
  have hBY0 : Bytes ([67, 77, 69, 84] ++ le m.gen 8 ++ le m.root 4 ++ le m.free 4 ++ le m.pages 4 ++ le m.keys 8) := metaBytes_bytes m
  have hBY := Lib.hid hBY0
  clear hBY0
  have hst : Hid (sector m = closed (fill ([67, 77, 69, 84] ++ le m.gen 8 ++ le m.root 4 ++ le m.free 4 ++ le m.pages 4 ++ le m.keys 8) 124)) := Lib.hid rfl
  generalize sector m = S at hst
  have hg := h.gen
  have hr := h.root
  have hf := h.free
  have hp := h.pages
  have hk := h.keys
  go_enter Try.func72, Try.ntmps72
  go_wp2_with fail
  refine (HM.out _).mono ?_
  rintro e w1 ⟨rfl, hb1⟩
  replace hb1 : Below (w.heap.size + 1) (w.alloc (.cells m.cells 116)) w1 := by
    have := hb1
    rw [show (w.alloc (Obj.cells #[Value.int IntKind.u64 (m.gen : Int), Value.int IntKind.u32 (m.root : Int), Value.int IntKind.u32 (m.free : Int), Value.int IntKind.u32 (m.pages : Int), Value.int IntKind.u64 (m.keys : Int)] 116)).heap.size = w.heap.size + 1 by simp] at this
    exact this
  have hs1 : w.heap.size + 1 ≤ w1.heap.size := by have := hb1.size; simp at this; exact this
  go_wp2_with (at_builtin; go_loud (refine buf_append_str (w0 := w.alloc (.cells m.cells 116)) rfl (.tmp 10) (.const (.string ⟨#[67, 77, 69, 84]⟩)) rfl Try.underlying23 Try.underlying9 Try.info5 (w.heap.size + 1) rfl ⟨#[67, 77, 69, 84]⟩ [67, 77, 69, 84] rfl (by rfl) (by simp) (by simp) hs1 hb1 ?_); intro v2 w2 hv2 hb2 hs2; obtain ⟨c0, c1, c2, c3, c4⟩ := meta_cells (box_kept hb2))
  refine (put_any (w.heap.size + 1) _ [67, 77, 69, 84] m.gen 8 _ hs2 hv2 (by simp) (by omega) (by omega)).mono ?_
  rintro e w3 ⟨v3, rfl, hv3, hb3, hs3⟩
  clear c0 c1 c2 c3 c4
  replace hb3 := hb2.trans hb3
  obtain ⟨c0, c1, c2, c3, c4⟩ := meta_cells (box_kept hb3)
  have hl3 : ([67, 77, 69, 84] ++ le m.gen 8).length = 12 := by simp [le_length]
  generalize [67, 77, 69, 84] ++ le m.gen 8 = b3 at hv3 hl3 hst hBY
  have HL3 := Lib.hid hl3
  clear hl3
  go_wp2_with fail
  refine (put_any (w.heap.size + 1) _ b3 m.root 4 _ hs3 hv3 (by rw [HL3.out]; omega) (by omega) (by omega)).mono ?_
  rintro e w4 ⟨v4, rfl, hv4, hb4, hs4⟩
  clear c0 c1 c2 c3 c4
  replace hb4 := hb3.trans hb4
  obtain ⟨c0, c1, c2, c3, c4⟩ := meta_cells (box_kept hb4)
  have hl4 : (b3 ++ le m.root 4).length = 16 := by rw [List.length_append, HL3.out, le_length]
  generalize b3 ++ le m.root 4 = b4 at hv4 hl4 hst hBY
  have HL4 := Lib.hid hl4
  clear hl4
  go_wp2_with fail
  refine (put_any (w.heap.size + 1) _ b4 m.free 4 _ hs4 hv4 (by rw [HL4.out]; omega) (by omega) (by omega)).mono ?_
  rintro e w5 ⟨v5, rfl, hv5, hb5, hs5⟩
  clear c0 c1 c2 c3 c4
  replace hb5 := hb4.trans hb5
  obtain ⟨c0, c1, c2, c3, c4⟩ := meta_cells (box_kept hb5)
  have hl5 : (b4 ++ le m.free 4).length = 20 := by rw [List.length_append, HL4.out, le_length]
  generalize b4 ++ le m.free 4 = b5 at hv5 hl5 hst hBY
  have HL5 := Lib.hid hl5
  clear hl5
  go_wp2_with fail
  refine (put_any (w.heap.size + 1) _ b5 m.pages 4 _ hs5 hv5 (by rw [HL5.out]; omega) (by omega) (by omega)).mono ?_
  rintro e w6 ⟨v6, rfl, hv6, hb6, hs6⟩
  clear c0 c1 c2 c3 c4
  replace hb6 := hb5.trans hb6
  obtain ⟨c0, c1, c2, c3, c4⟩ := meta_cells (box_kept hb6)
  have hl6 : (b5 ++ le m.pages 4).length = 24 := by rw [List.length_append, HL5.out, le_length]
  generalize b5 ++ le m.pages 4 = b6 at hv6 hl6 hst hBY
  have HL6 := Lib.hid hl6
  clear hl6
  go_wp2_with fail
  refine (put_any (w.heap.size + 1) _ b6 m.keys 8 _ hs6 hv6 (by rw [HL6.out]; omega) (by omega) (by omega)).mono ?_
  rintro e w7 ⟨v7, rfl, hv7, hb7, hs7⟩
  clear c0 c1 c2 c3 c4
  replace hb7 := hb6.trans hb7
  obtain ⟨c0, c1, c2, c3, c4⟩ := meta_cells (box_kept hb7)
  have hl7 : (b6 ++ le m.keys 8).length = 32 := by rw [List.length_append, HL6.out, le_length]
  generalize b6 ++ le m.keys 8 = b7 at hv7 hl7 hst hBY
  have HL7 := Lib.hid hl7
  clear hl7
  go_wp2_with fail
  refine (rfilled_any (w.heap.size + 1) _ b7 124 _ hs7 hv7 hBY.out (by rw [HL7.out]; omega) (by omega)).mono ?_
  rintro e w8 ⟨v8, rfl, hv8, hb8, hs8⟩
  go_wp2
  go_ret2
  exact ⟨_, rfl, by rw [hst.out]; exact own_base_mono hv8 (by omega), below_box (hb7.trans hb8), by omega⟩
end Go.Proofs.Ytfbjjblgcgjndaa

/- Contract of page.PutMeta. -/
namespace Go.Proofs.Ytfbjjblgcgjndaa
open Go.RowKit

theorem At.byte (W : World) (x b : Nat) (hb : b = W.heap.size) : At (W.alloc (.cells #[.int .u8 ((x : Int) % 256)] 5)) (some ⟨b, 0, none⟩) (ns .u8 [x % 256]) := by
  have := At.box W (.int .u8 ((x % 256 : Nat) : Int)) 5 b hb
  exact this
/-- a slice's own block is the elder one's, or new -/
def Fresh (w : World) (r c : Option Nat) : Prop := c = r ∨ ∃ b, c = some b ∧ w.heap.size ≤ b
theorem grown_step {w wr w1 : World} {r c : Option Nat} (h : w.grownBy wr r) (hc : Fresh w r c) (k : wr.grownBy w1 c) : w.grownBy w1 r :=
  ⟨k.os.trans h.os, k.tape.trans h.tape, k.output.trans h.output, Nat.le_trans h.size k.size, fun i hi hne => by
    rw [k.block i (Nat.lt_of_lt_of_le hi h.size) ?_]
    · exact h.block i hi hne
    · rcases hc with rfl | ⟨b, rfl, hb⟩
      · exact hne
      · intro e; injection e with e; omega⟩
theorem fresh_step {w wr : World} {r c d : Option Nat} (hs : w.heap.size ≤ wr.heap.size) (hc : Fresh w r c) (hd : Fresh wr c d) : Fresh w r d := by
  rcases hd with rfl | ⟨b, rfl, hb⟩
  · exact hc
  · exact .inr ⟨b, rfl, by omega⟩
theorem Fresh.refl (w : World) (r : Option Nat) : Fresh w r r := .inl rfl
theorem grown_alloc {w : World} (o : Obj) (r : Option Nat) : w.grownBy (w.alloc o) r := ⟨rfl, rfl, rfl, by simp, fun i hi _ => heap_alloc_old w _ hi⟩
theorem fresh_alloc {w : World} {o : Obj} {r d : Option Nat} (h : Fresh (w.alloc o) r d) : Fresh w r d := by
  rcases h with rfl | ⟨b, rfl, hb⟩
  · exact .inl rfl
  · exact .inr ⟨b, rfl, by simp at hb; omega⟩

theorem buf_append2 {P : Program} {ops : Array Oper} {rest : List Oper} {o : Oper} {a : Act} {w : World} {Q : Exit → Act → World → Prop} (hgd : o.guard = none) (s x : Operand)
    (ho : o.op = .call { callee := .builtin .append, args := #[s, x], argTypes := #[23, 23] })
    (ht : P.underlying 23 = some (.slice 5)) (hinfo : (P.info? 5).map (fun i => (i.zero, i.size, i.bytes)) = some (some (.int .u8 0), 1, 1))
    (n0 : Nat) (v : Value) (l : List Nat) (hs : a.eval s = v) (hown : Buf n0 w v l)
    (A : Option Addr) (m c : Nat) (l2 : List Nat) (hx : a.eval x = .slice A m c) (hm : m = l2.length) (hAt : At w A (ns .u8 l2)) (hnil : A = none → c = 0)
    (hsm : l.length + l2.length ≤ 140737488355328) (hbase : n0 ≤ w.heap.size)
    (h : ∀ v' w', Buf n0 w' v' (l ++ l2) → w.grownBy w' v.ownBlock → Fresh w v.ownBlock v'.ownBlock → wpList P ops Q rest (a.put o.dst v') w') :
    wpList P ops Q (o :: rest) a w := by
  subst hm
  refine wp_append hgd s x 23 5 (.int .u8 0) 1 1 ho ht hinfo rfl (by decide) n0 v l.length (ns .u8 l) hs hown A l2.length c (ns .u8 l2) hx (by simp [ns]) hAt hnil (ns_one _ _) (by omega) (by omega) hbase ?_
  intro v1 w1 h1 h2 h3
  refine h v1 w1 ?_ h2 h3
  unfold Buf
  rw [List.length_append, ns_append]; exact h1

set_option maxRecDepth 100000 in
set_option maxHeartbeats 1000000 in
theorem low_own (n0 : Nat) (v : Value) (l : List Nat) (n many : Nat) (w : World) (hn0 : n0 ≤ w.heap.size) (hv : Buf n0 w v l) (hl : l.length ≤ 1000000) (hn : n < 18446744073709551616) (hm : many ≤ 8) :
    Calls Try.prog 131 #[v, .int .u64 (n : Int), .int .i64 (many : Int)] w fun e w' => ∃ v', e = .returned v' ∧ Buf n0 w' v' (l ++ le n many) ∧ w.grownBy w' v.ownBlock ∧ Fresh w v.ownBlock v'.ownBlock := by
  go_enter Try.func131, Try.ntmps131
  go_wp2
  go_loopw [0, 1, 8] (fun b x i wr => ∃ k : Nat, k ≤ many ∧ i = .int .i64 k ∧ x = .int .u64 ((n / 256 ^ k : Nat) : Int) ∧ Buf n0 wr b (l ++ le n k) ∧ w.grownBy wr v.ownBlock ∧ Fresh w v.ownBlock b.ownBlock) (fun _ _ i _ => many - (intOf i).toNat)
  case atStart => exact ⟨0, by omega, rfl, by simp, by simpa [le] using hv, World.grownBy.refl _ _, Fresh.refl _ _⟩
  case round =>
    clear hv
    obtain ⟨k, hk, rfl, rfl, hv, hb, hfr⟩ := hrel
    have hs := hb.size
    have hx : n / 256 ^ k < 18446744073709551616 := Nat.lt_of_le_of_lt (Nat.div_le_self _ _) hn
    have hnext := Lib.hid (div256 n k)
    have hles := Lib.hid (le_succ n k)
    have hlen : (l ++ le n k).length = l.length + k := by simp [le_length]
    have HL := Lib.hid hlen
    clear hlen
    generalize n / 256 ^ k = x at hx hnext hles
    by_cases hlt : k < many
    · go_wp2_with (at_builtin; go_loud (refine buf_append2 rfl (.tmp 10) (.tmp 13) rfl Try.underlying23 Try.info5 n0 u0 (l ++ le n k) rfl (Buf.below hv (below_alloc0 (Below.refl _ _) _)) (some ⟨wr.heap.size, 0, none⟩) 1 1 [x % 256] rfl rfl ?_ (by simp) (by rw [HL.out]; simp; omega) ?_ ?_); rotate_left; rotate_left; intro v1 w1 hv1 hg1 hf1)
      go_roundw
      case rel => exact ⟨k + 1, by omega, by go_num, by rw [← hnext.out]; go_num, by rw [hles.out, ← List.append_assoc]; exact hv1, grown_step hb hfr ((grown_alloc _ _).trans hg1), fresh_step hs hfr (fresh_alloc hf1)⟩
      case measure => simp [intOf]; omega
      · exact At.byte wr x wr.heap.size rfl
      · simp; omega
    · obtain rfl : k = many := by omega
      go_wp2
      go_ret
      exact ⟨_, rfl, hv, hb, hfr⟩
end Go.Proofs.Ytfbjjblgcgjndaa

/- Contract of page.PutMeta. -/
namespace Go.Proofs.Ytfbjjblgcgjndaa
open Go.RowKit

def quads (l : List Nat) : List Nat := l.flatMap fun n => le n 4
theorem quads_take (l : List Nat) (k : Nat) (h : k < l.length) : quads (l.take (k + 1)) = quads (l.take k) ++ le (nth l k) 4 := by
  rw [take_nth l k h]; simp [quads]
theorem quads_length (l : List Nat) : (quads l).length = 4 * l.length := by
  induction l with
  | nil => rfl
  | cons a l ih => simp [quads] at ih ⊢; rw [le_length]; omega
theorem own_lt {n0 : Nat} {w : World} {v : Value} {l : List Nat} (h : Buf n0 w v l) (k : Nat) (hk : v.ownBlock = some k) : k < w.heap.size := (World.ownsRow.lt h k hk).2

/-- append of one byte onto what is full -/
theorem append_full {P : Program} {ops : Array Oper} {rest : List Oper} {o : Oper} {a : Act} {w : World} {Q : Exit → Act → World → Prop} (hgd : o.guard = none) (s x : Operand)
    (ho : o.op = .call { callee := .builtin .append, args := #[s, x], argTypes := #[23, 23] })
    (ht : P.underlying 23 = some (.slice 5)) (hinfo : (P.info? 5).map (fun i => (i.zero, i.size, i.bytes)) = some (some (.int .u8 0), 1, 1))
    (n0 g n : Nat) (l : List Nat) (hn : n = l.length) (hs : a.eval s = .slice (some ⟨g, 0, none⟩) n n) (hA0 : At w (some ⟨g, 0, none⟩) (ns .u8 l))
    (ad : Addr) (c : Nat) (l2 : List Nat) (hx : a.eval x = .slice (some ad) 1 c) (hm : l2.length = 1) (hAt : At w (some ad) (ns .u8 l2))
    (hsm : l.length ≤ 1000000) (hbase : n0 ≤ w.heap.size)
    (h : ∀ v' w', Buf n0 w' v' (l ++ l2) → w.grownBy w' none → wpList P ops Q rest (a.put o.dst v') w') :
    wpList P ops Q (o :: rest) a w := by
  subst hn
  obtain ⟨i0, hi, hzz⟩ := Option.map_eq_some_iff.1 hinfo
  simp only [Prod.mk.injEq] at hzz
  obtain ⟨hz0, hz1, hz2⟩ := hzz
  have hcells : ∀ (ad : Addr) (l : List Nat), At w (some ad) (ns .u8 l) → ∀ j u, (ns .u8 l)[j]? = some u → w.cell? (ad.add j) = some u := fun ad l hA j u hu => by
    obtain ⟨b, o, e, hr⟩ := hA (by intro hn; rw [hn] at hu; simp at hu)
    cases e
    rw [Addr.add_mid]; exact hr j u hu
  refine wpList_append_grows w hgd s x 23 ho 5 i0 (.int .u8 0) 1 1 ht hi hz0 hz1 hz2 rfl (by decide) (some ⟨g, 0, none⟩) l.length l.length (ns .u8 l) hs (by intro e; cases e) (by simp [ns]) (fun b hb j u hu => by cases hb; exact hcells _ l hA0 j u hu) ad 1 c (ns .u8 l2) hx (by simp [ns, hm]) (hcells _ l2 hAt) (ns_one _ _) (by omega) (by simp only [maxLen]; omega) (by omega) ?_
  intro v1 w1 h1 h2
  refine h v1 w1 (own_base_mono ?_ hbase) h2
  unfold Buf
  rw [List.length_append, ns_append, hm]; exact h1

set_option maxRecDepth 100000 in
set_option maxHeartbeats 1000000 in
theorem low_full (n0 g c : Nat) (l : List Nat) (n many : Nat) (w : World) (hn0 : n0 ≤ w.heap.size) (hc : c = l.length) (hA : At w (some ⟨g, 0, none⟩) (ns .u8 l)) (hl : l.length ≤ 1000) (hn : n < 18446744073709551616) (hm0 : 0 < many) (hm : many ≤ 8) :
    Calls Try.prog 131 #[.slice (some ⟨g, 0, none⟩) c c, .int .u64 (n : Int), .int .i64 (many : Int)] w fun e w' => ∃ v', e = .returned v' ∧ Buf n0 w' v' (l ++ le n many) ∧ Below n0 w w' ∧ n0 ≤ w'.heap.size := by
  go_enter Try.func131, Try.ntmps131
  go_wp2
  go_loopw [0, 1, 8] (fun b x i wr => ∃ k : Nat, k ≤ many ∧ i = .int .i64 k ∧ x = .int .u64 ((n / 256 ^ k : Nat) : Int) ∧ ((k = 0 ∧ b = .slice (some ⟨g, 0, none⟩) c c ∧ wr = w) ∨ (0 < k ∧ Buf n0 wr b (l ++ le n k))) ∧ Below n0 w wr ∧ n0 ≤ wr.heap.size) (fun _ _ i _ => many - (intOf i).toNat)
  case atStart => exact ⟨0, by omega, rfl, by simp, .inl ⟨rfl, rfl, rfl⟩, Below.refl _ _, hn0⟩
  case round =>
    obtain ⟨k, hk, rfl, rfl, hv, hb, hs⟩ := hrel
    have hx : n / 256 ^ k < 18446744073709551616 := Nat.lt_of_le_of_lt (Nat.div_le_self _ _) hn
    have hnext := Lib.hid (div256 n k)
    have hles := Lib.hid (le_succ n k)
    have hlen : (l ++ le n k).length = l.length + k := by simp [le_length]
    have HL := Lib.hid hlen
    clear hlen
    rcases hv with ⟨rfl, rfl, rfl⟩ | ⟨hk0, hv⟩
    · generalize n / 256 ^ 0 = x at hx hnext hles
      have hAx := hA.below (below_alloc0 (Below.refl _ _) (.cells #[.int .u8 ((x : Int) % 256)] 5))
      go_wp2_with (at_builtin; go_loud (refine append_full rfl (.tmp 10) (.tmp 13) rfl Try.underlying23 Try.info5 n0 g c l hc rfl hAx ⟨wr.heap.size, 0, none⟩ 1 [x % 256] rfl rfl (At.byte wr x wr.heap.size rfl) (by omega) (by simp; omega) ?_); intro v1 w1 hv1 hg1)
      go_roundw
      case rel =>
        have hs1 := hg1.size
        simp at hs1
        refine ⟨1, by omega, by go_num, by rw [← hnext.out]; go_num, .inr ⟨by omega, ?_⟩, ?_, by omega⟩
        · have := hles.out
          simp only [Nat.zero_add] at this
          rw [this]
          simpa [le] using hv1
        · exact below_grown (hb.alloc hs _) hg1 (by simp; omega) (by simp)
      case measure => simp [intOf]; omega
    · generalize n / 256 ^ k = x at hx hnext hles
      by_cases hlt : k < many
      · go_wp2_with (at_builtin; go_loud (refine buf_append (w0 := w) rfl (.tmp 10) (.tmp 13) rfl Try.underlying23 Try.info5 n0 u0 (l ++ le n k) rfl (Buf.below hv (below_alloc0 (Below.refl _ _) _)) (some ⟨wr.heap.size, 0, none⟩) 1 1 [x % 256] rfl rfl (At.byte wr x wr.heap.size rfl) (by simp) (by rw [HL.out]; simp; omega) (by simp; omega) (hb.alloc hs _) ?_); intro v1 w1 hv1 hb1 hs1)
        go_roundw
        case rel => exact ⟨k + 1, by omega, by go_num, by rw [← hnext.out]; go_num, .inr ⟨by omega, by rw [hles.out, ← List.append_assoc]; exact hv1⟩, hb1, hs1⟩
        case measure => simp [intOf]; omega
      · obtain rfl : k = many := by omega
        go_wp2
        go_ret
        exact ⟨_, rfl, hv, hb, hs⟩
end Go.Proofs.Ytfbjjblgcgjndaa

/- Contract of page.PutMeta. -/
namespace Go.Proofs.Ytfbjjblgcgjndaa
open Go.RowKit

set_option maxRecDepth 100000 in
set_option maxHeartbeats 2000000 in
theorem put_ok (m : Meta) (w : World) (h : m.Ok) (hm : MayBe m) :
    Calls Try.prog 71 #[m.val] w fun e w' => ∃ v, e = .returned (.tuple #[v, .int .u16 0]) ∧ Buf w.heap.size w' v (sector m) ∧ Below w.heap.size w w' ∧ w.heap.size ≤ w'.heap.size := by
  have hmay := fun w => may_any m w h
  rw [decide_eq_true hm] at hmay
  simp only [Meta.val, Meta.cells] at hmay ⊢
  have HM := Lib.hid hmay
  clear hmay hm
  have e0 : metaBytes m = ([67, 77, 69, 84] ++ le m.gen 8) ++ quads [m.root, m.free, m.pages] ++ le m.keys 8 := by simp [metaBytes, quads]
  have hBY0 : Bytes (([67, 77, 69, 84] ++ le m.gen 8) ++ quads [m.root, m.free, m.pages] ++ le m.keys 8) := e0 ▸ metaBytes_bytes m
  have hBY := Lib.hid hBY0
  clear hBY0
  have hst : Hid (sector m = closed (fill (([67, 77, 69, 84] ++ le m.gen 8) ++ quads [m.root, m.free, m.pages] ++ le m.keys 8) 124)) := Lib.hid (by rw [← e0]; rfl)
  clear e0
  generalize sector m = S at hst
  have hg := h.gen
  have hr := h.root
  have hf := h.free
  have hp := h.pages
  have hk := h.keys
  have kc := fun (w : World) (C : Array Value) (n c : Nat) => Lib.run_convert_bytes_const (P := Try.prog) w 23 5 C n c Try.underlying23 Try.underlying5
  go_enter Try.func71, Try.ntmps71
  go_wp2_with fail
  refine (HM.out _).mono ?_
  rintro e w1 ⟨rfl, hb1⟩
  replace hb1 : Below (w.heap.size + 1) (w.alloc (.cells m.cells 116)) w1 := by
    have := hb1
    rw [show (w.alloc (Obj.cells #[Value.int IntKind.u64 (m.gen : Int), Value.int IntKind.u32 (m.root : Int), Value.int IntKind.u32 (m.free : Int), Value.int IntKind.u32 (m.pages : Int), Value.int IntKind.u64 (m.keys : Int)] 116)).heap.size = w.heap.size + 1 by simp] at this
    exact this
  have hs1 : w.heap.size + 1 ≤ w1.heap.size := by have := hb1.size; simp at this; exact this
  have hb2 := hb1.alloc hs1 (.cells (ns .u8 [67, 77, 69, 84]).toArray 5 (4, 5))
  have hA2 : At (w1.alloc (.cells (ns .u8 [67, 77, 69, 84]).toArray 5 (4, 5))) (some ⟨w1.heap.size, 0, none⟩) (ns .u8 [67, 77, 69, 84]) := At.whole (heap_alloc_new w1 _)
  have hs2 : w.heap.size + 1 ≤ (w1.alloc (.cells (ns .u8 [67, 77, 69, 84]).toArray 5 (4, 5))).heap.size := by simp; omega
  have e2 : w1.alloc (.cells (ns .u8 [67, 77, 69, 84]).toArray 5 (4, 5)) = w1.alloc (.cells #[.int .u8 67, .int .u8 77, .int .u8 69, .int .u8 84] 5 (4, 5)) := rfl
  rw [e2] at hb2 hA2 hs2
  clear e2
  obtain ⟨c0, c1, c2, c3, c4⟩ := meta_cells (box_kept hb2)
  go_wp2_with fail
  generalize w1.alloc (.cells #[.int .u8 67, .int .u8 77, .int .u8 69, .int .u8 84] 5 (4, 5)) = w2 at hb2 hA2 hs2 ⊢
  refine (low_full (w.heap.size + 1) w1.heap.size 4 [67, 77, 69, 84] m.gen 8 w2 hs2 rfl hA2 (by simp) (by omega) (by omega) (by omega)).mono ?_
  rintro e w3 ⟨v3, rfl, hv3, hb3, hs3⟩
  clear c0 c1 c2 c3 c4 hA2
  replace hb3 := hb2.trans hb3
  clear hb2 hs2
  obtain ⟨c0, c1, c2, c3, c4⟩ := meta_cells (box_kept hb3)
  have hl3 : ([67, 77, 69, 84] ++ le m.gen 8).length = 12 := by simp [le_length]
  generalize [67, 77, 69, 84] ++ le m.gen 8 = b3 at hv3 hl3 hst hBY
  have HL3 := Lib.hid hl3
  clear hl3
  have hnb : v3.ownBlock ≠ some w3.heap.size := fun e => by have := own_lt hv3 _ e; omega
  have hq0 : quads [m.root, m.free, m.pages] = quads ([m.root, m.free, m.pages].take 3) := by simp
  rw [hq0] at hBY hst
  clear hq0
  have hnums : ∀ x ∈ [m.root, m.free, m.pages], x < 4294967296 := by intro x hx; simp at hx; omega
  have hnl : [m.root, m.free, m.pages].length = 3 := rfl
  go_wp2
  have hcs : w3.alloc (.cells #[.int .u32 (m.root : Int), .int .u32 (m.free : Int), .int .u32 (m.pages : Int)] 22) = w3.alloc (.cells (ns .u32 [m.root, m.free, m.pages]).toArray 22) := rfl
  rw [hcs]
  clear hcs
  generalize [m.root, m.free, m.pages] = nums at hBY hst hnums hnl
  have hbox : (w3.alloc (.cells (ns .u32 nums).toArray 22)).heap[w3.heap.size]? = some (.cells (ns .u32 nums).toArray 22 (0, 0)) := heap_alloc_new w3 _
  have hb4 := hb3.alloc hs3 (.cells (ns .u32 nums).toArray 22)
  have hs4 : w3.heap.size + 1 ≤ (w3.alloc (.cells (ns .u32 nums).toArray 22)).heap.size := by simp
  have hv4 := hv3.below (below_alloc0 (Below.refl _ _) (.cells (ns .u32 nums).toArray 22))
  have hsm : w3.heap.size < (w3.alloc (.cells (ns .u32 nums).toArray 22)).heap.size := by simp
  generalize w3.alloc (.cells (ns .u32 nums).toArray 22) = W at hbox hb4 hs4 hv4 hsm ⊢
  clear c0 c1 c2 c3 c4
  have HBase := Lib.hid hv3.base
  have hvbase : ∀ k, v3.ownBlock = some k → w.heap.size + 1 ≤ k := hv3.base
  clear hv3
  go_loopw [4, 23] (fun b i wr => ∃ k : Nat, k ≤ 3 ∧ i = .int .i64 k ∧ Buf (w.heap.size + 1) wr b (b3 ++ quads (nums.take k)) ∧ W.grownBy wr v3.ownBlock ∧ Fresh W v3.ownBlock b.ownBlock) (fun _ i _ => 3 - (intOf i).toNat)
  case atStart => exact ⟨0, by omega, rfl, by simpa [quads] using hv4, World.grownBy.refl _ _, Fresh.refl _ _⟩
  case round =>
    clear hv4
    obtain ⟨k, hk, rfl, hv, hg1, hf1⟩ := hrel
    have hgs := hg1.size
    have hbel : Below (w.heap.size + 1) (w.alloc (.cells m.cells 116)) wr := below_grown hb4 hg1 (by omega) hvbase
    have hlen : (b3 ++ quads (nums.take k)).length = 12 + 4 * k := by
      rw [List.length_append, HL3.out, quads_length, List.length_take]; omega
    have HL := Lib.hid hlen
    clear hlen
    by_cases hlt : k < 3
    · have hc : wr.cell? ⟨w3.heap.size, k, none⟩ = some (.int .u32 (nth nums k : Int)) := by
        rw [cell_of_row wr w3.heap.size k _ 22 (0, 0) (by rw [hg1.block _ hsm (fun e => hnb e.symm)]; exact hbox)]
        simpa using ns_get .u32 nums k (by omega)
      have hnk := hnums _ (nth_mem nums k (by omega))
      have hqt := Lib.hid (quads_take nums k (by omega))
      go_wp2_with fail
      refine (low_own (w.heap.size + 1) _ _ (nth nums k) 4 wr (by omega) hv (by rw [HL.out]; omega) (by omega) (by omega)).mono ?_
      rintro e w5 ⟨v5, rfl, hv5, hg5, hf5⟩
      go_wp2
      go_roundw
      case rel => exact ⟨k + 1, by omega, by go_num, by rw [hqt.out, ← List.append_assoc]; exact hv5, grown_step hg1 hf1 hg5, fresh_step hgs hf1 hf5⟩
      case measure => simp [intOf]; omega
    · obtain rfl : k = 3 := by omega
      obtain ⟨c0, c1, c2, c3, c4⟩ := meta_cells (box_kept hbel)
      generalize b3 ++ quads (nums.take 3) = b4 at hv hst hBY HL
      go_wp2_with fail
      refine (low_any (w.heap.size + 1) _ b4 m.keys 8 wr (by omega) hv (by rw [HL.out]; omega) (by omega) (by omega)).mono ?_
      rintro e w6 ⟨v6, rfl, hv6, hb6, hs6⟩
      have hl6 : (b4 ++ le m.keys 8).length = 32 := by rw [List.length_append, HL.out, le_length]
      generalize b4 ++ le m.keys 8 = b5 at hv6 hl6 hst hBY
      have HL6 := Lib.hid hl6
      clear hl6
      go_wp2_with fail
      refine (filled_any (w.heap.size + 1) _ b5 124 _ hs6 hv6 hBY.out (by rw [HL6.out]; omega) (by omega)).mono ?_
      rintro e w7 ⟨v7, rfl, hv7, hb7, hs7⟩
      go_wp2
      go_ret2
      exact ⟨_, rfl, by rw [hst.out]; exact own_base_mono hv7 (by omega), below_box ((hbel.trans hb6).trans hb7), by omega⟩
end Go.Proofs.Ytfbjjblgcgjndaa

/- Contract of page.meta. -/
namespace Go.Proofs.Ytfbjjblgcgjndaa
open Go.RowKit

def metaOf (l : List Nat) : Meta := ⟨el (seg l 4 8), el (seg l 12 4), el (seg l 16 4), el (seg l 20 4), el (seg l 24 8)⟩
theorem metaOf_ok (l : List Nat) (hb : Bytes l) : (metaOf l).Ok := ⟨el_seg_lt l 4 8 hb, el_seg_lt l 12 4 hb, el_seg_lt l 16 4 hb, el_seg_lt l 20 4 hb, el_seg_lt l 24 8 hb⟩

theorem Reads.other {w0 w : World} {b : Nat} {r : Inner} (h : Reads w0 w b r) (g i : Nat) (v : Value) (hne : g ≠ b) (hg : w0.heap.size ≤ g) : Reads w0 (w.setCell ⟨g, i, none⟩ v) b r :=
  ⟨by rw [Below.heap_setCell _ _ _ _ (Ne.symm hne)]; exact h.cell, h.ok, h.below.setCell hg _, h.new⟩
theorem ErrBox.other {w : World} {g : Nat} {x : Int} (h : ErrBox w g x) (b i : Nat) (v : Value) (hne : b ≠ g) : ErrBox (w.setCell ⟨b, i, none⟩ v) g x := by
  unfold ErrBox
  rw [Below.heap_setCell _ _ _ _ (Ne.symm hne)]; exact h
/-- the start of meta -/
theorem begun (r : Inner) (w : World) (h : r.Ok w) (W : World) (cs : Array Value) (hW : W = ((w.alloc (.cells cs 116)).alloc (.cells #[.int .u16 0] 37)).alloc (.cells #[.slice r.A r.l.length r.c] 266)) :
    Reads w W (w.heap.size + 1 + 1) r ∧ ErrBox W (w.heap.size + 1) 0 ∧ W.heap[w.heap.size]? = some (.cells cs 116 (0, 0)) := by
  subst hW
  refine ⟨⟨?_, h, below_alloc0 (below_alloc0 (below_alloc0 (Below.refl _ _) _) _) _, by omega⟩, ?_, ?_⟩
  · rw [show w.heap.size + 1 + 1 = ((w.alloc (.cells cs 116)).alloc (.cells #[.int .u16 0] 37)).heap.size by simp]
    exact heap_alloc_new _ _
  · unfold ErrBox
    rw [heap_alloc_old _ _ (by simp)]
    rw [show w.heap.size + 1 = (w.alloc (.cells cs 116)).heap.size by simp]
    exact heap_alloc_new _ _
  · rw [heap_alloc_old _ _ (by simp; omega), heap_alloc_old _ _ (by simp)]
    exact heap_alloc_new _ _

/-- the variable of the state, in a block of its own -/
def MetaBox (w : World) (b : Nat) (m : Meta) : Prop := w.heap[b]? = some (.cells m.cells 116 (0, 0))
theorem MetaBox.grown {w w1 : World} {g b : Nat} {m : Meta} (h : MetaBox w g m) (hg : w.grownBy w1 (some b)) (hne : g ≠ b) : MetaBox w1 g m := by
  unfold MetaBox
  rw [hg.block g (Array.getElem?_eq_some_iff.1 h).1 (by intro e; injection e with e; exact hne e)]
  exact h
theorem results_meta (tmps : Array Value) (b g : Nat) (m : Meta) (w : World) (h2 : tmps.getD 2 undef = .pointer (some ⟨b, 0, none⟩)) (h3 : tmps.getD 3 undef = .pointer (some ⟨g, 0, none⟩)) (hM : MetaBox w b m) (hE : ErrBox w g 0) :
    (results Try.f141 tmps).run Try.prog w = .ok (.tuple #[.agg #[.int .u64 (m.gen : Int), .int .u32 (m.root : Int), .int .u32 (m.free : Int), .int .u32 (m.pages : Int), .int .u64 (m.keys : Int)], .int .u16 0]) w := by
  obtain ⟨c0, c1, c2, c3, c4⟩ := meta_cells hM
  have ec : w.cell? ⟨g, 0, none⟩ = some (.int .u16 0) := by rw [cell_of_row w _ 0 _ 37 (0, 0) hE]; rfl
  simp [results, Try.results141, go_sem]
  simp [Array.getD_eq_getD_getElem?] at h2 h3
  simp [h2, h3, c0, c1, c2, c3, c4, ec, go_sem]
theorem seg_suf (r : Inner) (a k n : Nat) : el (((r.suf a).l).take n) = el (seg r.l a n) := rfl
theorem suf_suf (r : Inner) (a b n : Nat) : el ((((r.suf a).suf b).l).take n) = el (seg r.l (a + b) n) := by rw [suf_suf_l]; rfl

set_option maxRecDepth 100000 in
set_option maxHeartbeats 2000000 in
theorem meta_any (r : Inner) (w : World) (h : r.Ok w) (h32 : 32 ≤ r.l.length) :
    Calls Try.prog 141 #[.slice r.A r.l.length r.c] w fun e w' => e = .returned (.tuple #[(metaOf r.l).val, .int .u16 0]) ∧ Below w.heap.size w w' := by
  have hsmall := h.small
  have hle := h.le
  have n1 : w.heap.size + 1 ≠ w.heap.size + 1 + 1 := by omega
  have n2 : w.heap.size ≠ w.heap.size + 1 + 1 := by omega
  have n3 : w.heap.size ≠ w.heap.size + 1 := by omega
  go_enter_defers Try.func141, Try.ntmps141
  go_wp2_with fail
  generalize hW : ((w.alloc (Obj.cells #[Value.int IntKind.u64 0, Value.int IntKind.u32 0, Value.int IntKind.u32 0, Value.int IntKind.u32 0, Value.int IntKind.u64 0] 116)).alloc (Obj.cells #[Value.int IntKind.u16 0] 37)).alloc (Obj.cells #[Value.slice r.A r.l.length r.c] 266) = W0
  obtain ⟨hr0, hE0, hM0⟩ := begun r w h W0 _ hW.symm
  change MetaBox W0 w.heap.size ⟨0, 0, 0, 0, 0⟩ at hM0
  clear hW
  refine (take_ok hr0 4 (by omega)).mono ?_
  rintro e w1 ⟨rfl, hr1, hg1⟩
  have hE1 := hE0.grown hg1 n1
  have hM1 := hM0.grown hg1 n2
  clear hE0 hM0
  go_wp2_with fail
  refine (number_ok hr1 8 (by rw [suf_length]; omega) (by omega)).mono ?_
  rintro e w2 ⟨rfl, hr2, hg2⟩
  rw [show el ((r.suf 4).l.take 8) = el (seg r.l 4 8) from rfl]
  have hE2 := hE1.grown hg2 n1
  have hM2 := hM1.grown hg2 n2
  clear hE1 hM1
  obtain ⟨c0, c1, c2, c3, c4⟩ := meta_cells hM2
  have f0 := frozen_of_row w2 _ 0 _ 116 hM2
  have hgx := (metaOf_ok r.l h.bytes).gen
  have hrx := (metaOf_ok r.l h.bytes).root
  have hfx := (metaOf_ok r.l h.bytes).free
  have hpx := (metaOf_ok r.l h.bytes).pages
  have hkx := (metaOf_ok r.l h.bytes).keys
  simp only [metaOf] at hgx hrx hfx hpx hkx
  have hval : (metaOf r.l).val = .agg #[.int .u64 ((el (seg r.l 4 8) : Nat) : Int), .int .u32 ((el (seg r.l 12 4) : Nat) : Int), .int .u32 ((el (seg r.l 16 4) : Nat) : Int), .int .u32 ((el (seg r.l 20 4) : Nat) : Int), .int .u64 ((el (seg r.l 24 8) : Nat) : Int)] := rfl
  have HV := Lib.hid hval
  clear hval
  have q1 : el ((((r.suf 4).suf 8).l).take 4) = el (seg r.l 12 4) := by simp [seg, Inner.suf]
  have q2 : el (((((r.suf 4).suf 8).suf 4).l).take 4) = el (seg r.l 16 4) := by simp [seg, Inner.suf]
  have q3 : el ((((((r.suf 4).suf 8).suf 4).suf 4).l).take 4) = el (seg r.l 20 4) := by simp [seg, Inner.suf]
  have q4 : el (((((((r.suf 4).suf 8).suf 4).suf 4).suf 4).l).take 8) = el (seg r.l 24 8) := by simp [seg, Inner.suf]
  have Q1 := Lib.hid q1
  have Q2 := Lib.hid q2
  have Q3 := Lib.hid q3
  have Q4 := Lib.hid q4
  clear q1 q2 q3 q4
  generalize el (seg r.l 4 8) = X0 at *
  generalize el (seg r.l 12 4) = X1 at *
  generalize el (seg r.l 16 4) = X2 at *
  generalize el (seg r.l 20 4) = X3 at *
  generalize el (seg r.l 24 8) = X4 at *
  go_wp2_with fail
  have hr2' := hr2.other w.heap.size 0 (.int .u64 (X0 : Int)) n2 (Nat.le_refl _)
  have hE2' := hE2.other w.heap.size 0 (.int .u64 (X0 : Int)) n3
  have hM2' : MetaBox (w2.setCell ⟨w.heap.size, 0, none⟩ (.int .u64 (X0 : Int))) w.heap.size ⟨X0, 0, 0, 0, 0⟩ := blk_set hM2 0 _
  generalize w2.setCell ⟨w.heap.size, 0, none⟩ (.int .u64 (X0 : Int)) = w3 at hr2' hE2' hM2' ⊢
  clear c0 c1 c2 c3 c4 f0 hr2 hE2 hM2
  refine (number_ok hr2' 4 (by rw [suf_length, suf_length]; omega) (by omega)).mono ?_
  rintro e w4 ⟨rfl, hr4, hg4⟩
  rw [Q1.out]
  have hE4 := hE2'.grown hg4 n1
  have hM4 := hM2'.grown hg4 n2
  clear hE2' hM2'
  go_wp2_with fail
  refine (number_ok hr4 4 (by rw [suf_length, suf_length, suf_length]; omega) (by omega)).mono ?_
  rintro e w5 ⟨rfl, hr5, hg5⟩
  rw [Q2.out]
  have hE5 := hE4.grown hg5 n1
  have hM5 := hM4.grown hg5 n2
  clear hE4 hM4
  go_wp2_with fail
  refine (number_ok hr5 4 (by rw [suf_length, suf_length, suf_length, suf_length]; omega) (by omega)).mono ?_
  rintro e w6 ⟨rfl, hr6, hg6⟩
  rw [Q3.out]
  have hE6 := hE5.grown hg6 n1
  have hM6 := hM5.grown hg6 n2
  clear hE5 hM5
  obtain ⟨c0, c1, c2, c3, c4⟩ := meta_cells hM6
  have f1 := frozen_of_row w6 _ 1 _ 116 hM6
  have f2 := frozen_of_row w6 _ 2 _ 116 hM6
  have f3 := frozen_of_row w6 _ 3 _ 116 hM6
  go_wp2_with fail
  have hr6' := ((hr6.other w.heap.size 1 (.int .u32 (X1 : Int)) n2 (Nat.le_refl _)).other w.heap.size 2 (.int .u32 (X2 : Int)) n2 (Nat.le_refl _)).other w.heap.size 3 (.int .u32 (X3 : Int)) n2 (Nat.le_refl _)
  have hE6' := ((hE6.other w.heap.size 1 (.int .u32 (X1 : Int)) n3).other w.heap.size 2 (.int .u32 (X2 : Int)) n3).other w.heap.size 3 (.int .u32 (X3 : Int)) n3
  have hM6' : MetaBox (((w6.setCell ⟨w.heap.size, 1, none⟩ (.int .u32 (X1 : Int))).setCell ⟨w.heap.size, 2, none⟩ (.int .u32 (X2 : Int))).setCell ⟨w.heap.size, 3, none⟩ (.int .u32 (X3 : Int))) w.heap.size ⟨X0, X1, X2, X3, 0⟩ := blk_set (blk_set (blk_set hM6 1 _) 2 _) 3 _
  generalize ((w6.setCell ⟨w.heap.size, 1, none⟩ (.int .u32 (X1 : Int))).setCell ⟨w.heap.size, 2, none⟩ (.int .u32 (X2 : Int))).setCell ⟨w.heap.size, 3, none⟩ (.int .u32 (X3 : Int)) = w7 at hr6' hE6' hM6' ⊢
  clear c0 c1 c2 c3 c4 f1 f2 f3 hr6 hE6 hM6
  refine (number_ok hr6' 8 (by rw [suf_length, suf_length, suf_length, suf_length, suf_length]; omega) (by omega)).mono ?_
  rintro e w8 ⟨rfl, hr8, hg8⟩
  rw [Q4.out]
  have hE8 := hE6'.grown hg8 n1
  have hM8 := hM6'.grown hg8 n2
  clear hE6' hM6'
  have hb8 := hr8.below.setCell (Nat.le_refl _) (.int .u64 (X4 : Int)) (p := ⟨w.heap.size, 4, none⟩)
  have hE9 := hE8.other w.heap.size 4 (.int .u64 (X4 : Int)) n3
  have hM9 : MetaBox (w8.setCell ⟨w.heap.size, 4, none⟩ (.int .u64 (X4 : Int))) w.heap.size ⟨X0, X1, X2, X3, X4⟩ := blk_set hM8 4 _
  obtain ⟨c0, c1, c2, c3, c4⟩ := meta_cells hM8
  have f4 := frozen_of_row w8 _ 4 _ 116 hM8
  go_upto_region 7 with (fail)
  clear c0 c1 c2 c3 c4 f4
  generalize w8.setCell ⟨w.heap.size, 4, none⟩ (.int .u64 (X4 : Int)) = w9 at hb8 hE9 hM9 ⊢
  obtain ⟨c0, c1, c2, c3, c4⟩ := meta_cells hM9
  have f0 := frozen_of_row w9 _ 0 _ 116 hM9
  have f1 := frozen_of_row w9 _ 1 _ 116 hM9
  have f2 := frozen_of_row w9 _ 2 _ 116 hM9
  have f3 := frozen_of_row w9 _ 3 _ 116 hM9
  have f4 := frozen_of_row w9 _ 4 _ 116 hM9
  have ec : w9.cell? ⟨w.heap.size + 1, 0, none⟩ = some (.int .u16 0) := by rw [cell_of_row w9 _ 0 _ 37 (0, 0) hE9]; rfl
  have ef := frozen_of_row w9 _ 0 _ 37 hE9
  have HM9 := Lib.hid hM9
  have HE9 := Lib.hid hE9
  clear hM9 hE9
  go_wp2
  have hMF : MetaBox ((((((w9.setCell ⟨w.heap.size, 0, none⟩ (.int .u64 (X0 : Int))).setCell ⟨w.heap.size, 1, none⟩ (.int .u32 (X1 : Int))).setCell ⟨w.heap.size, 2, none⟩ (.int .u32 (X2 : Int))).setCell ⟨w.heap.size, 3, none⟩ (.int .u32 (X3 : Int))).setCell ⟨w.heap.size, 4, none⟩ (.int .u64 (X4 : Int))).setCell ⟨w.heap.size + 1, 0, none⟩ (.int .u16 0)) w.heap.size ⟨X0, X1, X2, X3, X4⟩ := by
    unfold MetaBox
    rw [Below.heap_setCell _ _ _ _ n3]
    exact blk_set (blk_set (blk_set (blk_set (blk_set HM9.out 0 _) 1 _) 2 _) 3 _) 4 _
  have hEF : ErrBox ((((((w9.setCell ⟨w.heap.size, 0, none⟩ (.int .u64 (X0 : Int))).setCell ⟨w.heap.size, 1, none⟩ (.int .u32 (X1 : Int))).setCell ⟨w.heap.size, 2, none⟩ (.int .u32 (X2 : Int))).setCell ⟨w.heap.size, 3, none⟩ (.int .u32 (X3 : Int))).setCell ⟨w.heap.size, 4, none⟩ (.int .u64 (X4 : Int))).setCell ⟨w.heap.size + 1, 0, none⟩ (.int .u16 0)) (w.heap.size + 1) 0 :=
    blk_set (((((HE9.out.other _ _ _ n3).other _ _ _ n3).other _ _ _ n3).other _ _ _ n3).other _ _ _ n3) 0 _
  have hBF : Below w.heap.size w ((((((w9.setCell ⟨w.heap.size, 0, none⟩ (.int .u64 (X0 : Int))).setCell ⟨w.heap.size, 1, none⟩ (.int .u32 (X1 : Int))).setCell ⟨w.heap.size, 2, none⟩ (.int .u32 (X2 : Int))).setCell ⟨w.heap.size, 3, none⟩ (.int .u32 (X3 : Int))).setCell ⟨w.heap.size, 4, none⟩ (.int .u64 (X4 : Int))).setCell ⟨w.heap.size + 1, 0, none⟩ (.int .u16 0)) :=
    (((((hb8.setCell (Nat.le_refl _) _).setCell (Nat.le_refl _) _).setCell (Nat.le_refl _) _).setCell (Nat.le_refl _) _).setCell (Nat.le_refl _) _).setCell (Nat.le_succ _) _
  generalize (((((w9.setCell ⟨w.heap.size, 0, none⟩ (.int .u64 (X0 : Int))).setCell ⟨w.heap.size, 1, none⟩ (.int .u32 (X1 : Int))).setCell ⟨w.heap.size, 2, none⟩ (.int .u32 (X2 : Int))).setCell ⟨w.heap.size, 3, none⟩ (.int .u32 (X3 : Int))).setCell ⟨w.heap.size, 4, none⟩ (.int .u64 (X4 : Int))).setCell ⟨w.heap.size + 1, 0, none⟩ (.int .u16 0) = wF at hMF hEF hBF ⊢
  refine leaves_cons (f := 163) (args := #[.pointer (some ⟨w.heap.size + 1, 0, none⟩)]) (by simp) (by simp [go_sem]) ?_
  refine (guard_idle _ _).mono ?_
  rintro e u' w'' ⟨rfl, rfl, rfl⟩
  exact ⟨_, results_meta _ _ _ _ _ rfl rfl hMF hEF, by rw [HV.out], hBF⟩
end Go.Proofs.Ytfbjjblgcgjndaa

/- Contracts of page.GetMeta and of the reference's GetMeta. -/
namespace Go.Proofs.Ytfbjjblgcgjndaa
open Go.RowKit

def Meta.zero : Meta := ⟨0, 0, 0, 0, 0⟩
def IsMeta (l : List Nat) : Prop := 128 ≤ l.length ∧ MayBe (metaOf l) ∧ l.take 128 = sector (metaOf l)
instance (l : List Nat) : Decidable (IsMeta l) := inferInstanceAs (Decidable (_ ∧ _ ∧ _))

theorem results_box {fn : Func} {k j : Nat} (hf : fn.results = #[.cell k 116, .tmp j]) (tmps : Array Value) (b : Nat) (m : Meta) (x : Value) (w : World) (h2 : tmps.getD k undef = .pointer (some ⟨b, 0, none⟩)) (h3 : tmps.getD j undef = x) (hM : MetaBox w b m) :
    (results fn tmps).run Try.prog w = .ok (.tuple #[m.val, x]) w := by
  obtain ⟨c0, c1, c2, c3, c4⟩ := meta_cells hM
  simp [results, hf, go_sem]
  simp [Array.getD_eq_getD_getElem?] at h2 h3
  simp [h2, h3, c0, c1, c2, c3, c4, go_sem, Meta.val, Meta.cells]
theorem MetaBox.below {w w1 : World} {B g : Nat} {m : Meta} (h : MetaBox w g m) (hb : Below B w w1) (hg : g < B) : MetaBox w1 g m := by
  unfold MetaBox; rw [hb.block g hg]; exact h
theorem MetaBox.new (w : World) (m : Meta) : MetaBox (w.alloc (.cells m.cells 116)) w.heap.size m := heap_alloc_new w _
theorem MetaBox.old {w : World} {g : Nat} {m : Meta} (h : MetaBox w g m) (o : Obj) : MetaBox (w.alloc o) g m := by
  unfold MetaBox; rw [heap_alloc_old _ _ (Array.getElem?_eq_some_iff.1 h).1]; exact h
def setBox (w : World) (b : Nat) (m : Meta) : World := ((((w.setCell ⟨b, 0, none⟩ (.int .u64 (m.gen : Int))).setCell ⟨b, 1, none⟩ (.int .u32 (m.root : Int))).setCell ⟨b, 2, none⟩ (.int .u32 (m.free : Int))).setCell ⟨b, 3, none⟩ (.int .u32 (m.pages : Int))).setCell ⟨b, 4, none⟩ (.int .u64 (m.keys : Int))
theorem setBox_zero (w : World) (b : Nat) : ((((w.setCell ⟨b, 0, none⟩ (.int .u64 0)).setCell ⟨b, 1, none⟩ (.int .u32 0)).setCell ⟨b, 2, none⟩ (.int .u32 0)).setCell ⟨b, 3, none⟩ (.int .u32 0)).setCell ⟨b, 4, none⟩ (.int .u64 0) = setBox w b Meta.zero := rfl
theorem setBox_box {w : World} {b : Nat} {m n : Meta} (h : MetaBox w b m) : MetaBox (setBox w b n) b n := blk_set (blk_set (blk_set (blk_set (blk_set h 0 _) 1 _) 2 _) 3 _) 4 _
theorem setBox_below {w0 w : World} {b : Nat} (n : Meta) {B : Nat} (h : Below B w0 w) (hb : B ≤ b) : Below B w0 (setBox w b n) :=
  ((((h.setCell hb _).setCell hb _).setCell hb _).setCell hb _).setCell hb _
theorem MetaBox.frozen {w : World} {b : Nat} {m : Meta} (h : MetaBox w b m) : w.frozen? ⟨b, 0, none⟩ = false ∧ w.frozen? ⟨b, 1, none⟩ = false ∧ w.frozen? ⟨b, 2, none⟩ = false ∧ w.frozen? ⟨b, 3, none⟩ = false ∧ w.frozen? ⟨b, 4, none⟩ = false :=
  ⟨frozen_of_row w _ 0 _ 116 h, frozen_of_row w _ 1 _ 116 h, frozen_of_row w _ 2 _ 116 h, frozen_of_row w _ 3 _ 116 h, frozen_of_row w _ 4 _ 116 h⟩

set_option maxRecDepth 100000 in
set_option maxHeartbeats 600000 in
theorem get_short (r : Inner) (w : World) (h : r.Ok w) (h1 : r.l.length < 128) :
    Calls Try.prog 73 #[.slice r.A r.l.length r.c] w fun e w' => e = .returned (.tuple #[Meta.zero.val, .int .u16 80]) ∧ Below w.heap.size w w' := by
  go_enter Try.func73, Try.ntmps73
  go_wp2
  exact bodyPost_ret (results_box rfl _ w.heap.size Meta.zero _ _ rfl rfl (MetaBox.new w Meta.zero)) rfl ⟨rfl, below_alloc0 (Below.refl _ _) _⟩

set_option maxRecDepth 100000 in
set_option maxHeartbeats 600000 in
theorem get_yes (r : Inner) (w : World) (h : r.Ok w) (hm : IsMeta r.l) :
    Calls Try.prog 73 #[.slice r.A r.l.length r.c] w fun e w' => e = .returned (.tuple #[(metaOf r.l).val, .int .u16 0]) ∧ Below w.heap.size w w' := by
  obtain ⟨h128, hmay, heq⟩ := hm
  have hmk := metaOf_ok r.l h.bytes
  have hmeta := fun w (h : r.Ok w) => meta_any r w h (by omega)
  have hput := fun w => put_ok (metaOf r.l) w hmk hmay
  generalize metaOf r.l = M at *
  simp only [Meta.val, Meta.cells] at hmeta hput ⊢
  have HMeta := Lib.hid hmeta
  have HPut := Lib.hid hput
  clear hmeta hput
  go_enter Try.func73, Try.ntmps73
  go_wp2_with fail
  have hA1 := h.lies.below (below_alloc0 (Below.refl _ _) (.cells #[.int .u64 0, .int .u32 0, .int .u32 0, .int .u32 0, .int .u64 0] 116))
  refine (HMeta.out _ (h.below (below_alloc0 (Below.refl _ _) _))).mono ?_
  rintro e w1 ⟨rfl, hb1⟩
  go_wp2_with fail
  have hz1 : MetaBox w1 w.heap.size Meta.zero := (MetaBox.new w Meta.zero).below hb1 (by simp)
  have hM1 := MetaBox.new w1 M
  have hz1' := hz1.old (.cells M.cells 116)
  have hb01 : Below w.heap.size w (w1.alloc (.cells M.cells 116)) := below_alloc0 (below_next0 (below_alloc0 (Below.refl _ _) _) hb1) _
  have hs1 : w.heap.size < w1.heap.size := by have := hb1.size; simp at this; omega
  change Calls Try.prog 71 _ (w1.alloc (.cells M.cells 116)) _
  have hsz : (w1.alloc (.cells M.cells 116)).heap.size = w1.heap.size + 1 := by simp
  generalize w1.alloc (.cells M.cells 116) = W at hM1 hz1' hb01 hsz ⊢
  clear hA1 hz1
  refine (HPut.out _).mono ?_
  rintro e w2 ⟨v2, rfl, hv2, hb2, hs2⟩
  rw [← heq] at hv2
  have hl : (r.l.take 128).length = 128 := by rw [List.length_take]; omega
  obtain ⟨A2, c2, e2, hA2, hnil2, hc2, hm2⟩ := hv2.at
  rw [hl] at e2
  subst e2
  have hb02 := below_next0 hb01 hb2
  have hlies := (h.lies.takes 128).below hb02
  have hbt := h.bytes.take 128
  have heqc := equal_any A2 r.A c2 r.c 128 128 _ _ w2 hl.symm hl.symm hA2 hlies hbt hbt
  rw [decide_eq_true rfl] at heqc
  have hM2 := hM1.below hb2 (by omega)
  have hz2 := hz1'.below hb2 (by omega)
  have hrc := h.le
  clear hlies hbt hA2 hv2 hl hM1 hz1' heq
  have hcc : (128 : Int) ≤ (r.c : Int) := by omega
  have HE := Lib.hid heqc
  clear heqc
  go_wp2_with fail
  refine HE.out.mono ?_
  rintro e w3 ⟨rfl, rfl⟩
  obtain ⟨c0, c1, c2, c3, c4⟩ := meta_cells hM2
  obtain ⟨d0, d1, d2, d3, d4⟩ := meta_cells hz2
  obtain ⟨f0, f1, f2, f3, f4⟩ := hz2.frozen
  have HZ := Lib.hid hz2
  clear hz2 hM2
  go_wp2
  exact bodyPost_ret (results_box rfl _ w.heap.size M _ _ rfl rfl (setBox_box HZ.out)) rfl ⟨rfl, setBox_below M hb02 (Nat.le_refl _)⟩

set_option maxRecDepth 100000 in
set_option maxHeartbeats 600000 in
theorem get_no (r : Inner) (w : World) (h : r.Ok w) (hm : ¬ IsMeta r.l) :
    Calls Try.prog 73 #[.slice r.A r.l.length r.c] w fun e w' => e = .returned (.tuple #[Meta.zero.val, .int .u16 80]) ∧ Below w.heap.size w w' := by
  by_cases h128 : 128 ≤ r.l.length
  · have hmk := metaOf_ok r.l h.bytes
    have hmeta := fun w (h : r.Ok w) => meta_any r w h (by omega)
    have hsb := sector_bytes (metaOf r.l)
    have hsl := sector_length (metaOf r.l)
    have hcase : ¬ MayBe (metaOf r.l) ∨ (MayBe (metaOf r.l) ∧ sector (metaOf r.l) ≠ r.l.take 128) := by
      by_cases hb : MayBe (metaOf r.l)
      · exact .inr ⟨hb, fun e => hm ⟨h128, hb, e.symm⟩⟩
      · exact .inl hb
    clear hm
    generalize metaOf r.l = M at *
    simp only [Meta.val, Meta.cells] at hmeta
    have HMeta := Lib.hid hmeta
    clear hmeta
    rcases hcase with hno | ⟨hmay, hne⟩
    · have hput := fun w => put_no M w hmk hno
      simp only [Meta.val, Meta.cells] at hput
      have HPut := Lib.hid hput
      clear hput hno
      go_enter Try.func73, Try.ntmps73
      go_wp2_with fail
      refine (HMeta.out _ (h.below (below_alloc0 (Below.refl _ _) _))).mono ?_
      rintro e w1 ⟨rfl, hb1⟩
      go_wp2_with fail
      have hz1 : MetaBox w1 w.heap.size Meta.zero := (MetaBox.new w Meta.zero).below hb1 (by simp)
      have hz1' := hz1.old (.cells M.cells 116)
      have hb01 : Below w.heap.size w (w1.alloc (.cells M.cells 116)) := below_alloc0 (below_next0 (below_alloc0 (Below.refl _ _) _) hb1) _
      have hs1 : w.heap.size < w1.heap.size := by have := hb1.size; simp at this; omega
      change Calls Try.prog 71 _ (w1.alloc (.cells M.cells 116)) _
      have hsz : (w1.alloc (.cells M.cells 116)).heap.size = w1.heap.size + 1 := by simp
      generalize w1.alloc (.cells M.cells 116) = W at hz1' hb01 hsz ⊢
      clear hz1
      refine (HPut.out _).mono ?_
      rintro e w2 ⟨rfl, hb2⟩
      have hb02 := below_next0 hb01 hb2
      have hz2 := hz1'.below hb2 (by omega)
      clear hz1'
      obtain ⟨d0, d1, d2, d3, d4⟩ := meta_cells hz2
      obtain ⟨f0, f1, f2, f3, f4⟩ := hz2.frozen
      have HZ := Lib.hid hz2
      clear hz2
      go_wp2
      rw [setBox_zero]
      exact bodyPost_ret (results_box rfl _ w.heap.size Meta.zero _ _ rfl rfl (setBox_box HZ.out)) rfl ⟨rfl, setBox_below Meta.zero hb02 (Nat.le_refl _)⟩
    · have hput := fun w => put_ok M w hmk hmay
      simp only [Meta.val, Meta.cells] at hput
      have HPut := Lib.hid hput
      clear hput hmay
      generalize hS : sector M = S at *
      clear hS
      have HNE := Lib.hid hne
      clear hne
      go_enter Try.func73, Try.ntmps73
      go_wp2_with fail
      refine (HMeta.out _ (h.below (below_alloc0 (Below.refl _ _) _))).mono ?_
      rintro e w1 ⟨rfl, hb1⟩
      go_wp2_with fail
      have hz1 : MetaBox w1 w.heap.size Meta.zero := (MetaBox.new w Meta.zero).below hb1 (by simp)
      have hz1' := hz1.old (.cells M.cells 116)
      have hb01 : Below w.heap.size w (w1.alloc (.cells M.cells 116)) := below_alloc0 (below_next0 (below_alloc0 (Below.refl _ _) _) hb1) _
      have hs1 : w.heap.size < w1.heap.size := by have := hb1.size; simp at this; omega
      change Calls Try.prog 71 _ (w1.alloc (.cells M.cells 116)) _
      have hsz : (w1.alloc (.cells M.cells 116)).heap.size = w1.heap.size + 1 := by simp
      generalize w1.alloc (.cells M.cells 116) = W at hz1' hb01 hsz ⊢
      clear hz1
      refine (HPut.out _).mono ?_
      rintro e w2 ⟨v2, rfl, hv2, hb2, hs2⟩
      have hl : (r.l.take 128).length = 128 := by rw [List.length_take]; omega
      obtain ⟨A2, c2, e2, hA2, hnil2, hc2, hm2⟩ := hv2.at
      rw [hsl] at e2
      subst e2
      have hb02 := below_next0 hb01 hb2
      have hlies := (h.lies.takes 128).below hb02
      have hbt := h.bytes.take 128
      have heqc := equal_any A2 r.A c2 r.c 128 128 _ _ w2 hsl.symm hl.symm hA2 hlies hsb hbt
      rw [decide_eq_false HNE.out] at heqc
      have hz2 := hz1'.below hb2 (by omega)
      have hrc := h.le
      clear hlies hbt hA2 hv2 hl hz1' hsl
      have hcc : (128 : Int) ≤ (r.c : Int) := by omega
      have HE := Lib.hid heqc
      clear heqc
      go_wp2_with fail
      refine HE.out.mono ?_
      rintro e w3 ⟨rfl, rfl⟩
      obtain ⟨d0, d1, d2, d3, d4⟩ := meta_cells hz2
      obtain ⟨f0, f1, f2, f3, f4⟩ := hz2.frozen
      have HZ := Lib.hid hz2
      clear hz2
      go_wp2
      rw [setBox_zero]
      exact bodyPost_ret (results_box rfl _ w.heap.size Meta.zero _ _ rfl rfl (setBox_box HZ.out)) rfl ⟨rfl, setBox_below Meta.zero hb02 (Nat.le_refl _)⟩
  · exact get_short r w h (by omega)
end Go.Proofs.Ytfbjjblgcgjndaa

/- Contract of the reference's GetMeta. -/
namespace Go.Proofs.Ytfbjjblgcgjndaa
open Go.RowKit

set_option maxRecDepth 100000 in
set_option maxHeartbeats 600000 in
theorem rget_short (A : Option Addr) (c : Nat) (l : List Nat) (w : World) (h1 : l.length < 128) :
    Calls Try.prog 74 #[.slice A l.length c] w fun e w' => e = .returned (.tuple #[Meta.zero.val, .int .u16 80]) ∧ Below w.heap.size w w' := by
  go_enter Try.func74, Try.ntmps74
  go_wp2
  exact bodyPost_ret (results_box rfl _ w.heap.size Meta.zero _ _ rfl rfl (MetaBox.new w Meta.zero)) rfl ⟨rfl, below_alloc0 (Below.refl _ _) _⟩

set_option maxRecDepth 100000 in
set_option maxHeartbeats 600000 in
theorem rget_yes (A : Option Addr) (c : Nat) (l : List Nat) (w : World) (hs : l.length ≤ 1000000000) (hA : At w A (ns .u8 l)) (hb : Bytes l) (hcl : l.length ≤ c) (hm : IsMeta l) :
    Calls Try.prog 74 #[.slice A l.length c] w fun e w' => e = .returned (.tuple #[(metaOf l).val, .int .u16 0]) ∧ Below w.heap.size w w' := by
  obtain ⟨h128, hmay, heq⟩ := hm
  have hmk := metaOf_ok l hb
  have hA1 := hA.below (below_alloc0 (Below.refl _ _) (.cells #[.int .u64 0, .int .u32 0, .int .u32 0, .int .u32 0, .int .u64 0] 116))
  have hget := fun a k (h : a + k ≤ l.length) (hk : k ≤ 8) => get_any A c _ l a k _ rfl hs h hk hA1 hb
  have hput := fun w => rput_ok (metaOf l) w hmk hmay
  have hg1 : el (seg l 4 8) = (metaOf l).gen := rfl
  have hg2 : el (seg l 12 4) = (metaOf l).root := rfl
  have hg3 : el (seg l 16 4) = (metaOf l).free := rfl
  have hg4 : el (seg l 20 4) = (metaOf l).pages := rfl
  have hg5 : el (seg l 24 8) = (metaOf l).keys := rfl
  have g1 := hget 4 8 (by omega) (by omega)
  have g2 := hget 12 4 (by omega) (by omega)
  have g3 := hget 16 4 (by omega) (by omega)
  have g4 := hget 20 4 (by omega) (by omega)
  have g5 := hget 24 8 (by omega) (by omega)
  rw [hg1] at g1
  rw [hg2] at g2
  rw [hg3] at g3
  rw [hg4] at g4
  rw [hg5] at g5
  have G1 := Lib.hid g1
  have G2 := Lib.hid g2
  have G3 := Lib.hid g3
  have G4 := Lib.hid g4
  have G5 := Lib.hid g5
  clear g1 g2 g3 g4 g5 hg1 hg2 hg3 hg4 hg5 hget
  generalize metaOf l = M at *
  have b1 := hmk.gen
  have b2 := hmk.root
  have b3 := hmk.free
  have b4 := hmk.pages
  have b5 := hmk.keys
  simp only [Meta.val, Meta.cells] at hput ⊢
  have HPut := Lib.hid hput
  clear hput hmay hmk
  go_enter Try.func74, Try.ntmps74
  go_wp2_with fail
  refine G1.out.mono ?_
  rintro e w1 ⟨rfl, rfl⟩
  go_wp2_with fail
  refine G2.out.mono ?_
  rintro e w1 ⟨rfl, rfl⟩
  go_wp2_with fail
  refine G3.out.mono ?_
  rintro e w1 ⟨rfl, rfl⟩
  go_wp2_with fail
  refine G4.out.mono ?_
  rintro e w1 ⟨rfl, rfl⟩
  go_wp2_with fail
  refine G5.out.mono ?_
  rintro e w1 ⟨rfl, rfl⟩
  go_wp2_with fail
  have hz0 := (MetaBox.new w Meta.zero).old (.cells M.cells 116)
  have hM0 : MetaBox ((w.alloc (.cells Meta.zero.cells 116)).alloc (.cells M.cells 116)) (w.heap.size + 1) M := by
    have := MetaBox.new (w.alloc (.cells Meta.zero.cells 116)) M
    rwa [show (w.alloc (.cells Meta.zero.cells 116)).heap.size = w.heap.size + 1 by simp] at this
  have hb0 : Below w.heap.size w ((w.alloc (.cells Meta.zero.cells 116)).alloc (.cells M.cells 116)) := below_alloc0 (below_alloc0 (Below.refl _ _) _) _
  have hsz : ((w.alloc (.cells Meta.zero.cells 116)).alloc (.cells M.cells 116)).heap.size = w.heap.size + 2 := by simp
  change Calls Try.prog 72 _ ((w.alloc (.cells Meta.zero.cells 116)).alloc (.cells M.cells 116)) _
  generalize (w.alloc (.cells Meta.zero.cells 116)).alloc (.cells M.cells 116) = W at hz0 hM0 hb0 hsz ⊢
  refine (HPut.out _).mono ?_
  rintro e w2 ⟨v2, rfl, hv2, hb2, hs2⟩
  rw [← heq] at hv2
  have hl : (l.take 128).length = 128 := by rw [List.length_take]; omega
  obtain ⟨A2, c2, e2, hA2, hnil2, hc2, hm2⟩ := hv2.at
  rw [hl] at e2
  subst e2
  have hb02 := below_next0 hb0 hb2
  have hlies := (hA.takes 128).below hb02
  have k1 := fun n => conv_str (P := Try.prog) (w2.drewN n) A2 c2 (l.take 128) 128 hl.symm (hA2.below (below_drewN (Below.refl _ _) n)) Try.underlying23 Try.underlying5 Try.underlying9
  have k2 := fun n => conv_str (P := Try.prog) (w2.drewN n) A c (l.take 128) 128 hl.symm (hlies.below (below_drewN (Below.refl _ _) n)) Try.underlying23 Try.underlying5 Try.underlying9
  have hM2 := hM0.below hb2 (by omega)
  have hz2 := hz0.below hb2 (by omega)
  clear hlies hA2 hv2 hl hM0 hz0 heq
  have hcc : (128 : Int) ≤ (c : Int) := by omega
  go_wp2_with fail
  go_quiet (fail)
  have hb03 : Below w.heap.size w (w2.drewN nq) := below_drewN hb02 nq
  have hz3 : MetaBox (w2.drewN nq) w.heap.size Meta.zero := hz2
  have hM3 : MetaBox (w2.drewN nq) (w.heap.size + 1) M := hM2
  clear k1 k2 hz2 hM2 hb02
  generalize w2.drewN nq = w3 at hb03 hz3 hM3 ⊢
  obtain ⟨c0, c1, c2, c3, c4⟩ := meta_cells hM3
  obtain ⟨d0, d1, d2, d3, d4⟩ := meta_cells hz3
  obtain ⟨f0, f1, f2, f3, f4⟩ := hz3.frozen
  have HZ := Lib.hid hz3
  clear hz3 hM3
  go_wp2
  exact bodyPost_ret (results_box rfl _ w.heap.size M _ _ rfl rfl (setBox_box HZ.out)) rfl ⟨rfl, setBox_below M hb03 (Nat.le_refl _)⟩

set_option maxRecDepth 100000 in
set_option maxHeartbeats 600000 in
theorem rget_no (A : Option Addr) (c : Nat) (l : List Nat) (w : World) (hs : l.length ≤ 1000000000) (hA : At w A (ns .u8 l)) (hb : Bytes l) (hcl : l.length ≤ c) (hm : ¬ IsMeta l) :
    Calls Try.prog 74 #[.slice A l.length c] w fun e w' => e = .returned (.tuple #[Meta.zero.val, .int .u16 80]) ∧ Below w.heap.size w w' := by
  by_cases h128 : 128 ≤ l.length
  · have hmk := metaOf_ok l hb
    have hA1 := hA.below (below_alloc0 (Below.refl _ _) (.cells #[.int .u64 0, .int .u32 0, .int .u32 0, .int .u32 0, .int .u64 0] 116))
    have hget := fun a k (h : a + k ≤ l.length) (hk : k ≤ 8) => get_any A c _ l a k _ rfl hs h hk hA1 hb
    have hsb := sector_bytes (metaOf l)
    have hsl := sector_length (metaOf l)
    have hcase : ¬ MayBe (metaOf l) ∨ (MayBe (metaOf l) ∧ sector (metaOf l) ≠ l.take 128) := by
      by_cases hb : MayBe (metaOf l)
      · exact .inr ⟨hb, fun e => hm ⟨h128, hb, e.symm⟩⟩
      · exact .inl hb
    clear hm
    have hg1 : el (seg l 4 8) = (metaOf l).gen := rfl
    have hg2 : el (seg l 12 4) = (metaOf l).root := rfl
    have hg3 : el (seg l 16 4) = (metaOf l).free := rfl
    have hg4 : el (seg l 20 4) = (metaOf l).pages := rfl
    have hg5 : el (seg l 24 8) = (metaOf l).keys := rfl
    have g1 := hget 4 8 (by omega) (by omega)
    have g2 := hget 12 4 (by omega) (by omega)
    have g3 := hget 16 4 (by omega) (by omega)
    have g4 := hget 20 4 (by omega) (by omega)
    have g5 := hget 24 8 (by omega) (by omega)
    rw [hg1] at g1
    rw [hg2] at g2
    rw [hg3] at g3
    rw [hg4] at g4
    rw [hg5] at g5
    have G1 := Lib.hid g1
    have G2 := Lib.hid g2
    have G3 := Lib.hid g3
    have G4 := Lib.hid g4
    have G5 := Lib.hid g5
    clear g1 g2 g3 g4 g5 hg1 hg2 hg3 hg4 hg5 hget
    generalize metaOf l = M at *
    have b1 := hmk.gen
    have b2 := hmk.root
    have b3 := hmk.free
    have b4 := hmk.pages
    have b5 := hmk.keys
    rcases hcase with hno | ⟨hmay, hne⟩
    · have hput := fun w => rput_no M w hmk hno
      simp only [Meta.val, Meta.cells] at hput
      have HPut := Lib.hid hput
      clear hput hno hmk hsb hsl
      go_enter Try.func74, Try.ntmps74
      go_wp2_with fail
      refine G1.out.mono ?_
      rintro e w1 ⟨rfl, rfl⟩
      go_wp2_with fail
      refine G2.out.mono ?_
      rintro e w1 ⟨rfl, rfl⟩
      go_wp2_with fail
      refine G3.out.mono ?_
      rintro e w1 ⟨rfl, rfl⟩
      go_wp2_with fail
      refine G4.out.mono ?_
      rintro e w1 ⟨rfl, rfl⟩
      go_wp2_with fail
      refine G5.out.mono ?_
      rintro e w1 ⟨rfl, rfl⟩
      go_wp2_with fail
      have hz0 := (MetaBox.new w Meta.zero).old (.cells M.cells 116)
      have hM0 : MetaBox ((w.alloc (.cells Meta.zero.cells 116)).alloc (.cells M.cells 116)) (w.heap.size + 1) M := by
        have := MetaBox.new (w.alloc (.cells Meta.zero.cells 116)) M
        rwa [show (w.alloc (.cells Meta.zero.cells 116)).heap.size = w.heap.size + 1 by simp] at this
      have hb0 : Below w.heap.size w ((w.alloc (.cells Meta.zero.cells 116)).alloc (.cells M.cells 116)) := below_alloc0 (below_alloc0 (Below.refl _ _) _) _
      have hsz : ((w.alloc (.cells Meta.zero.cells 116)).alloc (.cells M.cells 116)).heap.size = w.heap.size + 2 := by simp
      change Calls Try.prog 72 _ ((w.alloc (.cells Meta.zero.cells 116)).alloc (.cells M.cells 116)) _
      generalize (w.alloc (.cells Meta.zero.cells 116)).alloc (.cells M.cells 116) = W at hz0 hM0 hb0 hsz ⊢
      refine (HPut.out _).mono ?_
      rintro e w2 ⟨rfl, hb2⟩
      have hb02 := below_next0 hb0 hb2
      have hz2 := hz0.below hb2 (by omega)
      clear hM0 hz0
      go_wp2_with fail
      go_quiet (fail)
      have hb03 : Below w.heap.size w (w2.drewN nq) := below_drewN hb02 nq
      have hz3 : MetaBox (w2.drewN nq) w.heap.size Meta.zero := hz2
      clear hz2 hb02
      generalize w2.drewN nq = w3 at hb03 hz3 ⊢
      obtain ⟨d0, d1, d2, d3, d4⟩ := meta_cells hz3
      obtain ⟨f0, f1, f2, f3, f4⟩ := hz3.frozen
      have HZ := Lib.hid hz3
      clear hz3
      go_wp2
      rw [setBox_zero]
      exact bodyPost_ret (results_box rfl _ w.heap.size Meta.zero _ _ rfl rfl (setBox_box HZ.out)) rfl ⟨rfl, setBox_below Meta.zero hb03 (Nat.le_refl _)⟩
    · have hput := fun w => rput_ok M w hmk hmay
      simp only [Meta.val, Meta.cells] at hput
      have HPut := Lib.hid hput
      clear hput hmay hmk
      generalize hS : sector M = S at *
      clear hS
      have HNE := Lib.hid hne
      clear hne
      go_enter Try.func74, Try.ntmps74
      go_wp2_with fail
      refine G1.out.mono ?_
      rintro e w1 ⟨rfl, rfl⟩
      go_wp2_with fail
      refine G2.out.mono ?_
      rintro e w1 ⟨rfl, rfl⟩
      go_wp2_with fail
      refine G3.out.mono ?_
      rintro e w1 ⟨rfl, rfl⟩
      go_wp2_with fail
      refine G4.out.mono ?_
      rintro e w1 ⟨rfl, rfl⟩
      go_wp2_with fail
      refine G5.out.mono ?_
      rintro e w1 ⟨rfl, rfl⟩
      go_wp2_with fail
      have hz0 := (MetaBox.new w Meta.zero).old (.cells M.cells 116)
      have hM0 : MetaBox ((w.alloc (.cells Meta.zero.cells 116)).alloc (.cells M.cells 116)) (w.heap.size + 1) M := by
        have := MetaBox.new (w.alloc (.cells Meta.zero.cells 116)) M
        rwa [show (w.alloc (.cells Meta.zero.cells 116)).heap.size = w.heap.size + 1 by simp] at this
      have hb0 : Below w.heap.size w ((w.alloc (.cells Meta.zero.cells 116)).alloc (.cells M.cells 116)) := below_alloc0 (below_alloc0 (Below.refl _ _) _) _
      have hsz : ((w.alloc (.cells Meta.zero.cells 116)).alloc (.cells M.cells 116)).heap.size = w.heap.size + 2 := by simp
      change Calls Try.prog 72 _ ((w.alloc (.cells Meta.zero.cells 116)).alloc (.cells M.cells 116)) _
      generalize (w.alloc (.cells Meta.zero.cells 116)).alloc (.cells M.cells 116) = W at hz0 hM0 hb0 hsz ⊢
      refine (HPut.out _).mono ?_
      rintro e w2 ⟨v2, rfl, hv2, hb2, hs2⟩
      have hl : (l.take 128).length = 128 := by rw [List.length_take]; omega
      obtain ⟨A2, c2, e2, hA2, hnil2, hc2, hm2⟩ := hv2.at
      rw [hsl] at e2
      subst e2
      have hb02 := below_next0 hb0 hb2
      have hlies := (hA.takes 128).below hb02
      have k1 := fun n => conv_str (P := Try.prog) (w2.drewN n) A2 c2 S 128 hsl.symm (hA2.below (below_drewN (Below.refl _ _) n)) Try.underlying23 Try.underlying5 Try.underlying9
      have k2 := fun n => conv_str (P := Try.prog) (w2.drewN n) A c (l.take 128) 128 hl.symm (hlies.below (below_drewN (Below.refl _ _) n)) Try.underlying23 Try.underlying5 Try.underlying9
      have k3 := str_beq S (l.take 128) hsb (hb.take 128)
      rw [decide_eq_false HNE.out] at k3
      have hz2 := hz0.below hb2 (by omega)
      clear hlies hA2 hv2 hl hM0 hz0 hsl
      have hcc : (128 : Int) ≤ (c : Int) := by omega
      go_wp2_with fail
      go_quiet (fail)
      have hb03 : Below w.heap.size w (w2.drewN nq) := below_drewN hb02 nq
      have hz3 : MetaBox (w2.drewN nq) w.heap.size Meta.zero := hz2
      clear k1 k2 k3 hz2 hb02
      generalize w2.drewN nq = w3 at hb03 hz3 ⊢
      obtain ⟨d0, d1, d2, d3, d4⟩ := meta_cells hz3
      obtain ⟨f0, f1, f2, f3, f4⟩ := hz3.frozen
      have HZ := Lib.hid hz3
      clear hz3
      go_wp2
      rw [setBox_zero]
      exact bodyPost_ret (results_box rfl _ w.heap.size Meta.zero _ _ rfl rfl (setBox_box HZ.out)) rfl ⟨rfl, setBox_below Meta.zero hb03 (Nat.le_refl _)⟩
  · exact rget_short A c l w (by omega)
end Go.Proofs.Ytfbjjblgcgjndaa

/- Contracts of bytes.HasPrefix; states compared. -/
namespace Go.Proofs.Ytfbjjblgcgjndaa
open Go.RowKit

set_option maxRecDepth 100000 in
set_option maxHeartbeats 600000 in
theorem prefix_any (A B : Option Addr) (c d n k : Nat) (l m : List Nat) (w : World) (hn : n = l.length) (hk : k = m.length) (hA : At w A (ns .u8 l)) (hB : At w B (ns .u8 m)) (hl : Bytes l) (hm : Bytes m) (hc : n ≤ c) :
    Calls Try.prog 142 #[.slice A n c, .slice B k d] w fun e w' => e = .returned (.bool (decide (l.take k = m))) ∧ w = w' := by
  by_cases hlen : k ≤ n
  · have hl2 : (l.take k).length = k := by rw [List.length_take]; omega
    have heq := equal_any A B c d k k (l.take k) m w hl2.symm hk (hA.takes k) hB (hl.take k) hm
    generalize decide (l.take k = m) = D at *
    have HE := Lib.hid heq
    have hkc : (k : Int) ≤ (c : Int) := by omega
    clear heq hn hk hl2
    go_enter Try.func142, Try.ntmps142
    go_wp2_with fail
    refine HE.out.mono ?_
    rintro e w1 ⟨rfl, rfl⟩
    go_wp2
    go_ret
    exact ⟨rfl, rfl⟩
  · have hD : decide (l.take k = m) = false := by
      rw [decide_eq_false_iff_not]
      intro e
      have := congrArg List.length e
      rw [List.length_take] at this
      omega
    rw [hD]
    clear hD hn hk
    go_enter Try.func142, Try.ntmps142
    go_wp2
    go_ret
    exact ⟨rfl, rfl⟩

theorem neq_meta (m n : Meta) (w : World) : (binOp .neq 116 m.val n.val).run Try.prog w = .ok (.bool (!decide (m = n))) w := by
  obtain ⟨a, b, c, d, e⟩ := m
  obtain ⟨a', b', c', d', e'⟩ := n
  simp [go_sem, Meta.val, Meta.cells, Meta.mk.injEq]
  by_cases h1 : a = a' <;> by_cases h2 : b = b' <;> by_cases h3 : c = c' <;> by_cases h4 : d = d' <;> by_cases h5 : e = e' <;> simp [h1, h2, h3, h4, h5] <;> omega
theorem eql_meta (m n : Meta) (w : World) : (binOp .eql 116 m.val n.val).run Try.prog w = .ok (.bool (decide (m = n))) w := by
  obtain ⟨a, b, c, d, e⟩ := m
  obtain ⟨a', b', c', d', e'⟩ := n
  simp [go_sem, Meta.val, Meta.cells, Meta.mk.injEq]
  by_cases h1 : a = a' <;> by_cases h2 : b = b' <;> by_cases h3 : c = c' <;> by_cases h4 : d = d' <;> by_cases h5 : e = e' <;> simp [h1, h2, h3, h4, h5] <;> omega

def magic : List Nat := [67, 77, 69, 84]
/-- one more page looked at -/
def step (best : Meta) (k : Nat) (l : List Nat) : Meta := if IsMeta l ∧ (metaOf l).gen % 2 = k ∧ best.gen < (metaOf l).gen then metaOf l else best
def bestOf (a b : List Nat) : Meta := step (step Meta.zero 0 a) 1 b
def bestErr (a b : List Nat) : Nat := if bestOf a b ≠ Meta.zero then 0 else if a.take 4 = magic ∨ b.take 4 = magic then 151 else 150

def bests (a b : List Nat) (k : Nat) : Meta := if k = 0 then Meta.zero else if k = 1 then step Meta.zero 0 a else bestOf a b
def someAt (a b : List Nat) (k : Nat) : Bool := if k = 0 then false else if k = 1 then decide (a.take 4 = magic) else (decide (a.take 4 = magic) || decide (b.take 4 = magic))
theorem best_round (a b : Inner) (w wr : World) (r k : Nat) (hk : k < 2) (ha : a.Ok w) (hb : b.Ok w) (hrow : wr.heap[r]? = some (.cells #[a.val, b.val] 23 (0, 0))) :
    ∃ x : Inner, x.Ok w ∧ wr.cell? ⟨r, k, none⟩ = some (.slice x.A x.l.length x.c) ∧ bests a.l b.l (k + 1) = step (bests a.l b.l k) k x.l ∧ someAt a.l b.l (k + 1) = (someAt a.l b.l k || decide (x.l.take 4 = magic)) := by
  rcases (show k = 0 ∨ k = 1 by omega) with rfl | rfl
  · exact ⟨a, ha, by rw [cell_of_row wr r 0 _ 23 (0, 0) hrow]; rfl, by simp [bests], by simp [someAt]⟩
  · exact ⟨b, hb, by rw [cell_of_row wr r 1 _ 23 (0, 0) hrow]; rfl, by simp [bests, bestOf], by simp [someAt]⟩
theorem box_lt {w : World} {b : Nat} {m : Meta} (h : MetaBox w b m) : b < w.heap.size := (Array.getElem?_eq_some_iff.1 h).1

/-- what the loop keeps -/
structure BestAt (w wr : World) (a b : Inner) (B : Meta) : Prop where
  out : MetaBox wr w.heap.size Meta.zero
  best : MetaBox wr (w.heap.size + 1) B
  row : wr.heap[w.heap.size + 2]? = some (.cells #[a.val, b.val] 23 (0, 0))
  below : Below w.heap.size w wr
  size : w.heap.size + 3 ≤ wr.heap.size
theorem BestAt.next {w wr w1 : World} {a b : Inner} {B : Meta} (h : BestAt w wr a b B) (hb : Below wr.heap.size wr w1) : BestAt w w1 a b B :=
  ⟨h.out.below hb (box_lt h.out), h.best.below hb (box_lt h.best), by rw [hb.block _ (by have := h.size; omega)]; exact h.row, below_next0 h.below hb, Nat.le_trans h.size hb.size⟩
theorem BestAt.alloc {w wr : World} {a b : Inner} {B : Meta} (h : BestAt w wr a b B) (o : Obj) : BestAt w (wr.alloc o) a b B := h.next (below_alloc0 (Below.refl _ _) o)
theorem BestAt.set {w wr : World} {a b : Inner} {B : Meta} (h : BestAt w wr a b B) (M : Meta) : BestAt w (setBox wr (w.heap.size + 1) M) a b M := by
  have hne : ∀ k, k ≠ w.heap.size + 1 → (setBox wr (w.heap.size + 1) M).heap[k]? = wr.heap[k]? := fun k hk => by
    unfold setBox
    rw [Below.heap_setCell _ _ _ _ hk, Below.heap_setCell _ _ _ _ hk, Below.heap_setCell _ _ _ _ hk, Below.heap_setCell _ _ _ _ hk, Below.heap_setCell _ _ _ _ hk]
  refine ⟨?_, setBox_box h.best, by rw [hne _ (by omega)]; exact h.row, setBox_below M h.below (by omega), by have := h.size; simpa [setBox, World.setCell] using this⟩
  unfold MetaBox
  rw [hne _ (by omega)]; exact h.out

set_option maxRecDepth 100000 in
set_option maxHeartbeats 1000000 in
theorem best_any (a b : Inner) (w : World) (ha : a.Ok w) (hb : b.Ok w) :
    Calls Try.prog 75 #[.slice a.A a.l.length a.c, .slice b.A b.l.length b.c] w fun e w' => e = .returned (.tuple #[(bestOf a.l b.l).val, .int .u16 (bestErr a.l b.l : Int)]) ∧ Below w.heap.size w w' := by
  have kc := fun (w : World) (C : Array Value) (n c : Nat) => Lib.run_convert_bytes_const (P := Try.prog) w 23 5 C n c Try.underlying23 Try.underlying5
  have hstart : BestAt w (((w.alloc (.cells Meta.zero.cells 116)).alloc (.cells Meta.zero.cells 116)).alloc (.cells #[a.val, b.val] 23)) a b Meta.zero := by
    have h0 := MetaBox.new w Meta.zero
    have h1 : MetaBox ((w.alloc (.cells Meta.zero.cells 116)).alloc (.cells Meta.zero.cells 116)) (w.heap.size + 1) Meta.zero := by
      have := MetaBox.new (w.alloc (.cells Meta.zero.cells 116)) Meta.zero
      rwa [show (w.alloc (.cells Meta.zero.cells 116)).heap.size = w.heap.size + 1 by simp] at this
    refine ⟨(h0.old _).old _, h1.old _, ?_, below_alloc0 (below_alloc0 (below_alloc0 (Below.refl _ _) _) _) _, by simp⟩
    have := heap_alloc_new ((w.alloc (.cells Meta.zero.cells 116)).alloc (.cells Meta.zero.cells 116)) (.cells #[a.val, b.val] 23)
    rwa [show ((w.alloc (.cells Meta.zero.cells 116)).alloc (.cells Meta.zero.cells 116)).heap.size = w.heap.size + 2 by simp] at this
  go_enter Try.func75, Try.ntmps75
  go_wp2_with fail
  change Code.wp _ _ _ _ (((w.alloc (.cells Meta.zero.cells 116)).alloc (.cells Meta.zero.cells 116)).alloc (.cells #[a.val, b.val] 23))
  generalize ((w.alloc (.cells Meta.zero.cells 116)).alloc (.cells Meta.zero.cells 116)).alloc (.cells #[a.val, b.val] 23) = W0 at hstart ⊢
  go_loopw [7, 17] (fun s i wr => ∃ k : Nat, k ≤ 2 ∧ i = .int .i64 k ∧ s = .bool (someAt a.l b.l k) ∧ BestAt w wr a b (bests a.l b.l k)) (fun _ i _ => 2 - (intOf i).toNat)
  case atStart => exact ⟨0, by omega, rfl, rfl, hstart⟩
  case round =>
    clear hstart
    obtain ⟨k, hk, rfl, rfl, hB⟩ := hrel
    by_cases hlt : k < 2
    · obtain ⟨x, hx, hc, hst, hso⟩ := best_round a b w wr _ k hlt ha hb hB.row
      have HST := Lib.hid hst
      have HSO := Lib.hid hso
      clear hst hso
      generalize bests a.l b.l k = B at *
      generalize someAt a.l b.l k = S at *
      obtain ⟨B', hbs⟩ : ∃ B', bests a.l b.l (k + 1) = B' := ⟨_, rfl⟩
      obtain ⟨S', hss⟩ : ∃ S', someAt a.l b.l (k + 1) = S' := ⟨_, rfl⟩
      rw [hbs] at HST
      rw [hss] at HSO
      have HBS := Lib.hid hbs
      have HSS := Lib.hid hss
      clear hbs hss
      have hB1 := hB.alloc (.cells #[.int .u8 67, .int .u8 77, .int .u8 69, .int .u8 84] 5 (4, 5))
      have hA1 : At (wr.alloc (.cells #[.int .u8 67, .int .u8 77, .int .u8 69, .int .u8 84] 5 (4, 5))) (some ⟨wr.heap.size, 0, none⟩) (ns .u8 magic) := At.whole (xs := ns .u8 magic) (heap_alloc_new wr _)
      have hpre := prefix_any x.A (some ⟨wr.heap.size, 0, none⟩) x.c 4 x.l.length 4 x.l magic _ rfl rfl (hx.below hB1.below).lies hA1 hx.bytes (by decide) hx.le
      have HPre := Lib.hid hpre
      clear hpre hA1
      rcases S with _ | _
      · go_wp2_with fail
        refine HPre.out.mono ?_
        rintro e w2 ⟨rfl, rfl⟩
        have hS' : decide (x.l.take 4 = magic) = S' := by rw [HSO.out]; simp
        rw [hS']
        clear hS' HPre hc
        generalize wr.alloc (.cells #[.int .u8 67, .int .u8 77, .int .u8 69, .int .u8 84] 5 (4, 5)) = wr3 at hB1 ⊢
        have hB3 := hB1
        clear hB hB1
        have hx3 := hx.below hB3.below
        by_cases hIs : IsMeta x.l
        · have hget := get_yes x wr3 hx3 hIs
          have hmk := metaOf_ok x.l hx.bytes
          have hB' : (B' = if (metaOf x.l).gen % 2 = k ∧ B.gen < (metaOf x.l).gen then metaOf x.l else B) := by
            rw [HST.out, step]
            simp [hIs]
          generalize metaOf x.l = M at *
          simp only [Meta.val, Meta.cells] at hget
          have HG := Lib.hid hget
          have HB' := Lib.hid hB'
          have b1 := hmk.gen
          clear hget hB' hIs hmk
          go_wp2_with fail
          refine HG.out.mono ?_
          rintro e w4 ⟨rfl, hb4⟩
          have hB4 := (hB3.next hb4).alloc (.cells M.cells 116)
          have hM4 := MetaBox.new w4 M
          go_upto_region 8 with (fail)
          change Code.wp _ _ _ _ (w4.alloc (.cells M.cells 116))
          generalize w4.alloc (.cells M.cells 116) = w5 at hB4 hM4 ⊢
          obtain ⟨c0, c1, c2, c3, c4⟩ := meta_cells hB4.best
          obtain ⟨d0, d1, d2, d3, d4⟩ := meta_cells hM4
          obtain ⟨f0, f1, f2, f3, f4⟩ := hB4.best.frozen
          have HB4 := Lib.hid hB4
          clear hB3 hB4 hM4
          by_cases hpar : M.gen % 2 = k
          · have p1 : ((M.gen : Int) % 2 == (k : Int)) = true := by simp; omega
            have p2 : (M.gen % 2 == k) = true := by simp [hpar]
            have p3 : (M.gen : Int) % 2 = (k : Int) := by omega
            by_cases hgt : B.gen < M.gen
            · have HP := Lib.hid hpar
              have HGt := Lib.hid hgt
              clear hpar hgt
              have g1 : (B.gen : Int) < (M.gen : Int) := by have := HGt.out; omega
              go_wp2
              go_roundw
              case rel => exact ⟨k + 1, by omega, by go_num, by rw [HSS.out], by rw [HBS.out, HB'.out, if_pos ⟨HP.out, HGt.out⟩]; exact HB4.out.set M⟩
              case measure => simp [intOf]; omega
            · have HGt := Lib.hid hgt
              clear hpar hgt
              have g1 : ¬ (B.gen : Int) < (M.gen : Int) := by have := HGt.out; omega
              go_wp2
              go_roundw
              case rel => exact ⟨k + 1, by omega, by go_num, by rw [HSS.out], by rw [HBS.out, HB'.out, if_neg (fun h => HGt.out h.2)]; exact HB4.out⟩
              case measure => simp [intOf]; omega
          · have p1 : ((M.gen : Int) % 2 == (k : Int)) = false := by simp; omega
            have p2 : (M.gen % 2 == k) = false := by simp [hpar]
            have p3 : ¬ (M.gen : Int) % 2 = (k : Int) := by omega
            have HP := Lib.hid hpar
            clear hpar
            go_wp2
            go_roundw
            case rel => exact ⟨k + 1, by omega, by go_num, by rw [HSS.out], by rw [HBS.out, HB'.out, if_neg (fun h => HP.out h.1)]; exact HB4.out⟩
            case measure => simp [intOf]; omega
        · have hget := get_no x wr3 hx3 hIs
          have hB' : B' = B := by
            rw [HST.out, step]
            simp [hIs]
          simp only [Meta.val, Meta.cells] at hget
          have HG := Lib.hid hget
          have HB' := Lib.hid hB'
          clear hget hB' hIs
          go_wp2_with fail
          refine HG.out.mono ?_
          rintro e w4 ⟨rfl, hb4⟩
          have hB4 := (hB3.next hb4).alloc (.cells Meta.zero.cells 116)
          clear hB3
          go_wp2
          go_roundw
          case rel => exact ⟨k + 1, by omega, by go_num, by rw [HSS.out], by rw [HBS.out, HB'.out]; exact hB4⟩
          case measure => simp [intOf]; omega
      · have hS' : S' = true := by rw [HSO.out]; simp
        subst hS'
        have hB3 := hB
        clear hB hB1 HPre
        have hx3 := hx.below hB3.below
        by_cases hIs : IsMeta x.l
        · have hget := get_yes x wr hx3 hIs
          have hmk := metaOf_ok x.l hx.bytes
          have hB' : (B' = if (metaOf x.l).gen % 2 = k ∧ B.gen < (metaOf x.l).gen then metaOf x.l else B) := by
            rw [HST.out, step]
            simp [hIs]
          generalize metaOf x.l = M at *
          simp only [Meta.val, Meta.cells] at hget
          have HG := Lib.hid hget
          have HB' := Lib.hid hB'
          have b1 := hmk.gen
          clear hget hB' hIs hmk
          go_wp2_with fail
          refine HG.out.mono ?_
          rintro e w4 ⟨rfl, hb4⟩
          have hB4 := (hB3.next hb4).alloc (.cells M.cells 116)
          have hM4 := MetaBox.new w4 M
          go_upto_region 8 with (fail)
          change Code.wp _ _ _ _ (w4.alloc (.cells M.cells 116))
          generalize w4.alloc (.cells M.cells 116) = w5 at hB4 hM4 ⊢
          obtain ⟨c0, c1, c2, c3, c4⟩ := meta_cells hB4.best
          obtain ⟨d0, d1, d2, d3, d4⟩ := meta_cells hM4
          obtain ⟨f0, f1, f2, f3, f4⟩ := hB4.best.frozen
          have HB4 := Lib.hid hB4
          clear hB3 hB4 hM4
          by_cases hpar : M.gen % 2 = k
          · have p1 : ((M.gen : Int) % 2 == (k : Int)) = true := by simp; omega
            have p2 : (M.gen % 2 == k) = true := by simp [hpar]
            have p3 : (M.gen : Int) % 2 = (k : Int) := by omega
            by_cases hgt : B.gen < M.gen
            · have HP := Lib.hid hpar
              have HGt := Lib.hid hgt
              clear hpar hgt
              have g1 : (B.gen : Int) < (M.gen : Int) := by have := HGt.out; omega
              go_wp2
              go_roundw
              case rel => exact ⟨k + 1, by omega, by go_num, by rw [HSS.out], by rw [HBS.out, HB'.out, if_pos ⟨HP.out, HGt.out⟩]; exact HB4.out.set M⟩
              case measure => simp [intOf]; omega
            · have HGt := Lib.hid hgt
              clear hpar hgt
              have g1 : ¬ (B.gen : Int) < (M.gen : Int) := by have := HGt.out; omega
              go_wp2
              go_roundw
              case rel => exact ⟨k + 1, by omega, by go_num, by rw [HSS.out], by rw [HBS.out, HB'.out, if_neg (fun h => HGt.out h.2)]; exact HB4.out⟩
              case measure => simp [intOf]; omega
          · have p1 : ((M.gen : Int) % 2 == (k : Int)) = false := by simp; omega
            have p2 : (M.gen % 2 == k) = false := by simp [hpar]
            have p3 : ¬ (M.gen : Int) % 2 = (k : Int) := by omega
            have HP := Lib.hid hpar
            clear hpar
            go_wp2
            go_roundw
            case rel => exact ⟨k + 1, by omega, by go_num, by rw [HSS.out], by rw [HBS.out, HB'.out, if_neg (fun h => HP.out h.1)]; exact HB4.out⟩
            case measure => simp [intOf]; omega
        · have hget := get_no x wr hx3 hIs
          have hB' : B' = B := by
            rw [HST.out, step]
            simp [hIs]
          simp only [Meta.val, Meta.cells] at hget
          have HG := Lib.hid hget
          have HB' := Lib.hid hB'
          clear hget hB' hIs
          go_wp2_with fail
          refine HG.out.mono ?_
          rintro e w4 ⟨rfl, hb4⟩
          have hB4 := (hB3.next hb4).alloc (.cells Meta.zero.cells 116)
          clear hB3
          go_wp2
          go_roundw
          case rel => exact ⟨k + 1, by omega, by go_num, by rw [HSS.out], by rw [HBS.out, HB'.out]; exact hB4⟩
          case measure => simp [intOf]; omega
    · obtain rfl : k = 2 := by omega
      obtain ⟨c0, c1, c2, c3, c4⟩ := meta_cells hB.best
      obtain ⟨d0, d1, d2, d3, d4⟩ := meta_cells hB.out
      obtain ⟨f0, f1, f2, f3, f4⟩ := hB.out.frozen
      have hneq : ∀ w, (binOp .neq 116 (.agg #[.int .u64 ((bests a.l b.l 2).gen : Int), .int .u32 ((bests a.l b.l 2).root : Int), .int .u32 ((bests a.l b.l 2).free : Int), .int .u32 ((bests a.l b.l 2).pages : Int), .int .u64 ((bests a.l b.l 2).keys : Int)]) (.agg #[.int .u64 0, .int .u32 0, .int .u32 0, .int .u32 0, .int .u64 0])).run Try.prog w = .ok (.bool (!decide (bests a.l b.l 2 = Meta.zero))) w := fun w => neq_meta (bests a.l b.l 2) Meta.zero w
      have hb2 : bests a.l b.l 2 = bestOf a.l b.l := by simp [bests]
      have hs2 : someAt a.l b.l 2 = decide (a.l.take 4 = magic ∨ b.l.take 4 = magic) := by simp [someAt, Bool.decide_or]
      have herr : bestErr a.l b.l = if bests a.l b.l 2 ≠ Meta.zero then 0 else if someAt a.l b.l 2 then 151 else 150 := by rw [hb2, hs2]; simp [bestErr]
      clear hs2
      generalize hBe : bests a.l b.l 2 = B at *
      generalize hSe : someAt a.l b.l 2 = S at *
      have HB := Lib.hid hB
      have HB2 := Lib.hid hb2
      have HE := Lib.hid herr
      clear hB hb2 herr hBe hSe
      by_cases hz : B = Meta.zero
      · have hn : decide (B = Meta.zero) = true := decide_eq_true hz
        simp only [hn, Bool.not_true] at hneq
        have HZ := Lib.hid hz
        clear hz hn
        rcases S with _ | _
        · go_wp2
          refine bodyPost_ret (results_box rfl _ w.heap.size B _ _ rfl rfl (setBox_box HB.out.out)) rfl ⟨?_, setBox_below B HB.out.below (Nat.le_refl _)⟩
          rw [← HB2.out, HE.out, HZ.out]; rfl
        · go_wp2
          refine bodyPost_ret (results_box rfl _ w.heap.size B _ _ rfl rfl (setBox_box HB.out.out)) rfl ⟨?_, setBox_below B HB.out.below (Nat.le_refl _)⟩
          rw [← HB2.out, HE.out, HZ.out]; rfl
      · have hn : decide (B = Meta.zero) = false := decide_eq_false hz
        simp only [hn, Bool.not_false] at hneq
        have HZ := Lib.hid hz
        clear hz hn
        go_wp2
        refine bodyPost_ret (results_box rfl _ w.heap.size B _ _ rfl rfl (setBox_box HB.out.out)) rfl ⟨?_, setBox_below B HB.out.below (Nat.le_refl _)⟩
        rw [← HB2.out, HE.out, if_pos HZ.out]; rfl
end Go.Proofs.Ytfbjjblgcgjndaa

/- What the chapter's examples fix, of pages. -/
namespace Go.Proofs.Ytfbjjblgcgjndaa
open Go.RowKit

theorem isPage_number (n m k : Nat) (p : List Nat) (h : SealOk k p) (hn : n < 4294967296) (hm : m < 4294967296) : IsPage n (sealed k m p) ↔ n = m := by
  constructor
  · intro hp
    obtain ⟨h1, h2, h3, h4⟩ := sealed_parts k m p h.2.2
    have h5 := hp.2.2.2
    rw [h1, h3] at h5
    have h6 : ((sealed k m p).drop 4).take 4 = ((sealed k n p).drop 4).take 4 := congrArg (fun l => (l.drop 4).take 4) h5
    rw [h4, (sealed_parts k n p h.2.2).2.2.2] at h6
    exact le_inj n m 4 hn hm h6.symm
  · rintro rfl
    exact isPage_sealed k n p h
def exM : Meta := ⟨1, 0, 0, 2, 0⟩
theorem ex1 : bestOf (List.replicate 1024 0) (sector exM) = exM := by decide +kernel
theorem ex2 : bestErr (List.replicate 1024 0) (sector exM) = 0 := by decide +kernel
theorem ex3 : bestOf (sector exM) [] = Meta.zero := by decide +kernel
theorem ex4 : bestErr (sector exM) [] = 151 := by decide +kernel
theorem ex5 : (sealed 1 7 [97, 98]).take 14 = [67, 80, 1, 0, 7, 0, 0, 0, 2, 0, 0, 0, 97, 98] := by decide +kernel
theorem ex6 : MayBe exM := by decide
theorem ex7 : exM.Ok := ⟨by decide, by decide, by decide, by decide, by decide⟩
theorem Buf.inner {n0 : Nat} {w : World} {v : Value} {l : List Nat} (h : Buf n0 w v l) (hb : Bytes l) (hs : l.length ≤ 1000000) : ∃ A c, v = .slice A l.length c ∧ (⟨A, l, c⟩ : Inner).Ok w := by
  obtain ⟨A, c, rfl, hA, hn, hc, hm⟩ := h.at
  exact ⟨A, c, rfl, hA, hn, hc, by show l.length ≤ 140737488351232; omega, hb⟩

set_option maxRecDepth 100000 in
set_option maxHeartbeats 1000000 in
theorem known08_any (w : World) : Calls Try.prog 68 #[] w fun e w' => e = .returned (.bool true) ∧ Below w.heap.size w w' := by
  have hpb : Bytes [97, 98] := by decide
  have hso : SealOk 1 [97, 98] := by decide
  have hSb := sealed_bytes 1 7 [97, 98] (by decide) hpb
  have hSl := sealed_length 1 7 [97, 98] (by decide)
  have hy := isPage_sealed 1 7 [97, 98] hso
  have hn : ¬ IsPage 8 (sealed 1 7 [97, 98]) := fun h => absurd ((isPage_number 8 7 1 [97, 98] hso (by decide) (by decide)).1 h) (by decide)
  obtain ⟨hk1, _, hk3, _⟩ := sealed_parts 1 7 [97, 98] (by decide)
  have h14 := ex5
  generalize hS : sealed 1 7 [97, 98] = S at *
  have hput := fun w => put_ok exM w ex7 ex6
  have hMl := sector_length exM
  have hMb := sector_bytes exM
  have e1 := ex1
  have e2 := ex2
  have e3 := ex3
  have e4 := ex4
  generalize sector exM = T at *
  have hZl : (List.replicate 1024 (0 : Nat)).length = 1024 := by simp
  have hZb := Bytes.zeros 1024
  have hZn : (madeCells #[.int .u8 0] 1024).toList = ns .u8 (List.replicate 1024 0) := made_ns .u8 1024
  generalize List.replicate 1024 (0 : Nat) = Z at *
  have kc := fun (w : World) (C : Array Value) (n c : Nat) => Lib.run_convert_bytes_const (P := Try.prog) w 23 5 C n c Try.underlying23 Try.underlying5
  have HSl := Lib.hid hSl
  have HMl := Lib.hid hMl
  have HZl := Lib.hid hZl
  have H14 := Lib.hid h14
  have HK1 := Lib.hid hk1
  have HK3 := Lib.hid hk3
  have E1 := Lib.hid e1
  have E2 := Lib.hid e2
  have E3 := Lib.hid e3
  have E4 := Lib.hid e4
  have HPut := Lib.hid hput
  have HZn := Lib.hid hZn
  clear hSl hMl hZl h14 hk1 hk3 e1 e2 e3 e4 hput hZn
  go_enter Try.func68, Try.ntmps68
  go_wp2_with fail
  have hA0 : At (w.alloc (.cells (ns .u8 [97, 98]).toArray 5 (2, 3))) (some ⟨w.heap.size, 0, none⟩) (ns .u8 [97, 98]) := At.whole (heap_alloc_new w _)
  refine (seal_ok 1 7 (some ⟨w.heap.size, 0, none⟩) 2 [97, 98] _ hso (by decide) (by decide) hpb hA0 (by simp)).mono ?_
  rintro e w1 ⟨v1, rfl, hv1, hb1, hs1⟩
  replace hb1 := below_next0 (below_alloc0 (Below.refl w.heap.size w) (.cells (ns .u8 [97, 98]).toArray 5 (2, 3))) hb1
  clear hA0
  rw [hS] at hv1
  obtain ⟨A1, c1, rfl, hI1⟩ := hv1.inner hSb (by have := HSl.out; omega)
  have hc1 : 1024 ≤ c1 := by have := hI1.le; have h2 := HSl.out; simp only at this; omega
  go_wp2_with fail
  refine (open_yes 7 ⟨A1, S, c1⟩ w1 hI1 (by decide) hy).mono ?_
  rintro e w2 ⟨v2, rfl, hv2, hb2, hs2⟩
  rw [show kindOf (⟨A1, S, c1⟩ : Inner).l = kindOf S from rfl, HK1.out]
  rw [show payOf (⟨A1, S, c1⟩ : Inner).l = payOf S from rfl, HK3.out] at hv2
  have hI2 := hI1.below hb2
  replace hb2 := below_next0 hb1 hb2
  obtain ⟨A2, c2, rfl, hP2⟩ := hv2.inner hpb (by simp)
  go_wp2_with fail
  refine (open_no 8 ⟨A1, S, c1⟩ w2 hI2 (by decide) hn).mono ?_
  rintro e w3 ⟨rfl, hb3⟩
  have hI3 := hI2.below hb3
  have hP3 := hP2.below hb3
  replace hb3 := below_next0 hb2 hb3
  go_wp2_with fail
  refine (HPut.out _).mono ?_
  rintro e w4 ⟨v4, rfl, hv4, hb4, hs4⟩
  have hI4 := hI3.below hb4
  have hP4 := hP3.below hb4
  replace hb4 := below_next0 hb3 hb4
  obtain ⟨A4, c4, rfl, hM4⟩ := hv4.inner hMb (by have := HMl.out; omega)
  go_wp2_with (with_reducible refine wp_make rfl _ _ 23 5 (.int .u8 0) 1 1 rfl Try.underlying23 Try.info5 w4.heap.size .i64 .i64 _ _ 1024 rfl rfl rfl rfl (by omega) (by omega) (Nat.le_refl _) ?_; intro w5 ho5 hg5)
  have hb5 := below_of_grown hg5
  have hI5 := hI4.below hb5
  have hP5 := hP4.below hb5
  have hM5 := hM4.below hb5
  replace hb5 := below_next0 hb4 hb5
  have hZ5 : (⟨some ⟨w4.heap.size, 0, none⟩, Z, 1024⟩ : Inner).Ok w5 := by
    have hl := HZl.out
    refine ⟨?_, by simp, by simp only; omega, by simp only; omega, hZb⟩
    have hx : w5.ownsRow w4.heap.size 5 1 (.slice (some ⟨w4.heap.size, 0, none⟩) 1024 1024) 1024 (ns .u8 Z) := by rw [← HZn.out]; exact ho5
    obtain ⟨A', c', e, hA', _⟩ := At.own hx
    cases e
    exact hA'
  have hbest := best_any ⟨some ⟨w4.heap.size, 0, none⟩, Z, 1024⟩ ⟨A4, T, c4⟩ w5 hZ5 hM5
  simp only at hbest
  rw [E1.out, E2.out, HZl.out, show exM.val = .agg #[.int .u64 1, .int .u32 0, .int .u32 0, .int .u32 2, .int .u64 0] from rfl] at hbest
  have HBest := Lib.hid hbest
  clear hbest
  refine HBest.out.mono ?_
  rintro e w6 ⟨rfl, hb6⟩
  have hI6 := hI5.below hb6
  have hP6 := hP5.below hb6
  have hM6 := hM5.below hb6
  replace hb6 := below_next0 hb5 hb6
  go_wp2_with fail
  change Calls Try.prog 75 _ (w6.alloc (.cells exM.cells 116)) _
  have hX6 := MetaBox.new w6 exM
  have hI7 := hI6.below (below_alloc0 (Below.refl _ _) (.cells exM.cells 116))
  have hP7 := hP6.below (below_alloc0 (Below.refl _ _) (.cells exM.cells 116))
  have hM7 := hM6.below (below_alloc0 (Below.refl _ _) (.cells exM.cells 116))
  have hb7 := below_alloc0 hb6 (.cells exM.cells 116)
  generalize w6.alloc (.cells exM.cells 116) = w7 at hX6 hI7 hP7 hM7 hb7 ⊢
  have hbest2 := best_any ⟨A4, T, c4⟩ ⟨none, [], 0⟩ w7 hM7 ⟨At.nil _ _, fun _ => rfl, Nat.le_refl _, by simp, Bytes.nil⟩
  simp only [List.length_nil] at hbest2
  rw [E3.out, E4.out, show Meta.zero.val = .agg #[.int .u64 0, .int .u32 0, .int .u32 0, .int .u32 0, .int .u64 0] from rfl] at hbest2
  refine hbest2.mono ?_
  rintro e w8 ⟨rfl, hb8⟩
  have hI8 := hI7.below hb8
  have hP8 := hP7.below hb8
  have hX8 := hX6.below hb8 (box_lt hX6)
  replace hb8 := below_next0 hb7 hb8
  have k1 : ∀ W, Below w8.heap.size w8 W → (convert 23 9 (.slice A1 14 c1)).run Try.prog W = .ok (.string ⟨#[67, 80, 1, 0, 7, 0, 0, 0, 2, 0, 0, 0, 97, 98]⟩) W := fun W hb => by
    have h1 : At W A1 (ns .u8 (S.take 14)) := (hI8.lies.takes 14).below hb
    rw [H14.out] at h1
    exact conv_str (P := Try.prog) W A1 c1 [67, 80, 1, 0, 7, 0, 0, 0, 2, 0, 0, 0, 97, 98] 14 rfl h1 Try.underlying23 Try.underlying5 Try.underlying9
  have k2 : ∀ W, Below w8.heap.size w8 W → (convert 23 9 (.slice A2 2 c2)).run Try.prog W = .ok (.string ⟨#[97, 98]⟩) W := fun W hb => by
    have h1 : At W A2 (ns .u8 [97, 98]) := hP8.lies.below hb
    exact conv_str (P := Try.prog) W A2 c2 [97, 98] 2 rfl h1 Try.underlying23 Try.underlying5 Try.underlying9
  have g1 := k1 _ (below_alloc0 (Below.refl _ _) (.cells Meta.zero.cells 116))
  have g2 := k2 _ (below_alloc0 (Below.refl _ _) (.cells Meta.zero.cells 116))
  have hX9 := hX8.old (.cells Meta.zero.cells 116)
  have hb9 := below_alloc0 hb8 (.cells Meta.zero.cells 116)
  clear k1 k2
  go_upto_region 7 with (fail)
  change Code.wp _ _ _ _ (w8.alloc (.cells Meta.zero.cells 116))
  generalize w8.alloc (.cells Meta.zero.cells 116) = w9 at g1 g2 hX9 hb9 ⊢
  have hX9' : w9.heap[w6.heap.size]? = some (.cells exM.cells 116 (0, 0)) := hX9
  obtain ⟨x0, x1, x2, x3, x4⟩ := meta_cells hX9
  have x0' : w9.cell? ⟨w6.heap.size, 0, none⟩ = some (.int .u64 1) := x0
  have x1' : w9.cell? ⟨w6.heap.size, 1, none⟩ = some (.int .u32 0) := x1
  have x2' : w9.cell? ⟨w6.heap.size, 2, none⟩ = some (.int .u32 0) := x2
  have x3' : w9.cell? ⟨w6.heap.size, 3, none⟩ = some (.int .u32 2) := x3
  have x4' : w9.cell? ⟨w6.heap.size, 4, none⟩ = some (.int .u64 0) := x4
  clear x0 x1 x2 x3 x4 hX9'
  have hls := HSl.out
  have hc14 : (14 : Int) ≤ (c1 : Int) := by omega
  go_wp2
  go_ret
  exact ⟨rfl, hb9⟩
end Go.Proofs.Ytfbjjblgcgjndaa

/- Seal and Open, what they tell in one: yes and no. -/
namespace Go.Proofs.Ytfbjjblgcgjndaa
open Go.RowKit

def sealOut (k n : Nat) (p : List Nat) : List Nat := if SealOk k p then sealed k n p else []
def sealErr (k : Nat) (p : List Nat) : Nat := if SealOk k p then 0 else 80
theorem sealOut_length (k n : Nat) (p : List Nat) : (sealOut k n p).length ≤ 1024 := by
  unfold sealOut
  split
  · rename_i h; rw [sealed_length _ _ _ h.2.2]; omega
  · simp
theorem sealOut_bytes (k n : Nat) (p : List Nat) (hk : k < 256) (hp : Bytes p) : Bytes (sealOut k n p) := by
  unfold sealOut
  split
  · exact sealed_bytes _ _ _ hk hp
  · exact Bytes.nil
def GivesBuf (l : List Nat) (x : Nat) (w : World) (e : Ending) (w' : World) : Prop :=
  ∃ A c, e = .returned (.tuple #[.slice A l.length c, .int .u16 (x : Nat)]) ∧ Buf w.heap.size w' (.slice A l.length c) l ∧ Below w.heap.size w w'
theorem seal_call (kind number : Nat) (A : Option Addr) (c : Nat) (p : List Nat) (w : World) (hk : kind < 256) (hn : number < 4294967296) (hp : Bytes p) (hA : At w A (ns .u8 p)) (hnil : A = none → c = 0) :
    Calls Try.prog 66 #[.int .u8 (kind : Int), .int .u32 (number : Int), .slice A p.length c] w (GivesBuf (sealOut kind number p) (sealErr kind p) w) := by
  by_cases h : SealOk kind p
  · unfold sealOut sealErr
    rw [if_pos h, if_pos h]
    refine (seal_ok kind number A c p w h hk hn hp hA hnil).mono ?_
    rintro e w' ⟨v, rfl, hv, hb, _⟩
    obtain ⟨A', c', rfl, _⟩ := hv.at
    exact ⟨A', c', rfl, hv, hb⟩
  · unfold sealOut sealErr
    rw [if_neg h, if_neg h]
    refine (seal_no kind number A c p w h).mono ?_
    rintro e w' ⟨rfl, rfl⟩
    exact ⟨none, 0, rfl, Buf.nil _ _, Below.refl _ _⟩
theorem rseal_call (kind number : Nat) (A : Option Addr) (c : Nat) (p : List Nat) (w : World) (hk : kind < 256) (hn : number < 4294967296) (hp : Bytes p) (hA : At w A (ns .u8 p)) (hnil : A = none → c = 0) :
    Calls Try.prog 67 #[.int .u8 (kind : Int), .int .u32 (number : Int), .slice A p.length c] w (GivesBuf (sealOut kind number p) (sealErr kind p) w) := by
  by_cases h : SealOk kind p
  · unfold sealOut sealErr
    rw [if_pos h, if_pos h]
    refine (rseal_ok kind number A c p w h hk hn hp hA hnil).mono ?_
    rintro e w' ⟨v, rfl, hv, hb, _⟩
    obtain ⟨A', c', rfl, _⟩ := hv.at
    exact ⟨A', c', rfl, hv, hb⟩
  · unfold sealOut sealErr
    rw [if_neg h, if_neg h]
    refine (rseal_no kind number A c p w h).mono ?_
    rintro e w' ⟨rfl, rfl⟩
    exact ⟨none, 0, rfl, Buf.nil _ _, Below.refl _ _⟩

def openKind (n : Nat) (l : List Nat) : Nat := if IsPage n l then kindOf l else 0
def openPay (n : Nat) (l : List Nat) : List Nat := if IsPage n l then payOf l else []
def openErr (n : Nat) (l : List Nat) : Nat := if IsPage n l then 0 else 80
theorem openPay_length (n : Nat) (l : List Nat) : (openPay n l).length ≤ 1008 := by
  unfold openPay
  split
  · rename_i h; exact h.2.2.1.2.2
  · simp
theorem openPay_bytes (n : Nat) (l : List Nat) (h : Bytes l) : Bytes (openPay n l) := by
  unfold openPay
  split
  · exact (h.drop 12).take _
  · exact Bytes.nil
theorem openKind_lt (n : Nat) (l : List Nat) (h : Bytes l) : openKind n l < 256 := by
  unfold openKind
  split
  · rename_i h1; have := h1.2.2.1.2.1; omega
  · omega
def GivesPage (k : Nat) (l : List Nat) (x : Nat) (w : World) (e : Ending) (w' : World) : Prop :=
  ∃ A c, e = .returned (.tuple #[.int .u8 (k : Nat), .slice A l.length c, .int .u16 (x : Nat)]) ∧ Buf w.heap.size w' (.slice A l.length c) l ∧ Below w.heap.size w w'
theorem open_call (number : Nat) (r : Inner) (w : World) (h : r.Ok w) (hn : number < 4294967296) :
    Calls Try.prog 69 #[.int .u32 (number : Int), .slice r.A r.l.length r.c] w (GivesPage (openKind number r.l) (openPay number r.l) (openErr number r.l) w) := by
  by_cases hp : IsPage number r.l
  · unfold openKind openPay openErr
    rw [if_pos hp, if_pos hp, if_pos hp]
    refine (open_yes number r w h hn hp).mono ?_
    rintro e w' ⟨v, rfl, hv, hb, _⟩
    obtain ⟨A', c', rfl, _⟩ := hv.at
    exact ⟨A', c', rfl, hv, hb⟩
  · unfold openKind openPay openErr
    rw [if_neg hp, if_neg hp, if_neg hp]
    refine (open_no number r w h hn hp).mono ?_
    rintro e w' ⟨rfl, hb⟩
    exact ⟨none, 0, rfl, Buf.nil _ _, hb⟩
theorem ropen_call (number : Nat) (r : Inner) (w : World) (h : r.Ok w) (hs : r.l.length ≤ 1000000000) (hn : number < 4294967296) :
    Calls Try.prog 70 #[.int .u32 (number : Int), .slice r.A r.l.length r.c] w (GivesPage (openKind number r.l) (openPay number r.l) (openErr number r.l) w) := by
  by_cases hp : IsPage number r.l
  · unfold openKind openPay openErr
    rw [if_pos hp, if_pos hp, if_pos hp]
    refine (ropen_yes number r.A r.c r.l w hs h.lies h.bytes h.le hn hp).mono ?_
    rintro e w' ⟨v, rfl, hv, hb, _⟩
    obtain ⟨A', c', rfl, _⟩ := hv.at
    exact ⟨A', c', rfl, hv, hb⟩
  · unfold openKind openPay openErr
    rw [if_neg hp, if_neg hp, if_neg hp]
    refine (ropen_no number r.A r.c r.l w hs h.lies h.bytes h.le hn hp).mono ?_
    rintro e w' ⟨rfl, hb⟩
    exact ⟨none, 0, rfl, Buf.nil _ _, hb⟩
end Go.Proofs.Ytfbjjblgcgjndaa

/- Disk, plain laws: how far the counts and the cache have come. -/
namespace Go.Proofs.Ytfbjjblgcgjndaa

/-- behind k operations at most -/
def Small (D : Dsk) (k : Nat) : Prop := D.cache.length ≤ 8 * k ∧ ∀ j, D.n j ≤ (k : Int)
theorem Small.new (p : Nat) : Small (Dsk.new p) 0 := ⟨Nat.zero_le _, fun j => by simp [Dsk.new]⟩
theorem Small.mono {D : Dsk} {k m : Nat} (h : Small D k) (hk : k ≤ m) : Small D m := ⟨by have := h.1; omega, fun j => by have := h.2 j; omega⟩
theorem Small.more {D D' : Dsk} {k : Nat} (h : Small D k) (hc : D'.cache.length ≤ D.cache.length + 8) (hn : ∀ j, D'.n j ≤ D.n j + 1) : Small D' (k + 1) :=
  ⟨by have := h.1; omega, fun j => by have := h.2 j; have := hn j; omega⟩
theorem turn_le (n : Nat → Int) (k j : Nat) : turn n k (n k + 1) j ≤ n j + 1 := by
  by_cases e : j = k
  · subst e; rw [turn_same]; omega
  · rw [turn_other _ _ _ _ e]; omega
theorem Dsk.begin_n (D : Dsk) (k j : Nat) : (D.begin k).2.n j ≤ D.n j + 1 := by
  unfold Dsk.begin
  split
  · show D.n j ≤ _; omega
  · split
    · show D.n j ≤ _; omega
    · split
      · exact turn_le D.n k j
      · exact turn_le D.n k j
theorem Small.begin {D : Dsk} {k : Nat} (h : Small D k) (i : Nat) : Small (D.begin i).2 (k + 1) :=
  h.more (by rw [(D.begin_last i).2]; omega) (D.begin_n i)
theorem Small.go {D : Dsk} {k : Nat} (h : Small D k) (i : Nat) : Small (D.go i) (k + 1) :=
  h.more (by show D.cache.length ≤ _; omega) (turn_le D.n i)
theorem Small.write {D : Dsk} {k : Nat} (h : Small D k) (pg : Int) (b : List Nat) : Small (D.write pg b).2 (k + 1) := by
  unfold Dsk.write
  split
  · exact h.begin 2
  · split
    · exact h.go 2
    · split
      · exact h.go 2
      · rename_i hb
        refine h.more ?_ (turn_le D.n 2)
        show (D.cache ++ puts (8 * pg.toNat) b (b.length / 128)).length ≤ _
        rw [List.length_append, puts_length]
        have : b.length = 1024 ∨ b.length = 128 := by omega
        rcases this with e | e <;> rw [e] <;> omega
theorem Small.sync {D : Dsk} {k : Nat} (h : Small D k) : Small D.sync.2 (k + 1) := by
  unfold Dsk.sync
  split
  · exact h.begin 3
  · exact h.more (by show 0 ≤ _; omega) (turn_le D.n 3)
theorem Small.read {D : Dsk} {k : Nat} (h : Small D k) (pg : Int) : Small (D.read pg).2.2 (k + 1) := by
  unfold Dsk.read
  split
  · exact h.begin 1
  · split
    · exact h.go 1
    · exact h.go 1
theorem Small.cut {D : Dsk} {k : Nat} (h : Small D k) (bs : List Bool) : Small (D.cut bs) k := ⟨Nat.zero_le _, h.2⟩
theorem Small.setTrip {D : Dsk} {k : Nat} (h : Small D k) (n : Int) : Small (D.setTrip n).2 k := by
  unfold Dsk.setTrip
  split
  · exact h
  · split <;> exact h
theorem Small.setFail {D : Dsk} {k : Nat} (h : Small D k) (i n : Int) : Small (D.setFail i n).2 k := by
  unfold Dsk.setFail
  split
  · exact h
  · split <;> exact h
theorem Small.c {D : Dsk} {k : Nat} (h : Small D k) (hk : k ≤ 100000000) : D.cache.length ≤ 1000000000000 := by have := h.1; omega
theorem Small.m {D : Dsk} {k : Nat} (h : Small D k) (hk : k ≤ 100000000) (j : Nat) : D.n j ≤ 4611686018427387904 := by have := h.2 j; omega
end Go.Proofs.Ytfbjjblgcgjndaa

/- Contract of the pool's Read. -/
namespace Go.Proofs.Ytfbjjblgcgjndaa
open Go.RowKit Go.Maps

/-- what a read of a pool gives and leaves -/
structure Rd where
  kind : Nat
  pay : List Nat
  err : Nat
  D : Dsk
  L : List Hand
def plRead (most : Nat) (D : Dsk) (L : List Hand) (n : Nat) : Rd :=
  if D.pages ≤ n then ⟨0, [], 2, D, L⟩
  else match findPage n L with
    | some h => ⟨h.kind, h.pay, 0, D, forget n L ++ [h]⟩
    | none => if (D.read (n : Int)).1 ≠ 0 then ⟨0, [], (D.read (n : Int)).1, (D.read (n : Int)).2.2, L⟩
      else if IsPage n (D.read (n : Int)).2.1 then ⟨openKind n (D.read (n : Int)).2.1, openPay n (D.read (n : Int)).2.1, 0, (D.read (n : Int)).2.2, usePage most ⟨n, openKind n (D.read (n : Int)).2.1, openPay n (D.read (n : Int)).2.1⟩ L⟩
      else ⟨0, [], 100, (D.read (n : Int)).2.2, L⟩
section
variable {n0 : Nat} {w w1 w2 : World} {P d most e mb nb : Nat} {l1 l2 : List Nat} {b : Nat} {hd : Nat → Hand} {nx pv nx' pv' : Nat → Nat} {dat : Nat → Nat → Value} {M : DataW Unit} {Y : Nat → Prop}
theorem mem_end {x : Nat} : x ∈ (l1 ++ l2) ++ [b] ↔ x ∈ l1 ++ b :: l2 := by
  simp only [List.mem_append, List.mem_cons, List.not_mem_nil, or_false]
  constructor
  · rintro ((h | h) | h)
    · exact .inl h
    · exact .inr (.inr h)
    · exact .inr (.inl h)
  · rintro (h | h | h)
    · exact .inl (.inl h)
    · exact .inr h
    · exact .inl (.inr h)
theorem mem_end' {x : Nat} : x ∈ e :: ((l1 ++ l2) ++ [b]) ↔ x ∈ e :: (l1 ++ b :: l2) := by
  rw [List.mem_cons, List.mem_cons, mem_end]
/-- a hand goes to the ring's end -/
theorem PoolIn.moved (h : PoolIn n0 w P d most e mb nb (l1 ++ b :: l2) hd nx pv dat M Y) (hr : RingIn w2 e ((l1 ++ l2) ++ [b]) nx' pv' dat) (hc : Chg (fun g => g ∈ e :: (l1 ++ b :: l2)) w w2) :
    PoolIn n0 w2 P d most e mb nb ((l1 ++ l2) ++ [b]) hd nx' pv' dat M Y := by
  obtain ⟨r1, r2, r3⟩ := h.rest hc
  obtain ⟨s1, s2, s3, s4⟩ := h.sep
  exact ⟨r1, hr, fun c hc => r3 c (mem_end.1 hc), fun c c' hc hc' => h.nums c c' (mem_end.1 hc) (mem_end.1 hc'), r2, h.mfor.perm (fun x => mem_end) (by simp only [List.length_append, List.length_cons, List.length_nil]; omega), ⟨h.base.1, h.base.2.1, fun x hx => h.base.2.2.1 x (mem_end'.1 hx), fun g hg => ⟨(h.base.2.2.2 g hg).1, Nat.lt_of_lt_of_le (h.base.2.2.2 g hg).2 hc.size⟩⟩, s1, fun hx => s2 (mem_end'.1 hx), fun hx => s3 (mem_end'.1 hx), fun g hg => ⟨(s4 g hg).1, (s4 g hg).2.1, fun hx => (s4 g hg).2.2 (mem_end'.1 hx)⟩⟩
theorem PoolIn.find_one (h : PoolIn n0 w P d most e mb nb (l1 ++ b :: l2) hd nx pv dat M Y) : findPage (hd b).num ((l1 ++ b :: l2).map hd) = some (hd b) := by
  unfold findPage
  rw [List.map_append, List.find?_append, List.find?_eq_none.2, List.map_cons, List.find?_cons]
  · simp
  · intro x hx
    obtain ⟨c, hc, rfl⟩ := List.mem_map.1 hx
    simpa using h.others c (by simp [hc])
end
theorem find_none {L : List Hand} {n : Nat} (h : ∀ x, x ∈ L → x.num ≠ n) : findPage n L = none := by
  unfold findPage
  rw [List.find?_eq_none]
  intro x hx
  simpa using h x hx
def PlRead (n0 : Nat) (w : World) (P d most c : Nat) (X : Nat → Prop) (r : Rd) (e : Ending) (w' : World) : Prop :=
  ∃ A cap, e = .returned (.tuple #[.int .u8 (r.kind : Nat), .slice A r.pay.length cap, .int .u16 (r.err : Nat)]) ∧ Buf w.heap.size w' (.slice A r.pay.length cap) r.pay ∧ PoolX n0 w' P d most r.D r.L (c + 1) (fun g => X g ∨ blk (.slice A r.pay.length cap) g) ∧ Step n0 X w w'
theorem PlRead.stay {n0 : Nat} {w w' : World} {P d most c x : Nat} {D : Dsk} {L : List Hand} {X : Nat → Prop} (h : PoolX n0 w' P d most D L c X) (hs : Step n0 X w w') : PlRead n0 w P d most c X ⟨0, [], x, D, L⟩ (.returned (.tuple #[.int .u8 0, .slice none 0 0, .int .u16 (x : Nat)])) w' :=
  ⟨none, 0, rfl, Buf.nil _ _, (h.moreC (by omega)).less (fun g hg => hg.elim id (fun e => by cases e)), hs⟩
theorem Step.refl (n0 : Nat) (X : Nat → Prop) (w : World) : Step n0 X w w := ⟨Chg.refl _ _, Below.refl _ _⟩
section
variable {n0 : Nat} {w : World} {P d most : Nat} {D : Dsk} {L : List Hand} {c : Nat} {X : Nat → Prop}
set_option maxRecDepth 100000 in
set_option maxHeartbeats 4000000 in
/-- it is at hand -/
theorem plread_hit (h : PoolX n0 w P d most D L c X) (n : Nat) (hn : n < 4294967296) (hp : n < D.pages) (x : Hand) (hf : findPage n L = some x) :
    Calls Try.prog 81 #[.pointer (some ⟨P, 0, none⟩), .int .u32 (n : Int)] w (PlRead n0 w P d most c X ⟨x.kind, x.pay, 0, D, forget n L ++ [x]⟩) := by
  have HW := Lib.hid (within_any h n hn)
  have hdp : decide (n < D.pages) = true := by simpa using hp
  rw [hdp] at HW
  obtain ⟨T, hpa, hXT, hTn, hst⟩ := h.pool
  have HX := Lib.hid hXT
  have HST := Lib.hid hst
  have HN0 := Lib.hid h.n_le
  obtain ⟨⟨e, mb, nb, bl, hd, nx, pv, dat, M, Y, h1, rfl, h3, h4⟩, h5⟩ := hpa
  rcases h1.split n with hno | ⟨l1, b, l2, rfl, hbn⟩
  · rw [find_none (fun y hy => by obtain ⟨q, hq, rfl⟩ := List.mem_map.1 hy; exact hno q hq)] at hf
    cases hf
  · have hfb := h1.find_one
    rw [hbn] at hfb
    have hxb : x = hd b := by rw [hfb] at hf; cases hf; rfl
    have hfo := h1.forget_one
    rw [hbn] at hfo
    have hl := h1.look_yes b (by simp)
    rw [hbn] at hl
    obtain ⟨q2, q3, ⟨A4, c4, q4, hA4, hn4, hY4⟩, hok⟩ := h1.dat b (by simp)
    rw [← hxb] at q3 q4 hA4 hok
    have c2 : w.cell? ⟨P, 2, none⟩ = some (.map (some mb)) := h1.rcd.cell 2 (by omega)
    have HOUT := Lib.hid (out_any h1.ring)
    have H1 := Lib.hid h1
    have H3 := Lib.hid h3
    have H4 := Lib.hid h4
    have H5 := Lib.hid h5
    have HXB := Lib.hid hxb
    have HFO := Lib.hid hfo
    have HQ3 := Lib.hid q3
    have HQ4 := Lib.hid q4
    have HA4 := Lib.hid hA4
    have HOK := Lib.hid hok
    have HN4 := Lib.hid hn4
    have HY4 := Lib.hid hY4
    clear h hXT hTn hst h1 h3 h4 h5 hf hfb hxb hfo hbn q2 q3 q4 hA4 hn4 hY4 hok hdp
    obtain ⟨k, hk⟩ : ∃ k, k = x.kind := ⟨_, rfl⟩
    obtain ⟨m, hm⟩ : ∃ m, m = x.pay.length := ⟨_, rfl⟩
    have HK := Lib.hid hk
    have HM := Lib.hid hm
    clear hk hm
    go_enter Try.func81, Try.ntmps81
    go_wp2_with fail
    refine HW.out.mono ?_
    rintro e0 w0 ⟨rfl, rfl⟩
    go_wp2_with fail
    refine HOUT.out.mono ?_
    rintro e0 w1 ⟨rfl, hr1, hrb, hc1⟩
    have hc1' : Chg (fun g => g ∈ e :: (l1 ++ b :: l2)) w w1 := hc1.mono (fun g _ hg => mem_mid hg)
    obtain ⟨r1, r2, _⟩ := H1.out.rest hc1'
    have hbn : b ∉ e :: (l1 ++ l2) := fun hx => by
      have nd := H1.out.ring.nodup
      rw [List.nodup_cons, List.nodup_append, List.nodup_cons] at nd
      simp only [List.mem_cons, List.mem_append] at hx
      rcases hx with hx | hx | hx
      · exact nd.1 (by rw [← hx]; simp)
      · exact nd.2.2.2 b hx b (by simp) rfl
      · exact nd.2.2.1.1 hx
    have hPb : P ≠ b := fun e' => H1.out.sep.2.1 (by rw [e']; simp)
    have HIN := Lib.hid (in_any (r1.cell 3 (by omega)) hPb hr1 hbn hrb (fun i h2 _ => by
      match i, h2 with
      | i + 2, _ => rfl))
    have HC1 := Lib.hid hc1'
    clear hr1 hrb hc1 hc1' r1 r2 hbn hPb HOUT c2 hl
    go_wp2_with fail
    refine HIN.out.mono ?_
    rintro e0 w2 ⟨rfl, hr2, hc2⟩
    have hc02 : Chg (fun g => g ∈ e :: (l1 ++ b :: l2)) w w2 := HC1.out.trans hc2 (fun g _ hg => mem_end'.1 hg)
    have hin2 := H1.out.moved hr2 hc02
    have p3 : w2.cell? ⟨b, 3, none⟩ = some (.int .u8 (k : Int)) := by
      have := (hr2.node b (by simp)).cell 3 (by omega)
      rw [this]
      show some (dat b 3) = _
      rw [HQ3.out, HK.out]
    have p4 : w2.cell? ⟨b, 4, none⟩ = some (.slice A4 m c4) := by
      have := (hr2.node b (by simp)).cell 4 (by omega)
      rw [this]
      show some (dat b 4) = _
      rw [HQ4.out, HM.out]
    have hat2 : At w2 A4 (ns .u8 x.pay) := HA4.out.chg hc02 (fun a ha hx => (H1.out.sep.2.2.2 _ (HY4.out a ha)).2.2 hx)
    have hcl := clone_any A4 c4 m x.pay w2.drew HM.out (Nat.le_trans HOK.out.len (by omega)) (hat2.below (below_drew0 (Below.refl _ w2))) HN4.out
    have HCL := Lib.hid hcl
    have HI2 := Lib.hid hin2
    have HC2 := Lib.hid hc02
    clear hcl hin2 hr2 hc2 hat2 HIN hc02
    go_wp2_with fail
    go_region_held3 (fun W' => W'.cell? ⟨b, 3, none⟩ = some (.int .u8 (k : Int)) ∧ W'.cell? ⟨b, 4, none⟩ = some (.slice A4 m c4)) (first | exact ⟨p3, p4⟩ | exact ⟨(HB3.out.cell (p := ⟨b, 3, none⟩) HLT.out).trans p3, (HB3.out.cell (p := ⟨b, 4, none⟩) HLT.out).trans p4⟩ | assumption)
      (first | (go_at_call 137; refine HCL.out.mono ?_; rintro e0 w3 ⟨v, rfl, hv, hb3, _⟩; obtain ⟨A5, c5, e5, _⟩ := hv.at; rw [← HM.out] at e5; subst e5; have HV := Lib.hid hv; have HB3 := Lib.hid hb3; have HLT := Lib.hid (HI2.out.ring.node b (by simp)).lt; clear hv hb3))
    go_wp2_with fail
    go_ret3
    have hpa2 : PoolAt n0 w2 P d most (forget n ((l1 ++ b :: l2).map hd) ++ [x]) c T := ⟨⟨e, mb, nb, (l1 ++ l2) ++ [b], hd, _, _, dat, M, Y, HI2.out, by rw [HFO.out, HXB.out]; simp, H3.out, fun g hg => H4.out g (by
      rcases hg with hg | hg | hg | hg
      · exact .inl hg
      · exact .inr (.inl hg)
      · exact .inr (.inr (.inl (mem_end'.1 hg)))
      · exact .inr (.inr (.inr hg)))⟩, fun g hg => ⟨(H5.out g hg).1, Nat.lt_of_lt_of_le (H5.out g hg).2 HC2.out.size⟩⟩
    have hcT : Chg T w w2 := HC2.out.mono (fun g _ hg => H4.out g (.inr (.inr (.inl hg))))
    obtain ⟨hx2, hs2⟩ := HST.out w2 _ c (hpa2.pnow hcT)
    have hb23 : Below w2.heap.size w2 w3 := below_next0 (below_drew0 (Below.refl _ w2)) HB3.out
    have hv3 : ∀ g, blk (.slice A5 m c5) g → w2.heap.size ≤ g ∧ g < w3.heap.size := fun g hg => row_lt HV.out hg
    have hfx := (hx2.also hb23 (Y := blk (.slice A5 m c5)) hv3).moreC (c' := c + 1) (by omega)
    have hsx := hs2.trans (Step.of_below (X := X) hb23 hx2.n_le) (fun _ h => h)
    have hbv : Buf w.heap.size w3 (.slice A5 m c5) x.pay := own_down HV.out hcT.size
    rw [HM.out] at hfx hbv ⊢
    rw [HK.out]
    exact ⟨A5, c5, rfl, hbv, hfx, hsx⟩
set_option maxRecDepth 100000 in
set_option maxHeartbeats 4000000 in
/-- beyond the disk -/
theorem plread_out (h : PoolX n0 w P d most D L c X) (n : Nat) (hn : n < 4294967296) (hp : D.pages ≤ n) :
    Calls Try.prog 81 #[.pointer (some ⟨P, 0, none⟩), .int .u32 (n : Int)] w (PlRead n0 w P d most c X ⟨0, [], 2, D, L⟩) := by
  have HW := Lib.hid (within_any h n hn)
  have hdp : decide (n < D.pages) = false := by simpa using hp
  rw [hdp] at HW
  have H := Lib.hid h
  clear h hdp hp
  go_enter Try.func81, Try.ntmps81
  go_wp2_with fail
  refine HW.out.mono ?_
  rintro e0 w0 ⟨rfl, rfl⟩
  go_wp2_with fail
  go_ret3
  exact PlRead.stay H.out (Step.refl _ _ _)
theorem PoolX.look (h : PoolX n0 w P d most D L c X) (n : Nat) (hn : n < 4294967296) (hf : findPage n L = none) : ∃ mb, w.cell? ⟨P, 2, none⟩ = some (.map (some mb)) ∧ (Instr.lookup 204 (.map (some mb)) (.int .u32 (n : Int)) false).run Try.prog w = .ok (.pointer none) w := by
  obtain ⟨S, T, h, _⟩ := h
  obtain ⟨⟨e, mb, nb, bl, hd, nx, pv, dat, M, Y, h1, rfl, h3, h4⟩, h5⟩ := h.pool
  refine ⟨mb, h1.rcd.cell 2 (by omega), ?_⟩
  rcases h1.split n with hno | ⟨l1, b, l2, rfl, hbn⟩
  · exact h1.look_no n hn hno
  · have := h1.find_one
    rw [hbn, hf] at this
    cases this
theorem read_bytes {D : Dsk} (ok : D.Ok) (pg : Int) : Bytes (D.read pg).2.1 ∧ (D.read pg).2.1.length ≤ 1024 := by
  unfold Dsk.read
  split
  · exact ⟨Bytes.nil, by simp⟩
  · split
    · exact ⟨Bytes.nil, by simp⟩
    · rename_i h2
      obtain ⟨p, a, b, c⟩ := ok.pages
      have hp : D.pages = p := by unfold Dsk.pages; omega
      have := D.secs_ok ok (8 * pg.toNat) 8 (by omega)
      exact ⟨this.2, by simp only [this.1]; omega⟩
set_option maxRecDepth 100000 in
set_option maxHeartbeats 4000000 in
/-- it is not at hand -/
theorem plread_miss (h : PoolX n0 w P d most D L c X) (n : Nat) (hn : n < 4294967296) (hp : n < D.pages) (hf : findPage n L = none) (hcl : D.cache.length ≤ 1000000000000) (hdn : D.n 1 ≤ 4611686018427387904) (hm : most ≤ 4611686018427387904) (hc : c ≤ 1000000000) :
    Calls Try.prog 81 #[.pointer (some ⟨P, 0, none⟩), .int .u32 (n : Int)] w (PlRead n0 w P d most c X (plRead most D L n)) := by
  have HW := Lib.hid (within_any h n hn)
  have hdp : decide (n < D.pages) = true := by simpa using hp
  rw [hdp] at HW
  obtain ⟨mb, c2, hl⟩ := h.look n hn hf
  have c0 := h.cell0.1
  obtain ⟨S, hd, hXS, _, hst⟩ := h.disk
  have HRD := Lib.hid (dg_read hd (n : Int) hcl hdn)
  have HST := Lib.hid hst
  have HB := Lib.hid (read_bytes h.ok (n : Int))
  have HN0 := Lib.hid h.n_le
  have hpl : plRead most D L n = if (D.read (n : Int)).1 ≠ 0 then ⟨0, [], (D.read (n : Int)).1, (D.read (n : Int)).2.2, L⟩
      else if IsPage n (D.read (n : Int)).2.1 then ⟨openKind n (D.read (n : Int)).2.1, openPay n (D.read (n : Int)).2.1, 0, (D.read (n : Int)).2.2, usePage most ⟨n, openKind n (D.read (n : Int)).2.1, openPay n (D.read (n : Int)).2.1⟩ L⟩
      else ⟨0, [], 100, (D.read (n : Int)).2.2, L⟩ := by
    unfold plRead
    rw [if_neg (by omega), hf]
  rw [hpl]
  generalize D.read (n : Int) = q at *
  obtain ⟨x, l, D'⟩ := q
  simp only at HRD HST HB ⊢
  have HPN := Lib.hid hp
  clear h hdp hp hd hXS hst hpl hf
  by_cases hx : x = 0
  · subst hx
    simp only [ne_eq, not_true_eq_false, if_false]
    have hread : ∀ (Q : Ending → World → Prop), True := fun _ => trivial
    by_cases hpg : IsPage n l
    · rw [if_pos hpg]
      have hoe : openErr n l = 0 := by unfold openErr; rw [if_pos hpg]
      have HOE := Lib.hid hoe
      clear hpg hoe hread
      go_enter Try.func81, Try.ntmps81
      go_wp2_with fail
      refine HW.out.mono ?_
      rintro e0 w0 ⟨rfl, rfl⟩
      go_wp2_with fail
      refine HRD.out.mono ?_
      rintro e0 w1 ⟨A1, rfl, hcl1, hd1, hc1⟩
      obtain ⟨hx1, hs1⟩ := HST.out w1 D' (blk (.slice A1 l.length l.length)) hd1 hc1 (by
        intro g hg
        cases A1 with
        | none => cases hg
        | some a => cases hg; exact hcl1.base a rfl)
      have hop := open_call n ⟨A1, l, l.length⟩ w1 (hcl1.inner HB.out.1 (Nat.le_trans HB.out.2 (by omega))) hn
      simp only at hop
      rw [HOE.out] at hop
      have HOP := Lib.hid hop
      have HX1 := Lib.hid hx1
      have HS1 := Lib.hid hs1
      have HOK := Lib.hid (show Hand.Ok ⟨n, openKind n l, openPay n l⟩ from ⟨hn, openKind_lt n l HB.out.1, openPay_bytes n l HB.out.1, openPay_length n l⟩)
      generalize openKind n l = k at *
      generalize openPay n l = p at *
      clear hcl1 hd1 hc1 hx1 hs1 hop HRD HST hl c2 c0
      go_wp2_with fail
      refine HOP.out.mono ?_
      rintro e0 w2 ⟨A2, c2, rfl, hv2, hb2⟩
      have hx2 := HX1.out.also hb2 (Y := blk (.slice A2 p.length c2)) (fun g hg => row_lt hv2 hg)
      obtain ⟨T, hpa, hXT, hTn, hst2⟩ := hx2.pool
      have hnil : A2 = none → c2 = 0 := by
        obtain ⟨A', c', e', _, h2, _⟩ := hv2.at
        injection e' with e1 e2 e3
        subst e1 e3; exact h2
      have HPUT := Lib.hid (plput_any hpa ⟨n, k, p⟩ HOK.out A2 c2 (fun w' hw' => (buf_at hv2).2.chg hw' (fun a ha ht => hXT _ (.inr (by rw [ha]; rfl)) ht)) hnil hm hc)
      have HST2 := Lib.hid hst2
      have HV2 := Lib.hid hv2
      have HX2 := Lib.hid hx2
      have HB2 := Lib.hid hb2
      clear hpa hXT hTn hst2 hnil hv2 hx2 hb2 HOP
      go_wp2_with fail
      refine HPUT.out.mono ?_
      rintro e0 w3 ⟨rfl, hN⟩
      obtain ⟨hx3, hs3⟩ := HST2.out w3 _ _ hN
      have HX3 := Lib.hid hx3
      have HS3 := Lib.hid hs3
      clear hN hx3 hs3
      go_wp2_with fail
      go_ret3
      refine ⟨A2, c2, rfl, ?_, HX3.out.less (fun g hg => hg.elim (fun e => .inl (.inl e)) .inr), ?_⟩
      · exact own_chg (own_down HV2.out HS1.out.1.size) HS3.out.1 (fun g hg e => e (.inr hg))
      · exact (HS1.out.trans (Step.of_below (X := X) HB2.out HX1.out.n_le) (fun _ h => h)).trans HS3.out (fun g hg => .inl (.inl hg))
    · rw [if_neg hpg]
      have hoe : openErr n l = 80 := by unfold openErr; rw [if_neg hpg]
      have HOE := Lib.hid hoe
      clear hpg hoe hread
      go_enter Try.func81, Try.ntmps81
      go_wp2_with fail
      refine HW.out.mono ?_
      rintro e0 w0 ⟨rfl, rfl⟩
      go_wp2_with fail
      refine HRD.out.mono ?_
      rintro e0 w1 ⟨A1, rfl, hcl1, hd1, hc1⟩
      obtain ⟨hx1, hs1⟩ := HST.out w1 D' (fun _ => False) hd1 hc1 (fun g hg => hg.elim)
      have hop := open_call n ⟨A1, l, l.length⟩ w1 (hcl1.inner HB.out.1 (Nat.le_trans HB.out.2 (by omega))) hn
      simp only at hop
      rw [HOE.out] at hop
      have HOP := Lib.hid hop
      have HX1 := Lib.hid hx1
      have HS1 := Lib.hid hs1
      generalize openKind n l = k at *
      generalize openPay n l = p at *
      clear hcl1 hd1 hc1 hx1 hs1 hop HRD HST hl c2 c0
      go_wp2_with fail
      refine HOP.out.mono ?_
      rintro e0 w2 ⟨A2, c2, rfl, hv2, hb2⟩
      have HB2 := Lib.hid hb2
      clear hv2 hb2 HOP
      go_wp2_with fail
      go_ret3
      exact PlRead.stay ((HX1.out.less (fun g hg => .inl hg)).below HB2.out) (HS1.out.trans (Step.of_below (X := X) HB2.out HX1.out.n_le) (fun _ h => h))
  · have hx1 : ((x : Int) != 0) = true := by simp; omega
    have hx2 : (x != 0) = true := by simpa using hx
    rw [if_pos hx]
    clear hx
    go_enter Try.func81, Try.ntmps81
    go_wp2_with fail
    refine HW.out.mono ?_
    rintro e0 w0 ⟨rfl, rfl⟩
    go_wp2_with fail
    refine HRD.out.mono ?_
    rintro e0 w1 ⟨A1, rfl, hcl1, hd1, hc1⟩
    obtain ⟨hx3, hs3⟩ := HST.out w1 D' (fun _ => False) hd1 hc1 (fun g hg => hg.elim)
    have HX3 := Lib.hid hx3
    have HS3 := Lib.hid hs3
    clear hcl1 hd1 hc1 hx3 hs3 HRD HST hl c2 c0
    go_wp2_with fail
    go_ret3
    exact PlRead.stay (HX3.out.less (fun g hg => .inl hg)) HS3.out
/-- the whole of it -/
theorem plread_any (h : PoolX n0 w P d most D L c X) (n : Nat) (hn : n < 4294967296) (hcl : D.cache.length ≤ 1000000000000) (hdn : D.n 1 ≤ 4611686018427387904) (hm : most ≤ 4611686018427387904) (hc : c ≤ 1000000000) :
    Calls Try.prog 81 #[.pointer (some ⟨P, 0, none⟩), .int .u32 (n : Int)] w (PlRead n0 w P d most c X (plRead most D L n)) := by
  by_cases hp : D.pages ≤ n
  · have : plRead most D L n = ⟨0, [], 2, D, L⟩ := by unfold plRead; rw [if_pos hp]
    rw [this]
    exact plread_out h n hn hp
  · cases hf : findPage n L with
    | none => exact plread_miss h n hn (by omega) hf hcl hdn hm hc
    | some x =>
      have : plRead most D L n = ⟨x.kind, x.pay, 0, D, forget n L ++ [x]⟩ := by unfold plRead; rw [if_neg hp, hf]
      rw [this]
      exact plread_hit h n hn (by omega) x hf
end
end Go.Proofs.Ytfbjjblgcgjndaa

/- Contract of the pool's Write; and of Forget over both. -/
namespace Go.Proofs.Ytfbjjblgcgjndaa
open Go.RowKit Go.Maps

structure Wr where
  err : Nat
  D : Dsk
  L : List Hand
def plWrite (most : Nat) (D : Dsk) (L : List Hand) (n k : Nat) (pay : List Nat) : Wr :=
  if SealOk k pay then
    if D.pages ≤ n then ⟨2, D, L⟩
    else if (D.write (n : Int) (sealed k n pay)).1 ≠ 0 then ⟨(D.write (n : Int) (sealed k n pay)).1, (D.write (n : Int) (sealed k n pay)).2, forget n L⟩
    else ⟨0, (D.write (n : Int) (sealed k n pay)).2, usePage most ⟨n, k, pay⟩ L⟩
  else ⟨80, D, L⟩
def PlWrite (n0 : Nat) (w : World) (P d most c : Nat) (X : Nat → Prop) (r : Wr) (e : Ending) (w' : World) : Prop :=
  e = .returned (.int .u16 (r.err : Nat)) ∧ PoolX n0 w' P d most r.D r.L (c + 1) X ∧ Step n0 X w w'
section
variable {n0 : Nat} {w : World} {P d most : Nat} {D : Dsk} {L : List Hand} {c : Nat} {X : Nat → Prop}
theorem plforget_any (h : PoolX n0 w P d most D L c X) (n : Nat) (hn : n < 4294967296) :
    Calls Try.prog 85 #[.pointer (some ⟨P, 0, none⟩), .int .u32 (n : Int)] w fun e w' => e = .returned (.tuple #[]) ∧ PoolX n0 w' P d most D (forget n L) c X ∧ Step n0 X w w' := by
  obtain ⟨T, hpa, _, _, hst⟩ := h.pool
  refine (forget_any hpa n hn).mono ?_
  rintro e w' ⟨rfl, h1, h2⟩
  exact ⟨rfl, hst w' _ c (h1.pnow h2)⟩
theorem plhas_any (h : PoolX n0 w P d most D L c X) (n : Nat) (hn : n < 4294967296) : Calls Try.prog 83 #[.pointer (some ⟨P, 0, none⟩), .int .u32 (n : Int)] w fun x w' => x = .returned (.bool (isHand n L)) ∧ w = w' := by
  obtain ⟨T, hpa, _⟩ := h.pool
  exact has_any hpa n hn
theorem pllen_any (h : PoolX n0 w P d most D L c X) : Calls Try.prog 82 #[.pointer (some ⟨P, 0, none⟩)] w fun x w' => x = .returned (.int .i64 (L.length : Int)) ∧ w = w' := by
  obtain ⟨T, hpa, _⟩ := h.pool
  exact len_any hpa
set_option maxRecDepth 100000 in
set_option maxHeartbeats 4000000 in
theorem plwrite_any (h : PoolX n0 w P d most D L c X) (n k : Nat) (hn : n < 4294967296) (hk : k < 256) (pay : List Nat) (A : Option Addr) (cap m : Nat) (hpm : m = pay.length) (hA : ∀ w', Step n0 X w w' → At w' A (ns .u8 pay)) (hnil : A = none → cap = 0) (hbp : Bytes pay) (hcl : D.cache.length ≤ 1000000000000) (hdn : D.n 2 ≤ 4611686018427387904) (hm : most ≤ 4611686018427387904) (hc : c ≤ 1000000000) :
    Calls Try.prog 80 #[.pointer (some ⟨P, 0, none⟩), .int .u32 (n : Int), .int .u8 (k : Int), .slice A m cap] w (PlWrite n0 w P d most c X (plWrite most D L n k pay)) := by
  have HSL := Lib.hid (seal_call k n A cap pay w hk hn hbp (hA w (Step.refl _ _ _)) hnil)
  rw [← hpm] at HSL
  by_cases hs : SealOk k pay
  · have e1 : sealErr k pay = 0 := by unfold sealErr; rw [if_pos hs]
    have e2 : sealOut k n pay = sealed k n pay := by unfold sealOut; rw [if_pos hs]
    have hx : Hand.Ok ⟨n, k, pay⟩ := ⟨hn, hk, hbp, hs.2.2⟩
    have hpl : plWrite most D L n k pay = if D.pages ≤ n then ⟨2, D, L⟩
      else if (D.write (n : Int) (sealed k n pay)).1 ≠ 0 then ⟨(D.write (n : Int) (sealed k n pay)).1, (D.write (n : Int) (sealed k n pay)).2, forget n L⟩
      else ⟨0, (D.write (n : Int) (sealed k n pay)).2, usePage most ⟨n, k, pay⟩ L⟩ := by unfold plWrite; rw [if_pos hs]
    rw [hpl]
    rw [e1, e2] at HSL
    have hsb : Bytes (sealed k n pay) ∧ (sealed k n pay).length = 1024 := ⟨sealed_bytes _ _ _ hk hbp, by rw [sealed_length _ _ _ hs.2.2]⟩
    generalize sealed k n pay = sl at *
    have HSB := Lib.hid hsb
    have HH := Lib.hid h
    have HX := Lib.hid hx
    have HA := Lib.hid hA
    have HNIL := Lib.hid hnil
    have HPM := Lib.hid hpm
    have HN0 := Lib.hid h.n_le
    clear hsb hpl e1 e2 hs h hx hA hnil hpm hbp
    by_cases hp : D.pages ≤ n
    · have hdp : decide (n < D.pages) = false := by simpa using hp
      rw [if_pos hp]
      have HDP := Lib.hid hdp
      clear hdp hp
      go_enter Try.func80, Try.ntmps80
      go_wp2_with fail
      refine HSL.out.mono ?_
      rintro e0 w1 ⟨A1, c1, rfl, hv1, hb1⟩
      have HX1 := Lib.hid (HH.out.below hb1)
      have hwi := within_any HX1.out n hn
      rw [HDP.out] at hwi
      have HW := Lib.hid hwi
      have HB1 := Lib.hid hb1
      clear hv1 hb1 hwi
      go_wp2_with fail
      refine HW.out.mono ?_
      rintro e0 w2 ⟨rfl, rfl⟩
      go_wp2_with fail
      go_ret
      exact ⟨rfl, HX1.out.moreC (by omega), Step.of_below HB1.out HN0.out⟩
    · have hdp : decide (n < D.pages) = true := by simp; omega
      rw [if_neg hp]
      obtain ⟨x, D', hq⟩ : ∃ x D', D.write (n : Int) sl = (x, D') := ⟨_, _, rfl⟩
      rw [hq]
      have HQ := Lib.hid hq
      clear hq
      by_cases hx0 : x = 0
      · subst hx0
        simp only [ne_eq, not_true_eq_false, if_false]
        have HDP := Lib.hid hdp
        clear hdp hp
        go_enter Try.func80, Try.ntmps80
        go_wp2_with fail
        refine HSL.out.mono ?_
        rintro e0 w1 ⟨A1, c1, rfl, hv1, hb1⟩
        have HX1 := Lib.hid (HH.out.also hb1 (Y := blk (.slice A1 sl.length c1)) (fun g hg => row_lt hv1 hg))
        have hwi := within_any HX1.out n hn
        rw [HDP.out] at hwi
        have HW := Lib.hid hwi
        have HS1 := Lib.hid (Step.of_below (X := X) hb1 HN0.out)
        obtain ⟨S, hd, hXS, hst, _⟩ := HX1.out.disk
        have c0 := HX1.out.cell0.1
        have hwr := dg_writeb hd (n : Int) sl.length A1 c1 sl hv1 ⟨fun g hg => (row_lt hv1 hg).2, fun g hg e => hXS g (.inr hg) e⟩ HSB.out.1 (by rw [HSB.out.2]; omega) hcl hdn
        rw [HQ.out] at hwr
        have HWR := Lib.hid hwr
        have HST := Lib.hid hst
        clear hv1 hb1 hwi hd hXS hst hwr
        simp only at HWR
        go_wp2_with fail
        refine HW.out.mono ?_
        rintro e0 w2 ⟨rfl, rfl⟩
        go_wp2_with fail
        refine HWR.out.mono ?_
        rintro e0 w2 ⟨rfl, hN⟩
        obtain ⟨hx2, hs2⟩ := HST.out w2 D' hN
        have HX2 := Lib.hid hx2
        have HS2 := Lib.hid (HS1.out.trans hs2 (fun g hg => .inl hg))
        clear hN hx2 hs2 c0 HWR HST
        obtain ⟨T, hpa, hXT, hTn, hst2⟩ := HX2.out.pool
        have HPUT := Lib.hid (plput_any hpa ⟨n, k, pay⟩ HX.out A cap (fun w' hw' => HA.out w' (HS2.out.trans (Y := X) ⟨hw'.mono (fun g _ e hg => hXT g (.inl hg) e), hw'.below HX2.out.n_le hTn⟩ (fun _ h => h))) HNIL.out hm hc)
        rw [show (⟨n, k, pay⟩ : Hand).pay.length = m from HPM.out.symm] at HPUT
        have HST2 := Lib.hid hst2
        clear hpa hXT hTn hst2
        go_wp2_with fail
        refine HPUT.out.mono ?_
        rintro e0 w3 ⟨rfl, hN⟩
        obtain ⟨hx3, hs3⟩ := HST2.out w3 _ _ hN
        have HX3 := Lib.hid hx3
        have HS3 := Lib.hid (HS2.out.trans hs3 (fun g hg => .inl hg))
        clear hN hx3 hs3
        go_wp2_with fail
        go_ret
        exact ⟨rfl, HX3.out.less (fun g hg => .inl hg), HS3.out⟩
      · have hx1 : ((x : Int) != 0) = true := by simp; omega
        have hx2 : (x != 0) = true := by simpa using hx0
        have hx9 : ¬ (x : Int) = 0 := by omega
        rw [if_pos hx0]
        clear hx0
        have HDP := Lib.hid hdp
        clear hdp hp
        go_enter Try.func80, Try.ntmps80
        go_wp2_with fail
        refine HSL.out.mono ?_
        rintro e0 w1 ⟨A1, c1, rfl, hv1, hb1⟩
        have HX1 := Lib.hid (HH.out.also hb1 (Y := blk (.slice A1 sl.length c1)) (fun g hg => row_lt hv1 hg))
        have hwi := within_any HX1.out n hn
        rw [HDP.out] at hwi
        have HW := Lib.hid hwi
        have HS1 := Lib.hid (Step.of_below (X := X) hb1 HN0.out)
        obtain ⟨S, hd, hXS, hst, _⟩ := HX1.out.disk
        have c0 := HX1.out.cell0.1
        have hwr := dg_writeb hd (n : Int) sl.length A1 c1 sl hv1 ⟨fun g hg => (row_lt hv1 hg).2, fun g hg e => hXS g (.inr hg) e⟩ HSB.out.1 (by rw [HSB.out.2]; omega) hcl hdn
        rw [HQ.out] at hwr
        have HWR := Lib.hid hwr
        have HST := Lib.hid hst
        clear hv1 hb1 hwi hd hXS hst hwr
        simp only at HWR
        go_wp2_with fail
        refine HW.out.mono ?_
        rintro e0 w2 ⟨rfl, rfl⟩
        go_wp2_with fail
        refine HWR.out.mono ?_
        rintro e0 w2 ⟨rfl, hN⟩
        obtain ⟨hx2, hs2⟩ := HST.out w2 D' hN
        have HX2 := Lib.hid hx2
        have HS2 := Lib.hid (HS1.out.trans hs2 (fun g hg => .inl hg))
        clear hN hx2 hs2 c0 HWR HST
        have HFG := Lib.hid (plforget_any HX2.out n hn)
        go_wp2_with fail
        refine HFG.out.mono ?_
        rintro e0 w3 ⟨rfl, hx3, hs3⟩
        have HX3 := Lib.hid hx3
        have HS3 := Lib.hid (HS2.out.trans hs3 (fun g hg => .inl hg))
        clear hx3 hs3
        go_wp2_with fail
        go_ret
        exact ⟨rfl, (HX3.out.moreC (by omega)).less (fun g hg => .inl hg), HS3.out⟩
  · have e1 : sealErr k pay = 80 := by unfold sealErr; rw [if_neg hs]
    have hpl : plWrite most D L n k pay = ⟨80, D, L⟩ := by unfold plWrite; rw [if_neg hs]
    rw [hpl]
    rw [e1] at HSL
    generalize sealOut k n pay = sl at *
    have HH := Lib.hid h
    clear hpl e1 hs h hA hnil hpm hbp
    go_enter Try.func80, Try.ntmps80
    go_wp2_with fail
    refine HSL.out.mono ?_
    rintro e0 w1 ⟨A1, c1, rfl, hv1, hb1⟩
    have HB1 := Lib.hid hb1
    clear hv1 hb1
    go_wp2_with fail
    go_ret
    exact ⟨rfl, (HH.out.below HB1.out).moreC (by omega), Step.of_below HB1.out HH.out.n_le⟩
end
end Go.Proofs.Ytfbjjblgcgjndaa
