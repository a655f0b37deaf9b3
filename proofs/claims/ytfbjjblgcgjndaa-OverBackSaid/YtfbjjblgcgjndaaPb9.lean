/- Joined texts: Chain4, Back1, LentW, G12, Back2, Facts. -/
import Derived.Test.YtfbjjblgcgjndaaRows
import Derived.JoinedOf
import Derived.KernelRfl
import Derived.Test.YtfbjjblgcgjndaaPb3
import Derived.Test.YtfbjjblgcgjndaaPb8
set_option linter.unusedVariables false
set_option linter.unusedSimpArgs false

/- over.Read (87) of a chain of pages that is a great value. -/
namespace Go.Proofs.Ytfbjjblgcgjndaa
open Go.RowKit Go.Shelf

attribute [local go_sem] Oper.semAt_some

theorem cells213 {W : World} {Bx : Nat} {a b c : Value} (h : W.heap[Bx]? = some (.cells #[a, b, c] 213 (0, 0))) : W.cell? ⟨Bx, 0, none⟩ = some a ∧ W.cell? ⟨Bx, 1, none⟩ = some b ∧ W.cell? ⟨Bx, 2, none⟩ = some c :=
  ⟨by rw [cell_of_row W Bx 0 _ 213 (0, 0) h]; rfl, by rw [cell_of_row W Bx 1 _ 213 (0, 0) h]; rfl, by rw [cell_of_row W Bx 2 _ 213 (0, 0) h]; rfl⟩
theorem results_cell3 {fn : Func} (hf : fn.results = #[.cell 6 23, .cell 7 34, .cell 8 37]) (tmps : Array Value) (b6 b7 b8 : Nat) (x6 x7 x8 : Value) (w : World) (h6 : tmps.getD 6 undef = .pointer (some ⟨b6, 0, none⟩)) (h7 : tmps.getD 7 undef = .pointer (some ⟨b7, 0, none⟩)) (h8 : tmps.getD 8 undef = .pointer (some ⟨b8, 0, none⟩))
    (c6 : w.cell? ⟨b6, 0, none⟩ = some x6) (c7 : w.cell? ⟨b7, 0, none⟩ = some x7) (c8 : w.cell? ⟨b8, 0, none⟩ = some x8) : (results fn tmps).run Try.prog w = .ok (.tuple #[x6, x7, x8]) w := by
  simp [results, hf, go_sem]
  simp [Array.getD_eq_getD_getElem?] at h6 h7 h8
  simp [h6, h7, h8, c6, c7, c8, go_sem]
theorem info22w' : (Try.prog.info? 22).map (fun i => (i.zero, i.size, i.bytes)) = some (some (.int .u32 0), 1, 4) := by kernel_rfl
theorem under34w' : Try.prog.underlying 34 = some (.slice 22) := by kernel_rfl
theorem take_more (l : List Nat) (k : Nat) : l.take (1004 * (k + 1)) = l.take (1004 * k) ++ (l.drop (1004 * k)).take 1004 := by
  rw [show 1004 * (k + 1) = 1004 * k + 1004 by omega, List.take_add]
set_option maxRecDepth 100000 in
set_option maxHeartbeats 1000000 in
/-- chain itself: its arguments are boxed -/
theorem chain_make (m : Nat) (P : Nat) (at_ sz : Nat) (w : World) :
    CallsIn Fence.wide m Try.prog 147 #[.pointer (some ⟨P, 0, none⟩), .int .u32 (at_ : Int), .int .i64 (sz : Int)] w fun e w' => e = .returned (.func (.func 167) #[] #[.pointer (some ⟨w.heap.size + 1 + 1, 0, none⟩), .pointer (some ⟨w.heap.size, 0, none⟩), .pointer (some ⟨w.heap.size + 1, 0, none⟩)]) ∧
      w' = ((w.alloc (.cells #[.pointer (some ⟨P, 0, none⟩)] 127)).alloc (.cells #[.int .u32 (at_ : Int)] 22)).alloc (.cells #[.int .i64 (sz : Int)] 3) := by
  refine callsIn_of_wp Try.func147 rfl trivial ?_ rfl
  simp only [Try.ntmps147, List.size_toArray, List.length_cons, List.length_nil, Nat.reduceAdd, Nat.reduceSub, Array.replicate_succ, Array.replicate_zero, List.push_toArray, List.append_toArray, List.nil_append, List.cons_append]
  gi_wp2
  go_ret
  first | exact ⟨rfl, rfl⟩ | (simp; done)
/-- the activation of a round: the link's box in slot 11 -/
def rdAct (w : World) (P pg len K Bx : Nat) (x : Nat × Value) : Act :=
  { tmps := #[.pointer (some ⟨P, 0, none⟩), .int .u32 (pg : Int), .int .u32 (len : Int), undef, undef, undef, .pointer (some ⟨w.heap.size, 0, none⟩), .pointer (some ⟨w.heap.size + 1, 0, none⟩), .pointer (some ⟨w.heap.size + 2, 0, none⟩), .pointer (some ⟨w.heap.size + 3, 0, none⟩), .pointer (some ⟨w.heap.size + 4, 0, none⟩), .pointer (some ⟨Bx, 0, none⟩),
      .int .u32 (len : Int), .bool false, .bool false, .int .u32 (len : Int), .int .i64 (len : Int), .int .i64 (K : Int), .bool false, .bool false, .pointer (some ⟨P, 0, none⟩), .int .u32 (pg : Int), .int .u32 (len : Int), .int .i64 (len : Int),
      .func (.func 167) #[] #[.pointer (some ⟨w.heap.size + 7, 0, none⟩), .pointer (some ⟨w.heap.size + 5, 0, none⟩), .pointer (some ⟨w.heap.size + 6, 0, none⟩)], .agg #[.int .u32 (x.1 : Int), x.2, .int .u16 0], undef, undef, undef, undef, undef, undef, undef, undef, undef, undef, undef, undef, undef, undef, undef, undef], defers := [] }
theorem rd_start {n0 : Nat} {w : World} {P d most N j0 c0 : Nat} {C : Nat → Option (Nat × List Nat)} {X0 : Nat → Prop} {l u : List Nat} {D : Dsk} {L : List Hand} (hP : PoolX n0 w P d most D L c0 X0) (hE : Even most j0 N D L C) (hn0 : n0 ≤ w.heap.size) (w8 : World)
    (h8 : w8 = ((((((((w.alloc (.cells #[.slice none 0 0] 23)).alloc (.cells #[.slice none 0 0] 34)).alloc (.cells #[.int .u16 0] 37)).alloc (.cells #[.slice none 0 0] 23)).alloc (.cells #[.slice none 0 0] 34)).alloc (.cells #[.pointer (some ⟨P, 0, none⟩)] 127)).alloc (.cells #[.int .u32 (nth u 0 : Int)] 22)).alloc (.cells #[.int .i64 (l.length : Int)] 3)))
    (o1 o2 : Obj) : w8.heap.size = w.heap.size + 8 ∧ Blk2 (w.heap.size + 8) o1 o2 ((w8.alloc o1).alloc o2) ∧ RI n0 w P d most N j0 c0 C X0 l u 0 0 l.length (nth u 0) ((w8.alloc o1).alloc o2) := by
  have hz : ∀ (k : Nat) (W : World) (t : TypeId) (v : Value), W.heap.size = k → Boxed (W.alloc (.cells #[v] t)) k t v := fun k W t v e => by rw [← e]; exact Boxed.new W t v
  have hsz : w8.heap.size = w.heap.size + 8 := by rw [h8]; simp only [World.size_alloc]
  have hb : Below w.heap.size w ((w8.alloc o1).alloc o2) := by
    rw [h8]
    exact below_alloc0 (below_alloc0 (below_alloc0 (below_alloc0 (below_alloc0 (below_alloc0 (below_alloc0 (below_alloc0 (below_alloc0 (below_alloc0 (Below.refl _ _) _) _) _) _) _) _) _) _) _) _
  have hs10 : ((w8.alloc o1).alloc o2).heap.size = w.heap.size + 10 := by simp only [World.size_alloc, hsz]
  have n1 := heap_alloc_new w8 o1
  rw [hsz] at n1
  have n2 := heap_alloc_new (w8.alloc o1) o2
  rw [World.size_alloc, hsz] at n2
  refine ⟨hsz, ⟨?_, n2⟩, D, L, .slice none 0 0, .slice none 0 0, ?_⟩
  · rw [heap_alloc_old _ _ (by rw [World.size_alloc]; omega)]; exact n1
  have hp := hP.also hb (Y := fun g => w.heap.size ≤ g ∧ g < w.heap.size + 10) (fun g hg => ⟨hg.1, by rw [hs10]; exact hg.2⟩)
  refine ⟨hp.less (fun g hg => ?_), hE, ?_, ?_, ?_, ?_, ?_, ?_, ?_, ?_, ?_, ?_, fun g hg => ?_, Step.of_below hb hn0, by rw [hs10]; exact Nat.le_refl _, hn0⟩
  · rcases hg with hg | hg | hg | hg
    · exact .inl hg
    · exact .inr hg
    · cases hg
    · cases hg
  · rw [h8]; exact (((((((((hz w.heap.size w _ _ rfl).alloc _).alloc _).alloc _).alloc _).alloc _).alloc _).alloc _).alloc _).alloc _
  · rw [h8]; exact ((((((((hz (w.heap.size + 1) _ _ _ (by simp only [World.size_alloc])).alloc _).alloc _).alloc _).alloc _).alloc _).alloc _).alloc _).alloc _
  · rw [h8]; exact (((((((hz (w.heap.size + 2) _ _ _ (by simp only [World.size_alloc])).alloc _).alloc _).alloc _).alloc _).alloc _).alloc _).alloc _
  · rw [h8]; exact ((((((hz (w.heap.size + 3) _ _ _ (by simp only [World.size_alloc])).alloc _).alloc _).alloc _).alloc _).alloc _).alloc _
  · rw [h8]; exact (((((hz (w.heap.size + 4) _ _ _ (by simp only [World.size_alloc])).alloc _).alloc _).alloc _).alloc _).alloc _
  · rw [h8]; exact ((((hz (w.heap.size + 5) _ _ _ (by simp only [World.size_alloc])).alloc _).alloc _).alloc _).alloc _
  · rw [h8]; exact (((hz (w.heap.size + 6) _ _ _ (by simp only [World.size_alloc])).alloc _).alloc _).alloc _
  · rw [h8]; exact ((hz (w.heap.size + 7) _ _ _ (by simp only [World.size_alloc])).alloc _).alloc _
  · simp only [Nat.mul_zero, List.take_zero]; exact Buf.nil _ _
  · simp only [List.take_zero]; exact World.ownsRow_nil _ _ _ _
  · cases hg
/-- what Read gives of a great value -/
def OvGives (n0 : Nat) (w : World) (X0 : Nat → Prop) (l u : List Nat) (e : Ending) (w' : World) : Prop :=
  ∃ A1 k1 A2 k2, e = .returned (.tuple #[.slice A1 l.length k1, .slice A2 u.length k2, .int .u16 0]) ∧ At w' A1 (ns .u8 l) ∧ At w' A2 (ns .u32 u) ∧ Step n0 X0 w w'
set_option maxRecDepth 100000 in
set_option maxHeartbeats 8000000 in
theorem overRead_any (n0 : Nat) (w : World) (P d most N j0 c0 : Nat) (C : Nat → Option (Nat × List Nat)) (X0 : Nat → Prop) (l u : List Nat) (D : Dsk) (L : List Hand) (hP : PoolX n0 w P d most D L c0 X0) (hE : Even most j0 N D L C) (hc : Chn l u N C) (hj0 : j0 ≤ 1000) (hc0 : c0 ≤ 1000) (hmost : most ≤ 256) (hn0 : n0 ≤ w.heap.size) :
    Calls Try.prog 87 #[.pointer (some ⟨P, 0, none⟩), .int .u32 (nth u 0 : Int), .int .u32 (l.length : Int)] w (OvGives n0 w X0 l u) := by
  have hz := hc.ok.1
  obtain ⟨hl1, hl2, hne⟩ := need_yes hz
  obtain ⟨K, hK⟩ : ∃ K, K = need l.length := ⟨_, rfl⟩
  have hnd := need_any l.length (by omega)
  rw [← hK] at hnd hz
  have HND := Lib.hid hnd
  have HK := Lib.hid hK
  have HC := Lib.hid hc
  have HP := Lib.hid hP
  have HE := Lib.hid hE
  have e1 : ((K : Int) == 0) = false := by simp; omega
  have e1' : ¬ (K : Int) = 0 := by omega
  have e2 : ¬ (8192 : Int) < (l.length : Int) := by omega
  have e3 : IntKind.i64.wrap (l.length : Int) = (l.length : Int) := by rw [IntKind.wrap_i64]; omega
  obtain ⟨pg, hpg⟩ : ∃ pg, pg = nth u 0 := ⟨_, rfl⟩
  rw [← hpg]
  have HPG := Lib.hid hpg
  clear hnd hK hc hP hE hne hpg
  refine (callsIn_wide (n := 8)).1 ?_
  refine callsIn_of_wp_marks Try.func87 rfl trivial ?_ rfl
  simp only [Try.ntmps87, List.size_toArray, List.length_cons, List.length_nil, Nat.reduceAdd, Nat.reduceSub, Array.replicate_succ, Array.replicate_zero, List.push_toArray, List.append_toArray, List.nil_append, List.cons_append]
  gi_wp2_with fail
  refine ⟨trivial, (callsIn_wide.2 (HND.out _)).mono ?_⟩
  rintro e w' ⟨rfl, rfl⟩
  gi_wp2_with fail
  refine ⟨trivial, (chain_make _ P pg l.length _).mono ?_⟩
  rintro e w' ⟨rfl, rfl⟩
  gi_wp2_with fail
  simp only [Nat.add_assoc, Nat.reduceAdd]
  obtain ⟨w8, hw8⟩ : ∃ w8, w8 = ((((((((w.alloc (.cells #[.slice none 0 0] 23)).alloc (.cells #[.slice none 0 0] 34)).alloc (.cells #[.int .u16 0] 37)).alloc (.cells #[.slice none 0 0] 23)).alloc (.cells #[.slice none 0 0] 34)).alloc (.cells #[.pointer (some ⟨P, 0, none⟩)] 127)).alloc (.cells #[.int .u32 (pg : Int)] 22)).alloc (.cells #[.int .i64 (l.length : Int)] 3)) := ⟨_, rfl⟩
  rw [← hw8]
  have hst := fun o1 o2 => rd_start (l := l) (u := u) HP.out HE.out hn0 w8 (by rw [hw8, HPG.out]) o1 o2
  have hsz8 := (hst (.map #[] 0) (.map #[] 0)).1
  have HST := Lib.hid hst
  have HW8 := Lib.hid hw8
  clear hst hw8
  have hK8 : u.length = K := by rw [HC.out.ok.2.1, HK.out]
  have HKU := Lib.hid hK8
  clear hK8
  refine wpIn_rangeFunc_go (α := Nat × Value) rfl (by omega) (gf := 167) (lb := #[.pointer (some ⟨w.heap.size + 7, 0, none⟩), .pointer (some ⟨w.heap.size + 5, 0, none⟩), .pointer (some ⟨w.heap.size + 6, 0, none⟩)]) rfl trivial (enters_of Try.func167 (by kernel_rfl) rfl)
    (encs := fun x => #[.agg #[.int .u32 (x.1 : Int), x.2, .int .u16 0]]) (fun _ => rfl)
    (ChA n0 w P d most N j0 c0 C X0 l u) (ChB n0 w P d most N j0 c0 C X0 l u) (ChM n0 w P d most N j0 c0 C X0 l u (fun Bx x => rdAct w P pg l.length K Bx x)) (fun xs => xs.length = u.length)
    (fun pre W o h => by rw [hsz8]; exact h.obj o) (fun pre x a' W o h => by rw [hsz8]; exact h.obj o) (fun o1 o2 hY => ?seq) ?assign ?body ?done
  case seq =>
    rw [hsz8] at hY ⊢
    obtain ⟨_, h2, h0⟩ := HST.out o1 o2
    exact chain_in 7 (by omega) n0 w P d most N j0 c0 C X0 l u HC.out hj0 hc0 hmost o1 o2 hY _ h0 h2
  case assign =>
    rintro pre ⟨xn, xv⟩ W K' o1 o2 ho h2 hA hK
    rw [hsz8] at h2 hK
    have hbx := hA.box (act := fun Bx x => rdAct w P pg l.length K Bx x) h2 ho
    obtain ⟨g, o', m, c, e1, hrest⟩ := hA.2.2.1
    simp only at e1
    clear hrest
    subst e1
    have h3 := h2.chg (G := fun _ => False) (.of_below (below_alloc0 (Below.refl W.heap.size W) (.cells #[.int .u32 (xn : Int), .slice (some ⟨g, o', none⟩) m c, .int .u16 0] 213))) (fun h => h) (fun h => h)
    have HBX := Lib.hid hbx
    have H3 := Lib.hid h3
    have HK' := Lib.hid hK
    clear hA h2 hbx h3 hK
    gi_wp2
    exact HK'.out _ _ H3.out HBX.out
  case body =>
    rintro pre ⟨xn, xv⟩ a' W o1 o2 h2 ⟨Bx, rfl, hbx, hlo, hlu, hxn, g, o', m, c, D1, L1, v1, v2, e1, hm0, hm, hAt, hg9, hI, hb1, hb2⟩
    simp only at e1 hxn
    subst e1
    rw [hsz8] at h2
    obtain ⟨x0, x1, x2⟩ := cells213 hbx
    obtain ⟨A1, k1, rfl, _⟩ := At.own hI.buf
    obtain ⟨A2, k2, rfl, _⟩ := At.own hI.row
    have hn1 : (l.take (1004 * pre.length)).length ≤ 8192 := by rw [List.length_take]; omega
    have hn2 : pre.length ≤ 9 := by have := HKU.out; have := HK.out; have := need_le l.length; omega
    have hmb : m ≤ 1004 := by rw [hm, List.length_take]; omega
    obtain ⟨n1, hN1⟩ : ∃ n1, n1 = (l.take (1004 * pre.length)).length := ⟨_, rfl⟩
    rw [← hN1] at hI hn1 hb1
    obtain ⟨Wd, hWd⟩ : ∃ Wd, Wd = W.drew := ⟨_, rfl⟩
    have hbd : Below W.heap.size W Wd := by rw [hWd]; exact below_drew0 (Below.refl _ _)
    have hId := hI.up hbd
    have hAd := hAt.below hbd
    have h2d := h2.chg (G := fun _ => False) (.of_below hbd) (fun h => h) (fun h => h)
    have hbxd : Wd.heap[Bx]? = some (.cells #[.int .u32 (xn : Int), .slice (some ⟨g, o', none⟩) m c, .int .u16 0] 213 (0, 0)) := (hbd.block _ (Array.getElem?_eq_some_iff.1 hbx).1).trans hbx
    have hbufd : Wd.ownsRow (w.heap.size + 10) 5 1 (.slice A1 n1 k1) n1 (ns .u8 (l.take (1004 * pre.length))) := by rw [hN1]; have := hId.buf; unfold Buf at this; rw [hN1] at this; exact this
    have hrowd := hId.row
    have hS0 : Wd.cell? ⟨w.heap.size + 3, 0, none⟩ = some (.slice A1 n1 k1) ∧ Wd.cell? ⟨w.heap.size + 4, 0, none⟩ = some (.slice A2 pre.length k2) ∧ Wd.cell? ⟨Bx, 0, none⟩ = some (.int .u32 (xn : Int)) ∧ Wd.cell? ⟨Bx, 1, none⟩ = some (.slice (some ⟨g, o', none⟩) m c) := ⟨hId.b9.cell, hId.b10.cell, (cells213 hbxd).1, (cells213 hbxd).2.1⟩
    have hSk : ∀ W', Chg (fun g' => blk (.slice A1 n1 k1) g' ∨ blk (.slice A2 pre.length k2) g') Wd W' → W'.cell? ⟨w.heap.size + 3, 0, none⟩ = some (.slice A1 n1 k1) ∧ W'.cell? ⟨w.heap.size + 4, 0, none⟩ = some (.slice A2 pre.length k2) ∧ W'.cell? ⟨Bx, 0, none⟩ = some (.int .u32 (xn : Int)) ∧ W'.cell? ⟨Bx, 1, none⟩ = some (.slice (some ⟨g, o', none⟩) m c) ∧ Boxed W' (w.heap.size + 3) 23 (.slice A1 n1 k1) ∧ Boxed W' (w.heap.size + 4) 34 (.slice A2 pre.length k2) := fun W' hc => by
      have l1 : ∀ g', blk (.slice A1 n1 k1) g' → w.heap.size + 10 ≤ g' := fun g' hg => (row_lt hbufd hg).1
      have l2 : ∀ g', blk (.slice A2 pre.length k2) g' → w.heap.size + 10 ≤ g' := fun g' hg => (row_lt hrowd hg).1
      have f9 : Boxed W' (w.heap.size + 3) 23 (.slice A1 n1 k1) := bx_chg hId.b9 hc (fun e => e.elim (fun e => by have := l1 _ e; omega) (fun e => by have := l2 _ e; omega))
      have f10 : Boxed W' (w.heap.size + 4) 34 (.slice A2 pre.length k2) := bx_chg hId.b10 hc (fun e => e.elim (fun e => by have := l1 _ e; omega) (fun e => by have := l2 _ e; omega))
      have fb := cells213 ((hc.block _ (Array.getElem?_eq_some_iff.1 hbxd).1 (fun e => e.elim hb1 hb2)).trans hbxd)
      exact ⟨f9.cell, f10.cell, fb.1, fb.2.1, f9, f10⟩
    obtain ⟨i5, hi5, hz50, hz51, hz52⟩ := info_parts Try.info5b
    obtain ⟨i22, hi22, hz220, hz221, hz222⟩ := info_parts info22w'
    have hxlt : pre.length < u.length := hlu
    have HId := Lib.hid hId
    have HAd := Lib.hid hAd
    have H2d := Lib.hid h2d
    have HBUF := Lib.hid hbufd
    have HROW := Lib.hid hrowd
    have HSK := Lib.hid hSk
    have HWD := Lib.hid hWd
    have HM := Lib.hid hm
    have HXN := Lib.hid hxn
    have HN1 := Lib.hid hN1
    have HI5 := Lib.hid hi5
    have HI22 := Lib.hid hi22
    clear hI hAt h2 hbx hm hxn hN1 hId hAd h2d hbxd hbufd hrowd hSk hbd hb1 hb2 hWd hi5 hi22
    unfold rdAct
    gi_wp2
    refine AnyI.begin 9 (fun w5 : World => w5.cell? ⟨w.heap.size + 3, 0, none⟩ = some (.slice A1 n1 k1) ∧ w5.cell? ⟨w.heap.size + 4, 0, none⟩ = some (.slice A2 pre.length k2) ∧ w5.cell? ⟨Bx, 0, none⟩ = some (.int .u32 (xn : Int)) ∧ w5.cell? ⟨Bx, 1, none⟩ = some (.slice (some ⟨g, o', none⟩) m c)) (by kernel_rfl) ?_
    rw [← HWD.out]
    refine AnyI.take (i := 0) (oi := { dst := some 31, op := Op.load 23 (Operand.tmp 9), type := 23, pos := "over.go:88", after := #[], guard := none }) (v := ?_) [0, 9] rfl (by kernel_rfl) (by kernel_rfl) (by kernel_rfl) (by kernel_rfl) (by kernel_rfl) (fun _ _ _ h => absurd rfl (h.1 _)) ⟨Or.inl ⟨by rfl, ?_⟩, fun _ => rfl⟩ hS0 ?_
    rotate_left
    · (intro w5 hSw; obtain ⟨s1, s2, s3, s4⟩ := hSw; go_simp; try with_reducible rfl)
    simp only [Act.put, List.setIfInBounds_toArray, List.set_cons_zero, List.set_cons_succ]
    refine AnyI.take (i := 1) (oi := { dst := some 32, op := Op.fieldAddr 213 (Operand.tmp 11) 1, type := 0, pos := "over.go:88", after := #[], guard := none }) (v := ?_) [1, 9] rfl (by kernel_rfl) (by kernel_rfl) (by kernel_rfl) (by kernel_rfl) (by kernel_rfl) (fun _ _ _ h => absurd rfl (h.1 _)) ⟨Or.inl ⟨by rfl, ?_⟩, fun _ => rfl⟩ hS0 ?_
    rotate_left
    · (intro w5 hSw; obtain ⟨s1, s2, s3, s4⟩ := hSw; go_simp; try with_reducible rfl)
    simp only [Act.put, List.setIfInBounds_toArray, List.set_cons_zero, List.set_cons_succ]
    refine AnyI.take (i := 2) (oi := { dst := some 33, op := Op.load 23 (Operand.tmp 32), type := 23, pos := "over.go:88", after := #[{ on := 1, ground := Ground.data }], guard := none }) (v := ?_) [2, 9] rfl (by kernel_rfl) (by kernel_rfl) (by kernel_rfl) (by kernel_rfl) (by kernel_rfl) (fun _ _ _ h => absurd rfl (h.1 _)) ⟨Or.inl ⟨by rfl, ?_⟩, fun _ => rfl⟩ hS0 ?_
    rotate_left
    · (intro w5 hSw; obtain ⟨s1, s2, s3, s4⟩ := hSw; go_simp; try with_reducible rfl)
    simp only [Act.put, List.setIfInBounds_toArray, List.set_cons_zero, List.set_cons_succ]
    refine AnyI.take (i := 4) (oi := { dst := some 35, op := Op.load 34 (Operand.tmp 10), type := 34, pos := "over.go:88", after := #[], guard := none }) (v := ?_) [4, 8, 9] rfl (by kernel_rfl) (by kernel_rfl) (by kernel_rfl) (by kernel_rfl) (by kernel_rfl) (fun _ _ _ h => absurd rfl (h.1 _)) ⟨Or.inl ⟨by rfl, ?_⟩, fun _ => rfl⟩ hS0 ?_
    rotate_left
    · (intro w5 hSw; obtain ⟨s1, s2, s3, s4⟩ := hSw; go_simp; try with_reducible rfl)
    simp only [Act.put, List.setIfInBounds_toArray, List.set_cons_zero, List.set_cons_succ]
    refine AnyI.take (i := 5) (oi := { dst := some 36, op := Op.fieldAddr 213 (Operand.tmp 11) 0, type := 0, pos := "over.go:88", after := #[], guard := none }) (v := ?_) [5, 6, 7, 8, 9] rfl (by kernel_rfl) (by kernel_rfl) (by kernel_rfl) (by kernel_rfl) (by kernel_rfl) (fun _ _ _ h => absurd rfl (h.1 _)) ⟨Or.inl ⟨by rfl, ?_⟩, fun _ => rfl⟩ hS0 ?_
    rotate_left
    · (intro w5 hSw; obtain ⟨s1, s2, s3, s4⟩ := hSw; go_simp; try with_reducible rfl)
    simp only [Act.put, List.setIfInBounds_toArray, List.set_cons_zero, List.set_cons_succ]
    refine AnyI.take (i := 6) (oi := { dst := some 37, op := Op.load 22 (Operand.tmp 36), type := 22, pos := "over.go:88", after := #[{ on := 5, ground := Ground.data }], guard := none }) (v := ?_) [6, 7, 8, 9] rfl (by kernel_rfl) (by kernel_rfl) (by kernel_rfl) (by kernel_rfl) (by kernel_rfl) (fun _ _ _ h => absurd rfl (h.1 _)) ⟨Or.inl ⟨by rfl, ?_⟩, fun _ => rfl⟩ hS0 ?_
    rotate_left
    · (intro w5 hSw; obtain ⟨s1, s2, s3, s4⟩ := hSw; go_simp; try with_reducible rfl)
    simp only [Act.put, List.setIfInBounds_toArray, List.set_cons_zero, List.set_cons_succ]
    refine AnyI.two (i := 3) (o := { dst := some 34, op := Op.call { callee := Callee.builtin Builtin.append, args := #[Operand.tmp 31, Operand.tmp 33], argTypes := #[23, 23] }, type := 23, pos := "over.go:88", after := #[{ on := 0, ground := Ground.data }, { on := 2, ground := Ground.data }], guard := none }) (i2 := 7) (o2 := { dst := some 38, op := Op.buildSlice 34 1 #[(0, Operand.tmp 37)], type := 34, pos := "over.go:88", after := #[{ on := 6, ground := Ground.data }], guard := none }) (by kernel_rfl) rfl rfl (by rfl) (by rfl) (fun K hK => ?_) (fun K hK => ?_)
    · refine opIn_append Wd (.tmp 31) (.tmp 33) 23 rfl (w.heap.size + 10) 5 i5 _ 1 1 Try.underlying23 HI5.out hz50 hz51 hz52 rfl (by decide) (.slice A1 n1 k1) n1 _ rfl (HBUF.out) ⟨g, o', none⟩ m c (ns .u8 ((l.drop (1004 * pre.length)).take 1004)) rfl (by rw [ns_length, ← HM.out, Nat.mul_one]) (fun j v hv => by obtain ⟨b', o3, eb, hr⟩ := (HAd.out) (by intro e; rw [e] at hv; simp at hv); cases eb; rw [Addr.add_mid]; exact hr j v hv) (ns_one _ _) (by simp only [maxLen]; omega) (by omega) (Nat.le_trans HId.out.big (Nat.le_refl _)) ?_
      intro p1 W1 ho1 hg1 hor1
      obtain ⟨g1, cp1, rfl, _⟩ := own_form ho1 (by omega)
      have hc1 := app_chg hg1
      have hs1 := HSK.out W1 (hc1.mono fun g' _ e => .inl e)
      have HS1 := Lib.hid (And.intro hs1.1 (And.intro hs1.2.1 (And.intro hs1.2.2.1 hs1.2.2.2.1)))
      have hba : Below W1.heap.size W1 (W1.alloc (.cells #[.int .u32 (xn : Int)] 22)) := below_alloc0 (Below.refl _ _) _
      have HBA := Lib.hid hba
      have HC1 := Lib.hid hc1
      have HO1 := Lib.hid ho1
      have HOR1 := Lib.hid hor1
      have HG1 := Lib.hid hg1
      clear hc1 hs1 hba ho1 hor1 hg1
      refine hK _ _ (fun _ => HS1.out) ?_
      clear hK K
      try simp only [Act.put, List.setIfInBounds_toArray, List.set_cons_zero, List.set_cons_succ]
      refine AnyI.one (i := 7) (o := { dst := some 38, op := Op.buildSlice 34 1 #[(0, Operand.tmp 37)], type := 34, pos := "over.go:88", after := #[{ on := 6, ground := Ground.data }], guard := none }) (by kernel_rfl) rfl (by rfl) (fun K hK => ?_)
      have H8 := Lib.hid hK
      clear hK
      go_simp
      replace hK := H8.out
      have hcA : Chg (blk (.slice A1 n1 k1)) Wd (W1.alloc (.cells #[.int .u32 (xn : Int)] 22)) := HC1.out.alloc _
      have hs2 := HSK.out _ (hcA.mono fun g' _ e => .inl e)
      refine hK _ _ (fun _ => ⟨hs2.1, hs2.2.1, hs2.2.2.1, hs2.2.2.2.1⟩) ?_
      clear H8 hK K
      try simp only [Act.put, List.setIfInBounds_toArray, List.set_cons_zero, List.set_cons_succ]
      refine AnyI.one (i := 8) (o := { dst := some 39, op := Op.call { callee := Callee.builtin Builtin.append, args := #[Operand.tmp 35, Operand.tmp 38], argTypes := #[34, 34] }, type := 34, pos := "over.go:88", after := #[{ on := 4, ground := Ground.data }, { on := 7, ground := Ground.data }, { on := 3, ground := Ground.chain }], guard := none }) (by kernel_rfl) rfl (by rfl) (fun K hK => ?_)
      have ho1 := HO1.out
      have hor1 := HOR1.out
      have hg1 := HG1.out
      refine opIn_append (W1.alloc (.cells #[.int .u32 (xn : Int)] 22)) (.tmp 35) (.tmp 38) 34 rfl (w.heap.size + 10) 22 i22 _ 1 4 under34w' HI22.out hz220 hz221 hz222 rfl (by decide) (.slice A2 pre.length k2) pre.length _ rfl (own_chg HROW.out hcA (fun g' hg e => HId.out.sep g' e hg)) ⟨W1.heap.size, 0, none⟩ 1 1 [.int .u32 (xn : Int)] rfl rfl (cell_one_new _ _ _) (by intro v hv; rw [List.mem_singleton.1 hv]; rfl) (by simp only [maxLen]; omega) (by omega) (Nat.le_trans HId.out.big hcA.size) ?_
      intro p2 W3 ho2 hg2 hor2
      obtain ⟨g2, cp2, rfl, _⟩ := own_form ho2 (by omega)
      have hc2 := app_chg hg2
      have hcT : Chg (fun g' => blk (.slice A1 n1 k1) g' ∨ blk (.slice A2 pre.length k2) g') Wd W3 := (Chg.mono hcA (fun g' _ e => .inl e)).trans hc2 (fun g' _ e => .inr e)
      obtain ⟨t1, t2, t3, t4, t5, t6⟩ := HSK.out W3 hcT
      have hfin := read_fin HId.out hcA (by unfold Buf; rw [take_more, List.length_append, ns_append, ← HN1.out, ← HM.out]; exact own_below HO1.out HBA.out) (app_blk (w' := W1) HOR1.out) hlu HXN.out ho2 hc2 (app_blk (w' := W3) hor2)
      have HFIN := Lib.hid hfin
      have u3 := t5.frozen
      have t6s : Boxed (W3.setCell ⟨w.heap.size + 3, 0, none⟩ (.slice (some ⟨g1, 0, none⟩) (n1 + m) cp1)) (w.heap.size + 4) 34 (.slice A2 pre.length k2) := bx_chg t6 (setCell_chg _ _ _ _) (fun e => by omega)
      have u4 := t6s.cell
      have u5 := t6s.frozen
      have HS3 := Lib.hid (And.intro t1 (And.intro t2 (And.intro t3 t4)))
      clear hfin ho1 ho2 hg1 hg2 hor1 hor2 hc2 hcT t2 t3 t4 t6 t6s
      refine hK _ _ (fun _ => HS3.out) ?_
      clear hK K
      try simp only [Act.put, List.setIfInBounds_toArray, List.set_cons_zero, List.set_cons_succ]
      refine AnyI.one (i := 9) (o := { dst := none, op := Op.store 23 (Operand.tmp 9) (Operand.tmp 34), type := 0, pos := "over.go:88", after := #[{ on := 3, ground := Ground.data }, { on := 8, ground := Ground.chain }, { on := 0, ground := Ground.phase }, { on := 1, ground := Ground.phase }, { on := 2, ground := Ground.phase }, { on := 3, ground := Ground.phase }, { on := 4, ground := Ground.textOnly Departure.inlinedCapture }, { on := 5, ground := Ground.textOnly Departure.lateStores }, { on := 6, ground := Ground.textOnly Departure.lateStores }, { on := 7, ground := Ground.textOnly Departure.inlinedCapture }, { on := 8, ground := Ground.textOnly Departure.lateStoresUnsure }], guard := none }) (by kernel_rfl) rfl (by rfl) (fun K hK => ?_)
      have H8 := Lib.hid hK
      clear hK
      go_simp
      replace hK := H8.out
      refine hK _ _ (fun h => by simp at h) ?_
      clear H8 hK K
      try simp only [Act.put, List.setIfInBounds_toArray, List.set_cons_zero, List.set_cons_succ]
      refine AnyI.one (i := 10) (o := { dst := none, op := Op.store 34 (Operand.tmp 10) (Operand.tmp 39), type := 0, pos := "over.go:88", after := #[{ on := 8, ground := Ground.data }, { on := 9, ground := Ground.chain }, { on := 0, ground := Ground.phase }, { on := 1, ground := Ground.phase }, { on := 2, ground := Ground.phase }, { on := 3, ground := Ground.phase }, { on := 4, ground := Ground.phase }, { on := 5, ground := Ground.phase }, { on := 6, ground := Ground.phase }, { on := 7, ground := Ground.phase }, { on := 8, ground := Ground.phase }, { on := 9, ground := Ground.phase }], guard := none }) (by kernel_rfl) rfl (by rfl) (fun K hK => ?_)
      have H8 := Lib.hid hK
      clear hK
      go_simp
      replace hK := H8.out
      refine hK _ _ (fun h => by simp at h) ?_
      clear H8 hK K
      try simp only [Act.put, List.setIfInBounds_toArray, List.set_cons_zero, List.set_cons_succ]
      refine AnyI.finish (by kernel_rfl) ?_
      have lo : ∀ x, x < w.heap.size + 10 → w.heap.size + 4 < x → ¬ (x = w.heap.size + 3 ∨ x = w.heap.size + 4 ∨ blk (.slice A1 n1 k1) x ∨ blk (.slice A2 pre.length k2) x) := fun x h1 h2 e => by
          rcases e with e | e | e | e
          · omega
          · omega
          · have := (row_lt HBUF.out e).1; omega
          · have := (row_lt HROW.out e).1; omega
      gi_wp2
      exact ⟨H2d.out.chg HFIN.out.2 (lo _ (by omega) (by omega)) (lo _ (by omega) (by omega)), nth u pre.length, D1, L1, _, _, by rw [List.length_append, List.length_singleton]; exact HFIN.out.1⟩
    · have H8 := Lib.hid hK
      clear hK
      go_simp
      replace hK := H8.out
      have hba : Below Wd.heap.size Wd (Wd.alloc (.cells #[.int .u32 (xn : Int)] 22)) := below_alloc0 (Below.refl _ _) _
      have HBA := Lib.hid hba
      have hs1 := HSK.out _ (.of_below hba)
      have HS1 := Lib.hid (And.intro hs1.1 (And.intro hs1.2.1 (And.intro hs1.2.2.1 hs1.2.2.2.1)))
      have hat0 : (Wd.alloc (.cells #[.int .u32 (xn : Int)] 22)).cell? ⟨Wd.heap.size, 0, none⟩ = some (.int .u32 (xn : Int)) := by rw [cell_of_row _ _ 0 _ 22 (0, 0) (heap_alloc_new Wd _)]; rfl
      clear hs1 hba
      refine hK _ _ (fun _ => HS1.out) ?_
      clear H8 hK K
      try simp only [Act.put, List.setIfInBounds_toArray, List.set_cons_zero, List.set_cons_succ]
      refine AnyI.one (i := 3) (o := { dst := some 34, op := Op.call { callee := Callee.builtin Builtin.append, args := #[Operand.tmp 31, Operand.tmp 33], argTypes := #[23, 23] }, type := 23, pos := "over.go:88", after := #[{ on := 0, ground := Ground.data }, { on := 2, ground := Ground.data }], guard := none }) (by kernel_rfl) rfl (by rfl) (fun K hK => ?_)
      refine opIn_append (Wd.alloc (.cells #[.int .u32 (xn : Int)] 22)) (.tmp 31) (.tmp 33) 23 rfl (w.heap.size + 10) 5 i5 _ 1 1 Try.underlying23 HI5.out hz50 hz51 hz52 rfl (by decide) (.slice A1 n1 k1) n1 _ rfl (own_below HBUF.out HBA.out) ⟨g, o', none⟩ m c (ns .u8 ((l.drop (1004 * pre.length)).take 1004)) rfl (by rw [ns_length, ← HM.out, Nat.mul_one]) (fun j v hv => by obtain ⟨b', o3, eb, hr⟩ := (HAd.out.below HBA.out) (by intro e; rw [e] at hv; simp at hv); cases eb; rw [Addr.add_mid]; exact hr j v hv) (ns_one _ _) (by simp only [maxLen]; omega) (by omega) (Nat.le_trans HId.out.big HBA.out.size) ?_
      intro p1 W2 ho1 hg1 hor1
      obtain ⟨g1, cp1, rfl, _⟩ := own_form ho1 (by omega)
      have hc1 := app_chg hg1
      have hcA : Chg (blk (.slice A1 n1 k1)) Wd W2 := (Chg.of_below HBA.out).trans hc1 (fun g' _ e => e)
      have hs2 := HSK.out W2 (hcA.mono fun g' _ e => .inl e)
      have HS2 := Lib.hid (And.intro hs2.1 (And.intro hs2.2.1 (And.intro hs2.2.2.1 hs2.2.2.2.1)))
      have hbn : ¬ blk (.slice A1 n1 k1) Wd.heap.size := fun e => by have := (row_lt HBUF.out e).2; omega
      have hat2 : W2.cell? ⟨Wd.heap.size, 0, none⟩ = some (.int .u32 (xn : Int)) := hc1.cell hat0 hbn
      refine hK _ _ (fun _ => HS2.out) ?_
      clear hK K hs2
      try simp only [Act.put, List.setIfInBounds_toArray, List.set_cons_zero, List.set_cons_succ]
      refine AnyI.one (i := 8) (o := { dst := some 39, op := Op.call { callee := Callee.builtin Builtin.append, args := #[Operand.tmp 35, Operand.tmp 38], argTypes := #[34, 34] }, type := 34, pos := "over.go:88", after := #[{ on := 4, ground := Ground.data }, { on := 7, ground := Ground.data }, { on := 3, ground := Ground.chain }], guard := none }) (by kernel_rfl) rfl (by rfl) (fun K hK => ?_)
      refine opIn_append W2 (.tmp 35) (.tmp 38) 34 rfl (w.heap.size + 10) 22 i22 _ 1 4 under34w' HI22.out hz220 hz221 hz222 rfl (by decide) (.slice A2 pre.length k2) pre.length _ rfl (own_chg HROW.out hcA (fun g' hg e => HId.out.sep g' e hg)) ⟨Wd.heap.size, 0, none⟩ 1 1 [.int .u32 (xn : Int)] rfl rfl (fun j v hv => by cases j with | zero => (obtain rfl : Value.int .u32 (xn : Int) = v := by simpa using hv); rw [Addr.add_mid]; exact hat2 | succ j => simp at hv) (by intro v hv; rw [List.mem_singleton.1 hv]; rfl) (by simp only [maxLen]; omega) (by omega) (Nat.le_trans HId.out.big hcA.size) ?_
      intro p2 W3 ho2 hg2 hor2
      obtain ⟨g2, cp2, rfl, _⟩ := own_form ho2 (by omega)
      have ho1' := ho1
      have hor1' := hor1
      have hc2 := app_chg hg2
      have hcT : Chg (fun g' => blk (.slice A1 n1 k1) g' ∨ blk (.slice A2 pre.length k2) g') Wd W3 := (Chg.mono hcA (fun g' _ e => .inl e)).trans hc2 (fun g' _ e => .inr e)
      obtain ⟨t1, t2, t3, t4, t5, t6⟩ := HSK.out W3 hcT
      have hfin := read_fin HId.out hcA (by unfold Buf; rw [take_more, List.length_append, ns_append, ← HN1.out, ← HM.out]; exact ho1) (fun g' hg => (app_blk (w' := W2) hor1 g' hg).imp id (fun e => Nat.le_trans HBA.out.size e)) hlu HXN.out ho2 hc2 (app_blk (w' := W3) hor2)
      have HFIN := Lib.hid hfin
      have u3 := t5.frozen
      have t6s : Boxed (W3.setCell ⟨w.heap.size + 3, 0, none⟩ (.slice (some ⟨g1, 0, none⟩) (n1 + m) cp1)) (w.heap.size + 4) 34 (.slice A2 pre.length k2) := bx_chg t6 (setCell_chg _ _ _ _) (fun e => by omega)
      have u4 := t6s.cell
      have u5 := t6s.frozen
      have HS3 := Lib.hid (And.intro t1 (And.intro t2 (And.intro t3 t4)))
      clear hfin ho1 ho2 hg1 hg2 hor1 hor2 hc2 hcT t2 t3 t4 t6 t6s
      refine hK _ _ (fun _ => HS3.out) ?_
      clear hK K
      try simp only [Act.put, List.setIfInBounds_toArray, List.set_cons_zero, List.set_cons_succ]
      refine AnyI.one (i := 9) (o := { dst := none, op := Op.store 23 (Operand.tmp 9) (Operand.tmp 34), type := 0, pos := "over.go:88", after := #[{ on := 3, ground := Ground.data }, { on := 8, ground := Ground.chain }, { on := 0, ground := Ground.phase }, { on := 1, ground := Ground.phase }, { on := 2, ground := Ground.phase }, { on := 3, ground := Ground.phase }, { on := 4, ground := Ground.textOnly Departure.inlinedCapture }, { on := 5, ground := Ground.textOnly Departure.lateStores }, { on := 6, ground := Ground.textOnly Departure.lateStores }, { on := 7, ground := Ground.textOnly Departure.inlinedCapture }, { on := 8, ground := Ground.textOnly Departure.lateStoresUnsure }], guard := none }) (by kernel_rfl) rfl (by rfl) (fun K hK => ?_)
      have H8 := Lib.hid hK
      clear hK
      go_simp
      replace hK := H8.out
      refine hK _ _ (fun h => by simp at h) ?_
      clear H8 hK K
      try simp only [Act.put, List.setIfInBounds_toArray, List.set_cons_zero, List.set_cons_succ]
      refine AnyI.one (i := 10) (o := { dst := none, op := Op.store 34 (Operand.tmp 10) (Operand.tmp 39), type := 0, pos := "over.go:88", after := #[{ on := 8, ground := Ground.data }, { on := 9, ground := Ground.chain }, { on := 0, ground := Ground.phase }, { on := 1, ground := Ground.phase }, { on := 2, ground := Ground.phase }, { on := 3, ground := Ground.phase }, { on := 4, ground := Ground.phase }, { on := 5, ground := Ground.phase }, { on := 6, ground := Ground.phase }, { on := 7, ground := Ground.phase }, { on := 8, ground := Ground.phase }, { on := 9, ground := Ground.phase }], guard := none }) (by kernel_rfl) rfl (by rfl) (fun K hK => ?_)
      have H8 := Lib.hid hK
      clear hK
      go_simp
      replace hK := H8.out
      refine hK _ _ (fun h => by simp at h) ?_
      clear H8 hK K
      try simp only [Act.put, List.setIfInBounds_toArray, List.set_cons_zero, List.set_cons_succ]
      refine AnyI.finish (by kernel_rfl) ?_
      have lo : ∀ x, x < w.heap.size + 10 → w.heap.size + 4 < x → ¬ (x = w.heap.size + 3 ∨ x = w.heap.size + 4 ∨ blk (.slice A1 n1 k1) x ∨ blk (.slice A2 pre.length k2) x) := fun x h1 h2 e => by
          rcases e with e | e | e | e
          · omega
          · omega
          · have := (row_lt HBUF.out e).1; omega
          · have := (row_lt HROW.out e).1; omega
      gi_wp2
      exact ⟨H2d.out.chg HFIN.out.2 (lo _ (by omega) (by omega)) (lo _ (by omega) (by omega)), nth u pre.length, D1, L1, _, _, by rw [List.length_append, List.length_singleton]; exact HFIN.out.1⟩
  case done =>
    rintro xs W hxs ⟨at4, D4, L4, v1, v2, hI⟩ hDf
    rw [hsz8] at hDf ⊢
    rw [hxs] at hI
    have hl4 : l.take (1004 * u.length) = l := List.take_of_length_le (by have := HKU.out; have := HK.out; have := (need_yes (n := l.length) (by rw [← HK.out]; exact hz)).2.2; omega)
    have hbuf := hI.buf
    rw [hl4] at hbuf
    have hrow := hI.row
    rw [List.take_length] at hrow
    obtain ⟨A1, k1, rfl, hA1, _⟩ := At.own hbuf
    obtain ⟨A2, k2, rfl, hA2, _⟩ := At.own hrow
    have c9 := hI.b9.cell
    have c10 := hI.b10.cell
    have c6 := hI.b6.cell
    have f6 := hI.b6.frozen
    have c7 := hI.b7.cell
    have f7 := hI.b7.frozen
    have c8 := hI.b8.cell
    have f8 := hI.b8.frozen
    obtain ⟨Wd, hWd⟩ : ∃ Wd, Wd = W.drew := ⟨_, rfl⟩
    have HWD := Lib.hid hWd
    have hSd : Wd.cell? ⟨w.heap.size + 3, 0, none⟩ = some (.slice A1 l.length k1) ∧ Wd.cell? ⟨w.heap.size + 4, 0, none⟩ = some (.slice A2 u.length k2) := by rw [hWd]; exact ⟨c9, c10⟩
    have HI := Lib.hid hI
    have HDF := Lib.hid hDf
    have HBUF := Lib.hid hbuf
    have HROW := Lib.hid hrow
    have HA1 := Lib.hid hA1
    have HA2 := Lib.hid hA2
    have hId := hI.up (show Below W.heap.size W Wd by rw [hWd]; exact below_drew0 (Below.refl _ _))
    have hDd : Wd.heap[w.heap.size + 8]? = some (.deferred (some [])) := by rw [hWd]; exact hDf
    have hA1d : At Wd A1 (ns .u8 l) := by rw [hWd]; exact hA1.below (below_drew0 (Below.refl _ _))
    have hA2d : At Wd A2 (ns .u32 u) := by rw [hWd]; exact hA2.below (below_drew0 (Below.refl _ _))
    have hb6 : Boxed Wd w.heap.size 23 (.slice none 0 0) := hId.b6
    have hb7 := hId.b7
    have hb8 := hId.b8
    have HID := Lib.hid hId
    have d6 := hb6.cell
    have g6 := hb6.frozen
    have hb7a := hb7.other (B' := w.heap.size) (by omega) (.slice A1 l.length k1)
    have d7 := hb7a.cell
    have g7 := hb7a.frozen
    have hb8a := (hb8.other (B' := w.heap.size) (by omega) (.slice A1 l.length k1)).other (B' := w.heap.size + 1) (by omega) (.slice A2 u.length k2)
    have d8 := hb8a.cell
    have g8 := hb8a.frozen
    have hS2 : (Wd.setCell ⟨w.heap.size, 0, none⟩ (.slice A1 l.length k1)).cell? ⟨w.heap.size + 3, 0, none⟩ = some (.slice A1 l.length k1) ∧ (Wd.setCell ⟨w.heap.size, 0, none⟩ (.slice A1 l.length k1)).cell? ⟨w.heap.size + 4, 0, none⟩ = some (.slice A2 u.length k2) := ⟨(hId.b9.other (B' := w.heap.size) (by omega) _).cell, (hId.b10.other (B' := w.heap.size) (by omega) _).cell⟩
    have h6z := (((hb6.set (.slice A1 l.length k1)).other (B' := w.heap.size + 1) (by omega) (.slice A2 u.length k2)).other (B' := w.heap.size + 2) (by omega) (.int .u16 0))
    have h7z := ((hb7a.set (.slice A2 u.length k2)).other (B' := w.heap.size + 2) (by omega) (.int .u16 0))
    have h8z := hb8a.set (.int .u16 0)
    have hcz : Chg (fun g => g = w.heap.size ∨ g = w.heap.size + 1 ∨ g = w.heap.size + 2) Wd (((Wd.setCell ⟨w.heap.size, 0, none⟩ (.slice A1 l.length k1)).setCell ⟨w.heap.size + 1, 0, none⟩ (.slice A2 u.length k2)).setCell ⟨w.heap.size + 2, 0, none⟩ (.int .u16 0)) := (((Chg.refl _ Wd).setCell _ _ (.inl (.inl rfl))).setCell _ _ (.inl (.inr (.inl rfl)))).setCell _ _ (.inl (.inr (.inr rfl)))
    have H6 := Lib.hid h6z
    have H7 := Lib.hid h7z
    have H8z := Lib.hid h8z
    have HCZ := Lib.hid hcz
    have HDD := Lib.hid hDd
    have HA1d := Lib.hid hA1d
    have HA2d := Lib.hid hA2d
    clear hWd hI hDf hbuf hrow hA1 hA2 hId hb6 hb7 hb8 hb7a hb8a h6z h7z h8z hcz hDd hA1d hA2d c6 c7 c8 f6 f7 f8
    gi_wp2
    refine AnyI.begin 3 (fun w5 : World => w5.cell? ⟨w.heap.size + 3, 0, none⟩ = some (.slice A1 l.length k1) ∧ w5.cell? ⟨w.heap.size + 4, 0, none⟩ = some (.slice A2 u.length k2)) (by kernel_rfl) ?_
    rw [← HWD.out]
    refine AnyI.take (i := 0) (oi := { dst := some 40, op := Op.load 23 (Operand.tmp 9), type := 23, pos := "over.go:90", after := #[], guard := none }) (v := ?_) [0, 3] rfl (by kernel_rfl) (by kernel_rfl) (by kernel_rfl) (by kernel_rfl) (by kernel_rfl) (fun _ _ _ h => absurd rfl (h.1 _)) ⟨Or.inl ⟨by rfl, ?_⟩, fun _ => rfl⟩ hSd ?_
    rotate_left
    · (intro w5 hSw; obtain ⟨s1, s2⟩ := hSw; go_simp; try with_reducible rfl)
    simp only [Act.put, List.setIfInBounds_toArray, List.set_cons_zero, List.set_cons_succ]
    refine AnyI.take (i := 1) (oi := { dst := some 41, op := Op.load 34 (Operand.tmp 10), type := 34, pos := "over.go:90", after := #[], guard := none }) (v := ?_) [1, 3] rfl (by kernel_rfl) (by kernel_rfl) (by kernel_rfl) (by kernel_rfl) (by kernel_rfl) (fun _ _ _ h => absurd rfl (h.1 _)) ⟨Or.inl ⟨by rfl, ?_⟩, fun _ => rfl⟩ hSd ?_
    rotate_left
    · (intro w5 hSw; obtain ⟨s1, s2⟩ := hSw; go_simp; try with_reducible rfl)
    simp only [Act.put, List.setIfInBounds_toArray, List.set_cons_zero, List.set_cons_succ]
    refine AnyI.one (i := 2) (o := { dst := none, op := Op.store 23 (Operand.tmp 6) (Operand.tmp 40), type := 0, pos := "over.go:90", after := #[{ on := 0, ground := Ground.data }, { on := 0, ground := Ground.phase }, { on := 1, ground := Ground.textOnly Departure.inlinedCapture }], guard := none }) (by kernel_rfl) rfl (by rfl) (fun K hK => ?_)
    have H8 := Lib.hid hK
    clear hK
    go_simp
    replace hK := H8.out
    refine hK _ _ (fun _ => hS2) ?_
    clear H8 hK K
    try simp only [Act.put, List.setIfInBounds_toArray, List.set_cons_zero, List.set_cons_succ]
    refine AnyI.one (i := 3) (o := { dst := none, op := Op.store 34 (Operand.tmp 7) (Operand.tmp 41), type := 0, pos := "over.go:90", after := #[{ on := 1, ground := Ground.data }, { on := 2, ground := Ground.chain }, { on := 0, ground := Ground.phase }, { on := 1, ground := Ground.phase }, { on := 2, ground := Ground.phase }], guard := none }) (by kernel_rfl) rfl (by rfl) (fun K hK => ?_)
    have H8 := Lib.hid hK
    clear hK
    go_simp
    replace hK := H8.out
    refine hK _ _ (fun h => by simp at h) ?_
    clear H8 hK K
    try simp only [Act.put, List.setIfInBounds_toArray, List.set_cons_zero, List.set_cons_succ]
    refine AnyI.one (i := 4) (o := { dst := none, op := Op.store 37 (Operand.tmp 8) (Operand.const (Value.int IntKind.u16 0)), type := 0, pos := "over.go:90", after := #[{ on := 3, ground := Ground.chain }, { on := 0, ground := Ground.phase }, { on := 1, ground := Ground.phase }, { on := 2, ground := Ground.phase }, { on := 3, ground := Ground.phase }], guard := none }) (by kernel_rfl) rfl (by rfl) (fun K hK => ?_)
    have H8 := Lib.hid hK
    clear hK
    go_simp
    replace hK := H8.out
    refine hK _ _ (fun h => by simp at h) ?_
    clear H8 hK K
    try simp only [Act.put, List.setIfInBounds_toArray, List.set_cons_zero, List.set_cons_succ]
    refine AnyI.finish (by kernel_rfl) ?_
    gi_wp2
    have hDz := (HCZ.out.block _ (Array.getElem?_eq_some_iff.1 HDD.out).1 (by omega)).trans HDD.out
    refine ⟨by simp, .inl ⟨_, _, rfl, run_takeDeferred hDz, ?_⟩⟩
    have hcp := putObj_chg (((Wd.setCell ⟨w.heap.size, 0, none⟩ (.slice A1 l.length k1)).setCell ⟨w.heap.size + 1, 0, none⟩ (.slice A2 u.length k2)).setCell ⟨w.heap.size + 2, 0, none⟩ (.int .u16 0)) (w.heap.size + 8) (.deferred none)
    have hcall : Chg (fun g => g = w.heap.size ∨ g = w.heap.size + 1 ∨ g = w.heap.size + 2 ∨ g = w.heap.size + 8) Wd ((((Wd.setCell ⟨w.heap.size, 0, none⟩ (.slice A1 l.length k1)).setCell ⟨w.heap.size + 1, 0, none⟩ (.slice A2 u.length k2)).setCell ⟨w.heap.size + 2, 0, none⟩ (.int .u16 0)).putObj (w.heap.size + 8) (.deferred none)) := (HCZ.out.mono (fun g _ e => by omega)).trans hcp (fun g _ e => by omega)
    have r6 := bx_chg H6.out hcp (by omega)
    have r7 := bx_chg H7.out hcp (by omega)
    have r8 := bx_chg H8z.out hcp (by omega)
    refine ⟨_, results_cell3 rfl _ w.heap.size (w.heap.size + 1) (w.heap.size + 2) _ _ _ _ rfl rfl rfl r6.cell r7.cell r8.cell, ?_⟩
    refine ⟨A1, k1, A2, k2, rfl, HA1d.out.chg hcall (fun a ha e => ?_), HA2d.out.chg hcall (fun a ha e => ?_), HID.out.fr.1.trans hcall (fun j hj e => by omega), HID.out.fr.2.trans (hcall.below HID.out.pool.n_le (fun g e => by have := HID.out.n0h; omega))⟩
    · have := (row_lt HBUF.out (g := a.block) (by rw [ha]; rfl)).1; omega
    · have := (row_lt HROW.out (g := a.block) (by rw [ha]; rfl)).1; omega
end Go.Proofs.Ytfbjjblgcgjndaa

/- OverBack: the law's page numbers; a write into a pool over a disk that does not fail. -/
namespace Go.Proofs.Ytfbjjblgcgjndaa
open Go.RowKit

/-- the pages that the law names -/
def us (a t n : Nat) : List Nat := (List.range n).map fun i => 2 + (a + i * t) % 29
theorem us_length (a t n : Nat) : (us a t n).length = n := by simp [us]
theorem us_succ (a t n : Nat) : us a t (n + 1) = us a t n ++ [2 + (a + n * t) % 29] := by simp [us, List.range_succ]
theorem us_nth (a t n i : Nat) (h : i < n) : nth (us a t n) i = 2 + (a + i * t) % 29 := by simp [us, nth, List.getD_eq_getElem?_getD, h]
theorem us_lt (a t n : Nat) : ∀ x, x ∈ us a t n → x < 31 := fun x hx => by
  obtain ⟨i, _, rfl⟩ := List.mem_map.1 hx
  omega
theorem us_ok (a t n : Nat) : ((us a t n).any fun x => !isPg x) = false := by
  rw [List.any_eq_false]
  intro x hx
  obtain ⟨i, _, rfl⟩ := List.mem_map.1 hx
  have h1 : 2 ≤ 2 + (a + i * t) % 29 := by omega
  have h2 : 2 + (a + i * t) % 29 < 16384 := by omega
  unfold isPg
  simp [h1, h2]
theorem steps29 : ∀ t, t < 28 → ∀ d, d < 9 → d ≠ 0 → (d * (t + 1)) % 29 ≠ 0 := by decide
theorem us_apart {a t n i j : Nat} (ht : t < 28) (hi : i < j) (hj : j < n) (hn : n ≤ 9) : nth (us a (t + 1) n) i ≠ nth (us a (t + 1) n) j := by
  rw [us_nth _ _ _ _ (by omega), us_nth _ _ _ _ hj]
  intro e
  obtain ⟨d, rfl⟩ : ∃ d, j = i + d := ⟨j - i, by omega⟩
  have h := steps29 t ht d (by omega) (by omega)
  rw [Nat.add_mul] at e
  generalize i * (t + 1) = x at e
  generalize d * (t + 1) = y at e h
  omega
theorem us_step (a t q : Nat) : ((a + q * t) % 29 + t) % 29 = (a + (q + 1) * t) % 29 := by
  rw [Nat.add_mul, Nat.one_mul]
  omega
section
variable {n0 : Nat} {w : World} {P d most : Nat} {D : Dsk} {L : List Hand} {c : Nat} {X : Nat → Prop}
def EvWrite1 (n0 : Nat) (w : World) (P d m c : Nat) (X : Nat → Prop) (j N : Nat) (C : Nat → Option (Nat × List Nat)) (n k : Nat) (p : List Nat) (e : Ending) (w' : World) : Prop :=
  ∃ D' L', e = .returned (.int .u16 0) ∧ Even m (j + 1) N D' L' (turn C n (some (k, p))) ∧ PoolX n0 w' P d m D' L' (c + 1) X ∧ Step n0 X w w'
theorem ev_write1 {j N : Nat} {C : Nat → Option (Nat × List Nat)} (h : PoolX n0 w P d most D L c X) (he : Even most j N D L C) (n k : Nat) (hn : n < 4294967296) (hk : k < 256) (pay : List Nat) (A : Option Addr) (cap m : Nat) (hpm : m = pay.length) (hA : ∀ w', Step n0 X w w' → At w' A (ns .u8 pay)) (hnil : A = none → cap = 0) (hbp : Bytes pay)
    (hs : SealOk k pay) (hnN : n < N) (hj : j ≤ 10000000) (hm : most ≤ 256) (hcc : c ≤ 100000000) :
    Calls Try.prog 80 #[.pointer (some ⟨P, 0, none⟩), .int .u32 (n : Int), .int .u8 (k : Int), .slice A m cap] w (EvWrite1 n0 w P d most c X j N C n k pay) := by
  refine (plwrite_any h n k hn hk pay A cap m hpm hA hnil hbp (he.small.c (by omega)) (he.small.m (by omega) 2) (by omega) (by omega)).mono ?_
  obtain ⟨a, b⟩ := he.write n k pay
  have hz : (if SealOk k pay then (if N ≤ n then 2 else 0) else 80) = 0 := by rw [if_pos hs, if_neg (by omega)]
  rw [hz] at a b
  rw [if_pos rfl] at a
  generalize plWrite most D L n k pay = r at *
  obtain ⟨re, rD, rL⟩ := r
  simp only at b
  subst b
  rintro e w' ⟨rfl, hx, hs'⟩
  exact ⟨rD, rL, rfl, a, hx, hs'⟩
end
/-- behind i writes -/
structure WrIn (n0 : Nat) (we : World) (P d : Nat) (X0 : Nat → Prop) (l u : List Nat) (i : Nat) (W : World) (D : Dsk) (L : List Hand) (C : Nat → Option (Nat × List Nat)) : Prop where
  pool : PoolX n0 W P d 3 D L i X0
  even : Even 3 i 31 D L C
  has : ∀ j, j < i → C (nth u j) = some (3, encRow l u j)
  fr : Step n0 X0 we W
theorem encRow_bytes {l u : List Nat} (hl : Bytes l) (i : Nat) : Bytes (encRow l u i) := by
  unfold encRow
  refine Bytes.append ?_ ((hl.drop _).take _)
  intro c hc
  simp only [le4, List.mem_cons, List.not_mem_nil, or_false] at hc
  rcases hc with rfl | rfl | rfl | rfl <;> omega
end Go.Proofs.Ytfbjjblgcgjndaa

/- Contracts of the small helpers on lists of words: SameWords, LentWords, WholeWords, SpoilWords. -/
namespace Go.Proofs.Ytfbjjblgcgjndaa
open Go.RowKit

theorem info22w : (Try.prog.info? 22).map (fun i => (i.zero, i.size, i.bytes)) = some (some (.int .u32 0), 1, 4) := by kernel_rfl
theorem under34w : Try.prog.underlying 34 = some (.slice 22) := by kernel_rfl
set_option maxRecDepth 100000 in
set_option maxHeartbeats 400000 in
theorem samew_any (A B : Option Addr) (c d : Nat) (l m : List Nat) (w : World) (hl : l.length ≤ 140737488355328) (hm : m.length ≤ 140737488355328) (hA : At w A (ns .u32 l)) (hB : At w B (ns .u32 m)) :
    Calls Try.prog 88 #[.slice A l.length c, .slice B m.length d] w fun e w' => e = .returned (.bool (decide (l = m))) ∧ Below w.heap.size w w' := by
  by_cases hlen : l.length = m.length
  · have h0 : ((l.length : Int) != (m.length : Int)) = false := by simp [hlen]
    have h0' : (l.length == m.length) = true := by simp [hlen]
    have HL := Lib.hid hlen
    clear hlen
    go_enter Try.func88, Try.ntmps88
    go_wp2
    go_loopw [5] (fun i wr => ∃ k : Nat, k ≤ l.length ∧ i = .int .i64 k ∧ Agree l m k ∧ Below w.heap.size w wr) (fun i _ => l.length - (intOf i).toNat)
    case atStart => exact ⟨0, by omega, rfl, Agree.zero l m, Below.refl _ _⟩
    case round =>
      clear h0 h0'
      obtain ⟨k, hk, rfl, hag, hb⟩ := hrel
      by_cases hlt : k < l.length
      · obtain ⟨b1, o1, rfl, hc1⟩ := (hA.below hb).num k hlt
        have hlt' : k < m.length := by have := HL.out; omega
        obtain ⟨b2, o2, rfl, hc2⟩ := (hB.below hb).num k hlt'
        by_cases he : nth l k = nth m k
        · have hne : (((nth l k : Nat) : Int) != ((nth m k : Nat) : Int)) = false := by simp [he]
          have HE := Lib.hid he
          clear he
          go_wp2
          go_quiet (fail)
          go_wp2
          go_roundw
          case rel => exact ⟨k + 1, by omega, by go_num, hag.succ HE.out, below_drewN hb _⟩
          case measure => simp [intOf]; omega
        · have hne : (((nth l k : Nat) : Int) != ((nth m k : Nat) : Int)) = true := by simp; omega
          have hfin : decide (l = m) = false := by
            rw [decide_eq_false_iff_not]; intro e; exact he (by rw [e])
          have HF := Lib.hid hfin
          clear he hfin
          go_wp2
          go_quiet (fail)
          go_wp2
          go_ret
          exact ⟨by rw [HF.out]; rfl, below_drewN hb _⟩
      · obtain rfl : k = l.length := by omega
        have hfin : decide (l = m) = true := by
          rw [decide_eq_true_eq]; exact list_ext_nth HL.out hag
        have HF := Lib.hid hfin
        clear hfin
        go_wp2
        go_ret
        exact ⟨by rw [HF.out]; rfl, hb⟩
  · have h0 : ((l.length : Int) != (m.length : Int)) = true := by simp; omega
    have h0' : (l.length == m.length) = false := by simp; omega
    have hfin : decide (l = m) = false := by
      rw [decide_eq_false_iff_not]; intro e; exact hlen (by rw [e])
    have HF := Lib.hid hfin
    clear hlen hfin
    go_enter Try.func88, Try.ntmps88
    go_wp2
    go_ret
    exact ⟨by rw [HF.out]; rfl, Below.refl _ _⟩

/-- the block of a lent list: it, and two marks behind -/
def LentW (w : World) (b : Nat) (l : List Nat) : Prop := w.heap[b]? = some (.cells (ns .u32 (l ++ [771, 772])).toArray 22 (0, 0))
theorem LentW.below {w w' : World} {b : Nat} {l : List Nat} (h : LentW w b l) (hb : Below w.heap.size w w') : LentW w' b l := by
  have : b < w.heap.size := (Array.getElem?_eq_some_iff.1 h).1
  unfold LentW; rw [hb.block b this]; exact h
theorem LentW.at {w : World} {b : Nat} {l : List Nat} (h : LentW w b l) : At w (some ⟨b, 0, none⟩) (ns .u32 l) := by
  have h1 : At w (some ⟨b, 0, none⟩) (ns .u32 l ++ ns .u32 [771, 772]) := by rw [← ns_append]; exact At.whole h
  exact h1.pre

set_option maxRecDepth 100000 in
set_option maxHeartbeats 400000 in
theorem lentw_any (A : Option Addr) (c : Nat) (l : List Nat) (w : World) (hl : l.length ≤ 1000000000) (hA : At w A (ns .u32 l)) (hnil : A = none → c = 0) :
    Calls Try.prog 33 #[.slice A l.length c] w fun e w' => e = .returned (.slice (some ⟨w.heap.size, 0, none⟩) l.length (l.length + 2)) ∧ LentW w' w.heap.size l ∧ Below w.heap.size w w' := by
  go_enter Try.func33, Try.ntmps33
  go_wp2_with (first
    | (with_reducible refine wp_make0 rfl _ _ 34 22 (.int .u32 0) 1 4 rfl under34w info22w w.heap.size .i64 .i64 _ (l.length + 2) rfl rfl (by omega) (by omega) (by omega) (Nat.le_refl _) ?_; intro w1 ho1 hg1; have hb1 := below_of_grown hg1)
    | (at_builtin; (refine wp_append_fits rfl (.tmp 8) (.tmp 9) 34 22 (.int .u32 0) 1 4 rfl under34w info22w (by decide) w.heap.size w.heap.size 0 (l.length + 2) [] rfl ho1 A l.length c (ns .u32 l) rfl (by simp [ns]) (hA.below hb1) hnil (ns_one .u32 l) (by omega) ?_); intro w2 ho2 hg2; simp only [Nat.zero_add, List.nil_append] at ho2 ⊢)
    | (at_builtin; (refine wp_append_fits rfl (.tmp 11) (.tmp 12) 34 22 (.int .u32 0) 1 4 rfl under34w info22w (by decide) w.heap.size w.heap.size l.length (l.length + 2) (ns .u32 l) rfl (ho2.alloc _) (some ⟨w2.heap.size, 0, none⟩) 2 2 [.int .u32 771, .int .u32 772] rfl (by simp) (At.whole (heap_alloc_new w2 _)) (by simp) (ns_one .u32 [771, 772]) (by omega) ?_); intro w3 ho3 hg3))
  go_ret
  refine ⟨rfl, ?_, ?_⟩
  · have := own_full ho3
    unfold LentW
    rw [this, ns_append]; rfl
  · exact below_grown (below_alloc0 (below_grown hb1 hg2 hb1.size (by simp)) _) hg3 (by have := hg2.size; have := hg1.size; simp; omega) (by simp)

set_option maxRecDepth 100000 in
set_option maxHeartbeats 400000 in
theorem wholew_any (b : Nat) (B : Option Addr) (d : Nat) (l : List Nat) (w : World) (hl : l.length ≤ 1000000000) (hb : LentW w b l) (hB : At w B (ns .u32 l)) :
    Calls Try.prog 35 #[.slice (some ⟨b, 0, none⟩) l.length (l.length + 2), .slice B l.length d] w fun e w' => e = .returned (.bool true) ∧ Below w.heap.size w w' := by
  have hlen : (ns .u32 (l ++ [771, 772])).length = l.length + 2 := by simp [ns]
  have h1 : w.cell? ⟨b, l.length, none⟩ = some (.int .u32 771) := by
    rw [cell_of_row w b l.length _ 22 (0, 0) hb]; simp [ns]
  have h2 : w.cell? ⟨b, l.length + 1, none⟩ = some (.int .u32 772) := by
    rw [cell_of_row w b (l.length + 1) _ 22 (0, 0) hb]; simp [ns]
  clear hlen
  have HA := hb.at
  have hs := Lib.hid (samew_any (some ⟨b, 0, none⟩) B (l.length + 2) d l l w (by omega) (by omega) HA hB)
  go_enter Try.func35, Try.ntmps35
  go_wp2_with (go_at_call 88; refine hs.out.mono ?_; rintro e w1 ⟨rfl, hbel⟩)
  go_ret
  exact ⟨by simp, hbel⟩

set_option maxRecDepth 100000 in
set_option maxHeartbeats 400000 in
theorem spoilw_any (b n : Nat) (cs : Array Value) (w : World) (hn : n ≤ 1000000000) (hb : w.heap[b]? = some (.cells cs 22 (0, 0))) (hc : cs.size = n + 2) :
    Calls Try.prog 37 #[.slice (some ⟨b, 0, none⟩) n (n + 2)] w fun e w' => e = .returned (.tuple #[]) ∧ w.grownBy w' (some b) := by
  go_enter Try.func37, Try.ntmps37
  go_wp2
  go_loopw [3] (fun i wr => ∃ k : Nat, k ≤ n + 2 ∧ i = .int .i64 k ∧ (∃ cs : Array Value, wr.heap[b]? = some (.cells cs 22 (0, 0)) ∧ cs.size = n + 2) ∧ w.grownBy wr (some b)) (fun i _ => n + 2 - (intOf i).toNat)
  case atStart => exact ⟨0, by omega, rfl, ⟨cs, hb, hc⟩, World.grownBy.refl _ _⟩
  case round =>
    clear hb hc
    obtain ⟨k, hk, rfl, ⟨cs, hb, hc⟩, hg⟩ := hrel
    by_cases hlt : k < n + 2
    · obtain ⟨u, hcell⟩ : ∃ u, wr.cell? ⟨b, k, none⟩ = some u := ⟨cs[k], by rw [cell_of_row wr b k _ 22 (0, 0) hb]; exact Array.getElem?_eq_getElem (by omega)⟩
      have hfr := frozen_of_row wr b k cs 22 hb
      have HB := Lib.hid hb
      have HC := Lib.hid hc
      clear hb hc
      go_wp2
      go_roundw
      case rel =>
        refine ⟨k + 1, by omega, by go_num, ⟨_, heap_setCell_same wr b k cs 22 _ HB.out, by rw [Array.size_setIfInBounds]; exact HC.out⟩, ?_⟩
        exact ⟨hg.os, hg.tape, hg.output, by simp [World.setCell]; exact hg.size, fun i hi hne => by
          rw [Below.heap_setCell _ _ _ _ (by intro e; exact hne (by rw [e]))]; exact hg.block i hi hne⟩
      case measure => simp [intOf]; omega
    · obtain rfl : k = n + 2 := by omega
      go_wp2
      go_end0
      exact ⟨rfl, hg⟩
end Go.Proofs.Ytfbjjblgcgjndaa

/- Encode's rows as rows apart (the part of Over10 that OverBack wants). -/
namespace Go.Proofs.Ytfbjjblgcgjndaa
open Go.RowKit

/-- what Encode answers: rows, or none and an error -/
def encAns (l u : List Nat) (L : List (List Nat)) (er : Int) : Prop := (encOk l u ∧ L = encRows l u ∧ er = 0) ∨ (¬ encOk l u ∧ L = [] ∧ er = 120)
theorem encAns_some (l u : List Nat) : ∃ L er, encAns l u L er := by
  by_cases h : encOk l u
  · exact ⟨_, _, .inl ⟨h, rfl, rfl⟩⟩
  · exact ⟨_, _, .inr ⟨h, rfl, rfl⟩⟩
theorem encAns.len {l u : List Nat} {L : List (List Nat)} {er : Int} (h : encAns l u L er) : L.length ≤ 9 := by
  rcases h with ⟨_, rfl, _⟩ | ⟨_, rfl, _⟩
  · rw [encRows_length]; exact need_le _
  · simp
theorem encAns.row {l u : List Nat} {L : List (List Nat)} {er : Int} (h : encAns l u L er) (i : Nat) : (L.getD i []).length ≤ 1008 := by
  rcases h with ⟨_, rfl, _⟩ | ⟨_, rfl, _⟩
  · by_cases hi : i < need l.length
    · rw [encRows_get l u i hi, encRow_length]; omega
    · rw [List.getD_eq_getElem?_getD, List.getElem?_eq_none (by rw [encRows_length]; omega)]; simp
  · simp
/-- rows that came out, all memory apart -/
structure G12 (n0 : Nat) (w : World) (v : Value) (L : List (List Nat)) (F : Nat → Value) : Prop where
  own : w.ownsRow n0 23 1 v L.length (lst F L.length)
  bufs : ∀ i, i < L.length → Buf n0 w (F i) (L.getD i [])
  apart : ∀ i j, i < L.length → j < L.length → i ≠ j → ∀ g, blk (F i) g → ¬ blk (F j) g
  off : ∀ i g, i < L.length → blk (F i) g → ¬ blk v g
theorem G12.has {n0 : Nat} {w : World} {v : Value} {L : List (List Nat)} {F : Nat → Value} (h : G12 n0 w v L F) {g : Nat} (hg : blk v g ∨ ∃ i, i < L.length ∧ blk (F i) g) : n0 ≤ g ∧ g < w.heap.size := by
  rcases hg with hg | ⟨i, hi, hg⟩
  · exact row_lt h.own hg
  · exact row_lt (h.bufs i hi) hg
theorem G12.chg {n0 : Nat} {w w' : World} {v : Value} {L : List (List Nat)} {F : Nat → Value} {G : Nat → Prop} (h : G12 n0 w v L F) (hc : Chg G w w') (hG : ∀ g, n0 ≤ g → g < w.heap.size → ¬ G g) : G12 n0 w' v L F :=
  ⟨own_chg h.own hc (fun g hg => hG g (row_lt h.own hg).1 (row_lt h.own hg).2), fun i hi => own_chg (h.bufs i hi) hc (fun g hg => hG g (row_lt (h.bufs i hi) hg).1 (row_lt (h.bufs i hi) hg).2), h.apart, h.off⟩
theorem G12.below {n0 : Nat} {w w' : World} {v : Value} {L : List (List Nat)} {F : Nat → Value} (h : G12 n0 w v L F) (hb : Below w.heap.size w w') : G12 n0 w' v L F :=
  h.chg (G := fun _ => False) (.of_below hb) (fun _ _ _ h => h)
theorem G12.rowIn {n0 : Nat} {w : World} {v : Value} {L : List (List Nat)} {F : Nat → Value} (h : G12 n0 w v L F) (i : Nat) (hi : i < L.length) : RowIn w (fun _ => True) (F i) (L.getD i []) := by
  obtain ⟨A, c, e, hA, hn, _⟩ := At.own (h.bufs i hi)
  exact ⟨A, c, e, hA, hn, fun _ _ => trivial⟩
theorem encode_any (A B : Option Addr) (c cc : Nat) (l u : List Nat) (L : List (List Nat)) (er : Int) (w : World) (hA : At w A (ns .u8 l)) (hB : At w B (ns .u32 u)) (hcap : l.length ≤ c) (hu : ∀ x, x ∈ u → x < 4294967296) (hl : l.length ≤ 140737488351232) (hul : u.length ≤ 140737488351232) (h : encAns l u L er) :
    Calls Try.prog 34 #[.slice A l.length c, .slice B u.length cc] w fun e w' => ∃ A' c' F, e = .returned (.tuple #[.slice A' L.length c', .int .u16 er]) ∧ G12 w.heap.size w' (.slice A' L.length c') L F ∧ Below w.heap.size w w' := by
  rcases h with ⟨hok, rfl, rfl⟩ | ⟨hok, rfl, rfl⟩
  · refine (encode_full A B c cc l u w hA hB hcap hu hok).mono ?_
    rintro e w' ⟨v, F, Y, rfl, hr, hb, _, ha⟩
    obtain ⟨A', c', rfl, _⟩ := At.own hr.own
    exact ⟨A', c', F, rfl, ⟨hr.own, fun i hi => ha.bufs i (by rwa [encRows_length] at hi), fun i j hi hj => ha.apart i j (by rwa [encRows_length] at hi) (by rwa [encRows_length] at hj), fun i g hi hg => hr.off g (ha.sub i g (by rwa [encRows_length] at hi) hg)⟩, hb⟩
  · refine (encode_no A B c cc l u w hB hu hok (by omega) hul).mono ?_
    rintro e w' ⟨rfl, hb⟩
    exact ⟨none, 0, fun _ => .slice none 0 0, rfl, ⟨World.ownsRow_nil _ _ _ _, fun i hi => by simp at hi, fun i j hi => by simp at hi, fun i g hi => by simp at hi⟩, hb⟩
end Go.Proofs.Ytfbjjblgcgjndaa

/- Walk of OverBack. -/
namespace Go.Proofs.Ytfbjjblgcgjndaa
open Go.RowKit

set_option maxRecDepth 100000 in
set_option maxHeartbeats 8000000 in
theorem overBack_any (r : Inner) (f st : Nat) (w : World) (hr : r.Ok w) (hf : f < 256) (hst : st < 256) :
    Calls Try.prog 25 #[r.val, .int .u8 (f : Int), .int .u8 (st : Int)] w fun e w' => e = .returned (.bool true) ∧ Below w.heap.size w w' := by
  obtain ⟨A, l, c⟩ := r
  have hlb := hr.small
  unfold Inner.val
  simp only at hlb ⊢
  have HR := Lib.hid hr
  clear hr
  by_cases hbig : 40000 < l.length
  · have hb1 : (40000 : Int) < (l.length : Int) := by omega
    go_enter Try.func25, Try.ntmps25
    go_wp2_with fail
    refine (known12_any w).mono ?_
    rintro e w1 ⟨rfl, hb⟩
    go_wp2_with fail
    go_ret
    exact ⟨rfl, hb⟩
  have hb1 : ¬ (40000 : Int) < (l.length : Int) := by omega
  have HNE := Lib.hid (need_any l.length (by omega))
  obtain ⟨N, hN⟩ : ∃ N, N = need l.length := ⟨_, rfl⟩
  have hN9 := need_le l.length
  rw [← hN] at HNE hN9
  have HN := Lib.hid hN
  clear hN
  go_enter Try.func25, Try.ntmps25
  go_wp2_with fail
  refine (known12_any w).mono ?_
  rintro e w1 ⟨rfl, hb⟩
  have HB1 := Lib.hid hb
  clear hb
  go_wp2_with fail
  refine (HNE.out w1).mono ?_
  rintro e w2 ⟨rfl, rfl⟩
  by_cases h0 : N = 0
  · have e1 : ((N : Int) == 0) = true := by simp; omega
    have e2 : (N : Int) = 0 := by omega
    have hor : l.length ≤ 64 ∨ 8192 < l.length := by
      have h := HN.out
      rw [h0] at h
      unfold need at h
      split at h
      · assumption
      · omega
    clear h0
    by_cases h64 : l.length ≤ 64
    · have q1 : (l.length : Int) < 65 := by omega
      clear hor
      go_wp2_with fail
      go_ret
      exact ⟨rfl, HB1.out⟩
    · have q1 : ¬ (l.length : Int) < 65 := by omega
      have q2 : (8192 : Int) < (l.length : Int) := by omega
      clear hor
      go_wp2_with fail
      go_ret
      exact ⟨rfl, HB1.out⟩
  have e1 : ((N : Int) == 0) = false := by simp; omega
  have e2 : ¬ (N : Int) = 0 := by omega
  have HN0 := Lib.hid h0
  have HLN := Lib.hid (need_yes (n := l.length) (by rw [← HN.out]; exact h0))
  clear h0
  go_wp2_with fail
  refine (dg_newl (n0 := w.heap.size) 31 w1 HB1.out.size (by omega) (by omega)).mono ?_
  rintro e w3 ⟨d, Sd, rfl, hd, _, hb3⟩
  have HD := Lib.hid hd
  have HB3 := Lib.hid (below_next0 HB1.out hb3)
  clear hd hb3
  go_wp2_with fail
  refine (pnew_ok HD.out (X := fun _ => False) (fun g hg => hg.elim) 3 (by omega) (by omega)).mono ?_
  rintro e w4 ⟨P, rfl, hp, hb4⟩
  have HP := Lib.hid hp
  have HB4 := Lib.hid (below_next0 HB3.out hb4)
  clear hp hb4
  go_wp2_with fail
  obtain ⟨t, ht⟩ : ∃ t, t = st % 28 := ⟨_, rfl⟩
  have ht28 : t < 28 := by omega
  have t1 : (st : Int) % 28 = (t : Int) := by omega
  have HT := Lib.hid ht
  clear ht
  go_loopw [12, 13, 14] (fun v k i wr => ∃ q : Nat, q ≤ N ∧ i = .int .i64 q ∧ k = .int .i64 (((f % 29 + q * (t + 1)) % 29 : Nat) : Int) ∧ wr.ownsRow w4.heap.size 22 1 v q (ns .u32 (us (f % 29) (t + 1) q)) ∧ Below w4.heap.size w4 wr) (fun _ _ i _ => N - (intOf i).toNat)
  case atStart => exact ⟨0, by omega, rfl, by simp, by simpa [ns, us] using World.ownsRow_nil _ _ _ _, Below.refl _ _⟩
  case round =>
    obtain ⟨q, hq, rfl, rfl, ho, hb⟩ := hrel
    by_cases hlt : q < N
    · have hqi : (q : Int) < (N : Int) := by omega
      obtain ⟨k, hk⟩ : ∃ k, k = (f % 29 + q * (t + 1)) % 29 := ⟨_, rfl⟩
      have hk29 : k < 29 := by omega
      obtain ⟨k', hk'⟩ : ∃ k', k' = (f % 29 + (q + 1) * (t + 1)) % 29 := ⟨_, rfl⟩
      have hkk : k' = (k + (t + 1)) % 29 := by rw [hk', hk, us_step]
      rw [← hk]
      have hus : us (f % 29) (t + 1) (q + 1) = us (f % 29) (t + 1) q ++ [2 + k] := by rw [us_succ, ← hk]
      have HUS := Lib.hid hus
      have HK' := Lib.hid hk'
      have g1 : IntKind.i64.wrap (2 + (k : Int)) = ((2 + k : Nat) : Int) := by rw [IntKind.wrap_i64]; omega
      have g2 : IntKind.u32.wrap (((2 + k : Nat) : Int)) = ((2 + k : Nat) : Int) := by rw [IntKind.wrap_u32]; omega
      have g3 : (2 : Int) + (k : Int) = ((2 + k : Nat) : Int) := by omega
      have g4 : IntKind.i64.wrap ((k : Int) + (t : Int)) = (k : Int) + (t : Int) := by rw [IntKind.wrap_i64]; omega
      have g5 : IntKind.i64.wrap ((k : Int) + (t : Int) + 1) = (k : Int) + (t : Int) + 1 := by rw [IntKind.wrap_i64]; omega
      have g6 : ((k : Int) + (t : Int) + 1) % 29 = (k' : Int) := by omega
      obtain ⟨y, hy⟩ : ∃ y, y = 2 + k := ⟨_, rfl⟩
      rw [← hy] at g1 g2 g3 HUS
      have hal := own_below ho (below_alloc0 (Below.refl _ _) (.cells #[.int .u32 (y : Int)] 22))
      have hat : At (wr.alloc (.cells #[.int .u32 (y : Int)] 22)) (some ⟨wr.heap.size, 0, none⟩) [.int .u32 (y : Int)] := At.box wr _ 22 wr.heap.size rfl
      have hn0 : w4.heap.size ≤ (wr.alloc (.cells #[.int .u32 (y : Int)] 22)).heap.size := Nat.le_trans hb.size (by simp)
      have HO := Lib.hid ho
      have HB := Lib.hid hb
      have HQ := Lib.hid hk
      clear ho hb hk hk' hus hkk hy
      go_wp2_with (at_builtin; go_loud (refine wp_append2 rfl (.tmp 71) (.tmp 75) 34 22 (.int .u32 0) 1 4 rfl under34w info22w rfl (by decide) w4.heap.size u12 q _ rfl hal (some ⟨wr.heap.size, 0, none⟩) 1 1 _ rfl rfl hat (by simp) (by simp [Value.oneCell']) (by omega) (by omega) hn0 ?_); intro v5 w5 ho5 hor5)
      have hb5 : Below w4.heap.size w4 w5 := by
        have hbx := below_alloc0 (Below.refl wr.heap.size wr) (.cells #[.int .u32 (y : Int)] 22)
        exact (below_next0 HB.out hbx).trans ((push_chg hor5).below (by have := HB.out.size; simp; omega) (fun g hg => (row_lt HO.out hg).1))
      exact ⟨⟨q + 1, by omega, by go_num, by rw [g6, HK'.out], by rw [HUS.out, ns_append]; exact ho5, hb5⟩, by simp only [intOf]; omega⟩
    · obtain rfl : N = q := by omega
      clear hq hlt
      obtain ⟨u, hu⟩ : ∃ u, u = us (f % 29) (t + 1) N := ⟨_, rfl⟩
      rw [← hu] at ho
      have hul : u.length = N := by rw [hu, us_length]
      have hok : encOk l u := ⟨by rw [← HN.out]; exact HN0.out, by rw [hul, HN.out], by rw [hu]; exact us_ok _ _ _⟩
      have hu31 : ∀ x, x ∈ u → x < 31 := by rw [hu]; exact us_lt _ _ _
      have hap : ∀ i j, i < j → j < N → nth u i ≠ nth u j := fun i j h1 h2 => by rw [hu]; exact us_apart ht28 h1 h2 hN9
      have hans : encAns l u (encRows l u) 0 := .inl ⟨hok, rfl, rfl⟩
      have hrl : (encRows l u).length = N := by rw [encRows_length, HN.out]
      obtain ⟨B, cc, rfl, hB, hBn, _⟩ := At.own ho
      have hbw := below_next0 HB4.out hb
      have hen := encode_any A B c cc l u (encRows l u) 0 wr (HR.out.lies.below hbw) hB HR.out.le (fun x hx => by have := hu31 x hx; omega) hlb (by omega) hans
      rw [hul] at hen
      have HEN := Lib.hid hen
      have HB5 := Lib.hid hb
      have HBW := Lib.hid hbw
      have HBA := Lib.hid hB
      have HOK := Lib.hid hok
      have HUL := Lib.hid hul
      have HU31 := Lib.hid hu31
      have HAP := Lib.hid hap
      have HRL := Lib.hid hrl
      have HO := Lib.hid ho
      have HBN := Lib.hid hBn
      clear hen hb hbw hB hok hul hu31 hap hans ho hu hBn
      go_wp2_with fail
      refine HEN.out.mono ?_
      rintro e we ⟨A6, c6, F6, rfl, hg6, hb6⟩
      rw [HRL.out] at hg6 ⊢
      have HG := Lib.hid hg6
      have HBE := Lib.hid hb6
      clear hg6 hb6 HEN hrl
      go_wp2_with fail
      have hN1 : 0 < N := by have := HN0.out; omega
      obtain ⟨g6, c6', hf6, _⟩ := own_form (n := N) (by have := HG.out.own; rw [HRL.out] at this; exact this) hN1
      injection hf6 with ha6 _ hc6
      subst ha6 hc6
      obtain ⟨bB, oB, hBe, hBc⟩ := HBA.out (by intro e; have h : (ns .u32 u).length = 0 := by rw [e]; rfl
                                               rw [ns_length, HUL.out] at h; omega)
      have hBown := HO.out
      rw [hBe] at hBown
      subst hBe
      have hwe : w4.heap.size ≤ we.heap.size := Nat.le_trans HB5.out.size HBE.out.size
      obtain ⟨X0, hX0⟩ : ∃ X0 : Nat → Prop, X0 = fun g => w4.heap.size ≤ g ∧ g < we.heap.size := ⟨_, rfl⟩
      have xB : X0 bB := by
        have h1 := row_lt hBown (g := bB) rfl
        have h2 := HBE.out.size
        rw [hX0]
        exact (show w4.heap.size ≤ bB ∧ bB < we.heap.size from ⟨h1.1, by omega⟩)
      have x6 : X0 g6 := by
        have h1 := row_lt HG.out.own (g := g6) rfl
        have h2 := HB5.out.size
        rw [hX0]
        exact (show w4.heap.size ≤ g6 ∧ g6 < we.heap.size from ⟨by omega, h1.2⟩)
      have kB : ∀ W', Step w.heap.size X0 we W' → At W' (some ⟨bB, oB, none⟩) (ns .u32 u) := fun W' hs => (HBA.out.below HBE.out).chg hs.1 (fun a ha hn => hn (by cases ha; exact xB))
      have kR : ∀ W', Step w.heap.size X0 we W' → ∀ i, i < N → ∃ A c, W'.cell? ⟨g6, i, none⟩ = some (.slice A (encRow l u i).length c) ∧ At W' A (ns .u8 (encRow l u i)) ∧ (A = none → c = 0) := fun W' hs i hi => by
        have hg := HG.out.chg hs.1 (fun g h1 h2 hn => hn (by rw [hX0]; have := HB5.out.size; exact (show w4.heap.size ≤ g ∧ g < we.heap.size from ⟨by omega, h2⟩)))
        have ho6 : W'.ownsRow wr.heap.size 23 1 (.slice (some ⟨g6, 0, none⟩) N c6) N (lst F6 N) := by
          have := hg.own
          rw [HRL.out] at this
          exact this
        have hc := ho6.cellAt i (by omega)
        obtain ⟨A', c', e', hA', hn', _⟩ := At.own (hg.bufs i (by rw [HRL.out]; exact hi))
        rw [lst_get _ _ _ hi, e', encRows_get l u i (by rw [← HN.out]; exact hi)] at hc
        rw [encRows_get l u i (by rw [← HN.out]; exact hi)] at hA'
        exact ⟨A', c', hc, hA', hn'⟩
      have hw0 : WrIn w.heap.size we P d X0 l u 0 we (Dsk.new 31) [] (fun _ => none) := ⟨(HP.out.also (below_next0 HB5.out HBE.out) (Y := X0) (fun g hg => by rw [hX0] at hg; exact hg)).less (fun g hg => .inr hg), Even.new 31 3 (by omega) (by omega) (by omega), fun j hj => by omega, Step.refl _ _ _⟩
      have KB := Lib.hid kB
      have XB := Lib.hid xB
      have X6 := Lib.hid x6
      have KR := Lib.hid kR
      have HX0 := Lib.hid hX0
      have HBO := Lib.hid hBown
      have HBC := Lib.hid hBc
      clear kB kR hX0 hBown hBc xB x6
      go_loopw [17] (fun i wr => ∃ q : Nat, q ≤ N ∧ i = .int .i64 q ∧ ∃ D L C, WrIn w.heap.size we P d X0 l u q wr D L C) (fun i _ => N - (intOf i).toNat)
      case atStart => exact ⟨0, by omega, rfl, _, _, _, hw0⟩
      case round =>
        clear hw0
        obtain ⟨q, hq, rfl, D, L, C, hW⟩ := hrel
        by_cases hlt : q < N
        · have hqi : (q : Int) < (N : Int) := by omega
          obtain ⟨b', o', hbe, hbc⟩ := (KB.out _ hW.fr) (by intro e; have h : (ns .u32 u).length = 0 := by rw [e]; rfl
                                                            rw [ns_length, HUL.out] at h; omega)
          cases hbe
          have c1 := hbc q _ (ns_get .u32 u q (by rw [HUL.out]; exact hlt))
          obtain ⟨Aq, cq, c2, hAq, hnq⟩ := KR.out _ hW.fr q hlt
          have hu31 := HU31.out _ (nth_mem u q (by rw [HUL.out]; exact hlt))
          have hlen := encRow_length l u q
          have hbd : Below wr.heap.size wr wr.drew := below_drew0 (Below.refl _ _)
          have hwr := ev_write1 (hW.pool.below hbd) hW.even (nth u q) 3 (by omega) (by omega) (encRow l u q) Aq cq (encRow l u q).length rfl (fun w' hs => by
              have hs' : Step w.heap.size X0 we w' := hW.fr.trans ((Step.of_below (X := X0) hbd hW.pool.n_le).trans hs (fun _ h => h)) (fun _ h => h)
              obtain ⟨A', c', e', h', _⟩ := KR.out _ hs' q hlt
              have e2 := (KR.out _ (hW.fr.trans (Step.of_below (X := X0) hbd hW.pool.n_le) (fun _ h => h)) q hlt)
              have : w'.cell? ⟨g6, q, none⟩ = some (.slice Aq (encRow l u q).length cq) := hs.1.cell c2 (fun hn => hn X6.out)
              rw [this] at e'
              cases e'
              exact h') hnq (encRow_bytes HR.out.bytes q) ⟨by omega, by omega, by rw [hlen]; omega⟩ hu31 (by omega) (by omega) (by omega)
          obtain ⟨y, hy⟩ : ∃ y, y = nth u q := ⟨_, rfl⟩
          obtain ⟨M, hM⟩ : ∃ M, M = (encRow l u q).length := ⟨_, rfl⟩
          rw [← hy] at c1 hwr
          rw [← hM] at c2 hwr
          have HWR := Lib.hid hwr
          have HW := Lib.hid hW
          have HY := Lib.hid hy
          have HM := Lib.hid hM
          clear hwr hW hy hM hbc hAq hnq hu31 hlen
          go_wp2_with fail
          go_region_held3 (fun W' => W'.cell? ⟨bB, oB + q, none⟩ = some (.int .u32 (y : Int)) ∧ W'.cell? ⟨g6, q, none⟩ = some (.slice Aq M cq)) (first | exact ⟨c1, c2⟩ | assumption | exact HS7.out)
            (first | (go_at_call 80; refine HWR.out.mono ?_; rintro e w7 ⟨D7, L7, rfl, he7, hp7, hs7⟩; have HS7 : Hid (w7.cell? ⟨bB, oB + q, none⟩ = some (.int .u32 (y : Int)) ∧ w7.cell? ⟨g6, q, none⟩ = some (.slice Aq M cq)) := Lib.hid ⟨hs7.1.cell c1 (fun hn => hn XB.out), hs7.1.cell c2 (fun hn => hn X6.out)⟩; have HE7 := Lib.hid he7; have HP7 := Lib.hid hp7; have HSt7 := Lib.hid hs7; clear he7 hp7 hs7))
          have hs7 := HSt7.out
          have hfr7 : Step w.heap.size X0 we w7 := HW.out.fr.trans ((Step.of_below (X := X0) (below_drew0 (Below.refl _ _)) HW.out.pool.n_le).trans hs7 (fun _ h => h)) (fun _ h => h)
          have hw7 : WrIn w.heap.size we P d X0 l u (q + 1) w7 D7 L7 (turn C y (some (3, encRow l u q))) := ⟨HP7.out, HE7.out, fun j hj => by
            by_cases hjq : j = q
            · subst hjq
              rw [← HY.out, turn_same]
            · rw [turn_other _ _ _ _ (by rw [HY.out]; exact HAP.out j q (by omega) hlt)]
              exact HW.out.has j (by omega), hfr7⟩
          have HW7 := Lib.hid hw7
          clear hs7 hfr7 hw7
          go_wp2
          case roundEnd => exact ⟨⟨q + 1, by omega, by go_num, _, _, _, HW7.out⟩, by simp only [intOf]; omega⟩
        · obtain rfl : q = N := by omega
          have hcn : Chn l u 31 C := ⟨HOK.out, fun i hi => HU31.out _ (nth_mem u i hi), fun i hi => hW.has i (by rw [← HUL.out]; exact hi)⟩
          have hrd := overRead_any w.heap.size wr P d 3 31 q q C X0 l u D L hW.pool hW.even hcn (by omega) (by omega) (by omega) hW.pool.n_le
          obtain ⟨b', o', hbe, hbc⟩ := (KB.out _ hW.fr) (by intro e; have h : (ns .u32 u).length = 0 := by rw [e]; rfl
                                                            rw [ns_length, HUL.out] at h; omega)
          cases hbe
          have c1 := hbc 0 _ (ns_get .u32 u 0 (by rw [HUL.out]; omega))
          rw [Nat.add_zero] at c1
          obtain ⟨y, hy⟩ : ∃ y, y = nth u 0 := ⟨_, rfl⟩
          rw [← hy] at c1 hrd
          have g1 : IntKind.u32.wrap (l.length : Int) = (l.length : Int) := by rw [IntKind.wrap_u32]; omega
          have hbw : Below w.heap.size w wr := (HB4.out.trans ((below_next0 HB5.out HBE.out).mono HB4.out.size)).trans hW.fr.2
          have HRD := Lib.hid hrd
          have HBW := Lib.hid hbw
          have HW := Lib.hid hW
          clear hrd hbw hW hcn hbc hy
          go_wp2_with fail
          refine HRD.out.mono ?_
          rintro e w8 ⟨A1, k1, A2, k2, rfl, hA1, hA2, hs8⟩
          rw [HUL.out]
          have hbw8 := HBW.out.trans hs8.2
          have hse := same_eq A1 A l.length l.length k1 c l l w8 rfl rfl (by omega) rfl hA1 (HR.out.lies.below hbw8)
          have hst8 := HW.out.fr.trans hs8 (fun _ h => h)
          have HSE := Lib.hid hse
          have HA2 := Lib.hid hA2
          have HBW8 := Lib.hid hbw8
          have HST8 := Lib.hid hst8
          clear hse hA1 hA2 hbw8 hst8 hs8
          go_wp2_with fail
          refine HSE.out.mono ?_
          rintro e w9 ⟨rfl, hb9⟩
          have hsw := samew_any A2 (some ⟨bB, oB, none⟩) k2 cc u u w9 (by rw [HUL.out]; omega) (by rw [HUL.out]; omega) (HA2.out.below hb9) ((KB.out _ HST8.out).below hb9)
          have hdd : decide (u = u) = true := by simp
          rw [hdd, HUL.out] at hsw
          have HSW := Lib.hid hsw
          have HBW9 := Lib.hid (below_next0 HBW8.out hb9)
          clear hsw hdd hb9
          go_wp2_with fail
          refine HSW.out.mono ?_
          rintro e w10 ⟨rfl, hb10⟩
          have HBW10 := Lib.hid (below_next0 HBW9.out hb10)
          clear hb10
          go_wp2_with fail
          go_ret
          exact ⟨rfl, HBW10.out⟩
end Go.Proofs.Ytfbjjblgcgjndaa

/- Closed facts on the program: its head's words out of their numbers (cheaply), and what all rows ask of it. -/
namespace Go.Proofs.Ytfbjjblgcgjndaa
open Go

def joinW : List (List Char) → List Char
  | [] => []
  | [w] => w
  | w :: v :: r => w ++ Char.ofNat 32 :: joinW (v :: r)

theorem words_none (w : List Char) (h : w.all (fun c => c != Char.ofNat 32) = true) : wordsSigns w = [w] := by
  induction w with
  | nil => rfl
  | cons c w ih =>
    simp only [List.all_cons, Bool.and_eq_true] at h
    have ih' := ih h.2
    have hc : c ≠ Char.ofNat 32 := by simpa using h.1
    unfold wordsSigns
    split
    · contradiction
    · rename_i heq; injection heq with h1 h2; exact absurd h1 hc
    · rename_i heq; injection heq with h1 h2; subst h1 h2; rw [ih']
theorem words_one (w r : List Char) (h : w.all (fun c => c != Char.ofNat 32) = true) : wordsSigns (w ++ Char.ofNat 32 :: r) = w :: wordsSigns r := by
  induction w with
  | nil => rfl
  | cons c w ih =>
    simp only [List.all_cons, Bool.and_eq_true] at h
    have ih' := ih h.2
    have hc : c ≠ Char.ofNat 32 := by simpa using h.1
    rw [List.cons_append]
    conv => lhs; unfold wordsSigns
    split
    · contradiction
    · rename_i heq; injection heq with h1 h2; exact absurd h1 hc
    · rename_i heq; injection heq with h1 h2; subst h1 h2; rw [ih']
theorem words_join (l : List (List Char)) (hne : l ≠ []) (h : l.all (fun w => w.all (fun c => c != Char.ofNat 32)) = true) : wordsSigns (joinW l) = l := by
  induction l with
  | nil => contradiction
  | cons w l ih =>
    simp only [List.all_cons, Bool.and_eq_true] at h
    cases l with
    | nil => exact words_none w h.1
    | cons v r =>
      show wordsSigns (w ++ Char.ofNat 32 :: joinW (v :: r)) = _
      rw [words_one w _ h.1, ih (by simp) h.2]

def headN : List (List Nat) := [
  [104, 97, 114, 110, 101, 115, 115],
  [56, 53, 100, 48, 97, 57, 102, 57, 101, 52, 51, 55, 53, 97, 100, 51, 97, 53, 99, 97, 101, 101, 48, 97, 57, 102, 57, 50, 99, 52, 48, 48, 100, 97, 57, 51, 97, 50, 50, 55, 97, 100, 100, 51, 48, 100, 53, 56, 99, 101, 99, 56, 99, 52, 57, 101, 101, 100, 48, 97, 99, 99, 97, 57],
  [99, 117, 116],
  [97, 116],
  [99, 111, 100, 105, 99, 105, 108, 47, 99, 111, 100, 105, 99, 105, 108, 108, 97, 119, 48, 49, 46, 67, 114, 99, 83, 117, 109, 115],
  [99, 111, 100, 105, 99, 105, 108, 47, 99, 111, 100, 105, 99, 105, 108, 108, 97, 119, 48, 49, 46, 67, 114, 99, 80, 105, 101, 99, 101, 115],
  [99, 111, 100, 105, 99, 105, 108, 47, 99, 111, 100, 105, 99, 105, 108, 108, 97, 119, 48, 49, 46, 67, 114, 99, 76, 105, 110, 101, 97, 114],
  [99, 111, 100, 105, 99, 105, 108, 47, 99, 111, 100, 105, 99, 105, 108, 108, 97, 119, 48, 49, 46, 67, 114, 99, 66, 117, 114, 115, 116, 115],
  [99, 111, 100, 105, 99, 105, 108, 47, 99, 111, 100, 105, 99, 105, 108, 108, 97, 119, 49, 50, 46, 79, 118, 101, 114, 87, 114, 105, 116, 101, 115],
  [99, 111, 100, 105, 99, 105, 108, 47, 99, 111, 100, 105, 99, 105, 108, 108, 97, 119, 49, 50, 46, 79, 118, 101, 114, 80, 97, 114, 116, 115],
  [99, 111, 100, 105, 99, 105, 108, 47, 99, 111, 100, 105, 99, 105, 108, 108, 97, 119, 48, 55, 46, 68, 105, 115, 107, 84, 111, 114, 110],
  [99, 111, 100, 105, 99, 105, 108, 47, 99, 111, 100, 105, 99, 105, 108, 108, 97, 119, 48, 55, 46, 68, 105, 115, 107, 84, 114, 105, 112, 115],
  [99, 111, 100, 105, 99, 105, 108, 47, 99, 111, 100, 105, 99, 105, 108, 108, 97, 119, 48, 55, 46, 68, 105, 115, 107, 75, 101, 101, 112, 115],
  [99, 111, 100, 105, 99, 105, 108, 47, 99, 111, 100, 105, 99, 105, 108, 108, 97, 119, 48, 55, 46, 68, 105, 115, 107, 70, 97, 105, 108, 115],
  [99, 111, 100, 105, 99, 105, 108, 47, 99, 111, 100, 105, 99, 105, 108, 108, 97, 119, 48, 55, 46, 68, 105, 115, 107, 68, 111, 101, 115],
  [99, 111, 100, 105, 99, 105, 108, 47, 99, 111, 100, 105, 99, 105, 108, 108, 97, 119, 48, 55, 46, 68, 105, 115, 107, 76, 111, 97, 100, 115],
  [99, 111, 100, 105, 99, 105, 108, 47, 99, 111, 100, 105, 99, 105, 108, 108, 97, 119, 48, 55, 46, 68, 105, 115, 107, 65, 108, 111, 110, 101],
  [99, 111, 100, 105, 99, 105, 108, 47, 99, 111, 100, 105, 99, 105, 108, 108, 97, 119, 48, 56, 46, 80, 97, 103, 101, 83, 101, 97, 108, 115],
  [99, 111, 100, 105, 99, 105, 108, 47, 99, 111, 100, 105, 99, 105, 108, 108, 97, 119, 48, 56, 46, 80, 97, 103, 101, 79, 112, 101, 110, 115],
  [99, 111, 100, 105, 99, 105, 108, 47, 99, 111, 100, 105, 99, 105, 108, 108, 97, 119, 48, 56, 46, 80, 97, 103, 101, 83, 116, 97, 116, 101, 115],
  [99, 111, 100, 105, 99, 105, 108, 47, 99, 111, 100, 105, 99, 105, 108, 108, 97, 119, 48, 56, 46, 80, 97, 103, 101, 84, 117, 114, 110, 101, 100],
  [99, 111, 100, 105, 99, 105, 108, 47, 99, 111, 100, 105, 99, 105, 108, 108, 97, 119, 48, 56, 46, 80, 97, 103, 101, 78, 101, 119, 101, 115, 116],
  [99, 111, 100, 105, 99, 105, 108, 47, 99, 111, 100, 105, 99, 105, 108, 108, 97, 119, 48, 56, 46, 80, 97, 103, 101, 78, 117, 109, 98, 101, 114, 115],
  [99, 111, 100, 105, 99, 105, 108, 47, 99, 111, 100, 105, 99, 105, 108, 108, 97, 119, 49, 48, 46, 80, 111, 111, 108, 75, 101, 101, 112, 115],
  [99, 111, 100, 105, 99, 105, 108, 47, 99, 111, 100, 105, 99, 105, 108, 108, 97, 119, 49, 48, 46, 80, 111, 111, 108, 83, 105, 122, 101, 115],
  [99, 111, 100, 105, 99, 105, 108, 47, 99, 111, 100, 105, 99, 105, 108, 108, 97, 119, 49, 48, 46, 80, 111, 111, 108, 76, 97, 115, 116],
  [99, 111, 100, 105, 99, 105, 108, 47, 99, 111, 100, 105, 99, 105, 108, 108, 97, 119, 49, 50, 46, 79, 118, 101, 114, 66, 97, 99, 107]]
def headW : List (List Char) := headN.map fun w => w.map Char.ofNat
theorem head_eq : Try.prog.initOrder = String.ofList (joinW headW) := by kernel_rfl
theorem head_list : Try.prog.initOrder.toList = joinW headW := by rw [head_eq, String.toList_ofList]
theorem head_clean : headW.all (fun w => w.all (fun c => c != Char.ofNat 32)) = true := by kernel_rfl
theorem head_words : wordsSigns Try.prog.initOrder.toList = headW := by
  rw [head_list]
  exact words_join headW (by simp [headW, headN]) head_clean
theorem t_harness : "harness".toList = [Char.ofNat 104, Char.ofNat 97, Char.ofNat 114, Char.ofNat 110, Char.ofNat 101, Char.ofNat 115, Char.ofNat 115] := by
  rw [show "harness" = String.ofList [Char.ofNat 104, Char.ofNat 97, Char.ofNat 114, Char.ofNat 110, Char.ofNat 101, Char.ofNat 115, Char.ofNat 115] from by kernel_rfl, String.toList_ofList]
theorem t_ownmain : "ownmain".toList = [Char.ofNat 111, Char.ofNat 119, Char.ofNat 110, Char.ofNat 109, Char.ofNat 97, Char.ofNat 105, Char.ofNat 110] := by
  rw [show "ownmain" = String.ofList [Char.ofNat 111, Char.ofNat 119, Char.ofNat 110, Char.ofNat 109, Char.ofNat 97, Char.ofNat 105, Char.ofNat 110] from by kernel_rfl, String.toList_ofList]
theorem t_gc : "gc".toList = [Char.ofNat 103, Char.ofNat 99] := by
  rw [show "gc" = String.ofList [Char.ofNat 103, Char.ofNat 99] from by kernel_rfl, String.toList_ofList]
theorem t_spec : "spec".toList = [Char.ofNat 115, Char.ofNat 112, Char.ofNat 101, Char.ofNat 99] := by
  rw [show "spec" = String.ofList [Char.ofNat 115, Char.ofNat 112, Char.ofNat 101, Char.ofNat 99] from by kernel_rfl, String.toList_ofList]
theorem t_stop : "stop".toList = [Char.ofNat 115, Char.ofNat 116, Char.ofNat 111, Char.ofNat 112] := by
  rw [show "stop" = String.ofList [Char.ofNat 115, Char.ofNat 116, Char.ofNat 111, Char.ofNat 112] from by kernel_rfl, String.toList_ofList]
theorem t_carried : "carried".toList = [Char.ofNat 99, Char.ofNat 97, Char.ofNat 114, Char.ofNat 114, Char.ofNat 105, Char.ofNat 101, Char.ofNat 100] := by
  rw [show "carried" = String.ofList [Char.ofNat 99, Char.ofNat 97, Char.ofNat 114, Char.ofNat 114, Char.ofNat 105, Char.ofNat 101, Char.ofNat 100] from by kernel_rfl, String.toList_ofList]
theorem t_cut : "cut".toList = [Char.ofNat 99, Char.ofNat 117, Char.ofNat 116] := by
  rw [show "cut" = String.ofList [Char.ofNat 99, Char.ofNat 117, Char.ofNat 116] from by kernel_rfl, String.toList_ofList]
theorem t_finals : "finals".toList = [Char.ofNat 102, Char.ofNat 105, Char.ofNat 110, Char.ofNat 97, Char.ofNat 108, Char.ofNat 115] := by
  rw [show "finals" = String.ofList [Char.ofNat 102, Char.ofNat 105, Char.ofNat 110, Char.ofNat 97, Char.ofNat 108, Char.ofNat 115] from by kernel_rfl, String.toList_ofList]
theorem t_reflectrows : "reflectrows".toList = [Char.ofNat 114, Char.ofNat 101, Char.ofNat 102, Char.ofNat 108, Char.ofNat 101, Char.ofNat 99, Char.ofNat 116, Char.ofNat 114, Char.ofNat 111, Char.ofNat 119, Char.ofNat 115] := by
  rw [show "reflectrows" = String.ofList [Char.ofNat 114, Char.ofNat 101, Char.ofNat 102, Char.ofNat 108, Char.ofNat 101, Char.ofNat 99, Char.ofNat 116, Char.ofNat 114, Char.ofNat 111, Char.ofNat 119, Char.ofNat 115] from by kernel_rfl, String.toList_ofList]
theorem t_leanrows : "leanrows".toList = [Char.ofNat 108, Char.ofNat 101, Char.ofNat 97, Char.ofNat 110, Char.ofNat 114, Char.ofNat 111, Char.ofNat 119, Char.ofNat 115] := by
  rw [show "leanrows" = String.ofList [Char.ofNat 108, Char.ofNat 101, Char.ofNat 97, Char.ofNat 110, Char.ofNat 114, Char.ofNat 111, Char.ofNat 119, Char.ofNat 115] from by kernel_rfl, String.toList_ofList]
theorem t_onebuild : "onebuild".toList = [Char.ofNat 111, Char.ofNat 110, Char.ofNat 101, Char.ofNat 98, Char.ofNat 117, Char.ofNat 105, Char.ofNat 108, Char.ofNat 100] := by
  rw [show "onebuild" = String.ofList [Char.ofNat 111, Char.ofNat 110, Char.ofNat 101, Char.ofNat 98, Char.ofNat 117, Char.ofNat 105, Char.ofNat 108, Char.ofNat 100] from by kernel_rfl, String.toList_ofList]
theorem t_publicsums : "publicsums".toList = [Char.ofNat 112, Char.ofNat 117, Char.ofNat 98, Char.ofNat 108, Char.ofNat 105, Char.ofNat 99, Char.ofNat 115, Char.ofNat 117, Char.ofNat 109, Char.ofNat 115] := by
  rw [show "publicsums" = String.ofList [Char.ofNat 112, Char.ofNat 117, Char.ofNat 98, Char.ofNat 108, Char.ofNat 105, Char.ofNat 99, Char.ofNat 115, Char.ofNat 117, Char.ofNat 109, Char.ofNat 115] from by kernel_rfl, String.toList_ofList]
theorem t_eqguard : "eqguard".toList = [Char.ofNat 101, Char.ofNat 113, Char.ofNat 103, Char.ofNat 117, Char.ofNat 97, Char.ofNat 114, Char.ofNat 100] := by
  rw [show "eqguard" = String.ofList [Char.ofNat 101, Char.ofNat 113, Char.ofNat 103, Char.ofNat 117, Char.ofNat 97, Char.ofNat 114, Char.ofNat 100] from by kernel_rfl, String.toList_ofList]
theorem t_ownunsafe : "ownunsafe".toList = [Char.ofNat 111, Char.ofNat 119, Char.ofNat 110, Char.ofNat 117, Char.ofNat 110, Char.ofNat 115, Char.ofNat 97, Char.ofNat 102, Char.ofNat 101] := by
  rw [show "ownunsafe" = String.ofList [Char.ofNat 111, Char.ofNat 119, Char.ofNat 110, Char.ofNat 117, Char.ofNat 110, Char.ofNat 115, Char.ofNat 97, Char.ofNat 102, Char.ofNat 101] from by kernel_rfl, String.toList_ofList]
theorem t_libbeside : "libbeside".toList = [Char.ofNat 108, Char.ofNat 105, Char.ofNat 98, Char.ofNat 98, Char.ofNat 101, Char.ofNat 115, Char.ofNat 105, Char.ofNat 100, Char.ofNat 101] := by
  rw [show "libbeside" = String.ofList [Char.ofNat 108, Char.ofNat 105, Char.ofNat 98, Char.ofNat 98, Char.ofNat 101, Char.ofNat 115, Char.ofNat 105, Char.ofNat 100, Char.ofNat 101] from by kernel_rfl, String.toList_ofList]
theorem t_ownbeside : "ownbeside".toList = [Char.ofNat 111, Char.ofNat 119, Char.ofNat 110, Char.ofNat 98, Char.ofNat 101, Char.ofNat 115, Char.ofNat 105, Char.ofNat 100, Char.ofNat 101] := by
  rw [show "ownbeside" = String.ofList [Char.ofNat 111, Char.ofNat 119, Char.ofNat 110, Char.ofNat 98, Char.ofNat 101, Char.ofNat 115, Char.ofNat 105, Char.ofNat 100, Char.ofNat 101] from by kernel_rfl, String.toList_ofList]
theorem t_reflbeside : "reflbeside".toList = [Char.ofNat 114, Char.ofNat 101, Char.ofNat 102, Char.ofNat 108, Char.ofNat 98, Char.ofNat 101, Char.ofNat 115, Char.ofNat 105, Char.ofNat 100, Char.ofNat 101] := by
  rw [show "reflbeside" = String.ofList [Char.ofNat 114, Char.ofNat 101, Char.ofNat 102, Char.ofNat 108, Char.ofNat 98, Char.ofNat 101, Char.ofNat 115, Char.ofNat 105, Char.ofNat 100, Char.ofNat 101] from by kernel_rfl, String.toList_ofList]
theorem t_aliases : "aliases".toList = [Char.ofNat 97, Char.ofNat 108, Char.ofNat 105, Char.ofNat 97, Char.ofNat 115, Char.ofNat 101, Char.ofNat 115] := by
  rw [show "aliases" = String.ofList [Char.ofNat 97, Char.ofNat 108, Char.ofNat 105, Char.ofNat 97, Char.ofNat 115, Char.ofNat 101, Char.ofNat 115] from by kernel_rfl, String.toList_ofList]
theorem t_afterinit : "afterinit".toList = [Char.ofNat 97, Char.ofNat 102, Char.ofNat 116, Char.ofNat 101, Char.ofNat 114, Char.ofNat 105, Char.ofNat 110, Char.ofNat 105, Char.ofNat 116] := by
  rw [show "afterinit" = String.ofList [Char.ofNat 97, Char.ofNat 102, Char.ofNat 116, Char.ofNat 101, Char.ofNat 114, Char.ofNat 105, Char.ofNat 110, Char.ofNat 105, Char.ofNat 116] from by kernel_rfl, String.toList_ofList]
theorem t_crcplain : "crcplain".toList = [Char.ofNat 99, Char.ofNat 114, Char.ofNat 99, Char.ofNat 112, Char.ofNat 108, Char.ofNat 97, Char.ofNat 105, Char.ofNat 110] := by
  rw [show "crcplain" = String.ofList [Char.ofNat 99, Char.ofNat 114, Char.ofNat 99, Char.ofNat 112, Char.ofNat 108, Char.ofNat 97, Char.ofNat 105, Char.ofNat 110] from by kernel_rfl, String.toList_ofList]
theorem t_roadunsafe : "roadunsafe".toList = [Char.ofNat 114, Char.ofNat 111, Char.ofNat 97, Char.ofNat 100, Char.ofNat 117, Char.ofNat 110, Char.ofNat 115, Char.ofNat 97, Char.ofNat 102, Char.ofNat 101] := by
  rw [show "roadunsafe" = String.ofList [Char.ofNat 114, Char.ofNat 111, Char.ofNat 97, Char.ofNat 100, Char.ofNat 117, Char.ofNat 110, Char.ofNat 115, Char.ofNat 97, Char.ofNat 102, Char.ofNat 101] from by kernel_rfl, String.toList_ofList]
theorem t_fmthandon : "fmthandon".toList = [Char.ofNat 102, Char.ofNat 109, Char.ofNat 116, Char.ofNat 104, Char.ofNat 97, Char.ofNat 110, Char.ofNat 100, Char.ofNat 111, Char.ofNat 110] := by
  rw [show "fmthandon" = String.ofList [Char.ofNat 102, Char.ofNat 109, Char.ofNat 116, Char.ofNat 104, Char.ofNat 97, Char.ofNat 110, Char.ofNat 100, Char.ofNat 111, Char.ofNat 110] from by kernel_rfl, String.toList_ofList]
theorem main_word (h s : List Char) (r : List (List Char)) (h1 : (h == [Char.ofNat 104, Char.ofNat 97, Char.ofNat 114, Char.ofNat 110, Char.ofNat 101, Char.ofNat 115, Char.ofNat 115]) = true) (h2 : isSumSigns s = true) :
    behindMainWord (h :: s :: r) = r := by
  unfold behindMainWord
  simp only [t_harness, h1, h2, Bool.true_or, Bool.and_self, if_true]
def restW : List (List Char) := headW.drop 2
theorem rest_words : behindMainWord headW = restW := main_word _ _ _ (by kernel_rfl) (by kernel_rfl)
def restT : List (List Char) := headW.drop 3
theorem restW_eq : restW = [Char.ofNat 99, Char.ofNat 117, Char.ofNat 116] :: restT := by kernel_rfl
theorem cut_words : behindMainWord (wordsSigns Try.prog.initOrder.toList) = [Char.ofNat 99, Char.ofNat 117, Char.ofNat 116] :: restT := by
  rw [head_words, rest_words, restW_eq]
theorem not_gc : (([Char.ofNat 99, Char.ofNat 117, Char.ofNat 116] : List Char) == "gc".toList) = false := by rw [t_gc]; kernel_rfl
theorem not_spec : (([Char.ofNat 99, Char.ofNat 117, Char.ofNat 116] : List Char) == "spec".toList) = false := by rw [t_spec]; kernel_rfl
theorem not_carried : (([Char.ofNat 99, Char.ofNat 117, Char.ofNat 116] : List Char) == "carried".toList) = false := by rw [t_carried]; kernel_rfl
theorem is_cut : (([Char.ofNat 99, Char.ofNat 117, Char.ofNat 116] : List Char) == "cut".toList) = true := by rw [t_cut]; kernel_rfl
theorem not_lift : ∀ o ∈ liftWords, (([Char.ofNat 99, Char.ofNat 117, Char.ofNat 116] : List Char) == o.toList) = false := by
  simp only [liftWords, List.forall_mem_cons, t_finals, t_reflectrows, t_leanrows, t_onebuild, t_publicsums, t_eqguard, t_ownunsafe, t_libbeside, t_ownbeside, t_reflbeside, t_aliases, t_afterinit, t_crcplain, t_roadunsafe, t_fmthandon]
  refine ⟨?_, ?_, ?_, ?_, ?_, ?_, ?_, ?_, ?_, ?_, ?_, ?_, ?_, ?_, ?_, ?_⟩ <;> first | (kernel_rfl; done) | (intro o ho; cases ho)
theorem strip_nothing (w : List Char) (ws : List (List Char)) : ∀ os : List String, (∀ o ∈ os, (w == o.toList) = false) → stripLifts os (w :: ws) = ([], w :: ws)
  | [], _ => rfl
  | o :: os, h => by
    unfold stripLifts
    rw [h o (by simp)]
    exact strip_nothing w ws os (fun o ho => h o (by simp [ho]))
theorem make_of (P : Program) (c : List Char) (r : List (List Char)) (h : behindMainWord (wordsSigns P.initOrder.toList) = c :: r) (h1 : (c == "gc".toList) = false) (h2 : (c == "spec".toList) = false) (h3 : (c == "cut".toList) = true) : P.make = some .cut := by
  unfold Program.make
  rw [h]
  simp only [h1, h2, h3, Bool.or_self, Bool.true_or, Bool.false_eq_true, if_true, if_false]
theorem lifts_of (P : Program) (c : List Char) (r : List (List Char)) (h : behindMainWord (wordsSigns P.initOrder.toList) = c :: r) (h1 : (c == "carried".toList) = false) (h2 : stripLifts liftWords (c :: r) = ([], c :: r)) : P.liftsFinal = false := by
  unfold Program.liftsFinal Program.headLifts
  rw [h, h2]
  have e : (List.head? (c :: r) == some "carried".toList) = false := h1
  simp only [e, Bool.false_and, Bool.false_or, ite_self, List.contains_nil]
theorem enter_of (P : Program) (c : List Char) (r : List (List Char)) (h : behindMainWord (wordsSigns P.initOrder.toList) = c :: r) (h3 : (c == "cut".toList) = true) (h2 : stripLifts liftWords (c :: r) = ([], c :: r))
    (h4 : P.laysLater = false) (h5 : P.bearsReflect = false) (h6 : P.doorFits [] = true) : P.mayEnter = true := by
  unfold Program.mayEnter
  rw [h]
  simp only []
  rw [h2]
  have e : (List.head? (c :: r) == some "cut".toList) = true := h3
  simp only [e, h4, h5, h6, List.contains_nil, Bool.not_false, Bool.and_true, Bool.or_true, Bool.true_and, Bool.false_or]
theorem P_later : Try.prog.laysLater = false := by kernel_rfl
theorem P_reflect : Try.prog.bearsReflect = false := by kernel_rfl
theorem P_door : Try.prog.doorFits [] = true := by kernel_rfl
theorem P_make : Try.prog.make = some .cut := make_of Try.prog _ _ cut_words not_gc not_spec is_cut
theorem P_lifts : Try.prog.liftsFinal = false := lifts_of Try.prog _ _ cut_words not_carried (strip_nothing _ _ _ not_lift)
theorem P_enter : Try.prog.mayEnter = true := enter_of Try.prog _ _ cut_words is_cut (strip_nothing _ _ _ not_lift) P_later P_reflect P_door

theorem P_laid : laidOutB Try.prog = true := by kernel_rfl
theorem P_rowed : mapsRowed Try.prog = true := by kernel_rfl
theorem P_stops : (Try.prog.stops == []) = true := by kernel_rfl
theorem P_knobs : (Try.prog.stopKnobs == []) = true := by kernel_rfl
theorem P_plain : Try.prog.plainKeys = true := by kernel_rfl
theorem P_heard : Try.prog.stopsHeard = true := by kernel_rfl

theorem joined_of (P : Program) (f : FuncId) (fn : Func) (s : ChangeSpec) (c : OpenClaim)
    (k1 : (c.wf (OpenSpec.ofChange s)) = true)
    (k2 : (laidOutB P) = true)
    (k3 : (mapsRowed P) = true)
    (k4 : (fn.params.all (P.readableRec ·)) = true)
    (k5 : (namedTie P c.named s.vars) = true)
    (k6 : (c.stops == []) = true)
    (k7 : (P.stops == []) = true)
    (k8 : (c.knobs == []) = true)
    (k9 : (P.stopKnobs == []) = true)
    (k10 : (c.inPlace == P.inPlace f) = true)
    (k11 : (c.unfollowed == P.unfollowed f) = true)
    (k12 : (c.recurses == P.recurses f) = true)
    (k13 : (c.named == P.varsNamed f) = true)
    (k14 : (c.maps == (fn.params.toList ++ s.plain.varTypes P).any (P.mapsRec ·)) = true)
    (k15 : (c.ifaces == (fn.params.toList ++ s.plain.varTypes P).any (P.ifacesRec ·)) = true)
    (k16 : (c.mapsOut == P.mapsAmong fn.resultTypes.toList) = true)
    (k17 : (c.loops == (fn.params.toList ++ s.plain.varTypes P).any (P.loopsFrom ·)) = true)
    (k18 : (c.wideKeys == (fn.params.toList ++ s.plain.varTypes P ++ fn.resultTypes.toList).any (P.wideKeysFrom ·)) = true)
    (k19 : (s.vars.all (P.varReadable ·)) = true)
    (k20 : (fn.resultTypes.all (fun t => P.readableRec t && decide (t < P.types.size))) = true)
    (k21 : (c.ifacesOut == fn.resultTypes.toList.any (P.ifacesRec ·)) = true)
    (k22 : (c.loopsOut == fn.resultTypes.toList.any (P.loopsFrom ·)) = true)
    (k23 : (c.plainKeys == P.plainKeys) = true)
    (k24 : (c.shortTexts.isNone) = true)
    (k25 : (P.stopsHeard) = true)
    (k26 : (P.mayEnter) = true)
    (k27 : (c.lifted == P.liftsFinal) = true)
    (k28 : (P.make == some c.make) = true)
    (k29 : (c.kinds == (if c.domain.isEmpty then [] else fn.params.toList.map fun t => match P.underlying t with | some (.int k) => some k | _ => none)) = true)
    (k30 : (c.pinned == c.pinnedBy) = true)
    (k31 : (c.veiled == (fn.params.toList ++ s.plain.varTypes P ++ fn.resultTypes.toList).any (P.veiledRec ·)) = true)
    (k32 : (c.veiledFits P fn.params.toList (fn.params.toList ++ s.plain.varTypes P ++ fn.resultTypes.toList)) = true) : joinedFacts P f fn s c = true := by
  unfold joinedFacts
  rw [k1, k2, k3, k4, k5, k6, k7, k8, k9, k10, k11, k12, k13, k14, k15, k16, k17, k18, k19, k20, k21, k22, k23, k24, k25, k26, k27, k28]
  exact Bool.and_eq_true_iff.2 ⟨Bool.and_eq_true_iff.2 ⟨Bool.and_eq_true_iff.2 ⟨Bool.and_eq_true_iff.2 ⟨rfl, k29⟩, k30⟩, k31⟩, k32⟩

/-- The closed facts of a row: those that go by the program alone are laid already. -/
theorem joined_try (f : FuncId) (fn : Func) (s : ChangeSpec) (c : OpenClaim)
    (k1 : c.wf (OpenSpec.ofChange s) = true) (k4 : fn.params.all (Try.prog.readableRec ·) = true) (k5 : namedTie Try.prog c.named s.vars = true) (k6 : (c.stops == []) = true) (k8 : (c.knobs == []) = true)
    (k10 : (c.inPlace == Try.prog.inPlace f) = true) (k11 : (c.unfollowed == Try.prog.unfollowed f) = true) (k12 : (c.recurses == Try.prog.recurses f) = true) (k13 : (c.named == Try.prog.varsNamed f) = true)
    (k14 : (c.maps == (fn.params.toList ++ s.plain.varTypes Try.prog).any (Try.prog.mapsRec ·)) = true) (k15 : (c.ifaces == (fn.params.toList ++ s.plain.varTypes Try.prog).any (Try.prog.ifacesRec ·)) = true) (k16 : (c.mapsOut == Try.prog.mapsAmong fn.resultTypes.toList) = true)
    (k17 : (c.loops == (fn.params.toList ++ s.plain.varTypes Try.prog).any (Try.prog.loopsFrom ·)) = true) (k18 : (c.wideKeys == (fn.params.toList ++ s.plain.varTypes Try.prog ++ fn.resultTypes.toList).any (Try.prog.wideKeysFrom ·)) = true)
    (k19 : s.vars.all (Try.prog.varReadable ·) = true) (k20 : fn.resultTypes.all (fun t => Try.prog.readableRec t && decide (t < Try.prog.types.size)) = true) (k21 : (c.ifacesOut == fn.resultTypes.toList.any (Try.prog.ifacesRec ·)) = true) (k22 : (c.loopsOut == fn.resultTypes.toList.any (Try.prog.loopsFrom ·)) = true)
    (k23 : c.plainKeys = true) (k24 : c.shortTexts.isNone = true) (k27 : c.lifted = false) (k28 : c.make = .cut)
    (k29 : (c.kinds == (if c.domain.isEmpty then [] else fn.params.toList.map fun t => match Try.prog.underlying t with | some (.int k) => some k | _ => none)) = true) (k30 : (c.pinned == c.pinnedBy) = true)
    (k31 : (c.veiled == (fn.params.toList ++ s.plain.varTypes Try.prog ++ fn.resultTypes.toList).any (Try.prog.veiledRec ·)) = true) (k32 : c.veiledFits Try.prog fn.params.toList (fn.params.toList ++ s.plain.varTypes Try.prog ++ fn.resultTypes.toList) = true) :
    joinedFacts Try.prog f fn s c = true :=
  joined_of Try.prog f fn s c k1 P_laid P_rowed k4 k5 k6 P_stops k8 P_knobs k10 k11 k12 k13 k14 k15 k16 k17 k18 k19 k20 k21 k22 (by rw [k23, P_plain]; rfl) k24 P_heard P_enter (by rw [k27, P_lifts]; rfl) (by rw [k28, P_make]; rfl) k29 k30 k31 k32
end Go.Proofs.Ytfbjjblgcgjndaa
