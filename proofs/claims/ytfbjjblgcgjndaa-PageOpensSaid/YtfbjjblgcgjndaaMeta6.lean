/- Contract of page.meta. -/
import Derived.Test.YtfbjjblgcgjndaaMeta5
set_option linter.unusedVariables false
set_option linter.unusedSimpArgs false
namespace Go.Proofs.Ytfbjjblgcgjndaa
open Go.RowKit

def metaOf (l : List Nat) : Meta := ⟨el (seg l 4 8), el (seg l 12 4), el (seg l 16 4), el (seg l 20 4), el (seg l 24 8)⟩
theorem metaOf_ok (l : List Nat) (hb : Bytes l) : (metaOf l).Ok := ⟨el_seg_lt l 4 8 hb, el_seg_lt l 12 4 hb, el_seg_lt l 16 4 hb, el_seg_lt l 20 4 hb, el_seg_lt l 24 8 hb⟩

theorem Reads.other {w0 w : World} {b : Nat} {r : Inner} (h : Reads w0 w b r) (g i : Nat) (v : Value) (hne : g ≠ b) (hg : w0.heap.size ≤ g) : Reads w0 (w.setCell ⟨g, i, none⟩ v) b r :=
  ⟨by rw [Below.heap_setCell _ _ _ _ (Ne.symm hne)]; exact h.cell, h.ok, h.below.setCell hg _, h.new⟩
theorem ErrBox.other {w : World} {g : Nat} {x : Int} (h : ErrBox w g x) (b i : Nat) (v : Value) (hne : b ≠ g) : ErrBox (w.setCell ⟨b, i, none⟩ v) g x := by
  unfold ErrBox
  rw [Below.heap_setCell _ _ _ _ (Ne.symm hne)]; exact h
/-- the start of meta -/
theorem begun (r : Inner) (w : World) (h : r.Ok w) (W : World) (cs : Array Value) (hW : W = ((w.alloc (.cells cs 116)).alloc (.cells #[.int .u16 0] 37)).alloc (.cells #[.slice r.A r.l.length r.c] 266)) :
    Reads w W (w.heap.size + 1 + 1) r ∧ ErrBox W (w.heap.size + 1) 0 ∧ W.heap[w.heap.size]? = some (.cells cs 116 (0, 0)) := by
  subst hW
  refine ⟨⟨?_, h, below_alloc0 (below_alloc0 (below_alloc0 (Below.refl _ _) _) _) _, by omega⟩, ?_, ?_⟩
  · rw [show w.heap.size + 1 + 1 = ((w.alloc (.cells cs 116)).alloc (.cells #[.int .u16 0] 37)).heap.size by simp]
    exact heap_alloc_new _ _
  · unfold ErrBox
    rw [heap_alloc_old _ _ (by simp)]
    rw [show w.heap.size + 1 = (w.alloc (.cells cs 116)).heap.size by simp]
    exact heap_alloc_new _ _
  · rw [heap_alloc_old _ _ (by simp; omega), heap_alloc_old _ _ (by simp)]
    exact heap_alloc_new _ _

/-- the variable of the state, in a block of its own -/
def MetaBox (w : World) (b : Nat) (m : Meta) : Prop := w.heap[b]? = some (.cells m.cells 116 (0, 0))
theorem MetaBox.grown {w w1 : World} {g b : Nat} {m : Meta} (h : MetaBox w g m) (hg : w.grownBy w1 (some b)) (hne : g ≠ b) : MetaBox w1 g m := by
  unfold MetaBox
  rw [hg.block g (Array.getElem?_eq_some_iff.1 h).1 (by intro e; injection e with e; exact hne e)]
  exact h
theorem results_meta (tmps : Array Value) (b g : Nat) (m : Meta) (w : World) (h2 : tmps.getD 2 undef = .pointer (some ⟨b, 0, none⟩)) (h3 : tmps.getD 3 undef = .pointer (some ⟨g, 0, none⟩)) (hM : MetaBox w b m) (hE : ErrBox w g 0) :
    (results Try.f141 tmps).run Try.prog w = .ok (.tuple #[.agg #[.int .u64 (m.gen : Int), .int .u32 (m.root : Int), .int .u32 (m.free : Int), .int .u32 (m.pages : Int), .int .u64 (m.keys : Int)], .int .u16 0]) w := by
  obtain ⟨c0, c1, c2, c3, c4⟩ := meta_cells hM
  have ec : w.cell? ⟨g, 0, none⟩ = some (.int .u16 0) := by rw [cell_of_row w _ 0 _ 37 (0, 0) hE]; rfl
  simp [results, Try.results141, go_sem]
  simp [Array.getD_eq_getD_getElem?] at h2 h3
  simp [h2, h3, c0, c1, c2, c3, c4, ec, go_sem]
theorem seg_suf (r : Inner) (a k n : Nat) : el (((r.suf a).l).take n) = el (seg r.l a n) := rfl
theorem suf_suf (r : Inner) (a b n : Nat) : el ((((r.suf a).suf b).l).take n) = el (seg r.l (a + b) n) := by rw [suf_suf_l]; rfl

set_option maxRecDepth 100000 in
set_option maxHeartbeats 2000000 in
theorem meta_any (r : Inner) (w : World) (h : r.Ok w) (h32 : 32 ≤ r.l.length) :
    Calls Try.prog 141 #[.slice r.A r.l.length r.c] w fun e w' => e = .returned (.tuple #[(metaOf r.l).val, .int .u16 0]) ∧ Below w.heap.size w w' := by
  have hsmall := h.small
  have hle := h.le
  have n1 : w.heap.size + 1 ≠ w.heap.size + 1 + 1 := by omega
  have n2 : w.heap.size ≠ w.heap.size + 1 + 1 := by omega
  have n3 : w.heap.size ≠ w.heap.size + 1 := by omega
  go_enter_defers Try.func141, Try.ntmps141
  go_wp2_with fail
  generalize hW : ((w.alloc (Obj.cells #[Value.int IntKind.u64 0, Value.int IntKind.u32 0, Value.int IntKind.u32 0, Value.int IntKind.u32 0, Value.int IntKind.u64 0] 116)).alloc (Obj.cells #[Value.int IntKind.u16 0] 37)).alloc (Obj.cells #[Value.slice r.A r.l.length r.c] 266) = W0
  obtain ⟨hr0, hE0, hM0⟩ := begun r w h W0 _ hW.symm
  change MetaBox W0 w.heap.size ⟨0, 0, 0, 0, 0⟩ at hM0
  clear hW
  refine (take_ok hr0 4 (by omega)).mono ?_
  rintro e w1 ⟨rfl, hr1, hg1⟩
  have hE1 := hE0.grown hg1 n1
  have hM1 := hM0.grown hg1 n2
  clear hE0 hM0
  go_wp2_with fail
  refine (number_ok hr1 8 (by rw [suf_length]; omega) (by omega)).mono ?_
  rintro e w2 ⟨rfl, hr2, hg2⟩
  rw [show el ((r.suf 4).l.take 8) = el (seg r.l 4 8) from rfl]
  have hE2 := hE1.grown hg2 n1
  have hM2 := hM1.grown hg2 n2
  clear hE1 hM1
  obtain ⟨c0, c1, c2, c3, c4⟩ := meta_cells hM2
  have f0 := frozen_of_row w2 _ 0 _ 116 hM2
  have hgx := (metaOf_ok r.l h.bytes).gen
  have hrx := (metaOf_ok r.l h.bytes).root
  have hfx := (metaOf_ok r.l h.bytes).free
  have hpx := (metaOf_ok r.l h.bytes).pages
  have hkx := (metaOf_ok r.l h.bytes).keys
  simp only [metaOf] at hgx hrx hfx hpx hkx
  have hval : (metaOf r.l).val = .agg #[.int .u64 ((el (seg r.l 4 8) : Nat) : Int), .int .u32 ((el (seg r.l 12 4) : Nat) : Int), .int .u32 ((el (seg r.l 16 4) : Nat) : Int), .int .u32 ((el (seg r.l 20 4) : Nat) : Int), .int .u64 ((el (seg r.l 24 8) : Nat) : Int)] := rfl
  have HV := Lib.hid hval
  clear hval
  have q1 : el ((((r.suf 4).suf 8).l).take 4) = el (seg r.l 12 4) := by simp [seg, Inner.suf]
  have q2 : el (((((r.suf 4).suf 8).suf 4).l).take 4) = el (seg r.l 16 4) := by simp [seg, Inner.suf]
  have q3 : el ((((((r.suf 4).suf 8).suf 4).suf 4).l).take 4) = el (seg r.l 20 4) := by simp [seg, Inner.suf]
  have q4 : el (((((((r.suf 4).suf 8).suf 4).suf 4).suf 4).l).take 8) = el (seg r.l 24 8) := by simp [seg, Inner.suf]
  have Q1 := Lib.hid q1
  have Q2 := Lib.hid q2
  have Q3 := Lib.hid q3
  have Q4 := Lib.hid q4
  clear q1 q2 q3 q4
  generalize el (seg r.l 4 8) = X0 at *
  generalize el (seg r.l 12 4) = X1 at *
  generalize el (seg r.l 16 4) = X2 at *
  generalize el (seg r.l 20 4) = X3 at *
  generalize el (seg r.l 24 8) = X4 at *
  go_wp2_with fail
  have hr2' := hr2.other w.heap.size 0 (.int .u64 (X0 : Int)) n2 (Nat.le_refl _)
  have hE2' := hE2.other w.heap.size 0 (.int .u64 (X0 : Int)) n3
  have hM2' : MetaBox (w2.setCell ⟨w.heap.size, 0, none⟩ (.int .u64 (X0 : Int))) w.heap.size ⟨X0, 0, 0, 0, 0⟩ := blk_set hM2 0 _
  generalize w2.setCell ⟨w.heap.size, 0, none⟩ (.int .u64 (X0 : Int)) = w3 at hr2' hE2' hM2' ⊢
  clear c0 c1 c2 c3 c4 f0 hr2 hE2 hM2
  refine (number_ok hr2' 4 (by rw [suf_length, suf_length]; omega) (by omega)).mono ?_
  rintro e w4 ⟨rfl, hr4, hg4⟩
  rw [Q1.out]
  have hE4 := hE2'.grown hg4 n1
  have hM4 := hM2'.grown hg4 n2
  clear hE2' hM2'
  go_wp2_with fail
  refine (number_ok hr4 4 (by rw [suf_length, suf_length, suf_length]; omega) (by omega)).mono ?_
  rintro e w5 ⟨rfl, hr5, hg5⟩
  rw [Q2.out]
  have hE5 := hE4.grown hg5 n1
  have hM5 := hM4.grown hg5 n2
  clear hE4 hM4
  go_wp2_with fail
  refine (number_ok hr5 4 (by rw [suf_length, suf_length, suf_length, suf_length]; omega) (by omega)).mono ?_
  rintro e w6 ⟨rfl, hr6, hg6⟩
  rw [Q3.out]
  have hE6 := hE5.grown hg6 n1
  have hM6 := hM5.grown hg6 n2
  clear hE5 hM5
  obtain ⟨c0, c1, c2, c3, c4⟩ := meta_cells hM6
  have f1 := frozen_of_row w6 _ 1 _ 116 hM6
  have f2 := frozen_of_row w6 _ 2 _ 116 hM6
  have f3 := frozen_of_row w6 _ 3 _ 116 hM6
  go_wp2_with fail
  have hr6' := ((hr6.other w.heap.size 1 (.int .u32 (X1 : Int)) n2 (Nat.le_refl _)).other w.heap.size 2 (.int .u32 (X2 : Int)) n2 (Nat.le_refl _)).other w.heap.size 3 (.int .u32 (X3 : Int)) n2 (Nat.le_refl _)
  have hE6' := ((hE6.other w.heap.size 1 (.int .u32 (X1 : Int)) n3).other w.heap.size 2 (.int .u32 (X2 : Int)) n3).other w.heap.size 3 (.int .u32 (X3 : Int)) n3
  have hM6' : MetaBox (((w6.setCell ⟨w.heap.size, 1, none⟩ (.int .u32 (X1 : Int))).setCell ⟨w.heap.size, 2, none⟩ (.int .u32 (X2 : Int))).setCell ⟨w.heap.size, 3, none⟩ (.int .u32 (X3 : Int))) w.heap.size ⟨X0, X1, X2, X3, 0⟩ := blk_set (blk_set (blk_set hM6 1 _) 2 _) 3 _
  generalize ((w6.setCell ⟨w.heap.size, 1, none⟩ (.int .u32 (X1 : Int))).setCell ⟨w.heap.size, 2, none⟩ (.int .u32 (X2 : Int))).setCell ⟨w.heap.size, 3, none⟩ (.int .u32 (X3 : Int)) = w7 at hr6' hE6' hM6' ⊢
  clear c0 c1 c2 c3 c4 f1 f2 f3 hr6 hE6 hM6
  refine (number_ok hr6' 8 (by rw [suf_length, suf_length, suf_length, suf_length, suf_length]; omega) (by omega)).mono ?_
  rintro e w8 ⟨rfl, hr8, hg8⟩
  rw [Q4.out]
  have hE8 := hE6'.grown hg8 n1
  have hM8 := hM6'.grown hg8 n2
  clear hE6' hM6'
  have hb8 := hr8.below.setCell (Nat.le_refl _) (.int .u64 (X4 : Int)) (p := ⟨w.heap.size, 4, none⟩)
  have hE9 := hE8.other w.heap.size 4 (.int .u64 (X4 : Int)) n3
  have hM9 : MetaBox (w8.setCell ⟨w.heap.size, 4, none⟩ (.int .u64 (X4 : Int))) w.heap.size ⟨X0, X1, X2, X3, X4⟩ := blk_set hM8 4 _
  obtain ⟨c0, c1, c2, c3, c4⟩ := meta_cells hM8
  have f4 := frozen_of_row w8 _ 4 _ 116 hM8
  go_upto_region 7 with (fail)
  clear c0 c1 c2 c3 c4 f4
  generalize w8.setCell ⟨w.heap.size, 4, none⟩ (.int .u64 (X4 : Int)) = w9 at hb8 hE9 hM9 ⊢
  obtain ⟨c0, c1, c2, c3, c4⟩ := meta_cells hM9
  have f0 := frozen_of_row w9 _ 0 _ 116 hM9
  have f1 := frozen_of_row w9 _ 1 _ 116 hM9
  have f2 := frozen_of_row w9 _ 2 _ 116 hM9
  have f3 := frozen_of_row w9 _ 3 _ 116 hM9
  have f4 := frozen_of_row w9 _ 4 _ 116 hM9
  have ec : w9.cell? ⟨w.heap.size + 1, 0, none⟩ = some (.int .u16 0) := by rw [cell_of_row w9 _ 0 _ 37 (0, 0) hE9]; rfl
  have ef := frozen_of_row w9 _ 0 _ 37 hE9
  have HM9 := Lib.hid hM9
  have HE9 := Lib.hid hE9
  clear hM9 hE9
  go_wp2
  have hMF : MetaBox ((((((w9.setCell ⟨w.heap.size, 0, none⟩ (.int .u64 (X0 : Int))).setCell ⟨w.heap.size, 1, none⟩ (.int .u32 (X1 : Int))).setCell ⟨w.heap.size, 2, none⟩ (.int .u32 (X2 : Int))).setCell ⟨w.heap.size, 3, none⟩ (.int .u32 (X3 : Int))).setCell ⟨w.heap.size, 4, none⟩ (.int .u64 (X4 : Int))).setCell ⟨w.heap.size + 1, 0, none⟩ (.int .u16 0)) w.heap.size ⟨X0, X1, X2, X3, X4⟩ := by
    unfold MetaBox
    rw [Below.heap_setCell _ _ _ _ n3]
    exact blk_set (blk_set (blk_set (blk_set (blk_set HM9.out 0 _) 1 _) 2 _) 3 _) 4 _
  have hEF : ErrBox ((((((w9.setCell ⟨w.heap.size, 0, none⟩ (.int .u64 (X0 : Int))).setCell ⟨w.heap.size, 1, none⟩ (.int .u32 (X1 : Int))).setCell ⟨w.heap.size, 2, none⟩ (.int .u32 (X2 : Int))).setCell ⟨w.heap.size, 3, none⟩ (.int .u32 (X3 : Int))).setCell ⟨w.heap.size, 4, none⟩ (.int .u64 (X4 : Int))).setCell ⟨w.heap.size + 1, 0, none⟩ (.int .u16 0)) (w.heap.size + 1) 0 :=
    blk_set (((((HE9.out.other _ _ _ n3).other _ _ _ n3).other _ _ _ n3).other _ _ _ n3).other _ _ _ n3) 0 _
  have hBF : Below w.heap.size w ((((((w9.setCell ⟨w.heap.size, 0, none⟩ (.int .u64 (X0 : Int))).setCell ⟨w.heap.size, 1, none⟩ (.int .u32 (X1 : Int))).setCell ⟨w.heap.size, 2, none⟩ (.int .u32 (X2 : Int))).setCell ⟨w.heap.size, 3, none⟩ (.int .u32 (X3 : Int))).setCell ⟨w.heap.size, 4, none⟩ (.int .u64 (X4 : Int))).setCell ⟨w.heap.size + 1, 0, none⟩ (.int .u16 0)) :=
    (((((hb8.setCell (Nat.le_refl _) _).setCell (Nat.le_refl _) _).setCell (Nat.le_refl _) _).setCell (Nat.le_refl _) _).setCell (Nat.le_refl _) _).setCell (Nat.le_succ _) _
  generalize (((((w9.setCell ⟨w.heap.size, 0, none⟩ (.int .u64 (X0 : Int))).setCell ⟨w.heap.size, 1, none⟩ (.int .u32 (X1 : Int))).setCell ⟨w.heap.size, 2, none⟩ (.int .u32 (X2 : Int))).setCell ⟨w.heap.size, 3, none⟩ (.int .u32 (X3 : Int))).setCell ⟨w.heap.size, 4, none⟩ (.int .u64 (X4 : Int))).setCell ⟨w.heap.size + 1, 0, none⟩ (.int .u16 0) = wF at hMF hEF hBF ⊢
  refine leaves_cons (f := 163) (args := #[.pointer (some ⟨w.heap.size + 1, 0, none⟩)]) (by simp) (by simp [go_sem]) ?_
  refine (guard_idle _ _).mono ?_
  rintro e u' w'' ⟨rfl, rfl, rfl⟩
  exact ⟨_, results_meta _ _ _ _ _ rfl rfl hMF hEF, by rw [HV.out], hBF⟩
end Go.Proofs.Ytfbjjblgcgjndaa
