/- Contracts of page.GetMeta and of the reference's GetMeta. -/
import Derived.Test.YtfbjjblgcgjndaaMeta6
set_option linter.unusedVariables false
set_option linter.unusedSimpArgs false
namespace Go.Proofs.Ytfbjjblgcgjndaa
open Go.RowKit

def Meta.zero : Meta := ⟨0, 0, 0, 0, 0⟩
def IsMeta (l : List Nat) : Prop := 128 ≤ l.length ∧ MayBe (metaOf l) ∧ l.take 128 = sector (metaOf l)
instance (l : List Nat) : Decidable (IsMeta l) := inferInstanceAs (Decidable (_ ∧ _ ∧ _))

theorem results_box {fn : Func} {k j : Nat} (hf : fn.results = #[.cell k 116, .tmp j]) (tmps : Array Value) (b : Nat) (m : Meta) (x : Value) (w : World) (h2 : tmps.getD k undef = .pointer (some ⟨b, 0, none⟩)) (h3 : tmps.getD j undef = x) (hM : MetaBox w b m) :
    (results fn tmps).run Try.prog w = .ok (.tuple #[m.val, x]) w := by
  obtain ⟨c0, c1, c2, c3, c4⟩ := meta_cells hM
  simp [results, hf, go_sem]
  simp [Array.getD_eq_getD_getElem?] at h2 h3
  simp [h2, h3, c0, c1, c2, c3, c4, go_sem, Meta.val, Meta.cells]
theorem MetaBox.below {w w1 : World} {B g : Nat} {m : Meta} (h : MetaBox w g m) (hb : Below B w w1) (hg : g < B) : MetaBox w1 g m := by
  unfold MetaBox; rw [hb.block g hg]; exact h
theorem MetaBox.new (w : World) (m : Meta) : MetaBox (w.alloc (.cells m.cells 116)) w.heap.size m := heap_alloc_new w _
theorem MetaBox.old {w : World} {g : Nat} {m : Meta} (h : MetaBox w g m) (o : Obj) : MetaBox (w.alloc o) g m := by
  unfold MetaBox; rw [heap_alloc_old _ _ (Array.getElem?_eq_some_iff.1 h).1]; exact h
def setBox (w : World) (b : Nat) (m : Meta) : World := ((((w.setCell ⟨b, 0, none⟩ (.int .u64 (m.gen : Int))).setCell ⟨b, 1, none⟩ (.int .u32 (m.root : Int))).setCell ⟨b, 2, none⟩ (.int .u32 (m.free : Int))).setCell ⟨b, 3, none⟩ (.int .u32 (m.pages : Int))).setCell ⟨b, 4, none⟩ (.int .u64 (m.keys : Int))
theorem setBox_zero (w : World) (b : Nat) : ((((w.setCell ⟨b, 0, none⟩ (.int .u64 0)).setCell ⟨b, 1, none⟩ (.int .u32 0)).setCell ⟨b, 2, none⟩ (.int .u32 0)).setCell ⟨b, 3, none⟩ (.int .u32 0)).setCell ⟨b, 4, none⟩ (.int .u64 0) = setBox w b Meta.zero := rfl
theorem setBox_box {w : World} {b : Nat} {m n : Meta} (h : MetaBox w b m) : MetaBox (setBox w b n) b n := blk_set (blk_set (blk_set (blk_set (blk_set h 0 _) 1 _) 2 _) 3 _) 4 _
theorem setBox_below {w0 w : World} {b : Nat} (n : Meta) {B : Nat} (h : Below B w0 w) (hb : B ≤ b) : Below B w0 (setBox w b n) :=
  ((((h.setCell hb _).setCell hb _).setCell hb _).setCell hb _).setCell hb _
theorem MetaBox.frozen {w : World} {b : Nat} {m : Meta} (h : MetaBox w b m) : w.frozen? ⟨b, 0, none⟩ = false ∧ w.frozen? ⟨b, 1, none⟩ = false ∧ w.frozen? ⟨b, 2, none⟩ = false ∧ w.frozen? ⟨b, 3, none⟩ = false ∧ w.frozen? ⟨b, 4, none⟩ = false :=
  ⟨frozen_of_row w _ 0 _ 116 h, frozen_of_row w _ 1 _ 116 h, frozen_of_row w _ 2 _ 116 h, frozen_of_row w _ 3 _ 116 h, frozen_of_row w _ 4 _ 116 h⟩

set_option maxRecDepth 100000 in
set_option maxHeartbeats 600000 in
theorem get_short (r : Inner) (w : World) (h : r.Ok w) (h1 : r.l.length < 128) :
    Calls Try.prog 73 #[.slice r.A r.l.length r.c] w fun e w' => e = .returned (.tuple #[Meta.zero.val, .int .u16 80]) ∧ Below w.heap.size w w' := by
  go_enter Try.func73, Try.ntmps73
  go_wp2
  exact bodyPost_ret (results_box rfl _ w.heap.size Meta.zero _ _ rfl rfl (MetaBox.new w Meta.zero)) rfl ⟨rfl, below_alloc0 (Below.refl _ _) _⟩

set_option maxRecDepth 100000 in
set_option maxHeartbeats 600000 in
theorem get_yes (r : Inner) (w : World) (h : r.Ok w) (hm : IsMeta r.l) :
    Calls Try.prog 73 #[.slice r.A r.l.length r.c] w fun e w' => e = .returned (.tuple #[(metaOf r.l).val, .int .u16 0]) ∧ Below w.heap.size w w' := by
  obtain ⟨h128, hmay, heq⟩ := hm
  have hmk := metaOf_ok r.l h.bytes
  have hmeta := fun w (h : r.Ok w) => meta_any r w h (by omega)
  have hput := fun w => put_ok (metaOf r.l) w hmk hmay
  generalize metaOf r.l = M at *
  simp only [Meta.val, Meta.cells] at hmeta hput ⊢
  have HMeta := Lib.hid hmeta
  have HPut := Lib.hid hput
  clear hmeta hput
  go_enter Try.func73, Try.ntmps73
  go_wp2_with fail
  have hA1 := h.lies.below (below_alloc0 (Below.refl _ _) (.cells #[.int .u64 0, .int .u32 0, .int .u32 0, .int .u32 0, .int .u64 0] 116))
  refine (HMeta.out _ (h.below (below_alloc0 (Below.refl _ _) _))).mono ?_
  rintro e w1 ⟨rfl, hb1⟩
  go_wp2_with fail
  have hz1 : MetaBox w1 w.heap.size Meta.zero := (MetaBox.new w Meta.zero).below hb1 (by simp)
  have hM1 := MetaBox.new w1 M
  have hz1' := hz1.old (.cells M.cells 116)
  have hb01 : Below w.heap.size w (w1.alloc (.cells M.cells 116)) := below_alloc0 (below_next0 (below_alloc0 (Below.refl _ _) _) hb1) _
  have hs1 : w.heap.size < w1.heap.size := by have := hb1.size; simp at this; omega
  change Calls Try.prog 71 _ (w1.alloc (.cells M.cells 116)) _
  have hsz : (w1.alloc (.cells M.cells 116)).heap.size = w1.heap.size + 1 := by simp
  generalize w1.alloc (.cells M.cells 116) = W at hM1 hz1' hb01 hsz ⊢
  clear hA1 hz1
  refine (HPut.out _).mono ?_
  rintro e w2 ⟨v2, rfl, hv2, hb2, hs2⟩
  rw [← heq] at hv2
  have hl : (r.l.take 128).length = 128 := by rw [List.length_take]; omega
  obtain ⟨A2, c2, e2, hA2, hnil2, hc2, hm2⟩ := hv2.at
  rw [hl] at e2
  subst e2
  have hb02 := below_next0 hb01 hb2
  have hlies := (h.lies.takes 128).below hb02
  have hbt := h.bytes.take 128
  have heqc := equal_any A2 r.A c2 r.c 128 128 _ _ w2 hl.symm hl.symm hA2 hlies hbt hbt
  rw [decide_eq_true rfl] at heqc
  have hM2 := hM1.below hb2 (by omega)
  have hz2 := hz1'.below hb2 (by omega)
  have hrc := h.le
  clear hlies hbt hA2 hv2 hl hM1 hz1' heq
  have hcc : (128 : Int) ≤ (r.c : Int) := by omega
  have HE := Lib.hid heqc
  clear heqc
  go_wp2_with fail
  refine HE.out.mono ?_
  rintro e w3 ⟨rfl, rfl⟩
  obtain ⟨c0, c1, c2, c3, c4⟩ := meta_cells hM2
  obtain ⟨d0, d1, d2, d3, d4⟩ := meta_cells hz2
  obtain ⟨f0, f1, f2, f3, f4⟩ := hz2.frozen
  have HZ := Lib.hid hz2
  clear hz2 hM2
  go_wp2
  exact bodyPost_ret (results_box rfl _ w.heap.size M _ _ rfl rfl (setBox_box HZ.out)) rfl ⟨rfl, setBox_below M hb02 (Nat.le_refl _)⟩

set_option maxRecDepth 100000 in
set_option maxHeartbeats 600000 in
theorem get_no (r : Inner) (w : World) (h : r.Ok w) (hm : ¬ IsMeta r.l) :
    Calls Try.prog 73 #[.slice r.A r.l.length r.c] w fun e w' => e = .returned (.tuple #[Meta.zero.val, .int .u16 80]) ∧ Below w.heap.size w w' := by
  by_cases h128 : 128 ≤ r.l.length
  · have hmk := metaOf_ok r.l h.bytes
    have hmeta := fun w (h : r.Ok w) => meta_any r w h (by omega)
    have hsb := sector_bytes (metaOf r.l)
    have hsl := sector_length (metaOf r.l)
    have hcase : ¬ MayBe (metaOf r.l) ∨ (MayBe (metaOf r.l) ∧ sector (metaOf r.l) ≠ r.l.take 128) := by
      by_cases hb : MayBe (metaOf r.l)
      · exact .inr ⟨hb, fun e => hm ⟨h128, hb, e.symm⟩⟩
      · exact .inl hb
    clear hm
    generalize metaOf r.l = M at *
    simp only [Meta.val, Meta.cells] at hmeta
    have HMeta := Lib.hid hmeta
    clear hmeta
    rcases hcase with hno | ⟨hmay, hne⟩
    · have hput := fun w => put_no M w hmk hno
      simp only [Meta.val, Meta.cells] at hput
      have HPut := Lib.hid hput
      clear hput hno
      go_enter Try.func73, Try.ntmps73
      go_wp2_with fail
      refine (HMeta.out _ (h.below (below_alloc0 (Below.refl _ _) _))).mono ?_
      rintro e w1 ⟨rfl, hb1⟩
      go_wp2_with fail
      have hz1 : MetaBox w1 w.heap.size Meta.zero := (MetaBox.new w Meta.zero).below hb1 (by simp)
      have hz1' := hz1.old (.cells M.cells 116)
      have hb01 : Below w.heap.size w (w1.alloc (.cells M.cells 116)) := below_alloc0 (below_next0 (below_alloc0 (Below.refl _ _) _) hb1) _
      have hs1 : w.heap.size < w1.heap.size := by have := hb1.size; simp at this; omega
      change Calls Try.prog 71 _ (w1.alloc (.cells M.cells 116)) _
      have hsz : (w1.alloc (.cells M.cells 116)).heap.size = w1.heap.size + 1 := by simp
      generalize w1.alloc (.cells M.cells 116) = W at hz1' hb01 hsz ⊢
      clear hz1
      refine (HPut.out _).mono ?_
      rintro e w2 ⟨rfl, hb2⟩
      have hb02 := below_next0 hb01 hb2
      have hz2 := hz1'.below hb2 (by omega)
      clear hz1'
      obtain ⟨d0, d1, d2, d3, d4⟩ := meta_cells hz2
      obtain ⟨f0, f1, f2, f3, f4⟩ := hz2.frozen
      have HZ := Lib.hid hz2
      clear hz2
      go_wp2
      rw [setBox_zero]
      exact bodyPost_ret (results_box rfl _ w.heap.size Meta.zero _ _ rfl rfl (setBox_box HZ.out)) rfl ⟨rfl, setBox_below Meta.zero hb02 (Nat.le_refl _)⟩
    · have hput := fun w => put_ok M w hmk hmay
      simp only [Meta.val, Meta.cells] at hput
      have HPut := Lib.hid hput
      clear hput hmay
      generalize hS : sector M = S at *
      clear hS
      have HNE := Lib.hid hne
      clear hne
      go_enter Try.func73, Try.ntmps73
      go_wp2_with fail
      refine (HMeta.out _ (h.below (below_alloc0 (Below.refl _ _) _))).mono ?_
      rintro e w1 ⟨rfl, hb1⟩
      go_wp2_with fail
      have hz1 : MetaBox w1 w.heap.size Meta.zero := (MetaBox.new w Meta.zero).below hb1 (by simp)
      have hz1' := hz1.old (.cells M.cells 116)
      have hb01 : Below w.heap.size w (w1.alloc (.cells M.cells 116)) := below_alloc0 (below_next0 (below_alloc0 (Below.refl _ _) _) hb1) _
      have hs1 : w.heap.size < w1.heap.size := by have := hb1.size; simp at this; omega
      change Calls Try.prog 71 _ (w1.alloc (.cells M.cells 116)) _
      have hsz : (w1.alloc (.cells M.cells 116)).heap.size = w1.heap.size + 1 := by simp
      generalize w1.alloc (.cells M.cells 116) = W at hz1' hb01 hsz ⊢
      clear hz1
      refine (HPut.out _).mono ?_
      rintro e w2 ⟨v2, rfl, hv2, hb2, hs2⟩
      have hl : (r.l.take 128).length = 128 := by rw [List.length_take]; omega
      obtain ⟨A2, c2, e2, hA2, hnil2, hc2, hm2⟩ := hv2.at
      rw [hsl] at e2
      subst e2
      have hb02 := below_next0 hb01 hb2
      have hlies := (h.lies.takes 128).below hb02
      have hbt := h.bytes.take 128
      have heqc := equal_any A2 r.A c2 r.c 128 128 _ _ w2 hsl.symm hl.symm hA2 hlies hsb hbt
      rw [decide_eq_false HNE.out] at heqc
      have hz2 := hz1'.below hb2 (by omega)
      have hrc := h.le
      clear hlies hbt hA2 hv2 hl hz1' hsl
      have hcc : (128 : Int) ≤ (r.c : Int) := by omega
      have HE := Lib.hid heqc
      clear heqc
      go_wp2_with fail
      refine HE.out.mono ?_
      rintro e w3 ⟨rfl, rfl⟩
      obtain ⟨d0, d1, d2, d3, d4⟩ := meta_cells hz2
      obtain ⟨f0, f1, f2, f3, f4⟩ := hz2.frozen
      have HZ := Lib.hid hz2
      clear hz2
      go_wp2
      rw [setBox_zero]
      exact bodyPost_ret (results_box rfl _ w.heap.size Meta.zero _ _ rfl rfl (setBox_box HZ.out)) rfl ⟨rfl, setBox_below Meta.zero hb02 (Nat.le_refl _)⟩
  · exact get_short r w h (by omega)
end Go.Proofs.Ytfbjjblgcgjndaa
