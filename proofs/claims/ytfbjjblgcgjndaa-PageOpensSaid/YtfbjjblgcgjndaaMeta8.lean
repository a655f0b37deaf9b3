/- Contract of the reference's GetMeta. -/
import Derived.Test.YtfbjjblgcgjndaaMeta7
set_option linter.unusedVariables false
set_option linter.unusedSimpArgs false
namespace Go.Proofs.Ytfbjjblgcgjndaa
open Go.RowKit

set_option maxRecDepth 100000 in
set_option maxHeartbeats 600000 in
theorem rget_short (A : Option Addr) (c : Nat) (l : List Nat) (w : World) (h1 : l.length < 128) :
    Calls Try.prog 74 #[.slice A l.length c] w fun e w' => e = .returned (.tuple #[Meta.zero.val, .int .u16 80]) ∧ Below w.heap.size w w' := by
  go_enter Try.func74, Try.ntmps74
  go_wp2
  exact bodyPost_ret (results_box rfl _ w.heap.size Meta.zero _ _ rfl rfl (MetaBox.new w Meta.zero)) rfl ⟨rfl, below_alloc0 (Below.refl _ _) _⟩

set_option maxRecDepth 100000 in
set_option maxHeartbeats 600000 in
theorem rget_yes (A : Option Addr) (c : Nat) (l : List Nat) (w : World) (hs : l.length ≤ 1000000000) (hA : At w A (ns .u8 l)) (hb : Bytes l) (hcl : l.length ≤ c) (hm : IsMeta l) :
    Calls Try.prog 74 #[.slice A l.length c] w fun e w' => e = .returned (.tuple #[(metaOf l).val, .int .u16 0]) ∧ Below w.heap.size w w' := by
  obtain ⟨h128, hmay, heq⟩ := hm
  have hmk := metaOf_ok l hb
  have hA1 := hA.below (below_alloc0 (Below.refl _ _) (.cells #[.int .u64 0, .int .u32 0, .int .u32 0, .int .u32 0, .int .u64 0] 116))
  have hget := fun a k (h : a + k ≤ l.length) (hk : k ≤ 8) => get_any A c _ l a k _ rfl hs h hk hA1 hb
  have hput := fun w => rput_ok (metaOf l) w hmk hmay
  have hg1 : el (seg l 4 8) = (metaOf l).gen := rfl
  have hg2 : el (seg l 12 4) = (metaOf l).root := rfl
  have hg3 : el (seg l 16 4) = (metaOf l).free := rfl
  have hg4 : el (seg l 20 4) = (metaOf l).pages := rfl
  have hg5 : el (seg l 24 8) = (metaOf l).keys := rfl
  have g1 := hget 4 8 (by omega) (by omega)
  have g2 := hget 12 4 (by omega) (by omega)
  have g3 := hget 16 4 (by omega) (by omega)
  have g4 := hget 20 4 (by omega) (by omega)
  have g5 := hget 24 8 (by omega) (by omega)
  rw [hg1] at g1
  rw [hg2] at g2
  rw [hg3] at g3
  rw [hg4] at g4
  rw [hg5] at g5
  have G1 := Lib.hid g1
  have G2 := Lib.hid g2
  have G3 := Lib.hid g3
  have G4 := Lib.hid g4
  have G5 := Lib.hid g5
  clear g1 g2 g3 g4 g5 hg1 hg2 hg3 hg4 hg5 hget
  generalize metaOf l = M at *
  have b1 := hmk.gen
  have b2 := hmk.root
  have b3 := hmk.free
  have b4 := hmk.pages
  have b5 := hmk.keys
  simp only [Meta.val, Meta.cells] at hput ⊢
  have HPut := Lib.hid hput
  clear hput hmay hmk
  go_enter Try.func74, Try.ntmps74
  go_wp2_with fail
  refine G1.out.mono ?_
  rintro e w1 ⟨rfl, rfl⟩
  go_wp2_with fail
  refine G2.out.mono ?_
  rintro e w1 ⟨rfl, rfl⟩
  go_wp2_with fail
  refine G3.out.mono ?_
  rintro e w1 ⟨rfl, rfl⟩
  go_wp2_with fail
  refine G4.out.mono ?_
  rintro e w1 ⟨rfl, rfl⟩
  go_wp2_with fail
  refine G5.out.mono ?_
  rintro e w1 ⟨rfl, rfl⟩
  go_wp2_with fail
  have hz0 := (MetaBox.new w Meta.zero).old (.cells M.cells 116)
  have hM0 : MetaBox ((w.alloc (.cells Meta.zero.cells 116)).alloc (.cells M.cells 116)) (w.heap.size + 1) M := by
    have := MetaBox.new (w.alloc (.cells Meta.zero.cells 116)) M
    rwa [show (w.alloc (.cells Meta.zero.cells 116)).heap.size = w.heap.size + 1 by simp] at this
  have hb0 : Below w.heap.size w ((w.alloc (.cells Meta.zero.cells 116)).alloc (.cells M.cells 116)) := below_alloc0 (below_alloc0 (Below.refl _ _) _) _
  have hsz : ((w.alloc (.cells Meta.zero.cells 116)).alloc (.cells M.cells 116)).heap.size = w.heap.size + 2 := by simp
  change Calls Try.prog 72 _ ((w.alloc (.cells Meta.zero.cells 116)).alloc (.cells M.cells 116)) _
  generalize (w.alloc (.cells Meta.zero.cells 116)).alloc (.cells M.cells 116) = W at hz0 hM0 hb0 hsz ⊢
  refine (HPut.out _).mono ?_
  rintro e w2 ⟨v2, rfl, hv2, hb2, hs2⟩
  rw [← heq] at hv2
  have hl : (l.take 128).length = 128 := by rw [List.length_take]; omega
  obtain ⟨A2, c2, e2, hA2, hnil2, hc2, hm2⟩ := hv2.at
  rw [hl] at e2
  subst e2
  have hb02 := below_next0 hb0 hb2
  have hlies := (hA.takes 128).below hb02
  have k1 := fun n => conv_str (P := Try.prog) (w2.drewN n) A2 c2 (l.take 128) 128 hl.symm (hA2.below (below_drewN (Below.refl _ _) n)) Try.underlying23 Try.underlying5 Try.underlying9
  have k2 := fun n => conv_str (P := Try.prog) (w2.drewN n) A c (l.take 128) 128 hl.symm (hlies.below (below_drewN (Below.refl _ _) n)) Try.underlying23 Try.underlying5 Try.underlying9
  have hM2 := hM0.below hb2 (by omega)
  have hz2 := hz0.below hb2 (by omega)
  clear hlies hA2 hv2 hl hM0 hz0 heq
  have hcc : (128 : Int) ≤ (c : Int) := by omega
  go_wp2_with fail
  go_quiet (fail)
  have hb03 : Below w.heap.size w (w2.drewN nq) := below_drewN hb02 nq
  have hz3 : MetaBox (w2.drewN nq) w.heap.size Meta.zero := hz2
  have hM3 : MetaBox (w2.drewN nq) (w.heap.size + 1) M := hM2
  clear k1 k2 hz2 hM2 hb02
  generalize w2.drewN nq = w3 at hb03 hz3 hM3 ⊢
  obtain ⟨c0, c1, c2, c3, c4⟩ := meta_cells hM3
  obtain ⟨d0, d1, d2, d3, d4⟩ := meta_cells hz3
  obtain ⟨f0, f1, f2, f3, f4⟩ := hz3.frozen
  have HZ := Lib.hid hz3
  clear hz3 hM3
  go_wp2
  exact bodyPost_ret (results_box rfl _ w.heap.size M _ _ rfl rfl (setBox_box HZ.out)) rfl ⟨rfl, setBox_below M hb03 (Nat.le_refl _)⟩

set_option maxRecDepth 100000 in
set_option maxHeartbeats 600000 in
theorem rget_no (A : Option Addr) (c : Nat) (l : List Nat) (w : World) (hs : l.length ≤ 1000000000) (hA : At w A (ns .u8 l)) (hb : Bytes l) (hcl : l.length ≤ c) (hm : ¬ IsMeta l) :
    Calls Try.prog 74 #[.slice A l.length c] w fun e w' => e = .returned (.tuple #[Meta.zero.val, .int .u16 80]) ∧ Below w.heap.size w w' := by
  by_cases h128 : 128 ≤ l.length
  · have hmk := metaOf_ok l hb
    have hA1 := hA.below (below_alloc0 (Below.refl _ _) (.cells #[.int .u64 0, .int .u32 0, .int .u32 0, .int .u32 0, .int .u64 0] 116))
    have hget := fun a k (h : a + k ≤ l.length) (hk : k ≤ 8) => get_any A c _ l a k _ rfl hs h hk hA1 hb
    have hsb := sector_bytes (metaOf l)
    have hsl := sector_length (metaOf l)
    have hcase : ¬ MayBe (metaOf l) ∨ (MayBe (metaOf l) ∧ sector (metaOf l) ≠ l.take 128) := by
      by_cases hb : MayBe (metaOf l)
      · exact .inr ⟨hb, fun e => hm ⟨h128, hb, e.symm⟩⟩
      · exact .inl hb
    clear hm
    have hg1 : el (seg l 4 8) = (metaOf l).gen := rfl
    have hg2 : el (seg l 12 4) = (metaOf l).root := rfl
    have hg3 : el (seg l 16 4) = (metaOf l).free := rfl
    have hg4 : el (seg l 20 4) = (metaOf l).pages := rfl
    have hg5 : el (seg l 24 8) = (metaOf l).keys := rfl
    have g1 := hget 4 8 (by omega) (by omega)
    have g2 := hget 12 4 (by omega) (by omega)
    have g3 := hget 16 4 (by omega) (by omega)
    have g4 := hget 20 4 (by omega) (by omega)
    have g5 := hget 24 8 (by omega) (by omega)
    rw [hg1] at g1
    rw [hg2] at g2
    rw [hg3] at g3
    rw [hg4] at g4
    rw [hg5] at g5
    have G1 := Lib.hid g1
    have G2 := Lib.hid g2
    have G3 := Lib.hid g3
    have G4 := Lib.hid g4
    have G5 := Lib.hid g5
    clear g1 g2 g3 g4 g5 hg1 hg2 hg3 hg4 hg5 hget
    generalize metaOf l = M at *
    have b1 := hmk.gen
    have b2 := hmk.root
    have b3 := hmk.free
    have b4 := hmk.pages
    have b5 := hmk.keys
    rcases hcase with hno | ⟨hmay, hne⟩
    · have hput := fun w => rput_no M w hmk hno
      simp only [Meta.val, Meta.cells] at hput
      have HPut := Lib.hid hput
      clear hput hno hmk hsb hsl
      go_enter Try.func74, Try.ntmps74
      go_wp2_with fail
      refine G1.out.mono ?_
      rintro e w1 ⟨rfl, rfl⟩
      go_wp2_with fail
      refine G2.out.mono ?_
      rintro e w1 ⟨rfl, rfl⟩
      go_wp2_with fail
      refine G3.out.mono ?_
      rintro e w1 ⟨rfl, rfl⟩
      go_wp2_with fail
      refine G4.out.mono ?_
      rintro e w1 ⟨rfl, rfl⟩
      go_wp2_with fail
      refine G5.out.mono ?_
      rintro e w1 ⟨rfl, rfl⟩
      go_wp2_with fail
      have hz0 := (MetaBox.new w Meta.zero).old (.cells M.cells 116)
      have hM0 : MetaBox ((w.alloc (.cells Meta.zero.cells 116)).alloc (.cells M.cells 116)) (w.heap.size + 1) M := by
        have := MetaBox.new (w.alloc (.cells Meta.zero.cells 116)) M
        rwa [show (w.alloc (.cells Meta.zero.cells 116)).heap.size = w.heap.size + 1 by simp] at this
      have hb0 : Below w.heap.size w ((w.alloc (.cells Meta.zero.cells 116)).alloc (.cells M.cells 116)) := below_alloc0 (below_alloc0 (Below.refl _ _) _) _
      have hsz : ((w.alloc (.cells Meta.zero.cells 116)).alloc (.cells M.cells 116)).heap.size = w.heap.size + 2 := by simp
      change Calls Try.prog 72 _ ((w.alloc (.cells Meta.zero.cells 116)).alloc (.cells M.cells 116)) _
      generalize (w.alloc (.cells Meta.zero.cells 116)).alloc (.cells M.cells 116) = W at hz0 hM0 hb0 hsz ⊢
      refine (HPut.out _).mono ?_
      rintro e w2 ⟨rfl, hb2⟩
      have hb02 := below_next0 hb0 hb2
      have hz2 := hz0.below hb2 (by omega)
      clear hM0 hz0
      go_wp2_with fail
      go_quiet (fail)
      have hb03 : Below w.heap.size w (w2.drewN nq) := below_drewN hb02 nq
      have hz3 : MetaBox (w2.drewN nq) w.heap.size Meta.zero := hz2
      clear hz2 hb02
      generalize w2.drewN nq = w3 at hb03 hz3 ⊢
      obtain ⟨d0, d1, d2, d3, d4⟩ := meta_cells hz3
      obtain ⟨f0, f1, f2, f3, f4⟩ := hz3.frozen
      have HZ := Lib.hid hz3
      clear hz3
      go_wp2
      rw [setBox_zero]
      exact bodyPost_ret (results_box rfl _ w.heap.size Meta.zero _ _ rfl rfl (setBox_box HZ.out)) rfl ⟨rfl, setBox_below Meta.zero hb03 (Nat.le_refl _)⟩
    · have hput := fun w => rput_ok M w hmk hmay
      simp only [Meta.val, Meta.cells] at hput
      have HPut := Lib.hid hput
      clear hput hmay hmk
      generalize hS : sector M = S at *
      clear hS
      have HNE := Lib.hid hne
      clear hne
      go_enter Try.func74, Try.ntmps74
      go_wp2_with fail
      refine G1.out.mono ?_
      rintro e w1 ⟨rfl, rfl⟩
      go_wp2_with fail
      refine G2.out.mono ?_
      rintro e w1 ⟨rfl, rfl⟩
      go_wp2_with fail
      refine G3.out.mono ?_
      rintro e w1 ⟨rfl, rfl⟩
      go_wp2_with fail
      refine G4.out.mono ?_
      rintro e w1 ⟨rfl, rfl⟩
      go_wp2_with fail
      refine G5.out.mono ?_
      rintro e w1 ⟨rfl, rfl⟩
      go_wp2_with fail
      have hz0 := (MetaBox.new w Meta.zero).old (.cells M.cells 116)
      have hM0 : MetaBox ((w.alloc (.cells Meta.zero.cells 116)).alloc (.cells M.cells 116)) (w.heap.size + 1) M := by
        have := MetaBox.new (w.alloc (.cells Meta.zero.cells 116)) M
        rwa [show (w.alloc (.cells Meta.zero.cells 116)).heap.size = w.heap.size + 1 by simp] at this
      have hb0 : Below w.heap.size w ((w.alloc (.cells Meta.zero.cells 116)).alloc (.cells M.cells 116)) := below_alloc0 (below_alloc0 (Below.refl _ _) _) _
      have hsz : ((w.alloc (.cells Meta.zero.cells 116)).alloc (.cells M.cells 116)).heap.size = w.heap.size + 2 := by simp
      change Calls Try.prog 72 _ ((w.alloc (.cells Meta.zero.cells 116)).alloc (.cells M.cells 116)) _
      generalize (w.alloc (.cells Meta.zero.cells 116)).alloc (.cells M.cells 116) = W at hz0 hM0 hb0 hsz ⊢
      refine (HPut.out _).mono ?_
      rintro e w2 ⟨v2, rfl, hv2, hb2, hs2⟩
      have hl : (l.take 128).length = 128 := by rw [List.length_take]; omega
      obtain ⟨A2, c2, e2, hA2, hnil2, hc2, hm2⟩ := hv2.at
      rw [hsl] at e2
      subst e2
      have hb02 := below_next0 hb0 hb2
      have hlies := (hA.takes 128).below hb02
      have k1 := fun n => conv_str (P := Try.prog) (w2.drewN n) A2 c2 S 128 hsl.symm (hA2.below (below_drewN (Below.refl _ _) n)) Try.underlying23 Try.underlying5 Try.underlying9
      have k2 := fun n => conv_str (P := Try.prog) (w2.drewN n) A c (l.take 128) 128 hl.symm (hlies.below (below_drewN (Below.refl _ _) n)) Try.underlying23 Try.underlying5 Try.underlying9
      have k3 := str_beq S (l.take 128) hsb (hb.take 128)
      rw [decide_eq_false HNE.out] at k3
      have hz2 := hz0.below hb2 (by omega)
      clear hlies hA2 hv2 hl hM0 hz0 hsl
      have hcc : (128 : Int) ≤ (c : Int) := by omega
      go_wp2_with fail
      go_quiet (fail)
      have hb03 : Below w.heap.size w (w2.drewN nq) := below_drewN hb02 nq
      have hz3 : MetaBox (w2.drewN nq) w.heap.size Meta.zero := hz2
      clear k1 k2 k3 hz2 hb02
      generalize w2.drewN nq = w3 at hb03 hz3 ⊢
      obtain ⟨d0, d1, d2, d3, d4⟩ := meta_cells hz3
      obtain ⟨f0, f1, f2, f3, f4⟩ := hz3.frozen
      have HZ := Lib.hid hz3
      clear hz3
      go_wp2
      rw [setBox_zero]
      exact bodyPost_ret (results_box rfl _ w.heap.size Meta.zero _ _ rfl rfl (setBox_box HZ.out)) rfl ⟨rfl, setBox_below Meta.zero hb03 (Nat.le_refl _)⟩
  · exact rget_short A c l w (by omega)
end Go.Proofs.Ytfbjjblgcgjndaa
