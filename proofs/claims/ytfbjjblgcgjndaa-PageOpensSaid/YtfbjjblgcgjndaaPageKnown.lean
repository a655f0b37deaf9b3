/- What the chapter's examples fix, of pages. -/
import Derived.Test.YtfbjjblgcgjndaaBest1
set_option linter.unusedVariables false
set_option linter.unusedSimpArgs false
namespace Go.Proofs.Ytfbjjblgcgjndaa
open Go.RowKit

theorem isPage_number (n m k : Nat) (p : List Nat) (h : SealOk k p) (hn : n < 4294967296) (hm : m < 4294967296) : IsPage n (sealed k m p) ↔ n = m := by
  constructor
  · intro hp
    obtain ⟨h1, h2, h3, h4⟩ := sealed_parts k m p h.2.2
    have h5 := hp.2.2.2
    rw [h1, h3] at h5
    have h6 : ((sealed k m p).drop 4).take 4 = ((sealed k n p).drop 4).take 4 := congrArg (fun l => (l.drop 4).take 4) h5
    rw [h4, (sealed_parts k n p h.2.2).2.2.2] at h6
    exact le_inj n m 4 hn hm h6.symm
  · rintro rfl
    exact isPage_sealed k n p h
def exM : Meta := ⟨1, 0, 0, 2, 0⟩
theorem ex1 : bestOf (List.replicate 1024 0) (sector exM) = exM := by decide +kernel
theorem ex2 : bestErr (List.replicate 1024 0) (sector exM) = 0 := by decide +kernel
theorem ex3 : bestOf (sector exM) [] = Meta.zero := by decide +kernel
theorem ex4 : bestErr (sector exM) [] = 151 := by decide +kernel
theorem ex5 : (sealed 1 7 [97, 98]).take 14 = [67, 80, 1, 0, 7, 0, 0, 0, 2, 0, 0, 0, 97, 98] := by decide +kernel
theorem ex6 : MayBe exM := by decide
theorem ex7 : exM.Ok := ⟨by decide, by decide, by decide, by decide, by decide⟩
theorem Buf.inner {n0 : Nat} {w : World} {v : Value} {l : List Nat} (h : Buf n0 w v l) (hb : Bytes l) (hs : l.length ≤ 1000000) : ∃ A c, v = .slice A l.length c ∧ (⟨A, l, c⟩ : Inner).Ok w := by
  obtain ⟨A, c, rfl, hA, hn, hc, hm⟩ := h.at
  exact ⟨A, c, rfl, hA, hn, hc, by show l.length ≤ 140737488351232; omega, hb⟩

set_option maxRecDepth 100000 in
set_option maxHeartbeats 1000000 in
theorem known08_any (w : World) : Calls Try.prog 68 #[] w fun e w' => e = .returned (.bool true) ∧ Below w.heap.size w w' := by
  have hpb : Bytes [97, 98] := by decide
  have hso : SealOk 1 [97, 98] := by decide
  have hSb := sealed_bytes 1 7 [97, 98] (by decide) hpb
  have hSl := sealed_length 1 7 [97, 98] (by decide)
  have hy := isPage_sealed 1 7 [97, 98] hso
  have hn : ¬ IsPage 8 (sealed 1 7 [97, 98]) := fun h => absurd ((isPage_number 8 7 1 [97, 98] hso (by decide) (by decide)).1 h) (by decide)
  obtain ⟨hk1, _, hk3, _⟩ := sealed_parts 1 7 [97, 98] (by decide)
  have h14 := ex5
  generalize hS : sealed 1 7 [97, 98] = S at *
  have hput := fun w => put_ok exM w ex7 ex6
  have hMl := sector_length exM
  have hMb := sector_bytes exM
  have e1 := ex1
  have e2 := ex2
  have e3 := ex3
  have e4 := ex4
  generalize sector exM = T at *
  have hZl : (List.replicate 1024 (0 : Nat)).length = 1024 := by simp
  have hZb := Bytes.zeros 1024
  have hZn : (madeCells #[.int .u8 0] 1024).toList = ns .u8 (List.replicate 1024 0) := made_ns .u8 1024
  generalize List.replicate 1024 (0 : Nat) = Z at *
  have kc := fun (w : World) (C : Array Value) (n c : Nat) => Lib.run_convert_bytes_const (P := Try.prog) w 23 5 C n c Try.underlying23 Try.underlying5
  have HSl := Lib.hid hSl
  have HMl := Lib.hid hMl
  have HZl := Lib.hid hZl
  have H14 := Lib.hid h14
  have HK1 := Lib.hid hk1
  have HK3 := Lib.hid hk3
  have E1 := Lib.hid e1
  have E2 := Lib.hid e2
  have E3 := Lib.hid e3
  have E4 := Lib.hid e4
  have HPut := Lib.hid hput
  have HZn := Lib.hid hZn
  clear hSl hMl hZl h14 hk1 hk3 e1 e2 e3 e4 hput hZn
  go_enter Try.func68, Try.ntmps68
  go_wp2_with fail
  have hA0 : At (w.alloc (.cells (ns .u8 [97, 98]).toArray 5 (2, 3))) (some ⟨w.heap.size, 0, none⟩) (ns .u8 [97, 98]) := At.whole (heap_alloc_new w _)
  refine (seal_ok 1 7 (some ⟨w.heap.size, 0, none⟩) 2 [97, 98] _ hso (by decide) (by decide) hpb hA0 (by simp)).mono ?_
  rintro e w1 ⟨v1, rfl, hv1, hb1, hs1⟩
  replace hb1 := below_next0 (below_alloc0 (Below.refl w.heap.size w) (.cells (ns .u8 [97, 98]).toArray 5 (2, 3))) hb1
  clear hA0
  rw [hS] at hv1
  obtain ⟨A1, c1, rfl, hI1⟩ := hv1.inner hSb (by have := HSl.out; omega)
  have hc1 : 1024 ≤ c1 := by have := hI1.le; have h2 := HSl.out; simp only at this; omega
  go_wp2_with fail
  refine (open_yes 7 ⟨A1, S, c1⟩ w1 hI1 (by decide) hy).mono ?_
  rintro e w2 ⟨v2, rfl, hv2, hb2, hs2⟩
  rw [show kindOf (⟨A1, S, c1⟩ : Inner).l = kindOf S from rfl, HK1.out]
  rw [show payOf (⟨A1, S, c1⟩ : Inner).l = payOf S from rfl, HK3.out] at hv2
  have hI2 := hI1.below hb2
  replace hb2 := below_next0 hb1 hb2
  obtain ⟨A2, c2, rfl, hP2⟩ := hv2.inner hpb (by simp)
  go_wp2_with fail
  refine (open_no 8 ⟨A1, S, c1⟩ w2 hI2 (by decide) hn).mono ?_
  rintro e w3 ⟨rfl, hb3⟩
  have hI3 := hI2.below hb3
  have hP3 := hP2.below hb3
  replace hb3 := below_next0 hb2 hb3
  go_wp2_with fail
  refine (HPut.out _).mono ?_
  rintro e w4 ⟨v4, rfl, hv4, hb4, hs4⟩
  have hI4 := hI3.below hb4
  have hP4 := hP3.below hb4
  replace hb4 := below_next0 hb3 hb4
  obtain ⟨A4, c4, rfl, hM4⟩ := hv4.inner hMb (by have := HMl.out; omega)
  go_wp2_with (with_reducible refine wp_make rfl _ _ 23 5 (.int .u8 0) 1 1 rfl Try.underlying23 Try.info5 w4.heap.size .i64 .i64 _ _ 1024 rfl rfl rfl rfl (by omega) (by omega) (Nat.le_refl _) ?_; intro w5 ho5 hg5)
  have hb5 := below_of_grown hg5
  have hI5 := hI4.below hb5
  have hP5 := hP4.below hb5
  have hM5 := hM4.below hb5
  replace hb5 := below_next0 hb4 hb5
  have hZ5 : (⟨some ⟨w4.heap.size, 0, none⟩, Z, 1024⟩ : Inner).Ok w5 := by
    have hl := HZl.out
    refine ⟨?_, by simp, by simp only; omega, by simp only; omega, hZb⟩
    have hx : w5.ownsRow w4.heap.size 5 1 (.slice (some ⟨w4.heap.size, 0, none⟩) 1024 1024) 1024 (ns .u8 Z) := by rw [← HZn.out]; exact ho5
    obtain ⟨A', c', e, hA', _⟩ := At.own hx
    cases e
    exact hA'
  have hbest := best_any ⟨some ⟨w4.heap.size, 0, none⟩, Z, 1024⟩ ⟨A4, T, c4⟩ w5 hZ5 hM5
  simp only at hbest
  rw [E1.out, E2.out, HZl.out, show exM.val = .agg #[.int .u64 1, .int .u32 0, .int .u32 0, .int .u32 2, .int .u64 0] from rfl] at hbest
  have HBest := Lib.hid hbest
  clear hbest
  refine HBest.out.mono ?_
  rintro e w6 ⟨rfl, hb6⟩
  have hI6 := hI5.below hb6
  have hP6 := hP5.below hb6
  have hM6 := hM5.below hb6
  replace hb6 := below_next0 hb5 hb6
  go_wp2_with fail
  change Calls Try.prog 75 _ (w6.alloc (.cells exM.cells 116)) _
  have hX6 := MetaBox.new w6 exM
  have hI7 := hI6.below (below_alloc0 (Below.refl _ _) (.cells exM.cells 116))
  have hP7 := hP6.below (below_alloc0 (Below.refl _ _) (.cells exM.cells 116))
  have hM7 := hM6.below (below_alloc0 (Below.refl _ _) (.cells exM.cells 116))
  have hb7 := below_alloc0 hb6 (.cells exM.cells 116)
  generalize w6.alloc (.cells exM.cells 116) = w7 at hX6 hI7 hP7 hM7 hb7 ⊢
  have hbest2 := best_any ⟨A4, T, c4⟩ ⟨none, [], 0⟩ w7 hM7 ⟨At.nil _ _, fun _ => rfl, Nat.le_refl _, by simp, Bytes.nil⟩
  simp only [List.length_nil] at hbest2
  rw [E3.out, E4.out, show Meta.zero.val = .agg #[.int .u64 0, .int .u32 0, .int .u32 0, .int .u32 0, .int .u64 0] from rfl] at hbest2
  refine hbest2.mono ?_
  rintro e w8 ⟨rfl, hb8⟩
  have hI8 := hI7.below hb8
  have hP8 := hP7.below hb8
  have hX8 := hX6.below hb8 (box_lt hX6)
  replace hb8 := below_next0 hb7 hb8
  have k1 : ∀ W, Below w8.heap.size w8 W → (convert 23 9 (.slice A1 14 c1)).run Try.prog W = .ok (.string ⟨#[67, 80, 1, 0, 7, 0, 0, 0, 2, 0, 0, 0, 97, 98]⟩) W := fun W hb => by
    have h1 : At W A1 (ns .u8 (S.take 14)) := (hI8.lies.takes 14).below hb
    rw [H14.out] at h1
    exact conv_str (P := Try.prog) W A1 c1 [67, 80, 1, 0, 7, 0, 0, 0, 2, 0, 0, 0, 97, 98] 14 rfl h1 Try.underlying23 Try.underlying5 Try.underlying9
  have k2 : ∀ W, Below w8.heap.size w8 W → (convert 23 9 (.slice A2 2 c2)).run Try.prog W = .ok (.string ⟨#[97, 98]⟩) W := fun W hb => by
    have h1 : At W A2 (ns .u8 [97, 98]) := hP8.lies.below hb
    exact conv_str (P := Try.prog) W A2 c2 [97, 98] 2 rfl h1 Try.underlying23 Try.underlying5 Try.underlying9
  have g1 := k1 _ (below_alloc0 (Below.refl _ _) (.cells Meta.zero.cells 116))
  have g2 := k2 _ (below_alloc0 (Below.refl _ _) (.cells Meta.zero.cells 116))
  have hX9 := hX8.old (.cells Meta.zero.cells 116)
  have hb9 := below_alloc0 hb8 (.cells Meta.zero.cells 116)
  clear k1 k2
  go_upto_region 7 with (fail)
  change Code.wp _ _ _ _ (w8.alloc (.cells Meta.zero.cells 116))
  generalize w8.alloc (.cells Meta.zero.cells 116) = w9 at g1 g2 hX9 hb9 ⊢
  have hX9' : w9.heap[w6.heap.size]? = some (.cells exM.cells 116 (0, 0)) := hX9
  obtain ⟨x0, x1, x2, x3, x4⟩ := meta_cells hX9
  have x0' : w9.cell? ⟨w6.heap.size, 0, none⟩ = some (.int .u64 1) := x0
  have x1' : w9.cell? ⟨w6.heap.size, 1, none⟩ = some (.int .u32 0) := x1
  have x2' : w9.cell? ⟨w6.heap.size, 2, none⟩ = some (.int .u32 0) := x2
  have x3' : w9.cell? ⟨w6.heap.size, 3, none⟩ = some (.int .u32 2) := x3
  have x4' : w9.cell? ⟨w6.heap.size, 4, none⟩ = some (.int .u64 0) := x4
  clear x0 x1 x2 x3 x4 hX9'
  have hls := HSl.out
  have hc14 : (14 : Int) ≤ (c1 : Int) := by omega
  go_wp2
  go_ret
  exact ⟨rfl, hb9⟩
end Go.Proofs.Ytfbjjblgcgjndaa
