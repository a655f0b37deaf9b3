/- Walks of the statements of layer 1. -/
import Derived.Test.YtfbjjblgcgjndaaCrc2
import Derived.Test.YtfbjjblgcgjndaaR00a
set_option linter.unusedVariables false
set_option linter.unusedSimpArgs false
namespace Go.Proofs.Ytfbjjblgcgjndaa
open Go.RowKit

theorem sum_1 : Crc.sum [49, 50, 51, 52, 53, 54, 55, 56, 57] = 3808858755 := by decide +kernel
theorem sum_2 : Crc.sum [0] = 1383945041 := by decide +kernel
theorem sum_3 : Crc.sum [] = 0 := by decide +kernel

set_option maxRecDepth 100000 in
set_option maxHeartbeats 400000 in
theorem known_any (w : World) : Calls Try.prog 30 #[] w fun e w' => e = .returned (.bool true) ∧ Below w.heap.size w w' := by
  have kc := fun (w : World) (C : Array Value) (n c : Nat) => Lib.run_convert_bytes_const (P := Try.prog) w 23 5 C n c Try.underlying23 Try.underlying5
  go_enter Try.func30, Try.ntmps30
  go_wp2_with fail
  refine (sum_any _ 9 [49, 50, 51, 52, 53, 54, 55, 56, 57] _ (by decide) (by decide) (At.whole (heap_alloc_new w _))).mono ?_
  rintro e w1 ⟨rfl, hb⟩
  rw [sum_1]
  go_wp2_with fail
  refine (sum_any _ 1 [0] _ (by decide) (by decide) (At.whole (heap_alloc_new w1 _))).mono ?_
  rintro e w2 ⟨rfl, hb2⟩
  rw [sum_2]
  go_wp2_with fail
  refine (sum_any none 0 [] _ (by decide) (by decide) (At.nil _ _)).mono ?_
  rintro e w3 ⟨rfl, hb3⟩
  rw [sum_3]
  go_wp2
  go_ret
  exact ⟨rfl, below_next0 (below_next0 (below_next0 (below_next0 (below_alloc0 (Below.refl _ _) _) hb) (below_alloc0 (Below.refl _ _) _)) hb2) hb3⟩

set_option maxRecDepth 100000 in
set_option maxHeartbeats 400000 in
theorem crcSums_any (s : Nat) (A : Option Addr) (c : Nat) (l : List Nat) (w : World) (hs : s < 4294967296) (hl : Bytes l) (hA : At w A (ns .u8 l)) (hnil : A = none → c = 0) :
    Calls Try.prog 3 #[.int .u32 (s : Int), .slice A l.length c] w fun e w' => e = .returned (.bool true) ∧ Below w.heap.size w w' := by
  by_cases hbig : l.length ≤ 100000
  · have hn : l.length ≤ 140737488351232 := by omega
    go_enter Try.func3, Try.ntmps3
    go_wp2_with fail
    refine (lent_any A c l w (by omega) hA hnil).mono ?_
    rintro e w1 ⟨rfl, hL1, hb1⟩
    go_wp2_with fail
    refine (sum_any _ _ l w1 hl hn hL1.at).mono ?_
    rintro e w2 ⟨rfl, hb2⟩
    have hL2 := hL1.below hb2
    go_wp2_with fail
    refine (more_any s _ _ l w2 hs hl hn hL2.at).mono ?_
    rintro e w3 ⟨rfl, hb3⟩
    have hL3 := hL2.below hb3
    go_wp2_with fail
    refine (more_any s _ _ l w3 hs hl hn hL3.at).mono ?_
    rintro e w4 ⟨rfl, hb4⟩
    have hL4 := hL3.below hb4
    have h4 : Below w.heap.size w w4 := below_next0 (below_next0 (below_next0 hb1 hb2) hb3) hb4
    go_wp2_with fail
    refine (whole_any _ A c l w4 (by omega) hL4 (hA.below h4)).mono ?_
    rintro e w5 ⟨rfl, hb5⟩
    have h5 := below_next0 h4 hb5
    go_wp2_with fail
    refine (known_any w5).mono ?_
    rintro e w6 ⟨rfl, hb6⟩
    have h6 := below_next0 h5 hb6
    go_wp2_with fail
    refine (rsum_any A c l w6 hl hn (hA.below h6)).mono ?_
    rintro e w7 ⟨rfl, rfl⟩
    go_wp2_with fail
    refine (rmore_any s A c l w6 hs hl hn (hA.below h6)).mono ?_
    rintro e w7 ⟨rfl, rfl⟩
    go_wp2
    go_ret
    exact ⟨by simp, h6⟩
  · go_enter Try.func3, Try.ntmps3
    go_wp2_with fail
    go_ret
    exact ⟨rfl, Below.refl _ _⟩

theorem sum_n (A : Option Addr) (n c : Nat) (l : List Nat) (w : World) (hn : l.length = n) (hl : Bytes l) (hs : n ≤ 140737488351232) (hA : At w A (ns .u8 l)) :
    Calls Try.prog 27 #[.slice A n c] w fun e w' => e = .returned (.int .u32 (Crc.sum l : Nat)) ∧ Below w.heap.size w w' := by
  subst hn; exact sum_any A c l w hl hs hA
end Go.Proofs.Ytfbjjblgcgjndaa
