/- Contracts of the law's filled and of SameInts. -/
import Derived.Test.YtfbjjblgcgjndaaBuf
import Derived.Test.YtfbjjblgcgjndaaFrame
import Derived.Test.YtfbjjblgcgjndaaR00a
set_option linter.unusedVariables false
set_option linter.unusedSimpArgs false
namespace Go.Proofs.Ytfbjjblgcgjndaa
open Go.RowKit

def GivesFill (l : List Nat) (w : World) (e : Ending) (w' : World) : Prop := ∃ A c, e = .returned (.slice A l.length c) ∧ Buf w.heap.size w' (.slice A l.length c) l ∧ Below w.heap.size w w'
set_option maxRecDepth 100000 in
set_option maxHeartbeats 1000000 in
theorem fill7_any (n c : Nat) (w : World) (hn : n ≤ 1000000) (hc : c < 256) : Calls Try.prog 49 #[.int .i64 (n : Int), .int .u8 (c : Int)] w (GivesFill (List.replicate n c) w) := by
  have HM := made_ns .u8 n
  go_enter Try.func49, Try.ntmps49
  go_wp2_with (with_reducible refine wp_make rfl _ _ 23 5 (.int .u8 0) 1 1 rfl Try.underlying23 Try.info5 w.heap.size .i64 .i64 _ _ n rfl rfl rfl rfl (by omega) (by omega) (Nat.le_refl _) ?_; intro w1 ho1 hg1)
  have hb1 : Below w.heap.size w w1 := below_of_grown hg1
  have hX : w1.heap[w.heap.size]? = some (.cells (ns .u8 (fillAt (fun i => c) 0 0 n)).toArray 5 (0, 0)) := by
    have := own_full ho1
    rw [this, fillAt_zero, ← HM]; simp [Value.cells]
  clear ho1 hg1 HM
  go_loopw [6] (fun i wr => ∃ k : Nat, k ≤ n ∧ i = .int .i64 k ∧ wr.heap[w.heap.size]? = some (.cells (ns .u8 (fillAt (fun i => c) 0 k n)).toArray 5 (0, 0)) ∧ Below w.heap.size w wr) (fun i _ => n - (intOf i).toNat)
  case atStart => exact ⟨0, by omega, rfl, hX, hb1⟩
  case round =>
    clear hX hb1
    obtain ⟨k, hk, rfl, hX, hb⟩ := hrel
    by_cases hlt : k < n
    · have hset := Lib.hid (fillAt_set .u8 (fun i => c) 0 k n hlt)
      have HX := Lib.hid hX
      have hcx : wr.cell? ⟨w.heap.size, k, none⟩ = some (.int .u8 ((0 : Nat) : Int)) := by
        rw [cell_of_row wr _ k _ 5 (0, 0) hX]
        simp [ns, fillAt_get _ 0 k n k hlt]
      have hfr := frozen_of_row wr w.heap.size k _ 5 hX
      clear hX
      go_wp2
      case roundEnd =>
        refine ⟨⟨k + 1, by omega, by go_num, ?_, hb.setCell (Nat.le_refl _) _⟩, by simp [intOf]; omega⟩
        have h1 := heap_setCell_same wr w.heap.size k _ 5 (.int .u8 (c : Int)) HX.out
        rw [hset.out] at h1
        exact h1
    · obtain rfl : k = n := by omega
      have hB : Buf w.heap.size wr (.slice (some ⟨w.heap.size, 0, none⟩) (List.replicate k c).length k) (List.replicate k c) := by
        have e : fillAt (fun i => c) 0 k k = List.replicate k c := by
          rw [fillAt_all]; exact List.map_const' .. |>.trans (by simp)
        rw [e] at hX
        refine ⟨by simp [ns], .inr ⟨w.heap.size, k, (ns .u8 (List.replicate k c)).toArray, by simp, Nat.le_refl _, hX, by simp, by simp only [maxLen]; omega, by simp [ns], by simp [ns]⟩⟩
      rw [List.length_replicate] at hB
      have HB := Lib.hid hB
      clear hB hX
      go_wp2
      go_ret
      exact ⟨some ⟨w.heap.size, 0, none⟩, k, by rw [List.length_replicate]; rfl, by rw [List.length_replicate]; exact HB.out, hb⟩

/-- whole numbers as cells -/
def is64 (l : List Nat) : List Value := ns .i64 l
set_option maxRecDepth 100000 in
set_option maxHeartbeats 400000 in
theorem sameInts_any (A B : Option Addr) (c d : Nat) (l m : List Nat) (w : World) (hl : l.length ≤ 140737488355328) (hm : m.length ≤ 140737488355328) (hA : At w A (ns .i64 l)) (hB : At w B (ns .i64 m)) :
    Calls Try.prog 59 #[.slice A l.length c, .slice B m.length d] w fun e w' => e = .returned (.bool (decide (l = m))) ∧ Below w.heap.size w w' := by
  by_cases hlen : l.length = m.length
  · have h0 : ((l.length : Int) != (m.length : Int)) = false := by simp [hlen]
    have h0' : (l.length == m.length) = true := by simp [hlen]
    have HL := Lib.hid hlen
    clear hlen
    go_enter Try.func59, Try.ntmps59
    go_wp2
    go_loopw [5] (fun i wr => ∃ k : Nat, k ≤ l.length ∧ i = .int .i64 k ∧ Agree l m k ∧ Below w.heap.size w wr) (fun i _ => l.length - (intOf i).toNat)
    case atStart => exact ⟨0, by omega, rfl, Agree.zero l m, Below.refl _ _⟩
    case round =>
      clear h0 h0'
      obtain ⟨k, hk, rfl, hag, hb⟩ := hrel
      by_cases hlt : k < l.length
      · obtain ⟨b1, o1, rfl, hc1⟩ := (hA.below hb).num k hlt
        have hlt' : k < m.length := by have := HL.out; omega
        obtain ⟨b2, o2, rfl, hc2⟩ := (hB.below hb).num k hlt'
        by_cases he : nth l k = nth m k
        · have hne : (((nth l k : Nat) : Int) != ((nth m k : Nat) : Int)) = false := by simp [he]
          have HE := Lib.hid he
          clear he
          go_wp2
          go_quiet (fail)
          go_wp2
          go_roundw
          case rel => exact ⟨k + 1, by omega, by go_num, hag.succ HE.out, below_drewN hb _⟩
          case measure => simp [intOf]; omega
        · have hne : (((nth l k : Nat) : Int) != ((nth m k : Nat) : Int)) = true := by simp; omega
          have hfin : decide (l = m) = false := by
            rw [decide_eq_false_iff_not]; intro e; exact he (by rw [e])
          have HF := Lib.hid hfin
          clear he hfin
          go_wp2
          go_quiet (fail)
          go_wp2
          go_ret
          exact ⟨by rw [HF.out]; rfl, below_drewN hb _⟩
      · obtain rfl : k = l.length := by omega
        have hfin : decide (l = m) = true := by
          rw [decide_eq_true_eq]; exact list_ext_nth HL.out hag
        have HF := Lib.hid hfin
        clear hfin
        go_wp2
        go_ret
        exact ⟨by rw [HF.out]; rfl, hb⟩
  · have h0 : ((l.length : Int) != (m.length : Int)) = true := by simp; omega
    have h0' : (l.length == m.length) = false := by simp; omega
    have hfin : decide (l = m) = false := by
      rw [decide_eq_false_iff_not]; intro e; exact hlen (by rw [e])
    have HF := Lib.hid hfin
    clear hlen hfin
    go_enter Try.func59, Try.ntmps59
    go_wp2
    go_ret
    exact ⟨by rw [HF.out]; rfl, Below.refl _ _⟩
end Go.Proofs.Ytfbjjblgcgjndaa
