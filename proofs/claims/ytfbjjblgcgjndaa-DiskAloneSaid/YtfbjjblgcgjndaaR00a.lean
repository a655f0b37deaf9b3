/- Contracts of the small helpers on byte lists: SameBytes, LentBytes, WholeBytes, SpoilBytes. -/
import Derived.Test.YtfbjjblgcgjndaaLib
set_option linter.unusedVariables false
set_option linter.unusedSimpArgs false
namespace Go.Proofs.Ytfbjjblgcgjndaa
open Go.RowKit

theorem list_ext_nth {l m : List Nat} (h : l.length = m.length) (hk : ∀ i, i < l.length → nth l i = nth m i) : l = m := by
  apply List.ext_getElem h
  intro i h1 h2
  have := hk i h1
  rwa [nth_get l i h1, nth_get m i h2] at this

/-- all places below k are the same -/
def Agree (l m : List Nat) (k : Nat) : Prop := ∀ i, i < k → nth l i = nth m i
theorem Agree.zero (l m : List Nat) : Agree l m 0 := fun i hi => by omega
theorem Agree.succ {l m : List Nat} {k : Nat} (h : Agree l m k) (e : nth l k = nth m k) : Agree l m (k + 1) := fun i hi => by
  by_cases h1 : i = k
  · subst h1; exact e
  · exact h i (by omega)

set_option maxRecDepth 100000 in
set_option maxHeartbeats 400000 in
theorem same_any (A B : Option Addr) (c d : Nat) (l m : List Nat) (w : World) (hl : l.length ≤ 140737488355328) (hm : m.length ≤ 140737488355328) (hA : At w A (ns .u8 l)) (hB : At w B (ns .u8 m)) :
    Calls Try.prog 45 #[.slice A l.length c, .slice B m.length d] w fun e w' => e = .returned (.bool (decide (l = m))) ∧ Below w.heap.size w w' := by
  by_cases hlen : l.length = m.length
  · have h0 : ((l.length : Int) != (m.length : Int)) = false := by simp [hlen]
    have h0' : (l.length == m.length) = true := by simp [hlen]
    have HL := Lib.hid hlen
    clear hlen
    go_enter Try.func45, Try.ntmps45
    go_wp2
    go_loopw [5] (fun i wr => ∃ k : Nat, k ≤ l.length ∧ i = .int .i64 k ∧ Agree l m k ∧ Below w.heap.size w wr) (fun i _ => l.length - (intOf i).toNat)
    case atStart => exact ⟨0, by omega, rfl, Agree.zero l m, Below.refl _ _⟩
    case round =>
      clear h0 h0'
      obtain ⟨k, hk, rfl, hag, hb⟩ := hrel
      by_cases hlt : k < l.length
      · obtain ⟨b1, o1, rfl, hc1⟩ := (hA.below hb).num k hlt
        have hlt' : k < m.length := by have := HL.out; omega
        obtain ⟨b2, o2, rfl, hc2⟩ := (hB.below hb).num k hlt'
        by_cases he : nth l k = nth m k
        · have hne : (((nth l k : Nat) : Int) != ((nth m k : Nat) : Int)) = false := by simp [he]
          have HE := Lib.hid he
          clear he
          go_wp2
          go_quiet (fail)
          go_wp2
          go_roundw
          case rel => exact ⟨k + 1, by omega, by go_num, hag.succ HE.out, below_drewN hb _⟩
          case measure => simp [intOf]; omega
        · have hne : (((nth l k : Nat) : Int) != ((nth m k : Nat) : Int)) = true := by simp; omega
          have hfin : decide (l = m) = false := by
            rw [decide_eq_false_iff_not]; intro e; exact he (by rw [e])
          have HF := Lib.hid hfin
          clear he hfin
          go_wp2
          go_quiet (fail)
          go_wp2
          go_ret
          exact ⟨by rw [HF.out]; rfl, below_drewN hb _⟩
      · obtain rfl : k = l.length := by omega
        have hfin : decide (l = m) = true := by
          rw [decide_eq_true_eq]; exact list_ext_nth HL.out hag
        have HF := Lib.hid hfin
        clear hfin
        go_wp2
        go_ret
        exact ⟨by rw [HF.out]; rfl, hb⟩
  · have h0 : ((l.length : Int) != (m.length : Int)) = true := by simp; omega
    have h0' : (l.length == m.length) = false := by simp; omega
    have hfin : decide (l = m) = false := by
      rw [decide_eq_false_iff_not]; intro e; exact hlen (by rw [e])
    have HF := Lib.hid hfin
    clear hlen hfin
    go_enter Try.func45, Try.ntmps45
    go_wp2
    go_ret
    exact ⟨by rw [HF.out]; rfl, Below.refl _ _⟩

/-- the block of a lent list: it, and two marks behind -/
def LentB (w : World) (b : Nat) (l : List Nat) : Prop := w.heap[b]? = some (.cells (ns .u8 (l ++ [91, 92])).toArray 5 (0, 0))
theorem LentB.below {w w' : World} {b : Nat} {l : List Nat} (h : LentB w b l) (hb : Below w.heap.size w w') : LentB w' b l := by
  have : b < w.heap.size := (Array.getElem?_eq_some_iff.1 h).1
  unfold LentB; rw [hb.block b this]; exact h
theorem LentB.at {w : World} {b : Nat} {l : List Nat} (h : LentB w b l) : At w (some ⟨b, 0, none⟩) (ns .u8 l) := by
  have h1 : At w (some ⟨b, 0, none⟩) (ns .u8 l ++ ns .u8 [91, 92]) := by rw [← ns_append]; exact At.whole h
  exact h1.pre

set_option maxRecDepth 100000 in
set_option maxHeartbeats 400000 in
theorem lent_any (A : Option Addr) (c : Nat) (l : List Nat) (w : World) (hl : l.length ≤ 1000000000) (hA : At w A (ns .u8 l)) (hnil : A = none → c = 0) :
    Calls Try.prog 26 #[.slice A l.length c] w fun e w' => e = .returned (.slice (some ⟨w.heap.size, 0, none⟩) l.length (l.length + 2)) ∧ LentB w' w.heap.size l ∧ Below w.heap.size w w' := by
  go_enter Try.func26, Try.ntmps26
  go_wp2_with (first
    | (with_reducible refine wp_make0 rfl _ _ 23 5 (.int .u8 0) 1 1 rfl Try.underlying23 Try.info5 w.heap.size .i64 .i64 _ (l.length + 2) rfl rfl (by omega) (by omega) (by omega) (Nat.le_refl _) ?_; intro w1 ho1 hg1; have hb1 := below_of_grown hg1)
    | (at_builtin; (refine wp_append_fits rfl (.tmp 8) (.tmp 9) 23 5 (.int .u8 0) 1 1 rfl Try.underlying23 Try.info5 (by decide) w.heap.size w.heap.size 0 (l.length + 2) [] rfl ho1 A l.length c (ns .u8 l) rfl (by simp [ns]) (hA.below hb1) hnil (ns_one .u8 l) (by omega) ?_); intro w2 ho2 hg2; simp only [Nat.zero_add, List.nil_append] at ho2 ⊢)
    | (at_builtin; (refine wp_append_fits rfl (.tmp 11) (.tmp 12) 23 5 (.int .u8 0) 1 1 rfl Try.underlying23 Try.info5 (by decide) w.heap.size w.heap.size l.length (l.length + 2) (ns .u8 l) rfl (ho2.alloc _) (some ⟨w2.heap.size, 0, none⟩) 2 2 [.int .u8 91, .int .u8 92] rfl (by simp) (At.whole (heap_alloc_new w2 _)) (by simp) (ns_one .u8 [91, 92]) (by omega) ?_); intro w3 ho3 hg3))
  go_ret
  refine ⟨rfl, ?_, ?_⟩
  · have := own_full ho3
    unfold LentB
    rw [this, ns_append]; rfl
  · exact below_grown (below_alloc0 (below_grown hb1 hg2 hb1.size (by simp)) _) hg3 (by have := hg2.size; have := hg1.size; simp; omega) (by simp)

set_option maxRecDepth 100000 in
set_option maxHeartbeats 400000 in
theorem whole_any (b : Nat) (B : Option Addr) (d : Nat) (l : List Nat) (w : World) (hl : l.length ≤ 1000000000) (hb : LentB w b l) (hB : At w B (ns .u8 l)) :
    Calls Try.prog 29 #[.slice (some ⟨b, 0, none⟩) l.length (l.length + 2), .slice B l.length d] w fun e w' => e = .returned (.bool true) ∧ Below w.heap.size w w' := by
  have hlen : (ns .u8 (l ++ [91, 92])).length = l.length + 2 := by simp [ns]
  have h1 : w.cell? ⟨b, l.length, none⟩ = some (.int .u8 91) := by
    rw [cell_of_row w b l.length _ 5 (0, 0) hb]; simp [ns]
  have h2 : w.cell? ⟨b, l.length + 1, none⟩ = some (.int .u8 92) := by
    rw [cell_of_row w b (l.length + 1) _ 5 (0, 0) hb]; simp [ns]
  clear hlen
  have HA := hb.at
  have hs := Lib.hid (same_any (some ⟨b, 0, none⟩) B (l.length + 2) d l l w (by omega) (by omega) HA hB)
  go_enter Try.func29, Try.ntmps29
  go_wp2_with (go_at_call 45; refine hs.out.mono ?_; rintro e w1 ⟨rfl, hbel⟩)
  go_ret
  exact ⟨by simp, hbel⟩

set_option maxRecDepth 100000 in
set_option maxHeartbeats 400000 in
theorem spoil_any (b n : Nat) (cs : Array Value) (w : World) (hn : n ≤ 1000000000) (hb : w.heap[b]? = some (.cells cs 5 (0, 0))) (hc : cs.size = n + 2) :
    Calls Try.prog 36 #[.slice (some ⟨b, 0, none⟩) n (n + 2)] w fun e w' => e = .returned (.tuple #[]) ∧ w.grownBy w' (some b) := by
  go_enter Try.func36, Try.ntmps36
  go_wp2
  go_loopw [3] (fun i wr => ∃ k : Nat, k ≤ n + 2 ∧ i = .int .i64 k ∧ (∃ cs : Array Value, wr.heap[b]? = some (.cells cs 5 (0, 0)) ∧ cs.size = n + 2) ∧ w.grownBy wr (some b)) (fun i _ => n + 2 - (intOf i).toNat)
  case atStart => exact ⟨0, by omega, rfl, ⟨cs, hb, hc⟩, World.grownBy.refl _ _⟩
  case round =>
    clear hb hc
    obtain ⟨k, hk, rfl, ⟨cs, hb, hc⟩, hg⟩ := hrel
    by_cases hlt : k < n + 2
    · obtain ⟨u, hcell⟩ : ∃ u, wr.cell? ⟨b, k, none⟩ = some u := ⟨cs[k], by rw [cell_of_row wr b k _ 5 (0, 0) hb]; exact Array.getElem?_eq_getElem (by omega)⟩
      have hfr := frozen_of_row wr b k cs 5 hb
      have HB := Lib.hid hb
      have HC := Lib.hid hc
      clear hb hc
      go_wp2
      go_roundw
      case rel =>
        refine ⟨k + 1, by omega, by go_num, ⟨_, heap_setCell_same wr b k cs 5 _ HB.out, by rw [Array.size_setIfInBounds]; exact HC.out⟩, ?_⟩
        exact ⟨hg.os, hg.tape, hg.output, by simp [World.setCell]; exact hg.size, fun i hi hne => by
          rw [Below.heap_setCell _ _ _ _ (by intro e; exact hne (by rw [e]))]; exact hg.block i hi hne⟩
      case measure => simp [intOf]; omega
    · obtain rfl : k = n + 2 := by omega
      go_wp2
      go_end0
      exact ⟨rfl, hg⟩
end Go.Proofs.Ytfbjjblgcgjndaa
