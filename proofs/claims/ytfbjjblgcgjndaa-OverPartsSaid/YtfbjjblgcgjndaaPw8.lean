/- Joined texts: SameR, OwnNil, OwnBools, Book, Book2, Book3, OwnR. -/
import Derived.Test.YtfbjjblgcgjndaaPw1
import Derived.Test.YtfbjjblgcgjndaaPw4
import Derived.Test.YtfbjjblgcgjndaaPw6
import Derived.Test.YtfbjjblgcgjndaaPw7
set_option linter.unusedVariables false
set_option linter.unusedSimpArgs false

/- SameBytes (45) as a quiet call; SameRows (41). -/
namespace Go.Proofs.Ytfbjjblgcgjndaa
open Go.RowKit

theorem drew_more {w wr : World} (h : ∃ n, wr = w.drewN n) (m : Nat) : ∃ n, wr.drewN m = w.drewN n := by
  obtain ⟨n, rfl⟩ := h
  exact ⟨n + m, World.drewN_drewN _ _ _⟩
set_option maxRecDepth 100000 in
set_option maxHeartbeats 400000 in
theorem same_drew (A B : Option Addr) (c d : Nat) (l m : List Nat) (w : World) (hl : l.length ≤ 140737488355328) (hm : m.length ≤ 140737488355328) (hA : At w A (ns .u8 l)) (hB : At w B (ns .u8 m)) :
    Calls Try.prog 45 #[.slice A l.length c, .slice B m.length d] w fun e w' => e = .returned (.bool (decide (l = m))) ∧ ∃ n, w' = w.drewN n := by
  by_cases hlen : l.length = m.length
  · have h0 : ((l.length : Int) != (m.length : Int)) = false := by simp [hlen]
    have h0' : (l.length == m.length) = true := by simp [hlen]
    have HL := Lib.hid hlen
    clear hlen
    go_enter Try.func45, Try.ntmps45
    go_wp2
    go_loopw [5] (fun i wr => ∃ k : Nat, k ≤ l.length ∧ i = .int .i64 k ∧ Agree l m k ∧ ∃ n, wr = w.drewN n) (fun i _ => l.length - (intOf i).toNat)
    case atStart => exact ⟨0, by omega, rfl, Agree.zero l m, 0, rfl⟩
    case round =>
      clear h0 h0'
      obtain ⟨k, hk, rfl, hag, hd⟩ := hrel
      have hb : Below w.heap.size w wr := by obtain ⟨nd, rfl⟩ := hd; exact below_drewN (Below.refl _ _) nd
      have HD := Lib.hid hd
      clear hd
      by_cases hlt : k < l.length
      · obtain ⟨b1, o1, rfl, hc1⟩ := (hA.below hb).num k hlt
        have hlt' : k < m.length := by have := HL.out; omega
        obtain ⟨b2, o2, rfl, hc2⟩ := (hB.below hb).num k hlt'
        by_cases he : nth l k = nth m k
        · have hne : (((nth l k : Nat) : Int) != ((nth m k : Nat) : Int)) = false := by simp [he]
          have HE := Lib.hid he
          clear he
          go_wp2
          go_quiet (fail)
          go_wp2
          go_roundw
          case rel => exact ⟨k + 1, by omega, by go_num, hag.succ HE.out, drew_more HD.out _⟩
          case measure => simp [intOf]; omega
        · have hne : (((nth l k : Nat) : Int) != ((nth m k : Nat) : Int)) = true := by simp; omega
          have hfin : decide (l = m) = false := by
            rw [decide_eq_false_iff_not]; intro e; exact he (by rw [e])
          have HF := Lib.hid hfin
          clear he hfin
          go_wp2
          go_quiet (fail)
          go_wp2
          go_ret
          exact ⟨by rw [HF.out]; rfl, drew_more HD.out _⟩
      · obtain rfl : k = l.length := by omega
        have hfin : decide (l = m) = true := by
          rw [decide_eq_true_eq]; exact list_ext_nth HL.out hag
        have HF := Lib.hid hfin
        clear hfin
        go_wp2
        go_ret
        exact ⟨by rw [HF.out]; rfl, HD.out⟩
  · have h0 : ((l.length : Int) != (m.length : Int)) = true := by simp; omega
    have h0' : (l.length == m.length) = false := by simp; omega
    have hfin : decide (l = m) = false := by
      rw [decide_eq_false_iff_not]; intro e; exact hlen (by rw [e])
    have HF := Lib.hid hfin
    clear hlen hfin
    go_enter Try.func45, Try.ntmps45
    go_wp2
    go_ret
    exact ⟨by rw [HF.out]; rfl, 0, rfl⟩

set_option maxRecDepth 100000 in
set_option maxHeartbeats 1000000 in
theorem samerows_yes (A B : Option Addr) (N c d : Nat) (F G : Nat → Value) (Y Y' : Nat → Prop) (L : List (List Nat)) (w : World) (hN : N ≤ 1000000) (hA : At w A (lst F N)) (hB : At w B (lst G N)) (hF : ∀ i, i < N → RowIn w Y (F i) (L.getD i [])) (hG : ∀ i, i < N → RowIn w Y' (G i) (L.getD i [])) (hL : ∀ i, i < N → (L.getD i []).length ≤ 140737488355328) :
    Calls Try.prog 41 #[.slice A N c, .slice B N d] w fun e w' => e = .returned (.bool true) ∧ Below w.heap.size w w' := by
  have HA := Lib.hid hA
  have HB := Lib.hid hB
  have HF := Lib.hid hF
  have HG := Lib.hid hG
  have HL := Lib.hid hL
  clear hA hB hF hG hL
  go_enter Try.func41, Try.ntmps41
  go_wp2
  go_loopw [5] (fun i wr => ∃ k : Nat, k ≤ N ∧ i = .int .i64 k ∧ Below w.heap.size w wr) (fun i _ => N - (intOf i).toNat)
  case atStart => exact ⟨0, by omega, rfl, Below.refl _ _⟩
  case round =>
    obtain ⟨k, hk, rfl, hb⟩ := hrel
    by_cases hlt : k < N
    · obtain ⟨b1, o1, rfl, hc1⟩ := (HA.out.below hb) (by intro h; have := congrArg List.length h; rw [lst_length] at this; simp at this; omega)
      have hc1 := hc1 k _ (lst_get F N k hlt)
      obtain ⟨b2, o2, rfl, hc2⟩ := (HB.out.below hb) (by intro h; have := congrArg List.length h; rw [lst_length] at this; simp at this; omega)
      have hc2 := hc2 k _ (lst_get G N k hlt)
      obtain ⟨A1, cA, e1, hA1, _, _⟩ := HF.out k hlt
      obtain ⟨A2, cB, e2, hA2, _, _⟩ := HG.out k hlt
      rw [e1] at hc1
      rw [e2] at hc2
      have hs := fun q => same_drew A1 A2 cA cB (L.getD k []) (L.getD k []) (wr.drewN q) (HL.out k hlt) (HL.out k hlt) ((hA1.below hb).below (below_drewN (Below.refl _ _) q)) ((hA2.below hb).below (below_drewN (Below.refl _ _) q))
      have hki : (k : Int) < (N : Int) := by omega
      have HS := Lib.hid hs
      have HB' := Lib.hid hb
      clear hs hb e1 e2 hA1 hA2
      generalize (L.getD k []) = r at *
      have hdd : decide (r = r) = true := by simp
      rw [hdd] at HS
      clear hdd
      go_wp2
      go_quiet ((go_at_call 45; exact Calls.quiet_of (HS.out _)))
      go_wp2
      go_roundw
      case rel => exact ⟨k + 1, by omega, by go_num, below_drewN HB'.out _⟩
      case measure => simp only [intOf]; omega
    · obtain rfl : k = N := by omega
      go_wp2
      go_ret
      exact ⟨rfl, hb⟩
end Go.Proofs.Ytfbjjblgcgjndaa

/- The helpers own.. of the book, at lists that are nil. -/
namespace Go.Proofs.Ytfbjjblgcgjndaa
open Go.RowKit

set_option maxRecDepth 100000 in
theorem own_nil_95 (w : World) : Calls Try.prog 95 #[.slice none 0 0] w fun e w' => e = .returned (.bool true) ∧ w = w' := by
  go_enter Try.func95, Try.ntmps95
  go_wp2
  go_loop [3] (fun i => i = .int .i64 0) (fun _ => 0)
  case atStart => rfl
  case round =>
    obtain rfl := hrel
    go_wp2
    go_loop [6] (fun i => i = .int .i64 0) (fun _ => 0)
    case atStart => rfl
    case round =>
      obtain rfl := hrel
      go_wp2
      go_loop [9] (fun i => i = .int .i64 0) (fun _ => 0)
      case atStart => rfl
      case round =>
        obtain rfl := hrel
        go_wp2
        go_ret
        exact ⟨rfl, rfl⟩
set_option maxRecDepth 100000 in
theorem own_nil_96 (w : World) : Calls Try.prog 96 #[.slice none 0 0] w fun e w' => e = .returned (.bool true) ∧ w = w' := by
  go_enter Try.func96, Try.ntmps96
  go_wp2
  go_loop [3] (fun i => i = .int .i64 0) (fun _ => 0)
  case atStart => rfl
  case round =>
    obtain rfl := hrel
    go_wp2
    go_loop [6] (fun i => i = .int .i64 0) (fun _ => 0)
    case atStart => rfl
    case round =>
      obtain rfl := hrel
      go_wp2
      go_loop [9] (fun i => i = .int .i64 0) (fun _ => 0)
      case atStart => rfl
      case round =>
        obtain rfl := hrel
        go_wp2
        go_ret
        exact ⟨rfl, rfl⟩
set_option maxRecDepth 100000 in
theorem own_nil_97 (w : World) : Calls Try.prog 97 #[.slice none 0 0] w fun e w' => e = .returned (.bool true) ∧ w = w' := by
  go_enter Try.func97, Try.ntmps97
  go_wp2
  go_loop [3] (fun i => i = .int .i64 0) (fun _ => 0)
  case atStart => rfl
  case round =>
    obtain rfl := hrel
    go_wp2
    go_loop [6] (fun i => i = .int .i64 0) (fun _ => 0)
    case atStart => rfl
    case round =>
      obtain rfl := hrel
      go_wp2
      go_loop [9] (fun i => i = .int .i64 0) (fun _ => 0)
      case atStart => rfl
      case round =>
        obtain rfl := hrel
        go_wp2
        go_ret
        exact ⟨rfl, rfl⟩
set_option maxRecDepth 100000 in
theorem own_nil_98 (w : World) : Calls Try.prog 98 #[.slice none 0 0] w fun e w' => e = .returned (.bool true) ∧ w = w' := by
  go_enter Try.func98, Try.ntmps98
  go_wp2
  go_loop [3] (fun i => i = .int .i64 0) (fun _ => 0)
  case atStart => rfl
  case round =>
    obtain rfl := hrel
    go_wp2
    go_loop [6] (fun i => i = .int .i64 0) (fun _ => 0)
    case atStart => rfl
    case round =>
      obtain rfl := hrel
      go_wp2
      go_loop [9] (fun i => i = .int .i64 0) (fun _ => 0)
      case atStart => rfl
      case round =>
        obtain rfl := hrel
        go_wp2
        go_ret
        exact ⟨rfl, rfl⟩
set_option maxRecDepth 100000 in
theorem own_nil_99 (w : World) : Calls Try.prog 99 #[.slice none 0 0] w fun e w' => e = .returned (.bool true) ∧ w = w' := by
  go_enter Try.func99, Try.ntmps99
  go_wp2
  go_loop [3] (fun i => i = .int .i64 0) (fun _ => 0)
  case atStart => rfl
  case round =>
    obtain rfl := hrel
    go_wp2
    go_loop [6] (fun i => i = .int .i64 0) (fun _ => 0)
    case atStart => rfl
    case round =>
      obtain rfl := hrel
      go_wp2
      go_loop [9] (fun i => i = .int .i64 0) (fun _ => 0)
      case atStart => rfl
      case round =>
        obtain rfl := hrel
        go_wp2
        go_ret
        exact ⟨rfl, rfl⟩
set_option maxRecDepth 100000 in
theorem own_nil_100 (w : World) : Calls Try.prog 100 #[.slice none 0 0] w fun e w' => e = .returned (.bool true) ∧ w = w' := by
  go_enter Try.func100, Try.ntmps100
  go_wp2
  go_loop [3] (fun i => i = .int .i64 0) (fun _ => 0)
  case atStart => rfl
  case round =>
    obtain rfl := hrel
    go_wp2
    go_loop [6] (fun i => i = .int .i64 0) (fun _ => 0)
    case atStart => rfl
    case round =>
      obtain rfl := hrel
      go_wp2
      go_loop [9] (fun i => i = .int .i64 0) (fun _ => 0)
      case atStart => rfl
      case round =>
        obtain rfl := hrel
        go_wp2
        go_ret
        exact ⟨rfl, rfl⟩
set_option maxRecDepth 100000 in
theorem own_nil_101 (w : World) : Calls Try.prog 101 #[.slice none 0 0] w fun e w' => e = .returned (.bool true) ∧ w = w' := by
  go_enter Try.func101, Try.ntmps101
  go_wp2
  go_loop [3] (fun i => i = .int .i64 0) (fun _ => 0)
  case atStart => rfl
  case round =>
    obtain rfl := hrel
    go_wp2
    go_loop [6] (fun i => i = .int .i64 0) (fun _ => 0)
    case atStart => rfl
    case round =>
      obtain rfl := hrel
      go_wp2
      go_loop [9] (fun i => i = .int .i64 0) (fun _ => 0)
      case atStart => rfl
      case round =>
        obtain rfl := hrel
        go_wp2
        go_ret
        exact ⟨rfl, rfl⟩
set_option maxRecDepth 100000 in
theorem own_nil_102 (w : World) : Calls Try.prog 102 #[.slice none 0 0] w fun e w' => e = .returned (.bool true) ∧ w = w' := by
  go_enter Try.func102, Try.ntmps102
  go_wp2
  go_loop [3] (fun i => i = .int .i64 0) (fun _ => 0)
  case atStart => rfl
  case round =>
    obtain rfl := hrel
    go_wp2
    go_loop [6] (fun i => i = .int .i64 0) (fun _ => 0)
    case atStart => rfl
    case round =>
      obtain rfl := hrel
      go_wp2
      go_loop [9] (fun i => i = .int .i64 0) (fun _ => 0)
      case atStart => rfl
      case round =>
        obtain rfl := hrel
        go_wp2
        go_ret
        exact ⟨rfl, rfl⟩
set_option maxRecDepth 100000 in
theorem own_nil_103 (w : World) : Calls Try.prog 103 #[.slice none 0 0] w fun e w' => e = .returned (.bool true) ∧ w = w' := by
  go_enter Try.func103, Try.ntmps103
  go_wp2
  go_loop [3] (fun i => i = .int .i64 0) (fun _ => 0)
  case atStart => rfl
  case round =>
    obtain rfl := hrel
    go_wp2
    go_loop [6] (fun i => i = .int .i64 0) (fun _ => 0)
    case atStart => rfl
    case round =>
      obtain rfl := hrel
      go_wp2
      go_loop [9] (fun i => i = .int .i64 0) (fun _ => 0)
      case atStart => rfl
      case round =>
        obtain rfl := hrel
        go_wp2
        go_ret
        exact ⟨rfl, rfl⟩
set_option maxRecDepth 100000 in
theorem own_nil_104 (w : World) : Calls Try.prog 104 #[.slice none 0 0] w fun e w' => e = .returned (.bool true) ∧ w = w' := by
  go_enter Try.func104, Try.ntmps104
  go_wp2
  go_loop [3] (fun i => i = .int .i64 0) (fun _ => 0)
  case atStart => rfl
  case round =>
    obtain rfl := hrel
    go_wp2
    go_loop [6] (fun i => i = .int .i64 0) (fun _ => 0)
    case atStart => rfl
    case round =>
      obtain rfl := hrel
      go_wp2
      go_loop [9] (fun i => i = .int .i64 0) (fun _ => 0)
      case atStart => rfl
      case round =>
        obtain rfl := hrel
        go_wp2
        go_ret
        exact ⟨rfl, rfl⟩
set_option maxRecDepth 100000 in
theorem own_nil_105 (w : World) : Calls Try.prog 105 #[.slice none 0 0] w fun e w' => e = .returned (.bool true) ∧ w = w' := by
  go_enter Try.func105, Try.ntmps105
  go_wp2
  go_loop [3] (fun i => i = .int .i64 0) (fun _ => 0)
  case atStart => rfl
  case round =>
    obtain rfl := hrel
    go_wp2
    go_loop [6] (fun i => i = .int .i64 0) (fun _ => 0)
    case atStart => rfl
    case round =>
      obtain rfl := hrel
      go_wp2
      go_loop [9] (fun i => i = .int .i64 0) (fun _ => 0)
      case atStart => rfl
      case round =>
        obtain rfl := hrel
        go_wp2
        go_ret
        exact ⟨rfl, rfl⟩
set_option maxRecDepth 100000 in
theorem own_nil_106 (w : World) : Calls Try.prog 106 #[.slice none 0 0] w fun e w' => e = .returned (.bool true) ∧ w = w' := by
  go_enter Try.func106, Try.ntmps106
  go_wp2
  go_loop [3] (fun i => i = .int .i64 0) (fun _ => 0)
  case atStart => rfl
  case round =>
    obtain rfl := hrel
    go_wp2
    go_loop [6] (fun i => i = .int .i64 0) (fun _ => 0)
    case atStart => rfl
    case round =>
      obtain rfl := hrel
      go_wp2
      go_loop [9] (fun i => i = .int .i64 0) (fun _ => 0)
      case atStart => rfl
      case round =>
        obtain rfl := hrel
        go_wp2
        go_ret
        exact ⟨rfl, rfl⟩
set_option maxRecDepth 100000 in
theorem own_nil_107 (w : World) : Calls Try.prog 107 #[.slice none 0 0] w fun e w' => e = .returned (.bool true) ∧ w = w' := by
  go_enter Try.func107, Try.ntmps107
  go_wp2
  go_loop [3] (fun i => i = .int .i64 0) (fun _ => 0)
  case atStart => rfl
  case round =>
    obtain rfl := hrel
    go_wp2
    go_loop [6] (fun i => i = .int .i64 0) (fun _ => 0)
    case atStart => rfl
    case round =>
      obtain rfl := hrel
      go_wp2
      go_loop [9] (fun i => i = .int .i64 0) (fun _ => 0)
      case atStart => rfl
      case round =>
        obtain rfl := hrel
        go_wp2
        go_ret
        exact ⟨rfl, rfl⟩
set_option maxRecDepth 100000 in
theorem own_nil_108 (w : World) : Calls Try.prog 108 #[.slice none 0 0] w fun e w' => e = .returned (.bool true) ∧ w = w' := by
  go_enter Try.func108, Try.ntmps108
  go_wp2
  go_loop [3] (fun i => i = .int .i64 0) (fun _ => 0)
  case atStart => rfl
  case round =>
    obtain rfl := hrel
    go_wp2
    go_loop [6] (fun i => i = .int .i64 0) (fun _ => 0)
    case atStart => rfl
    case round =>
      obtain rfl := hrel
      go_wp2
      go_loop [9] (fun i => i = .int .i64 0) (fun _ => 0)
      case atStart => rfl
      case round =>
        obtain rfl := hrel
        go_wp2
        go_ret
        exact ⟨rfl, rfl⟩
set_option maxRecDepth 100000 in
theorem own_nil_109 (w : World) : Calls Try.prog 109 #[.slice none 0 0] w fun e w' => e = .returned (.bool true) ∧ w = w' := by
  go_enter Try.func109, Try.ntmps109
  go_wp2
  go_loop [3] (fun i => i = .int .i64 0) (fun _ => 0)
  case atStart => rfl
  case round =>
    obtain rfl := hrel
    go_wp2
    go_loop [6] (fun i => i = .int .i64 0) (fun _ => 0)
    case atStart => rfl
    case round =>
      obtain rfl := hrel
      go_wp2
      go_loop [9] (fun i => i = .int .i64 0) (fun _ => 0)
      case atStart => rfl
      case round =>
        obtain rfl := hrel
        go_wp2
        go_ret
        exact ⟨rfl, rfl⟩
set_option maxRecDepth 100000 in
theorem own_nil_110 (w : World) : Calls Try.prog 110 #[.slice none 0 0] w fun e w' => e = .returned (.bool true) ∧ w = w' := by
  go_enter Try.func110, Try.ntmps110
  go_wp2
  go_loop [3] (fun i => i = .int .i64 0) (fun _ => 0)
  case atStart => rfl
  case round =>
    obtain rfl := hrel
    go_wp2
    go_loop [6] (fun i => i = .int .i64 0) (fun _ => 0)
    case atStart => rfl
    case round =>
      obtain rfl := hrel
      go_wp2
      go_loop [9] (fun i => i = .int .i64 0) (fun _ => 0)
      case atStart => rfl
      case round =>
        obtain rfl := hrel
        go_wp2
        go_ret
        exact ⟨rfl, rfl⟩
set_option maxRecDepth 100000 in
theorem own_nil_111 (w : World) : Calls Try.prog 111 #[.slice none 0 0] w fun e w' => e = .returned (.bool true) ∧ w = w' := by
  go_enter Try.func111, Try.ntmps111
  go_wp2
  go_loop [3] (fun i => i = .int .i64 0) (fun _ => 0)
  case atStart => rfl
  case round =>
    obtain rfl := hrel
    go_wp2
    go_loop [6] (fun i => i = .int .i64 0) (fun _ => 0)
    case atStart => rfl
    case round =>
      obtain rfl := hrel
      go_wp2
      go_loop [9] (fun i => i = .int .i64 0) (fun _ => 0)
      case atStart => rfl
      case round =>
        obtain rfl := hrel
        go_wp2
        go_ret
        exact ⟨rfl, rfl⟩
set_option maxRecDepth 100000 in
theorem own_nil_113 (w : World) : Calls Try.prog 113 #[.slice none 0 0] w fun e w' => e = .returned (.bool true) ∧ w = w' := by
  go_enter Try.func113, Try.ntmps113
  go_wp2
  go_loop [3] (fun i => i = .int .i64 0) (fun _ => 0)
  case atStart => rfl
  case round =>
    obtain rfl := hrel
    go_wp2
    go_loop [6] (fun i => i = .int .i64 0) (fun _ => 0)
    case atStart => rfl
    case round =>
      obtain rfl := hrel
      go_wp2
      go_loop [9] (fun i => i = .int .i64 0) (fun _ => 0)
      case atStart => rfl
      case round =>
        obtain rfl := hrel
        go_wp2
        go_ret
        exact ⟨rfl, rfl⟩
set_option maxRecDepth 100000 in
theorem own_nil_114 (w : World) : Calls Try.prog 114 #[.slice none 0 0] w fun e w' => e = .returned (.bool true) ∧ w = w' := by
  go_enter Try.func114, Try.ntmps114
  go_wp2
  go_loop [3] (fun i => i = .int .i64 0) (fun _ => 0)
  case atStart => rfl
  case round =>
    obtain rfl := hrel
    go_wp2
    go_loop [6] (fun i => i = .int .i64 0) (fun _ => 0)
    case atStart => rfl
    case round =>
      obtain rfl := hrel
      go_wp2
      go_loop [9] (fun i => i = .int .i64 0) (fun _ => 0)
      case atStart => rfl
      case round =>
        obtain rfl := hrel
        go_wp2
        go_ret
        exact ⟨rfl, rfl⟩
set_option maxRecDepth 100000 in
theorem own_nil_115 (w : World) : Calls Try.prog 115 #[.slice none 0 0] w fun e w' => e = .returned (.bool true) ∧ w = w' := by
  go_enter Try.func115, Try.ntmps115
  go_wp2
  go_loop [3] (fun i => i = .int .i64 0) (fun _ => 0)
  case atStart => rfl
  case round =>
    obtain rfl := hrel
    go_wp2
    go_loop [6] (fun i => i = .int .i64 0) (fun _ => 0)
    case atStart => rfl
    case round =>
      obtain rfl := hrel
      go_wp2
      go_loop [9] (fun i => i = .int .i64 0) (fun _ => 0)
      case atStart => rfl
      case round =>
        obtain rfl := hrel
        go_wp2
        go_ret
        exact ⟨rfl, rfl⟩
set_option maxRecDepth 100000 in
theorem own_nil_116 (w : World) : Calls Try.prog 116 #[.slice none 0 0] w fun e w' => e = .returned (.bool true) ∧ w = w' := by
  go_enter Try.func116, Try.ntmps116
  go_wp2
  go_loop [3] (fun i => i = .int .i64 0) (fun _ => 0)
  case atStart => rfl
  case round =>
    obtain rfl := hrel
    go_wp2
    go_loop [6] (fun i => i = .int .i64 0) (fun _ => 0)
    case atStart => rfl
    case round =>
      obtain rfl := hrel
      go_wp2
      go_loop [9] (fun i => i = .int .i64 0) (fun _ => 0)
      case atStart => rfl
      case round =>
        obtain rfl := hrel
        go_wp2
        go_ret
        exact ⟨rfl, rfl⟩
set_option maxRecDepth 100000 in
theorem own_nil_117 (w : World) : Calls Try.prog 117 #[.slice none 0 0] w fun e w' => e = .returned (.bool true) ∧ w = w' := by
  go_enter Try.func117, Try.ntmps117
  go_wp2
  go_loop [3] (fun i => i = .int .i64 0) (fun _ => 0)
  case atStart => rfl
  case round =>
    obtain rfl := hrel
    go_wp2
    go_loop [6] (fun i => i = .int .i64 0) (fun _ => 0)
    case atStart => rfl
    case round =>
      obtain rfl := hrel
      go_wp2
      go_loop [9] (fun i => i = .int .i64 0) (fun _ => 0)
      case atStart => rfl
      case round =>
        obtain rfl := hrel
        go_wp2
        go_ret
        exact ⟨rfl, rfl⟩
end Go.Proofs.Ytfbjjblgcgjndaa

/- ownBools at a list that is nil. -/
namespace Go.Proofs.Ytfbjjblgcgjndaa
open Go.RowKit

theorem Try.info73 : (Try.prog.info? 73).map (fun i => (i.zero, i.size, i.bytes)) = some (some (.slice none 0 0), 1, 24) := by kernel_rfl
set_option maxRecDepth 100000 in
theorem own_nil_112 (w : World) : Calls Try.prog 112 #[.slice none 0 0] w fun e w' => e = .returned (.bool true) ∧ Below w.heap.size w w' := by
  go_enter Try.func112, Try.ntmps112
  go_wp2_with (with_reducible refine wp_make rfl _ _ 60 73 (.slice none 0 0) 1 24 rfl Try.underlying60 Try.info73 w.heap.size .i64 .i64 _ _ 0 rfl rfl rfl rfl (by omega) (by omega) (Nat.le_refl _) ?_; intro w5 ho5 hg5)
  have hb5 := below_of_grown hg5
  go_loopw [4] (fun i wr => i = .int .i64 0 ∧ Below w.heap.size w wr) (fun _ _ => 0)
  case atStart => exact ⟨rfl, hb5⟩
  case round =>
    clear hb5
    obtain ⟨rfl, hb5⟩ := hrel
    go_wp2
    go_ret
    exact ⟨rfl, hb5⟩
end Go.Proofs.Ytfbjjblgcgjndaa

/- The book: lists that came out, each with memory of its own; it passes. -/
namespace Go.Proofs.Ytfbjjblgcgjndaa
open Go.RowKit

def nilV : Value := .slice none 0 0
/-- the book's block: a slice a field -/
def BookAt (w : World) (b : Nat) (F : Nat → Value) : Prop := w.heap[b]? = some (.cells (lst F 23).toArray 67 (0, 0))
theorem BookAt.cell {w : World} {b : Nat} {F : Nat → Value} (h : BookAt w b F) (i : Nat) (hi : i < 23) : w.cell? ⟨b, i, none⟩ = some (F i) := by
  rw [cell_of_row w b i _ 67 (0, 0) h]
  have := lst_get F 23 i hi
  simpa using this
theorem BookAt.frozen {w : World} {b : Nat} {F : Nat → Value} (h : BookAt w b F) (i : Nat) : w.frozen? ⟨b, i, none⟩ = false := frozen_of_row w b i _ 67 h
theorem BookAt.lt {w : World} {b : Nat} {F : Nat → Value} (h : BookAt w b F) : b < w.heap.size := (Array.getElem?_eq_some_iff.1 h).1
theorem lst_set (F : Nat → Value) (k i : Nat) (x : Value) : (lst F k).set i x = lst (turn F i x) k := by
  apply List.ext_getElem?
  intro q
  by_cases hq : q < k
  · rw [lst_get _ _ _ hq]
    by_cases e : q = i
    · subst e; rw [turn_same, List.getElem?_set_self (by rw [lst_length]; exact hq)]
    · rw [turn_other _ _ _ _ e, List.getElem?_set_ne (by omega), lst_get _ _ _ hq]
  · rw [List.getElem?_eq_none (by rw [List.length_set, lst_length]; omega), List.getElem?_eq_none (by rw [lst_length]; omega)]
theorem BookAt.set {w : World} {b : Nat} {F : Nat → Value} (h : BookAt w b F) (i : Nat) (x : Value) : BookAt (w.setCell ⟨b, i, none⟩ x) b (turn F i x) := by
  have := heap_setCell_same w b i _ 67 x h
  unfold BookAt
  rw [this, ← lst_set]
  simp
theorem BookAt.keep {w w' : World} {b : Nat} {F : Nat → Value} {G : Nat → Prop} (h : BookAt w b F) (hc : Chg G w w') (hG : ¬ G b) : BookAt w' b F := by
  unfold BookAt; rw [hc.block b h.lt hG]; exact h

/-- what a shelf's rows are made of, and the rows' own type -/
def ety : Nat → TypeId
  | 0 => 5
  | 2 => 3
  | 9 => 23
  | _ => 0
def sty : Nat → TypeId
  | 0 => 23
  | 2 => 86
  | 9 => 30
  | _ => 0
inductive Item where
  | book
  | list (j : Nat)
  | row (j i : Nat)
deriving DecidableEq
def Item.has (b : Nat) (F : Nat → Value) (live : Nat → Prop) (k : Nat → Nat) (u : Nat → Nat → Value) : Item → Nat → Prop
  | .book, g => g = b
  | .list j, g => live j ∧ blk (F j) g
  | .row j i, g => live j ∧ i < k j ∧ blk (u j i) g
structure Books (n0 : Nat) (w : World) (b : Nat) (F : Nat → Value) (live : Nat → Prop) (k : Nat → Nat) (u : Nat → Nat → Value) (n : Nat → Nat → Nat) (c : Nat → Nat → List Value) : Prop where
  at_ : BookAt w b F
  base : n0 ≤ b
  list : ∀ j, live j → w.ownsRow n0 (sty j) 1 (F j) (k j) (lst (u j) (k j))
  row : ∀ j i, live j → i < k j → Rw n0 (ety j) w (u j i) (n j i) (c j i)
  sep : ∀ x y, x ≠ y → ∀ g, Item.has b F live k u x g → ¬ Item.has b F live k u y g
def foot (b : Nat) (F : Nat → Value) (live : Nat → Prop) (k : Nat → Nat) (u : Nat → Nat → Value) (g : Nat) : Prop := ∃ x, Item.has b F live k u x g

section
variable {n0 : Nat} {w w' : World} {b : Nat} {F : Nat → Value} {live : Nat → Prop} {k : Nat → Nat} {u : Nat → Nat → Value} {n : Nat → Nat → Nat} {c : Nat → Nat → List Value}
theorem Books.lt (h : Books n0 w b F live k u n c) {x : Item} {g : Nat} (hx : Item.has b F live k u x g) : n0 ≤ g ∧ g < w.heap.size := by
  cases x with
  | book => obtain rfl : g = b := hx; exact ⟨h.base, h.at_.lt⟩
  | list j => exact row_lt (h.list j hx.1) hx.2
  | row j i => exact (h.row j i hx.1 hx.2.1).lt hx.2.2
theorem Books.keep {G : Nat → Prop} (h : Books n0 w b F live k u n c) (hc : Chg G w w') (hG : ∀ g, foot b F live k u g → ¬ G g) : Books n0 w' b F live k u n c :=
  ⟨h.at_.keep hc (hG b ⟨.book, rfl⟩), h.base, fun j hj => own_chg (h.list j hj) hc (fun g hg => hG g ⟨.list j, hj, hg⟩), fun j i hj hi => (h.row j i hj hi).chg hc (fun g hg => hG g ⟨.row j i, hj, hi, hg⟩), h.sep⟩
theorem Books.below (h : Books n0 w b F live k u n c) (hb : Below w.heap.size w w') : Books n0 w' b F live k u n c :=
  h.keep (G := fun _ => False) (.of_below hb) (fun _ _ h => h)
/-- a shelf is looked at no more -/
theorem Books.drop (h : Books n0 w b F live k u n c) {live' : Nat → Prop} (hl : ∀ j, live' j → live j) : Books n0 w b F live' k u n c :=
  have up : ∀ x g, Item.has b F live' k u x g → Item.has b F live k u x g := fun x g hx => by
    cases x with
    | book => exact hx
    | list j => exact ⟨hl j hx.1, hx.2⟩
    | row j i => exact ⟨hl j hx.1, hx.2⟩
  ⟨h.at_, h.base, fun j hj => h.list j (hl j hj), fun j i hj hi => h.row j i (hl j hj) hi, fun x y hxy g hx hy => h.sep x y hxy g (up x g hx) (up y g hy)⟩
/-- a list more on a shelf -/
theorem Books.add (h : Books n0 w b F live k u n c) (j : Nat) (hj : live j) (x : Value) (nx : Nat) (cx : List Value) (L' : Value) (hx : Rw n0 (ety j) w' x nx cx) (hfx : ∀ g, blk x g → g < w.heap.size ∧ ¬ foot b F live k u g)
    (ha : BookAt w' b (turn F j L')) (hl : w'.ownsRow n0 (sty j) 1 L' (k j + 1) (lst (u j) (k j) ++ [x])) (hc : Chg (fun g => g = b ∨ blk (F j) g) w w') (hL : ∀ g, blk L' g → blk (F j) g ∨ w.heap.size ≤ g) :
    Books n0 w' b (turn F j L') live (turn k j (k j + 1)) (turn u j (turn (u j) (k j) x)) (turn n j (turn (n j) (k j) nx)) (turn c j (turn (c j) (k j) cx)) := by
  have hlst : lst (turn (u j) (k j) x) (k j + 1) = lst (u j) (k j) ++ [x] := by
    rw [lst_succ, turn_same]
    congr 1
    exact lst_congr fun i hi => turn_other _ _ _ _ (by omega)
  have isRow : ∀ q i, live q → i < k q → ∀ g, blk (u q i) g → ¬ (g = b ∨ blk (F j) g) := by
    intro q i hq hi g hg h2
    rcases h2 with rfl | h2
    · exact h.sep (.row q i) .book (by simp) g ⟨hq, hi, hg⟩ rfl
    · exact h.sep (.row q i) (.list j) (by simp) g ⟨hq, hi, hg⟩ ⟨hj, h2⟩
  have isList : ∀ q, live q → q ≠ j → ∀ g, blk (F q) g → ¬ (g = b ∨ blk (F j) g) := by
    intro q hq hqj g hg h2
    rcases h2 with rfl | h2
    · exact h.sep (.list q) .book (by simp) g ⟨hq, hg⟩ rfl
    · exact h.sep (.list q) (.list j) (by simpa using hqj) g ⟨hq, hg⟩ ⟨hj, h2⟩
  -- what holds now, held before, or is the new list, or the list's new block
  have key : ∀ y g, Item.has b (turn F j L') live (turn k j (k j + 1)) (turn u j (turn (u j) (k j) x)) y g → (Item.has b F live k u y g) ∨ (y = .row j (k j) ∧ blk x g) ∨ (y = .list j ∧ w.heap.size ≤ g) := by
    intro y g hy
    cases y with
    | book => exact .inl hy
    | list q =>
      obtain ⟨h1, h2⟩ := hy
      by_cases e : q = j
      · subst e
        rw [turn_same] at h2
        rcases hL g h2 with h3 | h3
        · exact .inl ⟨h1, h3⟩
        · exact .inr (.inr ⟨rfl, h3⟩)
      · rw [turn_other _ _ _ _ e] at h2
        exact .inl ⟨h1, h2⟩
    | row q i =>
      obtain ⟨h1, h2, h3⟩ := hy
      by_cases e : q = j
      · subst e
        rw [turn_same] at h2 h3
        by_cases e2 : i = k q
        · subst e2
          rw [turn_same] at h3
          exact .inr (.inl ⟨rfl, h3⟩)
        · rw [turn_other _ _ _ _ e2] at h3
          exact .inl ⟨h1, by omega, h3⟩
      · rw [turn_other _ _ _ _ e] at h2 h3
        exact .inl ⟨h1, h2, h3⟩
  refine ⟨ha, h.base, fun q hq => ?_, fun q i hq hi => ?_, fun y z hyz g hy hz => ?_⟩
  · by_cases e : q = j
    · subst e
      rw [turn_same, turn_same, turn_same, hlst]; exact hl
    · rw [turn_other _ _ _ _ e, turn_other _ _ _ _ e, turn_other _ _ _ _ e]
      exact own_chg (h.list q hq) hc (isList q hq e)
  · by_cases e : q = j
    · subst e
      rw [turn_same] at hi
      rw [turn_same, turn_same, turn_same]
      by_cases e2 : i = k q
      · subst e2
        rw [turn_same, turn_same, turn_same]; exact hx
      · rw [turn_other _ _ _ _ e2, turn_other _ _ _ _ e2, turn_other _ _ _ _ e2]
        exact (h.row q i hq (by omega)).chg hc (isRow q i hq (by omega))
    · rw [turn_other _ _ _ _ e] at hi
      rw [turn_other _ _ _ _ e, turn_other _ _ _ _ e, turn_other _ _ _ _ e]
      exact (h.row q i hq hi).chg hc (isRow q i hq hi)
  · rcases key y g hy with h1 | ⟨rfl, h1⟩ | ⟨rfl, h1⟩ <;> rcases key z g hz with h2 | ⟨rfl, h2⟩ | ⟨rfl, h2⟩
    · exact h.sep y z hyz g h1 h2
    · exact (hfx g h2).2 ⟨y, h1⟩
    · have := (h.lt h1).2; omega
    · exact (hfx g h1).2 ⟨z, h2⟩
    · exact hyz rfl
    · have := (hfx g h1).1; omega
    · have := (h.lt h2).2; omega
    · have := (hfx g h2).1; omega
    · exact hyz rfl
/-- the shelf's rows, as own.. asks them -/
theorem Books.apart (h : Books n0 w b F live k u n c) (j : Nat) (hj : live j) (X : Nat → Prop) (hX : ∀ g, X g → g = b ∨ blk (F j) g) : Apart n0 (ety j) w (k j) (u j) (n j) (c j) X :=
  ⟨fun i hi => h.row j i hj hi, fun p q hp hq hpq g hg hg' => h.sep (.row j p) (.row j q) (by simpa using hpq) g ⟨hj, hp, hg⟩ ⟨hj, hq, hg'⟩, fun i hi g hg hx => by
    rcases hX g hx with rfl | h2
    · exact h.sep (.row j i) .book (by simp) g ⟨hj, hi, hg⟩ rfl
    · exact h.sep (.row j i) (.list j) (by simp) g ⟨hj, hi, hg⟩ ⟨hj, h2⟩⟩
end
end Go.Proofs.Ytfbjjblgcgjndaa

/- Contracts of the book's methods. -/
namespace Go.Proofs.Ytfbjjblgcgjndaa
open Go.RowKit


set_option maxRecDepth 100000 in
theorem book_bytes (n0 : Nat) (w : World) (b : Nat) (F : Nat → Value) (k : Nat) (us : List Value) (A : Option Addr) (n cp : Nat) (hB : BookAt w b F) (hown : w.ownsRow n0 23 1 (F 0) k us) (hsep : ¬ blk (F 0) b) (hk : k ≤ 1000000000000) (hn0 : n0 ≤ w.heap.size) :
    Calls Try.prog 65 #[.pointer (some ⟨b, 0, none⟩), .slice A n cp] w fun e w' => e = .returned (.tuple #[]) ∧ ∃ L', BookAt w' b (turn F 0 L') ∧ w'.ownsRow n0 23 1 L' (k + 1) (us ++ [.slice A n cp]) ∧ Chg (fun g => g = b ∨ blk (F 0) g) w w' ∧ ∀ g, blk L' g → blk (F 0) g ∨ w.heap.size ≤ g := by
  have c0 := hB.cell 0 (by omega)
  generalize hL : F 0 = L at *
  have HL := Lib.hid hL
  have HB := Lib.hid hB
  clear hL hB
  have h1 := own_below hown (below_alloc0 (Below.refl _ _) (.cells #[.slice A n cp] 23))
  have hAt : At (w.alloc (.cells #[.slice A n cp] 23)) (some ⟨w.heap.size, 0, none⟩) [.slice A n cp] := At.box w _ 23 w.heap.size rfl
  have hn1 : n0 ≤ (w.alloc (.cells #[.slice A n cp] 23)).heap.size := Nat.le_trans hn0 (by simp)
  have hsz : w.heap.size ≤ (w.alloc (.cells #[.slice A n cp] 23)).heap.size := by simp
  have hc1 : Chg (fun g => g = b ∨ blk L g) w (w.alloc (.cells #[.slice A n cp] 23)) := (Chg.refl _ w).alloc _
  go_enter Try.func65, Try.ntmps65
  go_wp2_with (at_builtin; go_loud (refine wp_append2 rfl (.tmp 8) (.tmp 10) 30 23 (.slice none 0 0) 1 24 rfl Try.underlying30 Try.info23 rfl (by decide) n0 L k us rfl h1 (some ⟨w.heap.size, 0, none⟩) 1 1 _ rfl rfl hAt (by simp) (by simp [Value.oneCell']) (by omega) (by omega) hn1 ?_); intro v1 w1 ho1 hor1; obtain ⟨V1, cap1, rfl, _⟩ := own_cells ho1; have hch1 := push_chg hor1; have hbl1 := fun g (hg : blk (.slice V1 (k + 1) cap1) g) => push_blk hor1 hg; have hB1 := (HB.out.keep (G := fun _ => False) (Chg.of_below (below_alloc0 (Below.refl _ _) (.cells #[.slice A n cp] 23))) (fun h => h)).keep hch1 hsep; have hcell1 := hB1.cell 0 (by omega); have hfr1 := hB1.frozen 0; have HB1 := Lib.hid hB1; clear hB1 hor1)
  go_end0
  have hs1 := own_chg ho1 (setCell_chg w1 b 0 (.slice V1 (k + 1) cap1)) (fun g hg e => by
    subst e
    rcases hbl1 _ hg with h | h
    · exact hsep h
    · have := HB.out.lt; simp at h; omega)
  refine ⟨rfl, _, HB1.out.set 0 _, hs1, ?_, fun g hg => ?_⟩
  · exact (hc1.trans hch1 (fun g _ hg => .inr hg)).setCell _ _ (.inl (.inl rfl))
  · rcases hbl1 g hg with h | h
    · exact .inl h
    · exact .inr (Nat.le_trans hsz h)

set_option maxRecDepth 100000 in
theorem book_ints (n0 : Nat) (w : World) (b : Nat) (F : Nat → Value) (k : Nat) (us : List Value) (A : Option Addr) (n cp : Nat) (hB : BookAt w b F) (hown : w.ownsRow n0 86 1 (F 2) k us) (hsep : ¬ blk (F 2) b) (hk : k ≤ 1000000000000) (hn0 : n0 ≤ w.heap.size) :
    Calls Try.prog 158 #[.pointer (some ⟨b, 0, none⟩), .slice A n cp] w fun e w' => e = .returned (.tuple #[]) ∧ ∃ L', BookAt w' b (turn F 2 L') ∧ w'.ownsRow n0 86 1 L' (k + 1) (us ++ [.slice A n cp]) ∧ Chg (fun g => g = b ∨ blk (F 2) g) w w' ∧ ∀ g, blk L' g → blk (F 2) g ∨ w.heap.size ≤ g := by
  have c0 := hB.cell 2 (by omega)
  generalize hL : F 2 = L at *
  have HL := Lib.hid hL
  have HB := Lib.hid hB
  clear hL hB
  have h1 := own_below hown (below_alloc0 (Below.refl _ _) (.cells #[.slice A n cp] 86))
  have hAt : At (w.alloc (.cells #[.slice A n cp] 86)) (some ⟨w.heap.size, 0, none⟩) [.slice A n cp] := At.box w _ 86 w.heap.size rfl
  have hn1 : n0 ≤ (w.alloc (.cells #[.slice A n cp] 86)).heap.size := Nat.le_trans hn0 (by simp)
  have hsz : w.heap.size ≤ (w.alloc (.cells #[.slice A n cp] 86)).heap.size := by simp
  have hc1 : Chg (fun g => g = b ∨ blk L g) w (w.alloc (.cells #[.slice A n cp] 86)) := (Chg.refl _ w).alloc _
  go_enter Try.func158, Try.ntmps158
  go_wp2_with (at_builtin; go_loud (refine wp_append2 rfl (.tmp 8) (.tmp 10) 45 86 (.slice none 0 0) 1 24 rfl Try.underlying45 Try.info86 rfl (by decide) n0 L k us rfl h1 (some ⟨w.heap.size, 0, none⟩) 1 1 _ rfl rfl hAt (by simp) (by simp [Value.oneCell']) (by omega) (by omega) hn1 ?_); intro v1 w1 ho1 hor1; obtain ⟨V1, cap1, rfl, _⟩ := own_cells ho1; have hch1 := push_chg hor1; have hbl1 := fun g (hg : blk (.slice V1 (k + 1) cap1) g) => push_blk hor1 hg; have hB1 := (HB.out.keep (G := fun _ => False) (Chg.of_below (below_alloc0 (Below.refl _ _) (.cells #[.slice A n cp] 86))) (fun h => h)).keep hch1 hsep; have hcell1 := hB1.cell 2 (by omega); have hfr1 := hB1.frozen 2; have HB1 := Lib.hid hB1; clear hB1 hor1)
  go_end0
  have hs1 := own_chg ho1 (setCell_chg w1 b 2 (.slice V1 (k + 1) cap1)) (fun g hg e => by
    subst e
    rcases hbl1 _ hg with h | h
    · exact hsep h
    · have := HB.out.lt; simp at h; omega)
  refine ⟨rfl, _, HB1.out.set 2 _, hs1, ?_, fun g hg => ?_⟩
  · exact (hc1.trans hch1 (fun g _ hg => .inr hg)).setCell _ _ (.inl (.inl rfl))
  · rcases hbl1 g hg with h | h
    · exact .inl h
    · exact .inr (Nat.le_trans hsz h)

theorem Books.chg_rows {n0 : Nat} {w w' : World} {b : Nat} {F : Nat → Value} {live : Nat → Prop} {k : Nat → Nat} {u : Nat → Nat → Value} {n : Nat → Nat → Nat} {c : Nat → Nat → List Value} (h : Books n0 w b F live k u n c) (j : Nat) (hj : live j) {G : Nat → Prop} (hc : Chg G w w') (hG : ∀ g, G g → ∃ i, i < k j ∧ blk (u j i) g) :
    Books n0 w' b F (fun q => live q ∧ q ≠ j) k u n c := by
  refine (h.drop (live' := fun q => live q ∧ q ≠ j) (fun q hq => hq.1)).keep hc fun g hg hG' => ?_
  obtain ⟨i, hi, hgi⟩ := hG g hG'
  obtain ⟨x, hx⟩ := hg
  cases x with
  | book => exact h.sep .book (.row j i) (by simp) g hx ⟨hj, hi, hgi⟩
  | list q => exact h.sep (.list q) (.row j i) (by simp) g ⟨hx.1.1, hx.2⟩ ⟨hj, hi, hgi⟩
  | row q p => exact h.sep (.row q p) (.row j i) (by simp; intro e; exact absurd e hx.1.2) g ⟨hx.1.1, hx.2⟩ ⟨hj, hi, hgi⟩
/-- the shelf's list and rows, as the helper own.. wants them -/
theorem Books.shelf {n0 : Nat} {w : World} {b : Nat} {F : Nat → Value} {live : Nat → Prop} {k : Nat → Nat} {u : Nat → Nat → Value} {n : Nat → Nat → Nat} {c : Nat → Nat → List Value} (h : Books n0 w b F live k u n c) (j : Nat) (hj : live j) :
    ∃ A cp, F j = .slice A (k j) cp ∧ At w A (lst (u j) (k j)) ∧ Apart n0 (ety j) w (k j) (u j) (n j) (c j) (fun g => ∃ a, A = some a ∧ g = a.block) ∧ ∀ a, A = some a → a.block < w.heap.size := by
  obtain ⟨A, cp, e, hA, _, _, _⟩ := At.own (h.list j hj)
  refine ⟨A, cp, e, hA, h.apart j hj _ ?_, ?_⟩
  · rintro g ⟨a, rfl, rfl⟩
    exact .inr (by rw [e]; rfl)
  · rintro a rfl
    exact (row_lt (h.list j hj) (g := a.block) (by rw [e]; rfl)).2

set_option maxRecDepth 100000 in
set_option maxHeartbeats 4000000 in
theorem book_own (n0 : Nat) (w : World) (b : Nat) (F : Nat → Value) (k : Nat → Nat) (u : Nat → Nat → Value) (n : Nat → Nat → Nat) (c : Nat → Nat → List Value) (h : Books n0 w b F (fun j => j = 0 ∨ j = 2) k u n c)
    (hnil : ∀ j, j < 23 → j ≠ 0 → j ≠ 2 → F j = .slice none 0 0) (hk : ∀ j, k j ≤ 1000000000000) (hn : ∀ j i, (j = 0 ∨ j = 2) → i < k j → n j i ≤ 1000000000000) (hn0 : n0 ≤ w.heap.size) :
    Calls Try.prog 44 #[.pointer (some ⟨b, 0, none⟩)] w fun e w' => e = .returned (.bool true) ∧ Chg (foot b F (fun j => j = 0 ∨ j = 2) k u) w w' := by
  obtain ⟨A0, cp0, e0, hA0, hP0, hX0⟩ := h.shelf 0 (.inl rfl)
  have c0 := h.at_.cell 0 (by omega)
  rw [e0] at c0
  have o0 := Lib.hid (own_Bytes n0 A0 cp0 (k 0) (u 0) (n 0) (c 0) w hA0 (hk 0) (fun i hi => hn 0 i (.inl rfl) hi) hP0 hX0 hn0)
  have HH := Lib.hid h
  have HN := Lib.hid hnil
  have HK := Lib.hid hk
  have HNN := Lib.hid hn
  have HN0 := Lib.hid hn0
  clear h hnil hA0 hP0 hX0 e0 hn hk hn0
  go_enter Try.func44, Try.ntmps44
  go_wp2_with fail
  refine o0.out.mono ?_
  rintro e w1 ⟨rfl, hc1⟩
  have h1 := HH.out.chg_rows 0 (.inl rfl) hc1 (fun g hg => hg)
  have hcc1 : Chg (foot b F (fun j => j = 0 ∨ j = 2) k u) w w1 := hc1.mono (fun g _ hg => by obtain ⟨i, hi, hg⟩ := hg; exact ⟨.row 0 i, .inl rfl, hi, hg⟩)
  have d1 := h1.at_.cell 1 (by omega)
  rw [HN.out 1 (by omega) (by omega) (by omega)] at d1
  clear c0 o0 hc1
  go_wp2_with fail
  refine (own_nil_96 _).mono ?_
  rintro e w2 ⟨rfl, rfl⟩
  obtain ⟨A2, cp2, e2, hA2, hP2, hX2⟩ := h1.shelf 2 ⟨.inr rfl, by omega⟩
  have c2 := h1.at_.cell 2 (by omega)
  rw [e2] at c2
  have o2 := Lib.hid (own_Ints n0 A2 cp2 (k 2) (u 2) (n 2) (c 2) w1 hA2 (HK.out 2) (fun i hi => HNN.out 2 i (.inr rfl) hi) hP2 hX2 (Nat.le_trans HN0.out hcc1.size))
  have H1 := Lib.hid h1
  clear hA2 hP2 hX2 e2 h1 d1
  go_wp2_with fail
  refine o2.out.mono ?_
  rintro e w3 ⟨rfl, hc3⟩
  have h3 := H1.out.chg_rows 2 ⟨.inr rfl, by omega⟩ hc3 (fun g hg => hg)
  have hcc3 := hcc1.trans hc3 (fun g _ hg => by obtain ⟨i, hi, hg⟩ := hg; exact ⟨.row 2 i, .inr rfl, hi, hg⟩)
  have hB := h3.at_
  have HC := Lib.hid hcc3
  have HF := HN.out
  have f3 := HF 3 (by omega) (by omega) (by omega)
  have d3 := hB.cell 3 (by omega)
  rw [HF 3 (by omega) (by omega) (by omega)] at d3
  have d4 := hB.cell 4 (by omega)
  rw [HF 4 (by omega) (by omega) (by omega)] at d4
  have d5 := hB.cell 5 (by omega)
  rw [HF 5 (by omega) (by omega) (by omega)] at d5
  have d6 := hB.cell 6 (by omega)
  rw [HF 6 (by omega) (by omega) (by omega)] at d6
  have d7 := hB.cell 7 (by omega)
  rw [HF 7 (by omega) (by omega) (by omega)] at d7
  have d8 := hB.cell 8 (by omega)
  rw [HF 8 (by omega) (by omega) (by omega)] at d8
  have d9 := hB.cell 9 (by omega)
  rw [HF 9 (by omega) (by omega) (by omega)] at d9
  have d10 := hB.cell 10 (by omega)
  rw [HF 10 (by omega) (by omega) (by omega)] at d10
  have d11 := hB.cell 11 (by omega)
  rw [HF 11 (by omega) (by omega) (by omega)] at d11
  have d12 := hB.cell 12 (by omega)
  rw [HF 12 (by omega) (by omega) (by omega)] at d12
  have d13 := hB.cell 13 (by omega)
  rw [HF 13 (by omega) (by omega) (by omega)] at d13
  have d14 := hB.cell 14 (by omega)
  rw [HF 14 (by omega) (by omega) (by omega)] at d14
  have d15 := hB.cell 15 (by omega)
  rw [HF 15 (by omega) (by omega) (by omega)] at d15
  have d16 := hB.cell 16 (by omega)
  rw [HF 16 (by omega) (by omega) (by omega)] at d16
  have d17 := hB.cell 17 (by omega)
  rw [HF 17 (by omega) (by omega) (by omega)] at d17
  have d18 := hB.cell 18 (by omega)
  rw [HF 18 (by omega) (by omega) (by omega)] at d18
  have d19 := hB.cell 19 (by omega)
  rw [HF 19 (by omega) (by omega) (by omega)] at d19
  have d20 := hB.cell 20 (by omega)
  rw [HF 20 (by omega) (by omega) (by omega)] at d20
  have d21 := hB.cell 21 (by omega)
  rw [HF 21 (by omega) (by omega) (by omega)] at d21
  have d22 := hB.cell 22 (by omega)
  rw [HF 22 (by omega) (by omega) (by omega)] at d22
  have HB := Lib.hid hB
  clear hB HF f3 c2 o2 hcc1 hc3 h3 hcc3
  go_wp2_with fail
  refine (own_nil_98 _).mono ?_
  rintro e w9 ⟨rfl, rfl⟩
  go_wp2_with fail
  refine (own_nil_99 _).mono ?_
  rintro e w9 ⟨rfl, rfl⟩
  go_wp2_with fail
  refine (own_nil_100 _).mono ?_
  rintro e w9 ⟨rfl, rfl⟩
  go_wp2_with fail
  refine (own_nil_101 _).mono ?_
  rintro e w9 ⟨rfl, rfl⟩
  go_wp2_with fail
  refine (own_nil_102 _).mono ?_
  rintro e w9 ⟨rfl, rfl⟩
  go_wp2_with fail
  refine (own_nil_103 _).mono ?_
  rintro e w9 ⟨rfl, rfl⟩
  go_wp2_with fail
  refine (own_nil_104 _).mono ?_
  rintro e w9 ⟨rfl, rfl⟩
  go_wp2_with fail
  refine (own_nil_105 _).mono ?_
  rintro e w9 ⟨rfl, rfl⟩
  go_wp2_with fail
  refine (own_nil_106 _).mono ?_
  rintro e w9 ⟨rfl, rfl⟩
  go_wp2_with fail
  refine (own_nil_107 _).mono ?_
  rintro e w9 ⟨rfl, rfl⟩
  go_wp2_with fail
  refine (own_nil_108 _).mono ?_
  rintro e w9 ⟨rfl, rfl⟩
  go_wp2_with fail
  refine (own_nil_109 _).mono ?_
  rintro e w9 ⟨rfl, rfl⟩
  go_wp2_with fail
  refine (own_nil_110 _).mono ?_
  rintro e w9 ⟨rfl, rfl⟩
  go_wp2_with fail
  refine (own_nil_111 _).mono ?_
  rintro e w9 ⟨rfl, rfl⟩
  go_wp2_with fail
  refine (own_nil_112 _).mono ?_
  rintro e w9 ⟨rfl, hb9⟩
  have hB := HB.out.keep (G := fun _ => False) (Chg.of_below hb9) (fun h => h)
  have hcc9 := HC.out.trans (Chg.of_below (F := fun _ => False) hb9) (fun _ _ h => h.elim)
  have HF := HN.out
  clear d3 d4 d5 d6 d7 d8 d9 d10 d11 d12 d13 d14 d15 d16 d17 d18 d19 d20 d21 d22
  have d18 := hB.cell 18 (by omega)
  rw [HF 18 (by omega) (by omega) (by omega)] at d18
  have d19 := hB.cell 19 (by omega)
  rw [HF 19 (by omega) (by omega) (by omega)] at d19
  have d20 := hB.cell 20 (by omega)
  rw [HF 20 (by omega) (by omega) (by omega)] at d20
  have d21 := hB.cell 21 (by omega)
  rw [HF 21 (by omega) (by omega) (by omega)] at d21
  have d22 := hB.cell 22 (by omega)
  rw [HF 22 (by omega) (by omega) (by omega)] at d22
  clear HF
  go_wp2_with fail
  refine (own_nil_113 _).mono ?_
  rintro e w10 ⟨rfl, rfl⟩
  go_wp2_with fail
  refine (own_nil_114 _).mono ?_
  rintro e w10 ⟨rfl, rfl⟩
  go_wp2_with fail
  refine (own_nil_115 _).mono ?_
  rintro e w10 ⟨rfl, rfl⟩
  go_wp2_with fail
  refine (own_nil_116 _).mono ?_
  rintro e w10 ⟨rfl, rfl⟩
  go_wp2_with fail
  refine (own_nil_117 _).mono ?_
  rintro e w10 ⟨rfl, rfl⟩
  go_wp2
  go_ret
  exact ⟨rfl, hcc9⟩
end Go.Proofs.Ytfbjjblgcgjndaa

/- The book, its inside out of sight. -/
namespace Go.Proofs.Ytfbjjblgcgjndaa
open Go.RowKit

def lives (j : Nat) : Prop := j = 0 ∨ j = 2
/-- the book's own block and its lists' -/
def Sys (b : Nat) (F : Nat → Value) (g : Nat) : Prop := g = b ∨ ∃ j, (j = 0 ∨ j = 2) ∧ blk (F j) g
/-- a book at b of at most K lists a shelf; its own blocks are among S, those of what it bears among R -/
def BookOk (n0 : Nat) (w : World) (b K : Nat) (S R : Nat → Prop) : Prop :=
  ∃ F k u n c, Books n0 w b F (fun j => j = 0 ∨ j = 2) k u n c ∧ (∀ j, j < 23 → j ≠ 0 → j ≠ 2 → F j = .slice none 0 0) ∧ (∀ j, k j ≤ K) ∧ (∀ j i, (j = 0 ∨ j = 2) → i < k j → n j i ≤ 1000000000000) ∧ (∀ g, Sys b F g → S g) ∧ ∀ j i g, (j = 0 ∨ j = 2) → i < k j → blk (u j i) g → R g
theorem foot_or {b : Nat} {F : Nat → Value} {k : Nat → Nat} {u : Nat → Nat → Value} {S R : Nat → Prop} (hS : ∀ g, Sys b F g → S g) (hR : ∀ j i g, (j = 0 ∨ j = 2) → i < k j → blk (u j i) g → R g) {g : Nat} (h : foot b F (fun j => j = 0 ∨ j = 2) k u g) : S g ∨ R g := by
  obtain ⟨x, hx⟩ := h
  cases x with
  | book => exact .inl (hS g (.inl hx))
  | list j => exact .inl (hS g (.inr ⟨j, hx.1, hx.2⟩))
  | row j i => exact .inr (hR j i g hx.1 hx.2.1 hx.2.2)
theorem BookOk.keep {n0 : Nat} {w w' : World} {b K : Nat} {S R H : Nat → Prop} (h : BookOk n0 w b K S R) (hc : Chg H w w') (hG : ∀ g, g < w.heap.size → S g ∨ R g → ¬ H g) : BookOk n0 w' b K S R := by
  obtain ⟨F, k, u, n, c, h1, h2, h3, h4, h5, h6⟩ := h
  exact ⟨F, k, u, n, c, h1.keep hc (fun g hg => by have hg' := hg; obtain ⟨x, hx⟩ := hg; exact hG g (h1.lt hx).2 (foot_or h5 h6 hg')), h2, h3, h4, h5, h6⟩
theorem BookOk.below {n0 : Nat} {w w' : World} {b K : Nat} {S R : Nat → Prop} (h : BookOk n0 w b K S R) (hb : Below w.heap.size w w') : BookOk n0 w' b K S R :=
  h.keep (H := fun _ => False) (.of_below hb) (fun _ _ _ h => h)
theorem BookOk.mono {n0 : Nat} {w : World} {b K : Nat} {S R S' R' : Nat → Prop} (h : BookOk n0 w b K S R) (hS : ∀ g, n0 ≤ g → g < w.heap.size → S g → S' g) (hR : ∀ g, n0 ≤ g → g < w.heap.size → R g → R' g) : BookOk n0 w b K S' R' := by
  obtain ⟨F, k, u, n, c, h1, h2, h3, h4, h5, h6⟩ := h
  have lt1 : ∀ g, Sys b F g → n0 ≤ g ∧ g < w.heap.size := by
    rintro g (h | ⟨j, hj, h⟩)
    · exact h1.lt (x := .book) h
    · exact h1.lt (x := .list j) ⟨hj, h⟩
  refine ⟨F, k, u, n, c, h1, h2, h3, h4, fun g hg => hS g (lt1 g hg).1 (lt1 g hg).2 (h5 g hg), fun j i g hj hi hg => ?_⟩
  have := h1.lt (x := .row j i) ⟨hj, hi, hg⟩
  exact hR g this.1 this.2 (h6 j i g hj hi hg)
theorem lst_nil_book : (lst (fun _ => nilV) 23).toArray = #[.slice none 0 0, .slice none 0 0, .slice none 0 0, .slice none 0 0, .slice none 0 0, .slice none 0 0, .slice none 0 0, .slice none 0 0, .slice none 0 0, .slice none 0 0, .slice none 0 0, .slice none 0 0, .slice none 0 0, .slice none 0 0, .slice none 0 0, .slice none 0 0, .slice none 0 0, .slice none 0 0, .slice none 0 0, .slice none 0 0, .slice none 0 0, .slice none 0 0, .slice none 0 0] := rfl
theorem BookOk.new (n0 : Nat) (w : World) (hn : n0 ≤ w.heap.size) : BookOk n0 (w.alloc (.cells (lst (fun _ => nilV) 23).toArray 67)) w.heap.size 0 (fun g => g = w.heap.size) (fun _ => False) := by
  have hno : ∀ x g, Item.has w.heap.size (fun _ => nilV) (fun j => j = 0 ∨ j = 2) (fun _ => 0) (fun _ _ => nilV) x g → x = .book ∧ g = w.heap.size := by
    intro x g hx
    cases x with
    | book => exact ⟨rfl, hx⟩
    | list j => cases hx.2
    | row j i => exact absurd hx.2.1 (Nat.not_lt_zero _)
  refine ⟨fun _ => nilV, fun _ => 0, fun _ _ => nilV, fun _ _ => 0, fun _ _ => [], ⟨heap_alloc_new w _, hn, fun j hj => World.ownsRow_nil _ _ _ _, fun j i hj hi => absurd hi (Nat.not_lt_zero _), fun x y hxy g hx hy => hxy ((hno x g hx).1.trans (hno y g hy).1.symm)⟩, fun _ _ _ _ => rfl, fun _ => Nat.le_refl _, fun j i _ hi => absurd hi (Nat.not_lt_zero _), ?_, fun j i g _ hi => absurd hi (Nat.not_lt_zero _)⟩
  rintro g (h | ⟨j, _, h⟩)
  · exact h
  · cases h
def More (S : Nat → Prop) (s s' : Nat) (g : Nat) : Prop := S g ∨ (s ≤ g ∧ g < s')
def Also (R : Nat → Prop) (x : Value) (g : Nat) : Prop := R g ∨ blk x g
def BookPut (n0 : Nat) (w : World) (b K : Nat) (S R : Nat → Prop) (x : Value) (e : Ending) (w' : World) : Prop :=
  e = .returned (.tuple #[]) ∧ BookOk n0 w' b (K + 1) (More S w.heap.size w'.heap.size) (Also R x) ∧ Chg S w w' ∧ Below n0 w w'
theorem book_put {n0 : Nat} {w : World} {b K : Nat} {S R : Nat → Prop} {fn : FuncId} (j : Nat) (hj : j = 0 ∨ j = 2) (A : Option Addr) (n cp : Nat) (cx : List Value) (h : BookOk n0 w b K S R) (hx : Rw n0 (ety j) w (.slice A n cp) n cx) (hG : ∀ g, blk (.slice A n cp) g → ¬ (S g ∨ R g)) (hn : n ≤ 1000000000000) (hn0 : n0 ≤ w.heap.size) (hK : K < 1000000000000)
    (hput : ∀ (F : Nat → Value) (k : Nat) (us : List Value), BookAt w b F → w.ownsRow n0 (sty j) 1 (F j) k us → ¬ blk (F j) b → k ≤ 1000000000000 →
      Calls Try.prog fn #[.pointer (some ⟨b, 0, none⟩), .slice A n cp] w fun e w' => e = .returned (.tuple #[]) ∧ ∃ L', BookAt w' b (turn F j L') ∧ w'.ownsRow n0 (sty j) 1 L' (k + 1) (us ++ [.slice A n cp]) ∧ Chg (fun g => g = b ∨ blk (F j) g) w w' ∧ ∀ g, blk L' g → blk (F j) g ∨ w.heap.size ≤ g) :
    Calls Try.prog fn #[.pointer (some ⟨b, 0, none⟩), .slice A n cp] w (BookPut n0 w b K S R (.slice A n cp)) := by
  obtain ⟨F, k, u, nn, c, h1, h2, h3, h4, h5, h6⟩ := h
  have hsep : ¬ blk (F j) b := fun hb => h1.sep .book (.list j) (by simp) b rfl ⟨hj, hb⟩
  have hkj := h3 j
  refine (hput F (k j) (lst (u j) (k j)) h1.at_ (h1.list j hj) hsep (by omega)).mono ?_
  rintro e w' ⟨rfl, L', ha, hl, hc, hL⟩
  have hcS : Chg S w w' := hc.mono fun g _ hg => by
    rcases hg with rfl | hg
    · exact h5 _ (.inl rfl)
    · exact h5 _ (.inr ⟨j, hj, hg⟩)
  have hbl : Below n0 w w' := hc.below hn0 fun g hg => by
    rcases hg with rfl | hg
    · exact h1.base
    · exact (row_lt (h1.list j hj) hg).1
  have hx' : Rw n0 (ety j) w' (.slice A n cp) n cx := hx.chg hcS (fun g hg hs => hG g hg (.inl hs))
  have hb2 := h1.add (w' := w') j hj (.slice A n cp) n cx L' hx' (fun g hg => ⟨(hx.lt hg).2, fun hf => hG g hg (foot_or h5 h6 hf)⟩) ha hl hc hL
  refine ⟨rfl, ⟨_, _, _, _, _, hb2, fun q hq h0 h2' => ?_, fun q => ?_, fun q i hq hi => ?_, fun g hg => ?_, fun q i g hq hi hg => ?_⟩, hcS, hbl⟩
  · rw [turn_other _ _ _ _ (by omega)]; exact h2 q hq h0 h2'
  · by_cases e : q = j
    · subst e; rw [turn_same]; omega
    · rw [turn_other _ _ _ _ e]; have := h3 q; omega
  · by_cases e : q = j
    · subst e
      rw [turn_same] at hi ⊢
      by_cases e2 : i = k q
      · subst e2; rw [turn_same]; exact hn
      · rw [turn_other _ _ _ _ e2]; exact h4 q i hq (by omega)
    · rw [turn_other _ _ _ _ e] at hi ⊢
      exact h4 q i hq hi
  · rcases hg with rfl | ⟨q, hq, hg⟩
    · exact .inl (h5 _ (.inl rfl))
    · by_cases e : q = j
      · subst e
        rw [turn_same] at hg
        rcases hL g hg with h | h
        · exact .inl (h5 _ (.inr ⟨q, hq, h⟩))
        · exact .inr ⟨h, (row_lt hl hg).2⟩
      · rw [turn_other _ _ _ _ e] at hg
        exact .inl (h5 _ (.inr ⟨q, hq, hg⟩))
  · by_cases e : q = j
    · subst e
      rw [turn_same] at hi hg
      by_cases e2 : i = k q
      · subst e2; rw [turn_same] at hg; exact .inr hg
      · rw [turn_other _ _ _ _ e2] at hg; exact .inl (h6 q i g hq (by omega) hg)
    · rw [turn_other _ _ _ _ e] at hi hg
      exact .inl (h6 q i g hq hi hg)
theorem bytes_put {n0 : Nat} {w : World} {b K : Nat} {S R : Nat → Prop} (A : Option Addr) (n cp : Nat) (cx : List Value) (h : BookOk n0 w b K S R) (hx : w.ownsRow n0 5 1 (.slice A n cp) n cx) (hG : ∀ g, blk (.slice A n cp) g → ¬ (S g ∨ R g)) (hn : n ≤ 1000000000000) (hn0 : n0 ≤ w.heap.size) (hK : K < 1000000000000) :
    Calls Try.prog 65 #[.pointer (some ⟨b, 0, none⟩), .slice A n cp] w (BookPut n0 w b K S R (.slice A n cp)) :=
  book_put 0 (.inl rfl) A n cp cx h (Rw.of hx) hG hn hn0 hK fun F k us h1 h2 h3 h4 => book_bytes n0 w b F k us A n cp h1 h2 h3 h4 hn0
theorem bytes_putc {n0 : Nat} {w : World} {b K : Nat} {S R : Nat → Prop} (A : Option Addr) (n cp : Nat) (cx : List Value) (h : BookOk n0 w b K S R) (hx : Rw n0 5 w (.slice A n cp) n cx) (hG : ∀ g, blk (.slice A n cp) g → ¬ (S g ∨ R g)) (hn : n ≤ 1000000000000) (hn0 : n0 ≤ w.heap.size) (hK : K < 1000000000000) :
    Calls Try.prog 65 #[.pointer (some ⟨b, 0, none⟩), .slice A n cp] w (BookPut n0 w b K S R (.slice A n cp)) :=
  book_put 0 (.inl rfl) A n cp cx h hx hG hn hn0 hK fun F k us h1 h2 h3 h4 => book_bytes n0 w b F k us A n cp h1 h2 h3 h4 hn0
theorem ints_put {n0 : Nat} {w : World} {b K : Nat} {S R : Nat → Prop} (A : Option Addr) (n cp : Nat) (cx : List Value) (h : BookOk n0 w b K S R) (hx : w.ownsRow n0 3 1 (.slice A n cp) n cx) (hG : ∀ g, blk (.slice A n cp) g → ¬ (S g ∨ R g)) (hn : n ≤ 1000000000000) (hn0 : n0 ≤ w.heap.size) (hK : K < 1000000000000) :
    Calls Try.prog 158 #[.pointer (some ⟨b, 0, none⟩), .slice A n cp] w (BookPut n0 w b K S R (.slice A n cp)) :=
  book_put 2 (.inr rfl) A n cp cx h (Rw.of hx) hG hn hn0 hK fun F k us h1 h2 h3 h4 => book_ints n0 w b F k us A n cp h1 h2 h3 h4 hn0
theorem own_ok {n0 : Nat} {w : World} {b K : Nat} {S R : Nat → Prop} (h : BookOk n0 w b K S R) (hn0 : n0 ≤ w.heap.size) (hK : K ≤ 1000000000000) :
    Calls Try.prog 44 #[.pointer (some ⟨b, 0, none⟩)] w fun e w' => e = .returned (.bool true) ∧ Chg (fun g => S g ∨ R g) w w' ∧ Below n0 w w' := by
  obtain ⟨F, k, u, nn, c, h1, h2, h3, h4, h5, h6⟩ := h
  refine (book_own n0 w b F k u nn c h1 h2 (fun j => Nat.le_trans (h3 j) hK) h4 hn0).mono ?_
  rintro e w' ⟨rfl, hc⟩
  exact ⟨rfl, hc.mono fun g _ hg => foot_or h5 h6 hg, hc.below hn0 fun g hg => by obtain ⟨x, hx⟩ := hg; exact (h1.lt hx).1⟩
end Go.Proofs.Ytfbjjblgcgjndaa

/- Contract of ownRows (104): lists of lists with memory of their own pass. -/
namespace Go.Proofs.Ytfbjjblgcgjndaa
open Go.RowKit

theorem info30r : (Try.prog.info? 30).map (fun i => (i.zero, i.size, i.bytes)) = some (some (.slice none 0 0), 1, 24) := by kernel_rfl
def pvR (i k : Nat) : Int := ((i : Int) * 97 + (k : Int) * 13) % 256
def nvR (i k : Nat) : Int := ((-1 - (i : Int)) * 97 + (k : Int) * 13) % 256
/-- a list of one byte in a block of its own -/
def Mark (w : World) (y : Value) (z : Int) : Prop := ∃ g, y = .slice (some ⟨g, 0, none⟩) 1 1 ∧ w.heap[g]? = some (.cells #[.int .u8 z] 5 (0, 0))
def NotFive (w : World) (g : Nat) : Prop := ∃ cs t fr, w.heap[g]? = some (.cells cs t fr) ∧ t ≠ 5
theorem Mark.keep {F : Nat → Prop} {w w' : World} {y : Value} {z : Int} (h : Mark w y z) (hc : Chg F w w') (hF : ∀ g, F g → NotFive w g) : Mark w' y z := by
  obtain ⟨g, rfl, hg⟩ := h
  have hlt := (Array.getElem?_eq_some_iff.1 hg).1
  refine ⟨g, rfl, ?_⟩
  rw [hc.block g hlt (fun hf => ?_)]
  · exact hg
  · obtain ⟨cs, t, fr, h1, h2⟩ := hF g hf
    rw [hg] at h1; cases h1; exact h2 rfl
theorem Mark.new (w : World) (z : Int) : Mark (w.alloc (.cells #[.int .u8 z] 5)) (.slice (some ⟨w.heap.size, 0, none⟩) 1 1) z := ⟨_, rfl, heap_alloc_new w _⟩
theorem Mark.below {w w' : World} {y : Value} {z : Int} (h : Mark w y z) (hb : Below w.heap.size w w') : Mark w' y z := h.keep (F := fun _ => False) (.of_below hb) (fun _ h => h.elim)
theorem rw_notFive {n0 n : Nat} {w : World} {v : Value} {xs : List Value} (h : Rw n0 23 w v n xs) {g : Nat} (hg : blk v g) : NotFive w g := by
  rcases h.2 with ⟨rfl, _⟩ | ⟨g', cap, cur, rfl, _, h2, _⟩
  · cases hg
  · cases hg; exact ⟨_, _, _, h2, by decide⟩
theorem row_notFive {n0 n : Nat} {w : World} {v : Value} {xs : List Value} (h : w.ownsRow n0 30 1 v n xs) {g : Nat} (hg : blk v g) : NotFive w g := by
  rcases h.2 with ⟨rfl, _⟩ | ⟨g', cap, cur, rfl, _, h2, _⟩
  · cases hg
  · cases hg; exact ⟨_, _, _, h2, by decide⟩
/-- a list's marks: the first nn, and k behind them -/
def Marks (w : World) (c : List Value) (nn j k : Nat) : Prop := (∀ q y, q < nn → c[q]? = some y → Mark w y (pvR j q)) ∧ ∀ q y, q < k → c[nn + q]? = some y → Mark w y (nvR j q)
theorem Marks.keep {F : Nat → Prop} {w w' : World} {c : List Value} {nn j k : Nat} (h : Marks w c nn j k) (hc : Chg F w w') (hF : ∀ g, F g → NotFive w g) : Marks w' c nn j k :=
  ⟨fun q y hq hy => (h.1 q y hq hy).keep hc hF, fun q y hq hy => (h.2 q y hq hy).keep hc hF⟩
theorem Marks.snoc {w : World} {c : List Value} {nn j k : Nat} (h : Marks w c nn j k) (hl : c.length = nn + k) {y : Value} (hy : Mark w y (nvR j k)) : Marks w (c ++ [y]) nn j (k + 1) := by
  refine ⟨fun q z hq hz => h.1 q z hq ?_, fun q z hq hz => ?_⟩
  · rw [List.getElem?_append_left (by omega)] at hz; exact hz
  · by_cases e : q = k
    · subst e
      rw [List.getElem?_append_right (by omega), show nn + q - c.length = 0 by omega] at hz
      obtain rfl : y = z := by simpa using hz
      exact hy
    · rw [List.getElem?_append_left (by omega)] at hz
      exact h.2 q z (by omega) hz
theorem Below.cell_kept {w w' : World} {a : Addr} {x : Value} (hb : Below w.heap.size w w') (hc : w.cell? a = some x) : w'.cell? a = some x := (hb.cell (World.block_lt_of_cell? w a hc)).trans hc
theorem Below.frozen_kept {w w' : World} {a : Addr} {x : Value} (hb : Below w.heap.size w w') (hc : w.cell? a = some x) {b : Bool} (hf : w.frozen? a = b) : w'.frozen? a = b := by
  unfold World.frozen? at hf ⊢
  rw [hb.block _ (World.block_lt_of_cell? w a hc)]; exact hf
theorem rw_unique {w : World} {b b' : Nat} {e : TypeId} {n : Nat} {v : Value} {xs ys : List Value} (h : Rw b e w v n xs) (k : Rw b' e w v n ys) : xs = ys := by
  rcases h.2 with ⟨rfl, rfl⟩ | ⟨g, cap, cur, rfl, h1, h2, h3, h4, h5, h6, h7⟩
  · have e1 : xs = [] := List.eq_nil_of_length_eq_zero h.1
    have e2 : ys = [] := List.eq_nil_of_length_eq_zero k.1
    rw [e1, e2]
  · rcases k.2 with ⟨k0, _⟩ | ⟨g', cap', cur', k0, k1, k2, k3, k4, k5, k6, k7⟩
    · cases k0
    · cases k0
      rw [h2] at k2
      cases k2
      rw [← h7, ← k7]
def goneR (M : Nat) (u : Nat → Value) (g : Nat) : Prop := ∃ i, i < M ∧ blk (u i) g
/-- the first pass: those below p are written, and k of p's -/
def OneR (n0 : Nat) (w wr : World) (M : Nat) (u : Nat → Value) (n : Nat → Nat) (X : Nat → Prop) (p k : Nat) : Prop :=
  ∃ c, Apart n0 23 wr M u n c X ∧ (∀ j q y, (j < p ∧ q < n j) ∨ (j = p ∧ q < k) → (c j)[q]? = some y → Mark wr y (pvR j q)) ∧ Chg (goneR M u) w wr
theorem OneR.out {n0 : Nat} {w wr : World} {M : Nat} {u : Nat → Value} {n : Nat → Nat} {X : Nat → Prop} {p : Nat} (h : OneR n0 w wr M u n X p (n p)) : OneR n0 w wr M u n X (p + 1) 0 := by
  obtain ⟨c, a, b, d⟩ := h
  refine ⟨c, a, fun j q y hj hy => b j q y ?_ hy, d⟩
  rcases hj with ⟨h1, h2⟩ | ⟨_, h2⟩
  · by_cases e : j = p
    · subst e; exact .inr ⟨rfl, h2⟩
    · exact .inl ⟨by omega, h2⟩
  · omega
theorem OneR.step {n0 : Nat} {w wr : World} {M : Nat} {u : Nat → Value} {n : Nat → Nat} {X : Nat → Prop} {p k g cap : Nat} (h : OneR n0 w wr M u n X p k) (hp : p < M) (hk : k < n p) (hu : u p = .slice (some ⟨g, 0, none⟩) (n p) cap) :
    OneR n0 w ((wr.alloc (.cells #[.int .u8 (pvR p k)] 5)).setCell ⟨g, k, none⟩ (.slice (some ⟨wr.heap.size, 0, none⟩) 1 1)) M u n X p (k + 1) := by
  obtain ⟨c, a, b, e⟩ := h
  have hb1 : Below wr.heap.size wr (wr.alloc (.cells #[.int .u8 (pvR p k)] 5)) := below_alloc0 (Below.refl _ _) _
  have a1 := a.keep (F := fun _ => False) (.of_below hb1) (fun _ _ h => h.elim)
  have hl : (c p).length = n p := (a.own p hp).1
  have hnf : ∀ g', g' = g → NotFive (wr.alloc (.cells #[.int .u8 (pvR p k)] 5)) g' := fun g' e => rw_notFive (a1.own p hp) (by rw [e, hu]; rfl)
  have hsc := setCell_chg (wr.alloc (.cells #[.int .u8 (pvR p k)] 5)) g k (.slice (some ⟨wr.heap.size, 0, none⟩) 1 1)
  refine ⟨_, a1.store p hp hu k _, fun j q y hj hy => ?_, (e.alloc _).setCell _ _ (.inl ⟨p, hp, by rw [hu]; rfl⟩)⟩
  by_cases e1 : j = p
  · subst e1
    rw [turn_same] at hy
    by_cases e2 : q = k
    · subst e2
      rw [List.getElem?_set_self (by omega)] at hy
      cases hy
      exact (Mark.new wr _).keep hsc hnf
    · rw [List.getElem?_set_ne (by omega)] at hy
      refine ((b j q y ?_ hy).below hb1).keep hsc hnf
      rcases hj with ⟨h1, _⟩ | ⟨_, h2⟩
      · omega
      · exact .inr ⟨rfl, by omega⟩
  · rw [turn_other _ _ _ _ e1] at hy
    refine ((b j q y ?_ hy).below hb1).keep hsc hnf
    rcases hj with h1 | ⟨h1, _⟩
    · exact .inl h1
    · exact absurd h1 e1
theorem OneR.form {n0 : Nat} {w wr : World} {M : Nat} {u : Nat → Value} {n : Nat → Nat} {X : Nat → Prop} {p k : Nat} (h : OneR n0 w wr M u n X p k) (hp : p < M) :
    ∃ V cap, u p = .slice V (n p) cap ∧ ∀ q, q < n p → ∃ g x, V = some ⟨g, 0, none⟩ ∧ wr.cell? ⟨g, q, none⟩ = some x ∧ wr.frozen? ⟨g, q, none⟩ = false := by
  obtain ⟨c, a, b, e⟩ := h
  obtain ⟨V, cap, h1, h2⟩ := rw_cells (a.own p hp)
  have hl : (c p).length = n p := (a.own p hp).1
  refine ⟨V, cap, h1, fun q hq => ?_⟩
  obtain ⟨g, e1, e2, e3⟩ := h2 q hq
  exact ⟨g, _, e1, by rw [e2]; exact List.getElem?_eq_getElem (by omega), e3⟩

/-- the second pass: those below p have grown; the long list -/
structure TwoR (n0 : Nat) (w wr : World) (M : Nat) (u : Nat → Value) (n : Nat → Nat) (X : Nat → Prop) (p : Nat) (L : Value) (v : Nat → Value) (m : Nat → Nat) (c : Nat → List Value) : Prop where
  many : Many n0 w.heap.size 23 wr M u v n m c (fun g => X g ∨ blk L g)
  done : ∀ j, j < p → m j = n j + 8 ∧ Marks wr (c j) (n j) j 8
  rest : ∀ j, p < j → j < M → v j = u j ∧ m j = n j ∧ Marks wr (c j) (n j) j 0
  long : wr.ownsRow w.heap.size 30 1 L p (lst v p)
  chg : Chg (goneR M u) w wr
def TwoOutR (n0 : Nat) (w wr : World) (M : Nat) (u : Nat → Value) (n : Nat → Nat) (X : Nat → Prop) (p : Nat) (L : Value) : Prop :=
  ∃ v m c, TwoR n0 w wr M u n X p L v m c ∧ (p < M → v p = u p ∧ m p = n p ∧ Marks wr (c p) (n p) p 0)
def TwoInR (n0 : Nat) (w wr : World) (M : Nat) (u : Nat → Value) (n : Nat → Nat) (X : Nat → Prop) (p : Nat) (L : Value) (k : Nat) (x : Value) : Prop :=
  ∃ v m c, TwoR n0 w wr M u n X p L v m c ∧ x = v p ∧ m p = n p + k ∧ Marks wr (c p) (n p) p k
theorem OneR.two {n0 : Nat} {w wr : World} {M : Nat} {u : Nat → Value} {n : Nat → Nat} {X : Nat → Prop} (h : OneR n0 w wr M u n X M 0) : TwoOutR n0 w wr M u n X 0 (.slice none 0 0) := by
  obtain ⟨c, a, b, d⟩ := h
  have hm : ∀ j, j < M → Marks wr (c j) (n j) j 0 := fun j hj => ⟨fun q y hq hy => b j q y (.inl ⟨hj, hq⟩) hy, fun q y hq => by omega⟩
  refine ⟨u, n, c, ⟨?_, fun j hj => by omega, fun j _ hj => ⟨rfl, rfl, hm j hj⟩, World.ownsRow_nil _ _ _ _, d⟩, fun hp => ⟨rfl, rfl, hm 0 hp⟩⟩
  refine a.many.shut fun g _ hg => ?_
  rcases hg with hg | hg
  · exact hg
  · cases hg
theorem TwoOutR.inn {n0 : Nat} {w wr : World} {M : Nat} {u : Nat → Value} {n : Nat → Nat} {X : Nat → Prop} {p : Nat} {L : Value} (h : TwoOutR n0 w wr M u n X p L) (hp : p < M) : TwoInR n0 w wr M u n X p L 0 (u p) := by
  obtain ⟨v, m, c, h1, h2⟩ := h
  obtain ⟨a, b, d⟩ := h2 hp
  exact ⟨v, m, c, h1, a.symm, b, d⟩
theorem TwoOutR.chg {n0 : Nat} {w wr : World} {M : Nat} {u : Nat → Value} {n : Nat → Nat} {X : Nat → Prop} {p : Nat} {L : Value} (h : TwoOutR n0 w wr M u n X p L) : Chg (goneR M u) w wr := by
  obtain ⟨v, m, c, h1, h2⟩ := h
  exact h1.chg
theorem TwoInR.chg {n0 : Nat} {w wr : World} {M : Nat} {u : Nat → Value} {n : Nat → Nat} {X : Nat → Prop} {p k : Nat} {L x : Value} (h : TwoInR n0 w wr M u n X p L k x) : Chg (goneR M u) w wr := by
  obtain ⟨v, m, c, h1, _⟩ := h
  exact h1.chg
theorem TwoInR.form {n0 : Nat} {w wr : World} {M : Nat} {u : Nat → Value} {n : Nat → Nat} {X : Nat → Prop} {p k : Nat} {L x : Value} (h : TwoInR n0 w wr M u n X p L k x) (hp : p < M) : ∃ V cap, u p = .slice V (n p) cap := by
  obtain ⟨v, m, c, h1, _⟩ := h
  obtain ⟨V, cap, e, _⟩ := (h1.many.held p hp).form
  exact ⟨V, cap, e⟩
theorem TwoInR.long {n0 : Nat} {w wr : World} {M : Nat} {u : Nat → Value} {n : Nat → Nat} {X : Nat → Prop} {p k : Nat} {L x : Value} (h : TwoInR n0 w wr M u n X p L k x) : ∃ v : Nat → Value, wr.ownsRow w.heap.size 30 1 L p (lst v p) ∧ x = v p := by
  obtain ⟨v, m, c, h1, h2, _⟩ := h
  exact ⟨v, h1.long, h2⟩
theorem TwoInR.own {n0 : Nat} {w wr : World} {M : Nat} {u : Nat → Value} {n : Nat → Nat} {X : Nat → Prop} {p k : Nat} {L x : Value} (h : TwoInR n0 w wr M u n X p L k x) (hp : p < M) : ∃ c, Rw n0 23 wr x (n p + k) c := by
  obtain ⟨v, m, c, h1, h2, h3, h4⟩ := h
  have := (h1.many.held p hp).own
  rw [h3, ← h2] at this; exact ⟨_, this⟩
theorem TwoR.keep {n0 : Nat} {w wr w' : World} {M : Nat} {u : Nat → Value} {n : Nat → Nat} {X : Nat → Prop} {p : Nat} {L : Value} {v : Nat → Value} {m : Nat → Nat} {c : Nat → List Value} (h1 : TwoR n0 w wr M u n X p L v m c) (hb : Below wr.heap.size wr w') : TwoR n0 w w' M u n X p L v m c := by
  have hc : Chg (fun _ => False) wr w' := .of_below hb
  exact ⟨h1.many.keep hc (fun g _ hg => hg.elim), fun j hj => ⟨(h1.done j hj).1, (h1.done j hj).2.keep hc (fun _ h => h.elim)⟩, fun j hj hM => ⟨(h1.rest j hj hM).1, (h1.rest j hj hM).2.1, (h1.rest j hj hM).2.2.keep hc (fun _ h => h.elim)⟩, own_below h1.long hb, h1.chg.trans hc (fun _ _ h => h.elim)⟩
/-- a step of the walk that only makes memory -/
theorem TwoInR.keep {n0 : Nat} {w wr w' : World} {M : Nat} {u : Nat → Value} {n : Nat → Nat} {X : Nat → Prop} {p k : Nat} {L x : Value} (h : TwoInR n0 w wr M u n X p L k x) (hb : Below wr.heap.size wr w') : TwoInR n0 w w' M u n X p L k x := by
  obtain ⟨v, m, c, h1, h2, h3, h4⟩ := h
  exact ⟨v, m, c, h1.keep hb, h2, h3, h4.keep (F := fun _ => False) (.of_below hb) (fun _ h => h.elim)⟩
theorem TwoInR.push {n0 : Nat} {w wr w' : World} {M : Nat} {u : Nat → Value} {n : Nat → Nat} {X : Nat → Prop} {p k : Nat} {L x x' y : Value} (h : TwoInR n0 w wr M u n X p L k x) (hp : p < M) (hX : ∀ g, X g → g < w.heap.size) (hy : Mark wr y (nvR p k))
    (ho : ∀ c, Rw n0 23 wr x (n p + k) c → Rw n0 23 w' x' (n p + k + 1) (c ++ [y])) (hor : (wr.grownBy w' x.ownBlock ∧ x'.ownBlock = x.ownBlock) ∨ (wr.grownBy w' none ∧ ∃ g, x'.ownBlock = some g ∧ wr.heap.size ≤ g)) :
    TwoInR n0 w w' M u n X p L (k + 1) x' := by
  obtain ⟨v, m, c, h1, rfl, h3, h4⟩ := h
  have hX' : ∀ g, X g ∨ blk L g → g < wr.heap.size := by
    intro g hg
    rcases hg with hg | hg
    · exact Nat.lt_of_lt_of_le (hX g hg) h1.chg.size
    · exact (row_lt h1.long hg).2
  have hch := push_chg hor
  have how := (h1.many.held p hp).own
  have hnf : ∀ g, blk (v p) g → NotFive wr g := fun g hg => rw_notFive how hg
  rw [h3] at how
  have hlen : (c p).length = n p + k := how.1
  have ho := ho _ how
  rw [← h3] at ho
  have h5 := h1.many.push hX' h1.chg.size p hp ho hor
  refine ⟨turn v p x', turn m p (m p + 1), turn c p (c p ++ [y]), ⟨h5, fun j hj => ?_, fun j hj hjM => ?_, ?_, ?_⟩, (turn_same _ _ _).symm, by rw [turn_same, h3]; omega, ?_⟩
  · rw [turn_other _ _ _ _ (by omega), turn_other _ _ _ _ (by omega)]; exact ⟨(h1.done j hj).1, (h1.done j hj).2.keep hch hnf⟩
  · rw [turn_other _ _ _ _ (by omega), turn_other _ _ _ _ (by omega), turn_other _ _ _ _ (by omega)]; exact ⟨(h1.rest j hj hjM).1, (h1.rest j hj hjM).2.1, (h1.rest j hj hjM).2.2.keep hch hnf⟩
  · have : lst (turn v p x') p = lst v p := lst_congr fun j hj => turn_other _ _ _ _ (by omega)
    rw [this]
    exact own_chg h1.long hch (fun g hg hg' => h1.many.out p hp g (.inr hg') (.inr hg))
  · refine h1.chg.trans hch fun g hg hg' => ?_
    rcases h1.many.new p hp g hg' with h | h
    · exact ⟨p, hp, h⟩
    · omega
  · rw [turn_same]
    exact (h4.keep hch hnf).snoc hlen (hy.keep hch hnf)
theorem TwoInR.out {n0 : Nat} {w wr w' : World} {M : Nat} {u : Nat → Value} {n : Nat → Nat} {X : Nat → Prop} {p : Nat} {L L' x : Value} (h : TwoInR n0 w wr M u n X p L 8 x) (hp : p < M)
    (hl : ∀ v : Nat → Value, x = v p → wr.ownsRow w.heap.size 30 1 L p (lst v p) → w'.ownsRow w.heap.size 30 1 L' (p + 1) (lst v p ++ [x])) (hor : (wr.grownBy w' L.ownBlock ∧ L'.ownBlock = L.ownBlock) ∨ (wr.grownBy w' none ∧ ∃ g, L'.ownBlock = some g ∧ wr.heap.size ≤ g)) :
    TwoOutR n0 w w' M u n X (p + 1) L' := by
  obtain ⟨v, m, c, h1, h2, h3, h4⟩ := h
  have hch := push_chg hor
  have hnf : ∀ g, blk L g → NotFive wr g := fun g hg => row_notFive h1.long hg
  have h5 := h1.many.shut (Y := fun g => X g ∨ blk L' g) (by
    intro g hg hY
    rcases hY with hY | hY
    · exact .inl hY
    · rcases push_blk hor hY with h | h
      · exact .inr h
      · omega)
  have h6 : Many n0 w.heap.size 23 w' M u v n m c (fun g => X g ∨ blk L' g) := by
    have h7 := h1.many.keep hch (fun g _ hg => .inr hg)
    exact ⟨h7.held, h7.apart, fun i hi g hg hY => h5.out i hi g hg hY, h7.new⟩
  have hlong := hl v h2 h1.long
  rw [h2, ← lst_succ] at hlong
  refine ⟨v, m, c, ⟨h6, fun j hj => ?_, fun j hj hjM => ?_, hlong, ?_⟩, fun hp' => ?_⟩
  · by_cases e : j = p
    · subst e; exact ⟨h3, h4.keep hch hnf⟩
    · exact ⟨(h1.done j (by omega)).1, (h1.done j (by omega)).2.keep hch hnf⟩
  · have := h1.rest j (by omega) hjM
    exact ⟨this.1, this.2.1, this.2.2.keep hch hnf⟩
  · refine h1.chg.trans hch fun g hg hg' => ?_
    have := (row_lt h1.long hg').1
    omega
  · have := h1.rest (p + 1) (by omega) hp'
    exact ⟨this.1, this.2.1, this.2.2.keep hch hnf⟩
/-- the third pass reads -/
theorem TwoOutR.read {n0 : Nat} {w wr : World} {M : Nat} {u : Nat → Value} {n : Nat → Nat} {X : Nat → Prop} {L : Value} (h : TwoOutR n0 w wr M u n X M L) (p : Nat) (hp : p < M) :
    ∃ U cu V cv G cl, u p = .slice U (n p) cu ∧ L = .slice (some ⟨G, 0, none⟩) M cl ∧ wr.cell? ⟨G, p, none⟩ = some (.slice V (n p + 8) cv) ∧
      (∀ k, k < n p → ∃ g a, U = some ⟨g, 0, none⟩ ∧ wr.cell? ⟨g, k, none⟩ = some (.slice (some ⟨a, 0, none⟩) 1 1) ∧ wr.cell? ⟨a, 0, none⟩ = some (.int .u8 (pvR p k))) ∧
      (∃ g, V = some ⟨g, 0, none⟩ ∧ (∀ k, k < n p → ∃ a, wr.cell? ⟨g, k, none⟩ = some (.slice (some ⟨a, 0, none⟩) 1 1) ∧ wr.cell? ⟨a, 0, none⟩ = some (.int .u8 (pvR p k))) ∧
        ∀ k, k < 8 → ∃ a, wr.cell? ⟨g, n p + k, none⟩ = some (.slice (some ⟨a, 0, none⟩) 1 1) ∧ wr.cell? ⟨a, 0, none⟩ = some (.int .u8 (nvR p k))) := by
  obtain ⟨v, m, c, h1, h2⟩ := h
  obtain ⟨hm, hc⟩ := h1.done p hp
  have hh := h1.many.held p hp
  rw [hm] at hh
  have hcl : (c p).length = n p + 8 := hh.own.1
  have mk : ∀ {y z}, Mark wr y z → ∃ a, y = .slice (some ⟨a, 0, none⟩) 1 1 ∧ wr.cell? ⟨a, 0, none⟩ = some (.int .u8 z) := by
    rintro y z ⟨a, rfl, ha⟩
    exact ⟨a, rfl, by rw [cell_of_row wr a 0 _ 5 (0, 0) ha]; rfl⟩
  have at1 : ∀ k, k < n p → ∃ a, (c p)[k]? = some (.slice (some ⟨a, 0, none⟩) 1 1) ∧ wr.cell? ⟨a, 0, none⟩ = some (.int .u8 (pvR p k)) := fun k hk => by
    have e : (c p)[k]? = some (c p)[k] := List.getElem?_eq_getElem (by omega)
    obtain ⟨a, e1, e2⟩ := mk (hc.1 k _ hk e)
    exact ⟨a, by rw [e, e1], e2⟩
  have at2 : ∀ k, k < 8 → ∃ a, (c p)[n p + k]? = some (.slice (some ⟨a, 0, none⟩) 1 1) ∧ wr.cell? ⟨a, 0, none⟩ = some (.int .u8 (nvR p k)) := fun k hk => by
    have e : (c p)[n p + k]? = some (c p)[n p + k] := List.getElem?_eq_getElem (by omega)
    obtain ⟨a, e1, e2⟩ := mk (hc.2 k _ hk e)
    exact ⟨a, by rw [e, e1], e2⟩
  obtain ⟨U, cu, e1, e2⟩ := hh.form
  obtain ⟨V, cv, f1, f2⟩ := rw_cells hh.own
  obtain ⟨W, cl, g1, g2⟩ := own_cells h1.long
  obtain ⟨G, rfl, g3, _⟩ := g2 p hp
  obtain ⟨g, rfl, _⟩ := f2 (n p) (by omega)
  have hpos : ∀ k, k < n p + 8 → wr.cell? ⟨g, k, none⟩ = (c p)[k]? := fun k hk => by
    obtain ⟨g', e, e', _⟩ := f2 k hk
    cases e; exact e'
  refine ⟨U, cu, _, cv, G, cl, e1, g1, by rw [g3, lst_get _ _ _ hp, f1], fun k hk => ?_, g, rfl, fun k hk => ?_, fun k hk => ?_⟩
  · obtain ⟨g', e, e'⟩ := e2 k hk
    obtain ⟨a, h3, h4⟩ := at1 k hk
    exact ⟨g', a, e, by rw [e', h3], h4⟩
  · obtain ⟨a, h3, h4⟩ := at1 k hk
    exact ⟨a, by rw [hpos k (by omega), h3], h4⟩
  · obtain ⟨a, h3, h4⟩ := at2 k hk
    exact ⟨a, by rw [hpos _ (by omega), h3], h4⟩
theorem under52 : Try.prog.underlying 52 = some (.slice 30) := by kernel_rfl
set_option maxRecDepth 100000 in
set_option maxHeartbeats 8000000 in
theorem own_Rows (n0 : Nat) (A : Option Addr) (cc M : Nat) (u : Nat → Value) (n : Nat → Nat) (cs : Nat → List Value) (w : World) (hA : At w A (lst u M)) (hM : M ≤ 1000000000000) (hn : ∀ i, i < M → n i ≤ 1000000000000)
    (h : Apart n0 23 w M u n cs (fun g => ∃ a, A = some a ∧ g = a.block)) (hXl : ∀ a, A = some a → a.block < w.heap.size) (hn0 : n0 ≤ w.heap.size) :
    Calls Try.prog 104 #[.slice A M cc] w fun e w' => e = .returned (.bool true) ∧ Chg (goneR M u) w w' := by
  have hXo : ∀ a, A = some a → ¬ goneR M u a.block := by
    rintro a ha ⟨i, hi, hg⟩
    exact h.out i hi _ hg ⟨a, ha, rfl⟩
  have hstart : OneR n0 w w M u n (fun g => ∃ a, A = some a ∧ g = a.block) 0 0 := ⟨cs, h, fun j q y hj => by omega, Chg.refl _ _⟩
  have hXl' : ∀ g, (∃ a, A = some a ∧ g = a.block) → g < w.heap.size := by rintro g ⟨a, ha, rfl⟩; exact hXl a ha
  have HXL := Lib.hid hXl'
  have HXO := Lib.hid hXo
  have HN := Lib.hid hn
  have HA := Lib.hid hA
  have HN0 := Lib.hid hn0
  clear hXl hXl' hXo hn hA h hn0
  go_enter Try.func104, Try.ntmps104
  go_wp2
  go_loopw [3] (fun i wr => ∃ p : Nat, p ≤ M ∧ i = .int .i64 p ∧ OneR n0 w wr M u n (fun g => ∃ a, A = some a ∧ g = a.block) p 0) (fun i _ => M - (intOf i).toNat)
  case atStart => exact ⟨0, by omega, rfl, hstart⟩
  case round =>
    clear hstart
    obtain ⟨p, hp, rfl, hO⟩ := hrel
    by_cases hlt : p < M
    · obtain ⟨wo, rfl⟩ : ∃ wo : World, wo = wr := ⟨_, rfl⟩
      have hnp := HN.out p hlt
      go_wp2
      go_loopw [4] (fun i wr => ∃ k : Nat, k ≤ n p ∧ i = .int .i64 k ∧ OneR n0 w wr M u n (fun g => ∃ a, A = some a ∧ g = a.block) p k) (fun i _ => n p - (intOf i).toNat)
      case atStart => exact ⟨0, by omega, rfl, hO⟩
      case round =>
        clear hO
        obtain ⟨k, hk, rfl, hI⟩ := hrel
        obtain ⟨V, cap, hu, hcell⟩ := hI.form hlt
        have hch : Chg (goneR M u) w wr := by obtain ⟨_, _, _, e⟩ := hI; exact e
        obtain ⟨b, o, rfl, hco⟩ := outer_cell HA.out hch HXO.out p hlt
        rw [hu] at hco
        have HU := Lib.hid hu
        clear hu hch
        by_cases hkl : k < n p
        · obtain ⟨g, x, rfl, hcx, hfx⟩ := hcell k hkl
          clear hcell
          have hst := hI.step hlt hkl HU.out
          have hbA := below_alloc0 (Below.refl wr.heap.size wr) (.cells #[.int .u8 (pvR p k)] 5)
          have hcx1 := Below.cell_kept hbA hcx
          have hfx1 := Below.frozen_kept hbA hcx hfx
          unfold pvR at hst hcx1 hfx1
          clear hbA
          go_wp2
          go_roundw
          case rel => exact ⟨k + 1, by omega, by go_num, hst⟩
          case measure => simp [intOf]; omega
        · obtain rfl : k = n p := by omega
          clear hcell
          have hout := hI.out
          go_wp2
          go_roundw
          case rel => exact ⟨p + 1, by omega, by go_num, hout⟩
          case measure => simp [intOf]; omega
    · obtain rfl : M = p := by omega
      have hT := hO.two
      clear hO
      go_wp2
      go_loopw [5, 6] (fun L i wr => ∃ p : Nat, p ≤ M ∧ i = .int .i64 p ∧ TwoOutR n0 w wr M u n (fun g => ∃ a, A = some a ∧ g = a.block) p L) (fun _ i _ => M - (intOf i).toNat)
      case atStart => exact ⟨0, by omega, rfl, hT⟩
      case round =>
        clear hT
        obtain ⟨p, hp, rfl, hT⟩ := hrel
        by_cases hlt : p < M
        · obtain ⟨wo, rfl⟩ : ∃ wo : World, wo = wr := ⟨_, rfl⟩
          have hI := hT.inn hlt
          have hnp := HN.out p hlt
          obtain ⟨b, o, rfl, hco⟩ := outer_cell HA.out hT.chg HXO.out p hlt
          obtain ⟨V, cap, hu⟩ := hI.form hlt
          rw [hu] at hco hI
          clear hu hT
          go_wp2
          go_loopw [7, 8] (fun x i wr => ∃ k : Nat, k ≤ 8 ∧ i = .int .i64 k ∧ TwoInR n0 w wr M u n (fun g => ∃ a, (some (⟨b, o, none⟩ : Addr)) = some a ∧ g = a.block) p u5 k x) (fun _ i _ => 8 - (intOf i).toNat)
          case atStart => exact ⟨0, by omega, rfl, hI⟩
          case round =>
            clear hI
            obtain ⟨k, hk, rfl, hI⟩ := hrel
            by_cases hkl : k < 8
            · have hI1 := (hI.keep (below_alloc0 (Below.refl _ _) (.cells #[.int .u8 (nvR p k)] 5))).keep (below_alloc0 (Below.refl _ _) (.cells #[.slice (some ⟨wr.heap.size, 0, none⟩) 1 1] 23))
              have hmk := (Mark.new wr (nvR p k)).below (below_alloc0 (Below.refl _ _) (.cells #[.slice (some ⟨wr.heap.size, 0, none⟩) 1 1] 23))
              have hAt : At ((wr.alloc (.cells #[.int .u8 (nvR p k)] 5)).alloc (.cells #[.slice (some ⟨wr.heap.size, 0, none⟩) 1 1] 23)) (some ⟨wr.heap.size + 1, 0, none⟩) [.slice (some ⟨wr.heap.size, 0, none⟩) 1 1] := At.box (wr.alloc (.cells #[.int .u8 (nvR p k)] 5)) _ 23 (wr.heap.size + 1) (by simp)
              have hn0 : n0 ≤ ((wr.alloc (.cells #[.int .u8 (nvR p k)] 5)).alloc (.cells #[.slice (some ⟨wr.heap.size, 0, none⟩) 1 1] 23)).heap.size := Nat.le_trans HN0.out (Nat.le_trans hI.chg.size (by simp <;> omega))
              obtain ⟨c1, hc1⟩ := hI1.own hlt
              unfold nvR at hI1 hAt hn0 hc1
              go_wp2_with (at_builtin; go_loud (refine wp_appendC rfl (.tmp 55) (.tmp 64) 30 23 (.slice none 0 0) 24 rfl Try.underlying30 Try.info23 rfl n0 u7 (n p + k) _ rfl hc1 (some ⟨wr.heap.size + 1, 0, none⟩) 1 1 _ rfl rfl hAt (by simp) (by simp [Value.oneCell']) (by decide) (by omega) (by omega) hn0 ?_); intro v1 w1 ho1 hor1)
              have hI2 := hI1.push hlt (HXL.out) hmk (fun c hc => by rw [rw_unique hc hc1]; exact ho1) hor1
              go_roundw
              case rel => exact ⟨k + 1, by omega, by go_num, hI2⟩
              case measure => simp [intOf]; omega
            · obtain rfl : k = 8 := by omega
              obtain ⟨c1, hc1⟩ := hI.own hlt
              obtain ⟨V2, cap2, rfl, _⟩ := rw_cells hc1
              obtain ⟨v2, hl2, hx3⟩ := hI.long
              have hl3 := own_below hl2 (below_alloc0 (Below.refl _ _) (.cells #[.slice V2 (n p + 8) cap2] 30))
              have hAt : At (wr.alloc (.cells #[.slice V2 (n p + 8) cap2] 30)) (some ⟨wr.heap.size, 0, none⟩) [.slice V2 (n p + 8) cap2] := At.box wr _ 30 wr.heap.size rfl
              have hn0 : w.heap.size ≤ (wr.alloc (.cells #[.slice V2 (n p + 8) cap2] 30)).heap.size := Nat.le_trans hI.chg.size (by simp)
              have hI1 := hI.keep (below_alloc0 (Below.refl _ _) (.cells #[.slice V2 (n p + 8) cap2] 30))
              clear hx3 hc1
              go_wp2_with (at_builtin; go_loud (refine wp_append2 rfl (.tmp 66) (.tmp 68) 52 30 (.slice none 0 0) 1 24 rfl under52 info30r rfl (by decide) w.heap.size u5 p _ rfl hl3 (some ⟨wr.heap.size, 0, none⟩) 1 1 _ rfl rfl hAt (by simp) (by simp [Value.oneCell']) (by omega) (by omega) hn0 ?_); intro v1 w1 ho1 hor1)
              have hI2 := hI1.out hlt (fun v hx hv => by rw [own_unique hv hl3]; exact ho1) hor1
              go_roundw
              case rel => exact ⟨p + 1, by omega, by go_num, hI2⟩
              case measure => simp [intOf]; omega
        · obtain rfl : M = p := by omega
          go_wp2
          go_loopw [9] (fun i wr => ∃ p : Nat, p ≤ M ∧ i = .int .i64 p ∧ TwoOutR n0 w wr M u n (fun g => ∃ a, A = some a ∧ g = a.block) M u5) (fun i _ => M - (intOf i).toNat)
          case atStart => exact ⟨0, by omega, rfl, hT⟩
          case round =>
            clear hT
            obtain ⟨p, hp, rfl, hT⟩ := hrel
            by_cases hlt : p < M
            · obtain ⟨wo, rfl⟩ : ∃ wo : World, wo = wr := ⟨_, rfl⟩
              have hnp := HN.out p hlt
              have hco := outer_cell HA.out hT.chg HXO.out p hlt
              obtain ⟨b, o, rfl, hco⟩ := hco
              obtain ⟨U, cu, V, cv, G, cl, e1, e2, e3, e4, e5⟩ := hT.read p hlt
              rw [e1] at hco
              subst e2
              clear e1 e3 e4 e5
              go_wp2
              go_loopw [11] (fun i wr => ∃ k : Nat, k ≤ n p ∧ i = .int .i64 k ∧ TwoOutR n0 w wr M u n (fun g => ∃ a, (some (⟨b, o, none⟩ : Addr)) = some a ∧ g = a.block) M (.slice (some ⟨G, 0, none⟩) M cl)) (fun i _ => n p - (intOf i).toNat)
              case atStart => exact ⟨0, by omega, rfl, hT⟩
              case round =>
                clear hT
                obtain ⟨k, hk, rfl, hT⟩ := hrel
                by_cases hkl : k < n p
                · obtain ⟨b', o', hbo, hco⟩ := outer_cell HA.out hT.chg HXO.out p hlt
                  obtain ⟨rfl, rfl⟩ : b = b' ∧ o = o' := by cases hbo; exact ⟨rfl, rfl⟩
                  clear hbo
                  obtain ⟨U, cu, V, cv, G', cl', e1, e2, e3, e4, e5⟩ := hT.read p hlt
                  obtain ⟨rfl, rfl⟩ : G = G' ∧ cl = cl' := by cases e2; exact ⟨rfl, rfl⟩
                  clear e2
                  rw [e1] at hco
                  obtain ⟨g1, a1, rfl, e6, e6'⟩ := e4 k hkl
                  obtain ⟨g2, rfl, e7, e8⟩ := e5
                  obtain ⟨a2, e7, e7'⟩ := e7 k hkl
                  clear e1 e4 e8
                  unfold pvR at e6' e7'
                  go_wp2
                  go_roundw
                  case rel => exact ⟨k + 1, by omega, by go_num, hT⟩
                  case measure => simp [intOf]; omega
                · obtain rfl : k = n p := by omega
                  go_wp2
                  go_loopw [12] (fun i wr => ∃ k : Nat, k ≤ 8 ∧ i = .int .i64 k ∧ TwoOutR n0 w wr M u n (fun g => ∃ a, (some (⟨b, o, none⟩ : Addr)) = some a ∧ g = a.block) M (.slice (some ⟨G, 0, none⟩) M cl)) (fun i _ => 8 - (intOf i).toNat)
                  case atStart => exact ⟨0, by omega, rfl, hT⟩
                  case round =>
                    clear hT
                    obtain ⟨k, hk, rfl, hT⟩ := hrel
                    by_cases hkl : k < 8
                    · obtain ⟨b', o', hbo, hco⟩ := outer_cell HA.out hT.chg HXO.out p hlt
                      obtain ⟨rfl, rfl⟩ : b = b' ∧ o = o' := by cases hbo; exact ⟨rfl, rfl⟩
                      clear hbo
                      obtain ⟨U, cu, V, cv, G', cl', e1, e2, e3, e4, e5⟩ := hT.read p hlt
                      obtain ⟨rfl, rfl⟩ : G = G' ∧ cl = cl' := by cases e2; exact ⟨rfl, rfl⟩
                      clear e2
                      rw [e1] at hco
                      obtain ⟨g2, rfl, e7, e8⟩ := e5
                      obtain ⟨a2, e8, e8'⟩ := e8 k hkl
                      clear e1 e4 e7
                      unfold nvR at e8'
                      go_wp2
                      go_roundw
                      case rel => exact ⟨k + 1, by omega, by go_num, hT⟩
                      case measure => simp [intOf]; omega
                    · obtain rfl : k = 8 := by omega
                      go_wp2
                      go_roundw
                      case rel => exact ⟨p + 1, by omega, by go_num, hT⟩
                      case measure => simp [intOf]; omega
            · obtain rfl : M = p := by omega
              have hch := hT.chg
              go_wp2
              go_ret
              exact ⟨rfl, hch⟩
end Go.Proofs.Ytfbjjblgcgjndaa
