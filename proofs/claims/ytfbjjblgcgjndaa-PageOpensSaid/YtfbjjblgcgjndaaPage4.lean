/- Contracts of number and open. -/
import Derived.Test.YtfbjjblgcgjndaaPage3
set_option linter.unusedVariables false
set_option linter.unusedSimpArgs false
namespace Go.Proofs.Ytfbjjblgcgjndaa
open Go.RowKit

theorem el_append (l m : List Nat) : el (l ++ m) = el l + 256 ^ l.length * el m := by
  induction l with
  | nil => simp [el]
  | cons b l ih =>
    simp only [List.cons_append, el, ih, List.length_cons, Nat.pow_succ]
    rw [Nat.mul_add, Nat.mul_comm (256 ^ l.length) 256, Nat.mul_assoc]
    omega
theorem el_take (l : List Nat) (k : Nat) (h : k < l.length) : el (l.take (k + 1)) = el (l.take k) + 256 ^ k * nth l k := by
  rw [take_nth l k h, el_append]
  have : min k l.length = k := Nat.min_eq_left (by omega)
  simp [el, this]
theorem el_take_lt (l : List Nat) (k : Nat) (h : k ≤ l.length) (hb : Bytes l) : el (l.take k) < 256 ^ k := by
  have := el_lt (l.take k) (hb.take k)
  rwa [List.length_take, Nat.min_eq_left h] at this

theorem or_at (n c j : Nat) (hn : n < 256 ^ j) (hc : c < 256) (hj : j < 8) :
    bits BinOp.or IntKind.u64 (n : Int) (IntKind.u64.wrap ((c : Int) * 2 ^ (8 * j))) = ((n + 256 ^ j * c : Nat) : Int) := by
  have h256 : (256 : Nat) ^ j = 2 ^ (8 * j) := by rw [Nat.pow_mul]
  have hpos : 0 < 256 ^ j := Nat.pow_pos (by decide)
  have hle : 256 ^ j ≤ 256 ^ 7 := Nat.pow_le_pow_right (by decide) (by omega)
  have h1 : 256 ^ j * c < 18446744073709551616 := by
    calc 256 ^ j * c ≤ 256 ^ 7 * c := Nat.mul_le_mul_right _ hle
      _ ≤ 256 ^ 7 * 255 := Nat.mul_le_mul_left _ (by omega)
      _ < 18446744073709551616 := by decide
  have e1 : (c : Int) * 2 ^ (8 * j) = ((256 ^ j * c : Nat) : Int) := by
    rw [h256]
    push_cast
    exact Int.mul_comm _ _
  rw [e1]
  generalize hX : 256 ^ j * c = X at h1
  have e2 : IntKind.u64.wrap (X : Int) = (X : Int) := by rw [IntKind.wrap_u64]; omega
  rw [e2, u64_or_nat n X (by have : (256:Nat) ^ 7 < 18446744073709551616 := by decide
                             omega) h1, ← hX, h256, Nat.or_comm, ← Nat.two_pow_add_eq_or_of_lt (by rw [← h256]; exact hn), Nat.add_comm]
set_option maxRecDepth 100000 in
set_option maxHeartbeats 1000000 in
theorem number_ok {w0 w : World} {b : Nat} {r : Inner} (h : Reads w0 w b r) (k : Nat) (hk : k ≤ r.l.length) (hk8 : k ≤ 8) :
    Calls Try.prog 165 #[.pointer (some ⟨b, 0, none⟩), .int .i64 (k : Int)] w fun e w' => e = .returned (.int .u64 ((el (r.l.take k) : Nat) : Int)) ∧ Reads w0 w' b (r.suf k) ∧ w.grownBy w' (some b) := by
  go_enter Try.func165, Try.ntmps165
  go_wp2_with fail
  refine (take_ok h k hk).mono ?_
  rintro e w1 ⟨rfl, hr1, hg1⟩
  have hA := (h.ok.pre k).lies.below hr1.below
  have hb := h.ok.bytes
  generalize hQ : Reads w0 w1 b (r.suf k) = QQ at hr1
  have HQ := Lib.hid hQ
  clear hQ h
  go_wp2
  go_loop [5, 12] (fun n i => ∃ j : Nat, j ≤ k ∧ i = .int .i64 j ∧ n = .int .u64 ((el (r.l.take j) : Nat) : Int)) (fun _ i => k - (intOf i).toNat)
  case atStart => exact ⟨0, by omega, rfl, by simp [el]⟩
  case round =>
    obtain ⟨j, hj, rfl, rfl⟩ := hrel
    by_cases hlt : j < k
    · obtain ⟨g, o, e, hc⟩ := hA.num j (by simp [Inner.pre]; omega)
      have e2 : nth (r.pre k).l j = nth r.l j := by
        have h1 := nth_eq (r.pre k).l j (by simp [Inner.pre]; omega)
        have h2 := nth_eq r.l j (by omega)
        simp only [Inner.pre] at h1 ⊢
        rw [List.getElem?_take_of_lt hlt, h2] at h1
        exact (Option.some.inj h1).symm
      rw [e2] at hc
      have e3 : r.A = some ⟨g, o, none⟩ := e
      have hlt1 := el_take_lt r.l j (by omega) hb
      have hbj := hb.nth j (by omega)
      have hor := or_at _ _ j hlt1 hbj (by omega)
      rw [← el_take r.l j (by omega)] at hor
      have HO := Lib.hid hor
      clear hor hlt1
      go_wp2
      go_round
      case rel => exact ⟨j + 1, by omega, by go_num, by rw [HO.out]⟩
      case measure => simp [intOf]; omega
    · obtain rfl : j = k := by omega
      go_wp2
      go_ret
      exact ⟨rfl, by rw [HQ.out]; exact hr1, hg1⟩

set_option maxRecDepth 100000 in
set_option maxHeartbeats 1000000 in
theorem number_bad {w0 w : World} {b : Nat} {r : Inner} (h : Reads w0 w b r) (k : Nat) (hk : r.l.length < k) (hs : k ≤ 1000000) :
    Calls Try.prog 165 #[.pointer (some ⟨b, 0, none⟩), .int .i64 (k : Int)] w fun e w' => e = Gave ∧ w' = w := by
  have ht := Lib.hid (take_bad h k hk hs)
  clear h
  go_enter Try.func165, Try.ntmps165
  go_wp2_with fail
  refine ht.out.mono ?_
  rintro e w1 ⟨rfl, rfl⟩
  exact ⟨rfl, rfl, rfl⟩

theorem ErrBox.grown {w w1 : World} {g b : Nat} {x : Int} (h : ErrBox w g x) (hg : w.grownBy w1 (some b)) (hne : g ≠ b) : ErrBox w1 g x := by
  unfold ErrBox
  rw [hg.block g (Array.getElem?_eq_some_iff.1 h).1 (by intro e; injection e with e; exact hne e)]
  exact h

theorem suf_length (r : Inner) (k : Nat) : (r.suf k).l.length = r.l.length - k := by simp [Inner.suf]
theorem suf_l (r : Inner) (k : Nat) : (r.suf k).l = r.l.drop k := rfl
theorem suf_suf_l (r : Inner) (k m : Nat) : ((r.suf k).suf m).l = r.l.drop (k + m) := by simp [Inner.suf]
theorem pre_l (r : Inner) (k : Nat) : (r.pre k).l = r.l.take k := rfl
theorem nth_drop (l : List Nat) (k j : Nat) : nth (l.drop k) j = nth l (k + j) := by simp [nth, List.getD_eq_getElem?_getD]
theorem nth_take (l : List Nat) (k j : Nat) (h : j < k) : nth (l.take k) j = nth l j := by simp [nth, List.getD_eq_getElem?_getD, List.getElem?_take_of_lt h]

/-- the start: the variable of the error, the reader behind it -/
theorem opened (r : Inner) (w : World) (h : r.Ok w) (W : World) (hW : W = (w.alloc (.cells #[.int .u16 0] 37)).alloc (.cells #[.slice r.A r.l.length r.c] 266)) :
    Reads w W (w.heap.size + 1) r ∧ ErrBox W w.heap.size 0 := by
  subst hW
  refine ⟨⟨?_, h, below_alloc0 (below_alloc0 (Below.refl _ _) _) _, by omega⟩, ?_⟩
  · rw [show w.heap.size + 1 = (w.alloc (.cells #[.int .u16 0] 37)).heap.size by simp]
    exact heap_alloc_new _ _
  · unfold ErrBox
    rw [heap_alloc_old _ _ (by simp)]
    exact heap_alloc_new w _

set_option maxRecDepth 100000 in
set_option maxHeartbeats 1000000 in
theorem open_ok (r : Inner) (w : World) (h : r.Ok w) (h12 : 12 ≤ r.l.length) (n : Nat) (hn : n = el ((r.l.drop 8).take 2)) (hfit : n ≤ r.l.length - 12) :
    Calls Try.prog 135 #[.slice r.A r.l.length r.c] w fun e w' => ∃ q : Inner, q.Ok w ∧ q.l = (r.l.drop 12).take n ∧ e = .returned (.tuple #[.int .u8 (nth r.l 2 : Int), .slice q.A q.l.length q.c, .int .u16 0]) ∧ Below w.heap.size w w' := by
  have hsmall := h.small
  have hle := h.le
  have hne : w.heap.size ≠ w.heap.size + 1 := by omega
  go_enter_defers Try.func135, Try.ntmps135
  go_wp2_with fail
  generalize hW : (w.alloc (Obj.cells #[Value.int IntKind.u16 0] 37)).alloc (Obj.cells #[Value.slice r.A r.l.length r.c] 266) = W0
  obtain ⟨hr0, hE0⟩ := opened r w h W0 hW.symm
  clear hW
  refine (take_ok hr0 2 (by omega)).mono ?_
  rintro e w1 ⟨rfl, hr1, hg1⟩
  have hE1 := hE0.grown hg1 hne
  go_wp2_with fail
  refine (take_ok hr1 1 (by rw [suf_length]; omega)).mono ?_
  rintro e w2 ⟨rfl, hr2, hg2⟩
  have hE2 := hE1.grown hg2 hne
  have hA2 := (hr1.ok.pre 1).lies.below hr2.below
  obtain ⟨g, o, e2, hc2⟩ := hA2.num 0 (by simp [Inner.pre, suf_l]; omega)
  rw [pre_l, nth_take _ _ _ (by omega), suf_l, nth_drop, Nat.add_zero] at hc2
  have e2' : (r.suf 2).A = some ⟨g, o, none⟩ := e2
  clear e2
  rw [e2']
  go_wp2_with fail
  refine (take_ok hr2 5 (by rw [suf_length, suf_length]; omega)).mono ?_
  rintro e w3 ⟨rfl, hr3, hg3⟩
  have hE3 := hE2.grown hg3 hne
  go_wp2_with fail
  refine (number_ok hr3 2 (by rw [suf_length, suf_length, suf_length]; omega) (by omega)).mono ?_
  rintro e w4 ⟨rfl, hr4, hg4⟩
  have hE4 := hE3.grown hg4 hne
  have hnum : el ((((r.suf 2).suf 1).suf 5).l.take 2) = n := by rw [hn]; simp [Inner.suf]
  rw [hnum]
  clear hnum hn
  go_wp2_with fail
  refine (take_ok hr4 2 (by rw [suf_length, suf_length, suf_length, suf_length]; omega)).mono ?_
  rintro e w5 ⟨rfl, hr5, hg5⟩
  have hE5 := hE4.grown hg5 hne
  go_wp2_with fail
  refine (take_ok hr5 n (by rw [suf_length, suf_length, suf_length, suf_length, suf_length]; omega)).mono ?_
  rintro e w6 ⟨rfl, hr6, hg6⟩
  have hE6 := hE5.grown hg6 hne
  have hq := hr5.ok.pre n
  have hql : ((((((r.suf 2).suf 1).suf 5).suf 2).suf 2).pre n).l = (r.l.drop 12).take n := by simp [Inner.suf, Inner.pre]
  have hb6 := hr6.below
  have hcell : w6.cell? ⟨w.heap.size, 0, none⟩ = some (.int .u16 0) := by rw [cell_of_row w6 _ 0 _ 37 (0, 0) hE6]; rfl
  have hfr := frozen_of_row w6 _ 0 _ 37 hE6
  generalize (((((r.suf 2).suf 1).suf 5).suf 2).suf 2) = r5 at hq hql ⊢
  go_wp2
  refine leaves_cons (f := 163) (args := #[.pointer (some ⟨w.heap.size, 0, none⟩)]) (by simp) (by simp [go_sem]) ?_
  refine (guard_idle _ _).mono ?_
  rintro e u' w'' ⟨rfl, rfl, rfl⟩
  have hcell2 : (w6.setCell ⟨w.heap.size, 0, none⟩ (.int .u16 0)).cell? ⟨w.heap.size, 0, none⟩ = some (.int .u16 0) := by
    have h2 : ErrBox (w6.setCell ⟨w.heap.size, 0, none⟩ (.int .u16 0)) w.heap.size 0 := blk_set hE6 0 _
    rw [cell_of_row _ _ 0 _ 37 (0, 0) h2]; rfl
  have hlen : (r5.pre n).l.length = n := by rw [hql, List.length_take, List.length_drop]; omega
  simp only [Leaves, settle, results, Try.results135, go_sem]
  simp [hcell2, go_sem]
  exact ⟨r5.pre n, hq, hql, by rw [hlen]; exact ⟨rfl, rfl, rfl⟩, hb6.setCell (Nat.le_refl _) _⟩

/-- the door of open, where the reader gave up -/
theorem open_door (g : Nat) (tmps : Array Value) (k v : Value) (R : Ending → World → Prop) (w : World) (h2 : tmps.getD 2 undef = k) (h3 : tmps.getD 3 undef = v) (h4 : tmps.getD 4 undef = .pointer (some ⟨g, 0, none⟩)) (hE : ErrBox w g 0)
    (h : ∀ w2, w.grownBy w2 (some g) → R (.returned (.tuple #[k, v, .int .u16 80])) w2) :
    Leaves Try.prog Try.f135 tmps R [{ target := .fn (.func 163) #[], args := #[.pointer (some ⟨g, 0, none⟩)] }] (.panicking [{ v := .iface 273 (.agg #[]), recovered := false }]) w := by
  refine leaves_cons (f := 163) (args := #[.pointer (some ⟨g, 0, none⟩)]) (by simp) (by simp [go_sem]) ?_
  refine (guard_panicking g 0 [] w hE).mono ?_
  rintro e u' w2 ⟨rfl, rfl, hE2, hg2⟩
  have hcell2 : w2.cell? ⟨g, 0, none⟩ = some (.int .u16 80) := by rw [cell_of_row _ _ 0 _ 37 (0, 0) hE2]; rfl
  have := h w2 hg2
  have hres : (results Try.f135 tmps).run Try.prog w2 = .ok (.tuple #[k, v, .int .u16 80]) w2 := by
    have h2' : tmps.getD 2 undef = k := h2
    simp [results, Try.results135, go_sem]
    simp [Array.getD_eq_getD_getElem?] at h2 h3 h4
    simp [h2, h3, h4, hcell2, go_sem]
  exact ⟨_, hres, this⟩

set_option maxRecDepth 100000 in
set_option maxHeartbeats 1000000 in
theorem open_bad (r : Inner) (w : World) (h : r.Ok w) (hbad : r.l.length < 12 ∨ (12 ≤ r.l.length ∧ r.l.length - 12 < el ((r.l.drop 8).take 2))) :
    Calls Try.prog 135 #[.slice r.A r.l.length r.c] w fun e w' => ∃ k v, e = .returned (.tuple #[k, v, .int .u16 80]) ∧ Below w.heap.size w w' := by
  have hsmall := h.small
  have hle := h.le
  have hne : w.heap.size ≠ w.heap.size + 1 := by omega
  go_enter_defers Try.func135, Try.ntmps135
  go_wp2_with fail
  generalize hW : (w.alloc (Obj.cells #[Value.int IntKind.u16 0] 37)).alloc (Obj.cells #[Value.slice r.A r.l.length r.c] 266) = W0
  obtain ⟨hr0, hE0⟩ := opened r w h W0 hW.symm
  clear hW
  by_cases d0 : r.l.length < 2
  · clear hbad
    refine (take_bad hr0 2 d0 (by omega)).mono ?_
    rintro e w9 ⟨rfl, rfl⟩
    exact open_door w.heap.size _ _ _ _ _ rfl rfl rfl hE0 (fun w2 hg2 => ⟨_, _, rfl, below_grown hr0.below hg2 hr0.below.size (by intro k hk; injection hk with hk; omega)⟩)
  refine (take_ok hr0 2 (by omega)).mono ?_
  rintro e w1 ⟨rfl, hr1, hg1⟩
  have hE1 := hE0.grown hg1 hne
  by_cases d1 : r.l.length < 3
  · clear hbad
    go_wp2_with fail
    refine (take_bad hr1 1 (by rw [suf_length]; omega) (by omega)).mono ?_
    rintro e w9 ⟨rfl, rfl⟩
    exact open_door w.heap.size _ _ _ _ _ rfl rfl rfl hE1 (fun w2 hg2 => ⟨_, _, rfl, below_grown hr1.below hg2 hr1.below.size (by intro k hk; injection hk with hk; omega)⟩)
  go_wp2_with fail
  refine (take_ok hr1 1 (by rw [suf_length]; omega)).mono ?_
  rintro e w2 ⟨rfl, hr2, hg2⟩
  have hE2 := hE1.grown hg2 hne
  have hA2 := (hr1.ok.pre 1).lies.below hr2.below
  obtain ⟨g, o, e2, hc2⟩ := hA2.num 0 (by simp [Inner.pre, suf_l]; omega)
  rw [pre_l, nth_take _ _ _ (by omega), suf_l, nth_drop, Nat.add_zero] at hc2
  have e2' : (r.suf 2).A = some ⟨g, o, none⟩ := e2
  clear e2
  rw [e2']
  by_cases d2 : r.l.length < 8
  · clear hbad
    go_wp2_with fail
    refine (take_bad hr2 5 (by rw [suf_length, suf_length]; omega) (by omega)).mono ?_
    rintro e w9 ⟨rfl, rfl⟩
    exact open_door w.heap.size _ _ _ _ _ rfl rfl rfl hE2 (fun w2 hg2 => ⟨_, _, rfl, below_grown hr2.below hg2 hr2.below.size (by intro k hk; injection hk with hk; omega)⟩)
  go_wp2_with fail
  refine (take_ok hr2 5 (by rw [suf_length, suf_length]; omega)).mono ?_
  rintro e w3 ⟨rfl, hr3, hg3⟩
  have hE3 := hE2.grown hg3 hne
  by_cases d3 : r.l.length < 10
  · clear hbad
    go_wp2_with fail
    refine (number_bad hr3 2 (by rw [suf_length, suf_length, suf_length]; omega) (by omega)).mono ?_
    rintro e w9 ⟨rfl, rfl⟩
    exact open_door w.heap.size _ _ _ _ _ rfl rfl rfl hE3 (fun w2 hg2 => ⟨_, _, rfl, below_grown hr3.below hg2 hr3.below.size (by intro k hk; injection hk with hk; omega)⟩)
  go_wp2_with fail
  refine (number_ok hr3 2 (by rw [suf_length, suf_length, suf_length]; omega) (by omega)).mono ?_
  rintro e w4 ⟨rfl, hr4, hg4⟩
  have hE4 := hE3.grown hg4 hne
  have hnum : el ((((r.suf 2).suf 1).suf 5).l.take 2) = el ((r.l.drop 8).take 2) := by simp [Inner.suf]
  rw [hnum]
  clear hnum
  have hnlt := el_take_lt (r.l.drop 8) 2 (by rw [List.length_drop]; omega) (h.bytes.drop 8)
  generalize el ((r.l.drop 8).take 2) = n at hbad hnlt
  by_cases d4 : r.l.length < 12
  · clear hbad
    go_wp2_with fail
    refine (take_bad hr4 2 (by rw [suf_length, suf_length, suf_length, suf_length]; omega) (by omega)).mono ?_
    rintro e w9 ⟨rfl, rfl⟩
    exact open_door w.heap.size _ _ _ _ _ rfl rfl rfl hE4 (fun w2 hg2 => ⟨_, _, rfl, below_grown hr4.below hg2 hr4.below.size (by intro k hk; injection hk with hk; omega)⟩)
  go_wp2_with fail
  refine (take_ok hr4 2 (by rw [suf_length, suf_length, suf_length, suf_length]; omega)).mono ?_
  rintro e w5 ⟨rfl, hr5, hg5⟩
  have hE5 := hE4.grown hg5 hne
  have d5 : r.l.length - 12 < n := by omega
  clear hbad
  go_wp2_with fail
  refine (take_bad hr5 n (by rw [suf_length, suf_length, suf_length, suf_length, suf_length]; omega) (by omega)).mono ?_
  rintro e w9 ⟨rfl, rfl⟩
  exact open_door w.heap.size _ _ _ _ _ rfl rfl rfl hE5 (fun w2 hg2 => ⟨_, _, rfl, below_grown hr5.below hg2 hr5.below.size (by intro k hk; injection hk with hk; omega)⟩)
end Go.Proofs.Ytfbjjblgcgjndaa
