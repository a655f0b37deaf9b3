/- Contracts of disk.none and disk.New. -/
import Derived.Test.YtfbjjblgcgjndaaDisk1
set_option linter.unusedVariables false
set_option linter.unusedSimpArgs false
namespace Go.Proofs.Ytfbjjblgcgjndaa
open Go.RowKit Go.Maps

set_option maxRecDepth 100000 in
theorem none_any (w : World) : Calls Try.prog 118 #[] w fun e w' => e = .returned (.agg #[.int .i64 (-1), .int .i64 (-1), .int .i64 (-1), .int .i64 (-1)]) ∧ w' = w.alloc (.cells #[.int .i64 (-1), .int .i64 (-1), .int .i64 (-1), .int .i64 (-1)] 176) := by
  go_enter Try.func118, Try.ntmps118
  go_wp2
  exact bodyPost_ret (v := .agg #[.int .i64 (-1), .int .i64 (-1), .int .i64 (-1), .int .i64 (-1)]) (by simp [results, Try.results118, go_sem]) rfl ⟨rfl, rfl⟩
def zero128 : Array Value := Array.replicate 128 (.int .u8 0)
theorem Try.info183 : (Try.prog.info? 183).map (fun i => (i.zero, i.size, i.bytes)) = some (some (.agg zero128), 128, 128) := by kernel_rfl
def blank (n : Nat) : Array Value := madeCells zero128 (n * 128)
theorem make_disk (n : Nat) (hn : n ≤ 131072) (w : World) : (Instr.makeSlice 174 (.int .i64 (n : Int)) (.int .i64 (n : Int))).run Try.prog w = .ok (.slice (some ⟨w.heap.size, 0, none⟩) n n) (w.alloc (.cells (blank n) 183)) := by
  obtain ⟨i0, hi, hzz⟩ := Option.map_eq_some_iff.1 Try.info183
  simp only [Prod.mk.injEq] at hzz
  obtain ⟨hz0, hz1, hz2⟩ := hzz
  have := run_makeSlice (P := Try.prog) w 174 183 i0 (.agg zero128) Try.underlying174 hi hz0 .i64 .i64 (n : Int) (n : Int) (by omega) (by omega) (by rw [hz1]; simp; omega) (by rw [hz2]; omega) (by omega)
  rw [this, hz1]
  simp [blank, Value.cells]
set_option maxRecDepth 100000 in
theorem new_no (n : Int) (w : World) (h : n < 1 ∨ 16384 < n) : Calls Try.prog 46 #[.int .i64 n] w fun e w' => e = .returned (.tuple #[.pointer none, .int .u16 70]) ∧ w = w' := by
  rcases h with h | h
  · go_enter Try.func46, Try.ntmps46
    go_wp2
    go_ret2
    exact ⟨rfl, rfl⟩
  · have h' : ¬ n < 1 := by omega
    go_enter Try.func46, Try.ntmps46
    go_wp2
    go_ret2
    exact ⟨rfl, rfl⟩
theorem hp_alloc (w : World) (o : Obj) (i : Nat) : (w.alloc o).heap[i]? = if i = w.heap.size then some o else w.heap[i]? := by
  by_cases h : i = w.heap.size
  · subst h; rw [if_pos rfl]; exact heap_alloc_new w o
  · rw [if_neg h]
    by_cases h2 : i < w.heap.size
    · exact heap_alloc_old w o h2
    · rw [Array.getElem?_eq_none (by simp; omega), Array.getElem?_eq_none (by omega)]
theorem hp_drew (w : World) : w.drew.heap = w.heap := rfl
theorem sz_alloc (w : World) (o : Obj) : (w.alloc o).heap.size = w.heap.size + 1 := by simp
set_option maxRecDepth 100000 in
theorem blank_get (n i : Nat) (h : i < n * 128) : (blank n)[i]? = some (.int .u8 0) := by
  unfold blank madeCells
  have hs : zero128.size = 128 := by simp [zero128]
  simp only [Array.getElem?_map, Array.getElem?_range, h, if_true, Option.map_some, hs]
  congr 1
  have : i % 128 < zero128.size := by rw [hs]; exact Nat.mod_lt _ (by decide)
  rw [getElem!_pos zero128 (i % 128) this]
  simp [zero128]
theorem blank_size (n : Nat) : (blank n).size = n * 128 := by simp [blank, size_madeCells]
theorem blank_last {w : World} {b n : Nat} (h : w.heap[b]? = some (.cells (blank n) 183 (0, 0))) : LastAt w b (List.replicate n zeroSect) := by
  refine ⟨fun i hi j v hv => ?_, fun j hj => ?_⟩
  · rw [List.length_replicate] at hi
    rw [List.getElem_replicate] at hv
    have hj : j < 128 := by
      have := (List.getElem?_eq_some_iff.1 hv).1
      rw [ns_length] at this
      simpa [zeroSect] using this
    have hv' : v = .int .u8 0 := by
      have h2 := ns_get .u8 zeroSect j (by simpa [zeroSect] using hj)
      rw [h2] at hv
      have : nth zeroSect j = 0 := by rw [nth_get _ _ (by simpa [zeroSect] using hj)]; exact List.getElem_replicate ..
      rw [this] at hv
      cases hv; rfl
    rw [cell_of_row w b _ _ 183 (0, 0) h, hv']
    refine blank_get n _ ?_
    have : (i + 1) * 128 ≤ n * 128 := Nat.mul_le_mul_right _ hi
    omega
  · rw [List.length_replicate] at hj
    refine ⟨?_, frozen_of_row w b _ _ 183 h⟩
    rw [cell_of_row w b _ _ 183 (0, 0) h, Nat.zero_add, blank_get n j hj]; rfl
theorem new_diskAt (n0 : Nat) (W : World) (p b m n : Nat) (h1 : 1 ≤ n) (h2 : n ≤ 16384) (hb : W.heap[b]? = some (.cells (blank (n * 8)) 183 (0, 0))) (hm : W.heap[m]? = some (.map #[] 0))
    (hp : W.heap[p]? = some (.cells #[.slice (some ⟨b, 0, none⟩) (n * 8) (n * 8), .slice none 0 0, .map (some m), .bool false, .int .i64 (-1), .int .i64 (-1), .int .i64 (-1), .int .i64 (-1), .int .i64 (-1), .int .i64 0, .int .i64 0, .int .i64 0, .int .i64 0] 180 (0, 0)))
    (hd : p ≠ b ∧ p ≠ m ∧ b ≠ m) (hn : n0 ≤ p ∧ n0 ≤ b ∧ n0 ≤ m) : DiskAt n0 W p (Dsk.new n) (fun g => n0 ≤ g ∧ g < W.heap.size) := by
  have hl : (Dsk.new n).last.length = n * 8 := by simp [Dsk.new]; omega
  have hbl : b < W.heap.size := (Array.getElem?_eq_some_iff.1 hb).1
  have hml : m < W.heap.size := (Array.getElem?_eq_some_iff.1 hm).1
  have hin : DiskIn n0 W p (Dsk.new n) ⟨b, .slice none 0 0, m⟩ (.map []) := by
    refine ⟨RecAt.of hp ?_, ?_, World.ownsRow_nil _ _ _ _, ?_, SeenOk.nil, ⟨hn.1, hn.2.1, hn.2.2, hbl, hml⟩, hd.1, hd.2.1, hd.2.2, by simp [blk, Value.ownBlock], by simp [blk, Value.ownBlock], by simp [blk, Value.ownBlock]⟩
    · rw [hl]; rfl
    · have := blank_last hb
      rw [show n * 8 = 8 * n by omega] at this
      exact this
    · exact ⟨#[], 0, hm, (World.ownsMap_made (H := Unit) W Try.prog 3 (plainElem Try.prog 3)).elim (fun es h => by obtain ⟨clock, h1, h2, _⟩ := h; have := heap_alloc_new W (.map #[] 0); rw [this] at h1; cases h1; exact h2), Nat.le_refl _, rfl⟩
  exact ⟨Dsk.new_ok n h1 h2, _, _, hin, fun g hg => hin.lt hg⟩
set_option maxRecDepth 100000 in
set_option maxHeartbeats 1000000 in
theorem new_ok (n : Nat) (w : World) (h1 : 1 ≤ n) (h2 : n ≤ 16384) : Calls Try.prog 46 #[.int .i64 (n : Int)] w fun e w' => ∃ p, e = .returned (.tuple #[.pointer (some ⟨p, 0, none⟩), .int .u16 0]) ∧ DiskAt w.heap.size w' p (Dsk.new n) (fun g => w.heap.size ≤ g ∧ g < w'.heap.size) ∧ Below w.heap.size w w' := by
  have hmk : ∀ w, (Instr.makeSlice 174 (.int .i64 ((n : Int) * 8)) (.int .i64 ((n : Int) * 8))).run Try.prog w = .ok (.slice (some ⟨w.heap.size, 0, none⟩) (n * 8) (n * 8)) (w.alloc (.cells (blank (n * 8)) 183)) := fun w => by
    have := make_disk (n * 8) (by omega) w
    rwa [show ((n * 8 : Nat) : Int) = (n : Int) * 8 from by push_cast; rfl] at this
  have hmm := @run_makeMap Try.prog
  have hwr : IntKind.i64.wrap ((n : Int) * 8) = ((n * 8 : Nat) : Int) := by rw [IntKind.wrap_i64]; omega
  go_enter Try.func46, Try.ntmps46
  go_wp2_with fail
  go_region_with ((go_at_call 118; refine (none_any _).mono ?_; rintro e w1 ⟨rfl, rfl⟩))
  all_goals
    go_wp2
    go_ret2
  · refine ⟨w.heap.size + 1 + 1 + 1, rfl, new_diskAt _ _ _ w.heap.size (w.heap.size + 1) n h1 h2 ?_ ?_ ?_ (by omega) (by omega), ?_⟩
    · simp only [hp_alloc, hp_drew, sz_alloc]; (repeat (first | rw [if_neg (by omega)] | rw [if_pos (by omega)] | rw [if_pos trivial])); try rfl
    · simp only [hp_alloc, hp_drew, sz_alloc]; (repeat (first | rw [if_neg (by omega)] | rw [if_pos (by omega)] | rw [if_pos trivial])); try rfl
    · simp only [hp_alloc, hp_drew, sz_alloc]; (repeat (first | rw [if_neg (by omega)] | rw [if_pos (by omega)] | rw [if_pos trivial])); try rfl
    · exact below_drew0 <| below_alloc0 (below_alloc0 (below_alloc0 (below_alloc0 (Below.refl _ _) _) _) _) _
  · refine ⟨w.heap.size + 1 + 1 + 1, rfl, new_diskAt _ _ _ w.heap.size (w.heap.size + 1 + 1) n h1 h2 ?_ ?_ ?_ (by omega) (by omega), ?_⟩
    · simp only [hp_alloc, hp_drew, sz_alloc]; (repeat (first | rw [if_neg (by omega)] | rw [if_pos (by omega)] | rw [if_pos trivial])); try rfl
    · simp only [hp_alloc, hp_drew, sz_alloc]; (repeat (first | rw [if_neg (by omega)] | rw [if_pos (by omega)] | rw [if_pos trivial])); try rfl
    · simp only [hp_alloc, hp_drew, sz_alloc]; (repeat (first | rw [if_neg (by omega)] | rw [if_pos (by omega)] | rw [if_pos trivial])); try rfl
    · exact below_drew0 <| below_alloc0 (below_alloc0 (below_alloc0 (below_alloc0 (Below.refl _ _) _) _) _) _
  · refine ⟨w.heap.size + 1 + 1 + 1, rfl, new_diskAt _ _ _ (w.heap.size + 1) w.heap.size n h1 h2 ?_ ?_ ?_ (by omega) (by omega), ?_⟩
    · simp only [hp_alloc, hp_drew, sz_alloc]; (repeat (first | rw [if_neg (by omega)] | rw [if_pos (by omega)] | rw [if_pos trivial])); try rfl
    · simp only [hp_alloc, hp_drew, sz_alloc]; (repeat (first | rw [if_neg (by omega)] | rw [if_pos (by omega)] | rw [if_pos trivial])); try rfl
    · simp only [hp_alloc, hp_drew, sz_alloc]; (repeat (first | rw [if_neg (by omega)] | rw [if_pos (by omega)] | rw [if_pos trivial])); try rfl
    · exact below_drew0 <| below_alloc0 (below_alloc0 (below_alloc0 (below_alloc0 (Below.refl _ _) _) _) _) _
  · refine ⟨w.heap.size + 1 + 1 + 1, rfl, new_diskAt _ _ _ (w.heap.size + 1 + 1) w.heap.size n h1 h2 ?_ ?_ ?_ (by omega) (by omega), ?_⟩
    · simp only [hp_alloc, hp_drew, sz_alloc]; (repeat (first | rw [if_neg (by omega)] | rw [if_pos (by omega)] | rw [if_pos trivial])); try rfl
    · simp only [hp_alloc, hp_drew, sz_alloc]; (repeat (first | rw [if_neg (by omega)] | rw [if_pos (by omega)] | rw [if_pos trivial])); try rfl
    · simp only [hp_alloc, hp_drew, sz_alloc]; (repeat (first | rw [if_neg (by omega)] | rw [if_pos (by omega)] | rw [if_pos trivial])); try rfl
    · exact below_drew0 <| below_alloc0 (below_alloc0 (below_alloc0 (below_alloc0 (Below.refl _ _) _) _) _) _
  · refine ⟨w.heap.size + 1 + 1 + 1, rfl, new_diskAt _ _ _ (w.heap.size + 1) (w.heap.size + 1 + 1) n h1 h2 ?_ ?_ ?_ (by omega) (by omega), ?_⟩
    · simp only [hp_alloc, hp_drew, sz_alloc]; (repeat (first | rw [if_neg (by omega)] | rw [if_pos (by omega)] | rw [if_pos trivial])); try rfl
    · simp only [hp_alloc, hp_drew, sz_alloc]; (repeat (first | rw [if_neg (by omega)] | rw [if_pos (by omega)] | rw [if_pos trivial])); try rfl
    · simp only [hp_alloc, hp_drew, sz_alloc]; (repeat (first | rw [if_neg (by omega)] | rw [if_pos (by omega)] | rw [if_pos trivial])); try rfl
    · exact below_drew0 <| below_alloc0 (below_alloc0 (below_alloc0 (below_alloc0 (Below.refl _ _) _) _) _) _
  · refine ⟨w.heap.size + 1 + 1 + 1, rfl, new_diskAt _ _ _ (w.heap.size + 1 + 1) (w.heap.size + 1) n h1 h2 ?_ ?_ ?_ (by omega) (by omega), ?_⟩
    · simp only [hp_alloc, hp_drew, sz_alloc]; (repeat (first | rw [if_neg (by omega)] | rw [if_pos (by omega)] | rw [if_pos trivial])); try rfl
    · simp only [hp_alloc, hp_drew, sz_alloc]; (repeat (first | rw [if_neg (by omega)] | rw [if_pos (by omega)] | rw [if_pos trivial])); try rfl
    · simp only [hp_alloc, hp_drew, sz_alloc]; (repeat (first | rw [if_neg (by omega)] | rw [if_pos (by omega)] | rw [if_pos trivial])); try rfl
    · exact below_drew0 <| below_alloc0 (below_alloc0 (below_alloc0 (below_alloc0 (Below.refl _ _) _) _) _) _
end Go.Proofs.Ytfbjjblgcgjndaa
