/- Contract of page.PutMeta. -/
import Derived.Test.YtfbjjblgcgjndaaMeta4
set_option linter.unusedVariables false
set_option linter.unusedSimpArgs false
namespace Go.Proofs.Ytfbjjblgcgjndaa
open Go.RowKit

set_option maxRecDepth 100000 in
set_option maxHeartbeats 2000000 in
theorem put_ok (m : Meta) (w : World) (h : m.Ok) (hm : MayBe m) :
    Calls Try.prog 71 #[m.val] w fun e w' => ∃ v, e = .returned (.tuple #[v, .int .u16 0]) ∧ Buf w.heap.size w' v (sector m) ∧ Below w.heap.size w w' ∧ w.heap.size ≤ w'.heap.size := by
  have hmay := fun w => may_any m w h
  rw [decide_eq_true hm] at hmay
  simp only [Meta.val, Meta.cells] at hmay ⊢
  have HM := Lib.hid hmay
  clear hmay hm
  have e0 : metaBytes m = ([67, 77, 69, 84] ++ le m.gen 8) ++ quads [m.root, m.free, m.pages] ++ le m.keys 8 := by simp [metaBytes, quads]
  have hBY0 : Bytes (([67, 77, 69, 84] ++ le m.gen 8) ++ quads [m.root, m.free, m.pages] ++ le m.keys 8) := e0 ▸ metaBytes_bytes m
  have hBY := Lib.hid hBY0
  clear hBY0
  have hst : Hid (sector m = closed (fill (([67, 77, 69, 84] ++ le m.gen 8) ++ quads [m.root, m.free, m.pages] ++ le m.keys 8) 124)) := Lib.hid (by rw [← e0]; rfl)
  clear e0
  generalize sector m = S at hst
  have hg := h.gen
  have hr := h.root
  have hf := h.free
  have hp := h.pages
  have hk := h.keys
  have kc := fun (w : World) (C : Array Value) (n c : Nat) => Lib.run_convert_bytes_const (P := Try.prog) w 23 5 C n c Try.underlying23 Try.underlying5
  go_enter Try.func71, Try.ntmps71
  go_wp2_with fail
  refine (HM.out _).mono ?_
  rintro e w1 ⟨rfl, hb1⟩
  replace hb1 : Below (w.heap.size + 1) (w.alloc (.cells m.cells 116)) w1 := by
    have := hb1
    rw [show (w.alloc (Obj.cells #[Value.int IntKind.u64 (m.gen : Int), Value.int IntKind.u32 (m.root : Int), Value.int IntKind.u32 (m.free : Int), Value.int IntKind.u32 (m.pages : Int), Value.int IntKind.u64 (m.keys : Int)] 116)).heap.size = w.heap.size + 1 by simp] at this
    exact this
  have hs1 : w.heap.size + 1 ≤ w1.heap.size := by have := hb1.size; simp at this; exact this
  have hb2 := hb1.alloc hs1 (.cells (ns .u8 [67, 77, 69, 84]).toArray 5 (4, 5))
  have hA2 : At (w1.alloc (.cells (ns .u8 [67, 77, 69, 84]).toArray 5 (4, 5))) (some ⟨w1.heap.size, 0, none⟩) (ns .u8 [67, 77, 69, 84]) := At.whole (heap_alloc_new w1 _)
  have hs2 : w.heap.size + 1 ≤ (w1.alloc (.cells (ns .u8 [67, 77, 69, 84]).toArray 5 (4, 5))).heap.size := by simp; omega
  have e2 : w1.alloc (.cells (ns .u8 [67, 77, 69, 84]).toArray 5 (4, 5)) = w1.alloc (.cells #[.int .u8 67, .int .u8 77, .int .u8 69, .int .u8 84] 5 (4, 5)) := rfl
  rw [e2] at hb2 hA2 hs2
  clear e2
  obtain ⟨c0, c1, c2, c3, c4⟩ := meta_cells (box_kept hb2)
  go_wp2_with fail
  generalize w1.alloc (.cells #[.int .u8 67, .int .u8 77, .int .u8 69, .int .u8 84] 5 (4, 5)) = w2 at hb2 hA2 hs2 ⊢
  refine (low_full (w.heap.size + 1) w1.heap.size 4 [67, 77, 69, 84] m.gen 8 w2 hs2 rfl hA2 (by simp) (by omega) (by omega) (by omega)).mono ?_
  rintro e w3 ⟨v3, rfl, hv3, hb3, hs3⟩
  clear c0 c1 c2 c3 c4 hA2
  replace hb3 := hb2.trans hb3
  clear hb2 hs2
  obtain ⟨c0, c1, c2, c3, c4⟩ := meta_cells (box_kept hb3)
  have hl3 : ([67, 77, 69, 84] ++ le m.gen 8).length = 12 := by simp [le_length]
  generalize [67, 77, 69, 84] ++ le m.gen 8 = b3 at hv3 hl3 hst hBY
  have HL3 := Lib.hid hl3
  clear hl3
  have hnb : v3.ownBlock ≠ some w3.heap.size := fun e => by have := own_lt hv3 _ e; omega
  have hq0 : quads [m.root, m.free, m.pages] = quads ([m.root, m.free, m.pages].take 3) := by simp
  rw [hq0] at hBY hst
  clear hq0
  have hnums : ∀ x ∈ [m.root, m.free, m.pages], x < 4294967296 := by intro x hx; simp at hx; omega
  have hnl : [m.root, m.free, m.pages].length = 3 := rfl
  go_wp2
  have hcs : w3.alloc (.cells #[.int .u32 (m.root : Int), .int .u32 (m.free : Int), .int .u32 (m.pages : Int)] 22) = w3.alloc (.cells (ns .u32 [m.root, m.free, m.pages]).toArray 22) := rfl
  rw [hcs]
  clear hcs
  generalize [m.root, m.free, m.pages] = nums at hBY hst hnums hnl
  have hbox : (w3.alloc (.cells (ns .u32 nums).toArray 22)).heap[w3.heap.size]? = some (.cells (ns .u32 nums).toArray 22 (0, 0)) := heap_alloc_new w3 _
  have hb4 := hb3.alloc hs3 (.cells (ns .u32 nums).toArray 22)
  have hs4 : w3.heap.size + 1 ≤ (w3.alloc (.cells (ns .u32 nums).toArray 22)).heap.size := by simp
  have hv4 := hv3.below (below_alloc0 (Below.refl _ _) (.cells (ns .u32 nums).toArray 22))
  have hsm : w3.heap.size < (w3.alloc (.cells (ns .u32 nums).toArray 22)).heap.size := by simp
  generalize w3.alloc (.cells (ns .u32 nums).toArray 22) = W at hbox hb4 hs4 hv4 hsm ⊢
  clear c0 c1 c2 c3 c4
  have HBase := Lib.hid hv3.base
  have hvbase : ∀ k, v3.ownBlock = some k → w.heap.size + 1 ≤ k := hv3.base
  clear hv3
  go_loopw [4, 23] (fun b i wr => ∃ k : Nat, k ≤ 3 ∧ i = .int .i64 k ∧ Buf (w.heap.size + 1) wr b (b3 ++ quads (nums.take k)) ∧ W.grownBy wr v3.ownBlock ∧ Fresh W v3.ownBlock b.ownBlock) (fun _ i _ => 3 - (intOf i).toNat)
  case atStart => exact ⟨0, by omega, rfl, by simpa [quads] using hv4, World.grownBy.refl _ _, Fresh.refl _ _⟩
  case round =>
    clear hv4
    obtain ⟨k, hk, rfl, hv, hg1, hf1⟩ := hrel
    have hgs := hg1.size
    have hbel : Below (w.heap.size + 1) (w.alloc (.cells m.cells 116)) wr := below_grown hb4 hg1 (by omega) hvbase
    have hlen : (b3 ++ quads (nums.take k)).length = 12 + 4 * k := by
      rw [List.length_append, HL3.out, quads_length, List.length_take]; omega
    have HL := Lib.hid hlen
    clear hlen
    by_cases hlt : k < 3
    · have hc : wr.cell? ⟨w3.heap.size, k, none⟩ = some (.int .u32 (nth nums k : Int)) := by
        rw [cell_of_row wr w3.heap.size k _ 22 (0, 0) (by rw [hg1.block _ hsm (fun e => hnb e.symm)]; exact hbox)]
        simpa using ns_get .u32 nums k (by omega)
      have hnk := hnums _ (nth_mem nums k (by omega))
      have hqt := Lib.hid (quads_take nums k (by omega))
      go_wp2_with fail
      refine (low_own (w.heap.size + 1) _ _ (nth nums k) 4 wr (by omega) hv (by rw [HL.out]; omega) (by omega) (by omega)).mono ?_
      rintro e w5 ⟨v5, rfl, hv5, hg5, hf5⟩
      go_wp2
      go_roundw
      case rel => exact ⟨k + 1, by omega, by go_num, by rw [hqt.out, ← List.append_assoc]; exact hv5, grown_step hg1 hf1 hg5, fresh_step hgs hf1 hf5⟩
      case measure => simp [intOf]; omega
    · obtain rfl : k = 3 := by omega
      obtain ⟨c0, c1, c2, c3, c4⟩ := meta_cells (box_kept hbel)
      generalize b3 ++ quads (nums.take 3) = b4 at hv hst hBY HL
      go_wp2_with fail
      refine (low_any (w.heap.size + 1) _ b4 m.keys 8 wr (by omega) hv (by rw [HL.out]; omega) (by omega) (by omega)).mono ?_
      rintro e w6 ⟨v6, rfl, hv6, hb6, hs6⟩
      have hl6 : (b4 ++ le m.keys 8).length = 32 := by rw [List.length_append, HL.out, le_length]
      generalize b4 ++ le m.keys 8 = b5 at hv6 hl6 hst hBY
      have HL6 := Lib.hid hl6
      clear hl6
      go_wp2_with fail
      refine (filled_any (w.heap.size + 1) _ b5 124 _ hs6 hv6 hBY.out (by rw [HL6.out]; omega) (by omega)).mono ?_
      rintro e w7 ⟨v7, rfl, hv7, hb7, hs7⟩
      go_wp2
      go_ret2
      exact ⟨_, rfl, by rw [hst.out]; exact own_base_mono hv7 (by omega), below_box ((hbel.trans hb6).trans hb7), by omega⟩
end Go.Proofs.Ytfbjjblgcgjndaa
