/- Contracts of page.PutMeta and of the reference's PutMeta. -/
import Derived.Test.YtfbjjblgcgjndaaMeta1
import Derived.Deep.AppendSrc
set_option linter.unusedVariables false
set_option linter.unusedSimpArgs false
namespace Go.Proofs.Ytfbjjblgcgjndaa
open Go.RowKit

theorem buf_append_str {P : Program} {ops : Array Oper} {rest : List Oper} {o : Oper} {a : Act} {w w0 : World} {Q : Exit → Act → World → Prop} (hgd : o.guard = none) (s x : Operand)
    (ho : o.op = .call { callee := .builtin .append, args := #[s, x], argTypes := #[23, 9] })
    (ht : P.underlying 23 = some (.slice 5)) (h9 : P.underlying 9 = some .string) (hinfo : (P.info? 5).map (fun i => (i.zero, i.size, i.bytes)) = some (some (.int .u8 0), 1, 1))
    (n0 : Nat) (hs : a.eval s = .slice none 0 0) (b : ByteArray) (l : List Nat) (hx : a.eval x = .string b) (hb : byteCells b = ns .u8 l) (h0 : 0 < l.length) (hsm : l.length ≤ 1000000) (hbase : n0 ≤ w.heap.size) (hbel : Below n0 w0 w)
    (h : ∀ v' w', Buf n0 w' v' l → Below n0 w0 w' → n0 ≤ w'.heap.size → wpList P ops Q rest (a.put o.dst v') w') :
    wpList P ops Q (o :: rest) a w := by
  obtain ⟨i0, hi, hzz⟩ := Option.map_eq_some_iff.1 hinfo
  simp only [Prod.mk.injEq] at hzz
  obtain ⟨hz0, hz1, hz2⟩ := hzz
  have hlen : b.size = l.length := by
    have := congrArg List.length hb
    rw [byteCells_length] at this
    simpa [ns] using this
  have hsrc := Src.ofString (P := P) (w := w) h9 b
  rw [hb, hlen] at hsrc
  have hr := run_append_grow_src (P := P) w 23 9 o.type 5 i0 (.int .u8 0) ht hi hz0 none 0 0 [] (by simp [Builtin.firstCells]) (.string b) l.length (ns .u8 l) (by rw [hz1]; exact hsrc) (by omega) (by omega) (by
    rw [hz2, nextslicecap_zero (by omega)]; omega)
  simp only [Nat.zero_add, List.nil_append] at hr
  refine Lib.wpList_append_run w hgd s x 23 9 ho _ _ hs hx _ _ hr ?_
  have hge := grownCap_ge w l.length 0 5
  have hcm : grownCap w l.length 0 5 ≤ maxLen := grownCap_le_maxLen w l.length 0 5 (by simp only [maxLen]; omega)
  refine h _ _ ⟨by simp [ns], .inr ⟨w.heap.size, _, _, rfl, hbase, heap_alloc_new w.drew _, hge, hcm, ?_, ?_⟩⟩ (hbel.drew.alloc hbase _) (by simp; omega)
  · simp only [Array.size_append, List.size_toArray, size_zeroCells, ns_length]
    simp [Value.cells]
    omega
  · simp only [Array.toList_append]
    rw [Nat.mul_one]
    have : (ns .u8 l).length = l.length := ns_length _ _
    rw [← this]
    exact List.take_left

def metaBytes (m : Meta) : List Nat := [67, 77, 69, 84] ++ le m.gen 8 ++ le m.root 4 ++ le m.free 4 ++ le m.pages 4 ++ le m.keys 8
theorem metaBytes_length (m : Meta) : (metaBytes m).length = 32 := by simp [metaBytes, le_length]
theorem metaBytes_bytes (m : Meta) : Bytes (metaBytes m) := by
  refine Bytes.append (Bytes.append (Bytes.append (Bytes.append (Bytes.append ?_ (le_bytes _ _)) (le_bytes _ _)) (le_bytes _ _)) (le_bytes _ _)) (le_bytes _ _)
  exact Bytes.cons (by omega) (Bytes.cons (by omega) (Bytes.cons (by omega) (Bytes.cons (by omega) Bytes.nil)))
/-- a state as a sector -/
def sector (m : Meta) : List Nat := closed (fill (metaBytes m) 124)
theorem sector_length (m : Meta) : (sector m).length = 128 := by
  rw [sector, closed_length, fill_length _ _ (by rw [metaBytes_length]; omega)]
theorem sector_bytes (m : Meta) : Bytes (sector m) := closed_bytes _ (fill_bytes _ _ (metaBytes_bytes m))

theorem meta_cells {m : Meta} {W : World} {b : Nat} (h : W.heap[b]? = some (.cells m.cells 116 (0, 0))) :
    W.cell? ⟨b, 0, none⟩ = some (.int .u64 (m.gen : Int)) ∧ W.cell? ⟨b, 1, none⟩ = some (.int .u32 (m.root : Int)) ∧ W.cell? ⟨b, 2, none⟩ = some (.int .u32 (m.free : Int)) ∧ W.cell? ⟨b, 3, none⟩ = some (.int .u32 (m.pages : Int)) ∧ W.cell? ⟨b, 4, none⟩ = some (.int .u64 (m.keys : Int)) := by
  refine ⟨?_, ?_, ?_, ?_, ?_⟩ <;> (rw [cell_of_row W b _ _ 116 (0, 0) h]; rfl)
theorem box_kept {cs : Array Value} {t : TypeId} {w W : World} (hb : Below (w.heap.size + 1) (w.alloc (.cells cs t)) W) : W.heap[w.heap.size]? = some (.cells cs t (0, 0)) := by
  rw [hb.block _ (by omega)]; exact heap_alloc_new w _
theorem below_box {cs : Array Value} {t : TypeId} {w W : World} (hb : Below (w.heap.size + 1) (w.alloc (.cells cs t)) W) : Below w.heap.size w W :=
  (below_alloc0 (Below.refl w.heap.size w) _).trans ⟨hb.os, hb.tape, hb.output, by have := hb.size; simp at this; simpa using hb.size, fun i hi => hb.block i (by omega)⟩

set_option maxRecDepth 100000 in
set_option maxHeartbeats 2000000 in
theorem rput_no (m : Meta) (w : World) (h : m.Ok) (hm : ¬ MayBe m) :
    Calls Try.prog 72 #[m.val] w fun e w' => e = .returned (.tuple #[.slice none 0 0, .int .u16 80]) ∧ Below w.heap.size w w' := by
  have hmay := fun w => rmay_any m w h
  rw [decide_eq_false hm] at hmay
  simp only [Meta.val, Meta.cells] at hmay ⊢
  have HM := Lib.hid hmay
  clear hmay
  go_enter Try.func72, Try.ntmps72
  go_wp2_with fail
  refine (HM.out _).mono ?_
  rintro e w1 ⟨rfl, hb1⟩
  go_wp2
  go_ret2
  exact ⟨rfl, below_next0 (below_alloc0 (Below.refl _ _) _) hb1⟩

set_option maxRecDepth 100000 in
set_option maxHeartbeats 2000000 in
theorem put_no (m : Meta) (w : World) (h : m.Ok) (hm : ¬ MayBe m) :
    Calls Try.prog 71 #[m.val] w fun e w' => e = .returned (.tuple #[.slice none 0 0, .int .u16 80]) ∧ Below w.heap.size w w' := by
  have hmay := fun w => may_any m w h
  rw [decide_eq_false hm] at hmay
  simp only [Meta.val, Meta.cells] at hmay ⊢
  have HM := Lib.hid hmay
  clear hmay
  go_enter Try.func71, Try.ntmps71
  go_wp2_with fail
  refine (HM.out _).mono ?_
  rintro e w1 ⟨rfl, hb1⟩
  go_wp2
  go_ret2
  exact ⟨rfl, below_next0 (below_alloc0 (Below.refl _ _) _) hb1⟩

set_option maxRecDepth 100000 in
set_option maxHeartbeats 2000000 in
theorem rput_ok (m : Meta) (w : World) (h : m.Ok) (hm : MayBe m) :
    Calls Try.prog 72 #[m.val] w fun e w' => ∃ v, e = .returned (.tuple #[v, .int .u16 0]) ∧ Buf w.heap.size w' v (sector m) ∧ Below w.heap.size w w' ∧ w.heap.size ≤ w'.heap.size := by
  have hmay := fun w => rmay_any m w h
  rw [decide_eq_true hm] at hmay
  simp only [Meta.val, Meta.cells] at hmay ⊢
  have HM := Lib.hid hmay
  clear hmay hm
  have hBY0 : Bytes ([67, 77, 69, 84] ++ le m.gen 8 ++ le m.root 4 ++ le m.free 4 ++ le m.pages 4 ++ le m.keys 8) := metaBytes_bytes m
  have hBY := Lib.hid hBY0
  clear hBY0
  have hst : Hid (sector m = closed (fill ([67, 77, 69, 84] ++ le m.gen 8 ++ le m.root 4 ++ le m.free 4 ++ le m.pages 4 ++ le m.keys 8) 124)) := Lib.hid rfl
  generalize sector m = S at hst
  have hg := h.gen
  have hr := h.root
  have hf := h.free
  have hp := h.pages
  have hk := h.keys
  go_enter Try.func72, Try.ntmps72
  go_wp2_with fail
  refine (HM.out _).mono ?_
  rintro e w1 ⟨rfl, hb1⟩
  replace hb1 : Below (w.heap.size + 1) (w.alloc (.cells m.cells 116)) w1 := by
    have := hb1
    rw [show (w.alloc (Obj.cells #[Value.int IntKind.u64 (m.gen : Int), Value.int IntKind.u32 (m.root : Int), Value.int IntKind.u32 (m.free : Int), Value.int IntKind.u32 (m.pages : Int), Value.int IntKind.u64 (m.keys : Int)] 116)).heap.size = w.heap.size + 1 by simp] at this
    exact this
  have hs1 : w.heap.size + 1 ≤ w1.heap.size := by have := hb1.size; simp at this; exact this
  go_wp2_with (at_builtin; go_loud (refine buf_append_str (w0 := w.alloc (.cells m.cells 116)) rfl (.tmp 10) (.const (.string ⟨#[67, 77, 69, 84]⟩)) rfl Try.underlying23 Try.underlying9 Try.info5 (w.heap.size + 1) rfl ⟨#[67, 77, 69, 84]⟩ [67, 77, 69, 84] rfl (by rfl) (by simp) (by simp) hs1 hb1 ?_); intro v2 w2 hv2 hb2 hs2; obtain ⟨c0, c1, c2, c3, c4⟩ := meta_cells (box_kept hb2))
  refine (put_any (w.heap.size + 1) _ [67, 77, 69, 84] m.gen 8 _ hs2 hv2 (by simp) (by omega) (by omega)).mono ?_
  rintro e w3 ⟨v3, rfl, hv3, hb3, hs3⟩
  clear c0 c1 c2 c3 c4
  replace hb3 := hb2.trans hb3
  obtain ⟨c0, c1, c2, c3, c4⟩ := meta_cells (box_kept hb3)
  have hl3 : ([67, 77, 69, 84] ++ le m.gen 8).length = 12 := by simp [le_length]
  generalize [67, 77, 69, 84] ++ le m.gen 8 = b3 at hv3 hl3 hst hBY
  have HL3 := Lib.hid hl3
  clear hl3
  go_wp2_with fail
  refine (put_any (w.heap.size + 1) _ b3 m.root 4 _ hs3 hv3 (by rw [HL3.out]; omega) (by omega) (by omega)).mono ?_
  rintro e w4 ⟨v4, rfl, hv4, hb4, hs4⟩
  clear c0 c1 c2 c3 c4
  replace hb4 := hb3.trans hb4
  obtain ⟨c0, c1, c2, c3, c4⟩ := meta_cells (box_kept hb4)
  have hl4 : (b3 ++ le m.root 4).length = 16 := by rw [List.length_append, HL3.out, le_length]
  generalize b3 ++ le m.root 4 = b4 at hv4 hl4 hst hBY
  have HL4 := Lib.hid hl4
  clear hl4
  go_wp2_with fail
  refine (put_any (w.heap.size + 1) _ b4 m.free 4 _ hs4 hv4 (by rw [HL4.out]; omega) (by omega) (by omega)).mono ?_
  rintro e w5 ⟨v5, rfl, hv5, hb5, hs5⟩
  clear c0 c1 c2 c3 c4
  replace hb5 := hb4.trans hb5
  obtain ⟨c0, c1, c2, c3, c4⟩ := meta_cells (box_kept hb5)
  have hl5 : (b4 ++ le m.free 4).length = 20 := by rw [List.length_append, HL4.out, le_length]
  generalize b4 ++ le m.free 4 = b5 at hv5 hl5 hst hBY
  have HL5 := Lib.hid hl5
  clear hl5
  go_wp2_with fail
  refine (put_any (w.heap.size + 1) _ b5 m.pages 4 _ hs5 hv5 (by rw [HL5.out]; omega) (by omega) (by omega)).mono ?_
  rintro e w6 ⟨v6, rfl, hv6, hb6, hs6⟩
  clear c0 c1 c2 c3 c4
  replace hb6 := hb5.trans hb6
  obtain ⟨c0, c1, c2, c3, c4⟩ := meta_cells (box_kept hb6)
  have hl6 : (b5 ++ le m.pages 4).length = 24 := by rw [List.length_append, HL5.out, le_length]
  generalize b5 ++ le m.pages 4 = b6 at hv6 hl6 hst hBY
  have HL6 := Lib.hid hl6
  clear hl6
  go_wp2_with fail
  refine (put_any (w.heap.size + 1) _ b6 m.keys 8 _ hs6 hv6 (by rw [HL6.out]; omega) (by omega) (by omega)).mono ?_
  rintro e w7 ⟨v7, rfl, hv7, hb7, hs7⟩
  clear c0 c1 c2 c3 c4
  replace hb7 := hb6.trans hb7
  obtain ⟨c0, c1, c2, c3, c4⟩ := meta_cells (box_kept hb7)
  have hl7 : (b6 ++ le m.keys 8).length = 32 := by rw [List.length_append, HL6.out, le_length]
  generalize b6 ++ le m.keys 8 = b7 at hv7 hl7 hst hBY
  have HL7 := Lib.hid hl7
  clear hl7
  go_wp2_with fail
  refine (rfilled_any (w.heap.size + 1) _ b7 124 _ hs7 hv7 hBY.out (by rw [HL7.out]; omega) (by omega)).mono ?_
  rintro e w8 ⟨v8, rfl, hv8, hb8, hs8⟩
  go_wp2
  go_ret2
  exact ⟨_, rfl, by rw [hst.out]; exact own_base_mono hv8 (by omega), below_box (hb7.trans hb8), by omega⟩
end Go.Proofs.Ytfbjjblgcgjndaa
