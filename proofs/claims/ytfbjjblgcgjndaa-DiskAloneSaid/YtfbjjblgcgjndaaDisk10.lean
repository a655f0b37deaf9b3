/- The disk's Read: what it finds, and a page that is out of range. -/
import Derived.Test.YtfbjjblgcgjndaaDisk9
set_option linter.unusedVariables false
set_option linter.unusedSimpArgs false
namespace Go.Proofs.Ytfbjjblgcgjndaa
open Go.RowKit Go.Maps

theorem run_alloc183 (w : World) : (Instr.alloc 183 true (.tuple #[])).run Try.prog w = .ok (.pointer (some ⟨w.heap.size, 0, none⟩)) (w.alloc (.cells zero128 183)) := by
  obtain ⟨i183, h183, e183⟩ := Option.map_eq_some_iff.1 Try.info183
  simp only [Prod.mk.injEq] at e183
  have hz : zero128.size = 128 := by simp [zero128]
  generalize zero128 = Z at *
  simp [Instr.alloc, zeroValue, typeInfo, newVar, sizeOf, h183, e183.1, hz, Value.cells, newRow]
def alloc183 : Sem Next := do pure (.value (← Instr.alloc 183 true (.tuple #[])))
theorem execOp_alloc183 (ρ : Operand → Value) (dst : Option Tmp) (ty : TypeId) (pos : String) (after : Array Edge) (guard : Option (Nat × Bool)) :
    execOp ρ ⟨dst, .alloc 183, ty, pos, after, guard⟩ = alloc183 := by
  unfold execOp alloc183
  rfl
theorem run_alloc183' (w : World) : alloc183.run Try.prog w = .ok (.value (.pointer (some ⟨w.heap.size, 0, none⟩))) (w.alloc (.cells zero128 183)) := by
  unfold alloc183
  simp only [Sem.run_bind, Sem.run_pure, run_alloc183, Result.andThen_ok]
theorem store183 (w : World) (c : Array Value) (hc : c.size = 128) (s : List Nat) (hs : s.length = 128) : (storeCells ⟨w.heap.size, 0, none⟩ (ns .u8 s)).run Try.prog (w.alloc (.cells c 183)) = .ok () (w.alloc (.cells (ns .u8 s).toArray 183)) := by
  have := run_storeCells_new (P := Try.prog) w 183 c (ns .u8 s).toArray (by rw [Try.info183']; simp [ns_length, hs]) (by rw [hc]; simp [ns_length, hs]) (all_oneCell_toArray (ns_one .u8 s))
  simpa using this
/-- a sector as it lasts, in memory -/
theorem LastAt.at {w : World} {b : Nat} {l : List (List Nat)} (h : LastAt w b l) (i : Nat) (hi : i < l.length) : w.rangeAt b (i * 128) (ns .u8 (l.getD i [])) := by
  rw [List.getD_eq_getElem?_getD, List.getElem?_eq_getElem hi]
  exact h.range i hi
/-- what a map says of a sector -/
theorem SeenOk.says {M : DataW Unit} {D : Dsk} (h : SeenOk M D.cache) (a : Nat) :
    (has M (seenKey a) = false ∧ D.sec a = D.last.getD a []) ∨ (has M (seenKey a) = true ∧ ∃ (i : Nat) (x : Nat × List Nat), D.cache[i]? = some x ∧ D.sec a = x.2 ∧ ∀ z, M.atKey (seenKey a) z = .lit (.int .i64 (i : Int))) := by
  cases hl : lastWrite D.cache a with
  | none => exact .inl ⟨(h.2 a).1 hl, by unfold Dsk.sec; rw [hl]⟩
  | some s =>
    obtain ⟨h1, i, h2, h3⟩ := (h.2 a).2 s hl
    exact .inr ⟨h1, i, (a, s), h2, by unfold Dsk.sec; rw [hl], h3⟩
theorem Try.zero3 : (Try.prog.info? 3).map (·.zero) = some (some (.int .i64 0)) := by kernel_rfl
theorem zeroValue3 (w : World) : (zeroValue 3).run Try.prog w = .ok (.int .i64 0) w := by
  obtain ⟨i3, h3, e3⟩ := Option.map_eq_some_iff.1 Try.zero3
  simp [zeroValue, typeInfo, h3, e3]
theorem DiskIn.look {n0 : Nat} {w : World} {p : Nat} {D : Dsk} {q : Dparts} {M : DataW Unit} (h : DiskIn n0 w p D q M) (a : Nat) (ha : a ≤ 1000000000000) :
    (D.sec a = D.last.getD a [] ∧ ∃ c, (Instr.lookup 175 (.map (some q.m)) (.int .i64 (a : Int)) true).run Try.prog w = .ok (.tuple #[.int .i64 c, .bool false]) w) ∨
    (∃ (i : Nat) (x : Nat × List Nat), D.cache[i]? = some x ∧ D.sec a = x.2 ∧ (Instr.lookup 175 (.map (some q.m)) (.int .i64 (a : Int)) true).run Try.prog w = .ok (.tuple #[.int .i64 (i : Int), .bool true]) w) := by
  have ha' : (a : Int) ≤ 1000000000000 := by omega
  have hwf : (Lit.int .i64 (a : Int)).wf = true := by go_wf
  have hkey : keyOf Try.prog 3 (.int .i64 (a : Int)) = some (seenKey a) := keyOf_int_mk Try.underlying3 hwf
  obtain ⟨v, ps, hrun, hv⟩ := h.map.look_ok key3 Try.underlying175 (zeroValue3 w) (zd := .lit (.int .i64 0)) (zp := []) (plainElem_int Try.underlying3 (by go_wf)) hkey
  obtain ⟨c, rfl, hc, _⟩ := plainElem_int_inv Try.underlying3 hv
  have hc1 := congrArg Prod.fst hc
  simp only at hc1
  rcases h.seen.says a with ⟨h1, h2⟩ | ⟨h1, i, x, h2, h3, h4⟩
  · rw [h1] at hrun
    exact .inl ⟨h2, c, hrun⟩
  · rw [h1] at hrun
    rw [h4] at hc1
    have hci : (i : Int) = c := by simpa using hc1
    rw [← hci] at hrun
    exact .inr ⟨i, x, h2, h3, hrun⟩
set_option maxRecDepth 100000 in
set_option maxHeartbeats 1000000 in
theorem read_range (n0 : Nat) (w : World) (p : Nat) (D : Dsk) (S : Nat → Prop) (pg : Int) (bp bd br : Nat) (h : DiskAt n0 w p D S) (h1 : Box w bp (.int .i64 pg) 3) (h2 : Box w bd (.pointer (some ⟨p, 0, none⟩)) 74)
    (hr : pg < 0 ∨ (D.pages : Int) ≤ pg) : Calls Try.prog 126 #[.pointer (some ⟨bp, 0, none⟩), .pointer (some ⟨bd, 0, none⟩), .pointer (some ⟨br, 0, none⟩)] w fun e w' => e = .returned (.int .u16 2) ∧ Below w.heap.size w w' := by
  have c1 := h1.cell
  have c2 := h2.cell
  have hp := fun n => (pages_any (h.below (below_drewN (Below.refl w.heap.size w) n))).mono fun _ _ (h : _ ∧ _) => And.intro h.1 h.2.symm
  have HP := Lib.hid hp
  clear hp h h1 h2
  by_cases hneg : pg < 0
  · have hd : decide (pg < 0) = true := by simpa using hneg
    have HH := Lib.hid hneg
    clear hr hneg
    go_enter Try.func126, Try.ntmps126
    go_wp2_with fail
    go_quiet ((go_at_call 121; exact Calls.quiet_of_same (HP.out _)))
    go_wp2_with fail
    go_ret
    exact ⟨rfl, below_drewN (Below.refl _ _) _⟩
  · have hge : (D.pages : Int) ≤ pg := by omega
    have hd : decide (pg < 0) = false := by simpa using hneg
    have hd2 : decide ((D.pages : Int) ≤ pg) = true := by simpa using hge
    clear hr
    generalize D.pages = N at *
    go_enter Try.func126, Try.ntmps126
    go_wp2_with fail
    go_quiet ((go_at_call 121; exact Calls.quiet_of_same (HP.out _)))
    go_wp2_with fail
    go_ret
    exact ⟨rfl, below_drewN (Below.refl _ _) _⟩
end Go.Proofs.Ytfbjjblgcgjndaa
