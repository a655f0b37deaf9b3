/- Contracts of the disk's Pages and of what Write does. -/
import Derived.Test.YtfbjjblgcgjndaaDiskOp
set_option linter.unusedVariables false
set_option linter.unusedSimpArgs false
namespace Go.Proofs.Ytfbjjblgcgjndaa
open Go.RowKit Go.Maps

theorem ret_int {k : IntKind} {a b : Int} (h : a = b) : Ending.returned (.int k a) = .returned (.int k b) := by rw [h]
set_option maxRecDepth 100000 in
theorem pages_in (L C : Value) (m p : Nat) (D : Dsk) (A : Option Addr) (w : World) (h : RecAt w p 180 13 (dcell (.slice A D.last.length D.last.length) C m D)) (hl : D.last.length ≤ 131072) :
    Calls Try.prog 121 #[.pointer (some ⟨p, 0, none⟩)] w fun e w' => e = .returned (.int .i64 (D.pages : Int)) ∧ w = w' := by
  have c0 : w.cell? ⟨p, 0, none⟩ = some (.slice A D.last.length D.last.length) := h.cell 0 (by omega)
  unfold Dsk.pages
  clear h
  go_enter Try.func121, Try.ntmps121
  go_wp2
  go_ret
  exact ⟨ret_int (by omega), rfl⟩
theorem pages_any {n0 : Nat} {w : World} {p : Nat} {D : Dsk} {S : Nat → Prop} (h : DiskAt n0 w p D S) :
    Calls Try.prog 121 #[.pointer (some ⟨p, 0, none⟩)] w fun e w' => e = .returned (.int .i64 (D.pages : Int)) ∧ w = w' := by
  obtain ⟨ok, q, M, h1, h2⟩ := h
  exact pages_in (.slice none 0 0) q.C q.m p D _ w h1.rcd (by obtain ⟨k, h1, h2, h3⟩ := ok.pages; omega)
/-- a box of one cell -/
def Box (w : World) (b : Nat) (v : Value) (t : TypeId) : Prop := w.heap[b]? = some (.cells #[v] t (0, 0))
theorem Box.cell {w : World} {b : Nat} {v : Value} {t : TypeId} (h : Box w b v t) : w.cell? ⟨b, 0, none⟩ = some v := by rw [cell_of_row w b 0 _ t (0, 0) h]; rfl
theorem Box.lt {w : World} {b : Nat} {v : Value} {t : TypeId} (h : Box w b v t) : b < w.heap.size := (Array.getElem?_eq_some_iff.1 h).1
theorem Box.keep {w w' : World} {b : Nat} {v : Value} {t : TypeId} {G : Nat → Prop} (h : Box w b v t) (hc : Chg G w w') (hG : ¬ G b) : Box w' b v t := by
  unfold Box; rw [hc.block b h.lt hG]; exact h

set_option maxRecDepth 100000 in
set_option maxHeartbeats 1000000 in
theorem write_range (n0 : Nat) (w : World) (p : Nat) (D : Dsk) (S : Nat → Prop) (pg : Int) (bp bd bb : Nat) (bv : Value) (h : DiskAt n0 w p D S) (h1 : Box w bp (.int .i64 pg) 3) (h2 : Box w bd (.pointer (some ⟨p, 0, none⟩)) 74)
    (hr : pg < 0 ∨ (D.pages : Int) ≤ pg) : Calls Try.prog 120 #[.pointer (some ⟨bp, 0, none⟩), .pointer (some ⟨bd, 0, none⟩), .pointer (some ⟨bb, 0, none⟩)] w fun e w' => e = .returned (.int .u16 2) ∧ Below w.heap.size w w' := by
  have c1 := h1.cell
  have c2 := h2.cell
  have hp := fun n => (pages_any (h.below (below_drewN (Below.refl w.heap.size w) n))).mono fun _ _ (h : _ ∧ _) => And.intro h.1 h.2.symm
  have HP := Lib.hid hp
  clear hp h h1 h2
  by_cases hneg : pg < 0
  · have hd : decide (pg < 0) = true := by simpa using hneg
    have HH := Lib.hid hneg
    clear hr hneg
    go_enter Try.func120, Try.ntmps120
    go_wp2_with fail
    go_quiet ((go_at_call 121; exact Calls.quiet_of_same (HP.out _)))
    go_wp2_with fail
    go_ret
    exact ⟨rfl, below_drewN (Below.refl _ _) _⟩
  · have hge : (D.pages : Int) ≤ pg := by omega
    have hd : decide (pg < 0) = false := by simpa using hneg
    have hd2 : decide ((D.pages : Int) ≤ pg) = true := by simpa using hge
    clear hr
    generalize D.pages = N at *
    go_enter Try.func120, Try.ntmps120
    go_wp2_with fail
    go_quiet ((go_at_call 121; exact Calls.quiet_of_same (HP.out _)))
    go_wp2_with fail
    go_ret
    exact ⟨rfl, below_drewN (Below.refl _ _) _⟩

set_option maxRecDepth 100000 in
set_option maxHeartbeats 1000000 in
theorem write_arg (n0 : Nat) (w : World) (p : Nat) (D : Dsk) (S : Nat → Prop) (pg : Nat) (bp bd bb : Nat) (A : Option Addr) (n c : Nat) (h : DiskAt n0 w p D S) (h1 : Box w bp (.int .i64 (pg : Int)) 3) (h2 : Box w bd (.pointer (some ⟨p, 0, none⟩)) 74) (h3 : Box w bb (.slice A n c) 23)
    (hr : pg < D.pages) (hn : n ≠ 1024 ∧ n ≠ 128) : Calls Try.prog 120 #[.pointer (some ⟨bp, 0, none⟩), .pointer (some ⟨bd, 0, none⟩), .pointer (some ⟨bb, 0, none⟩)] w fun e w' => e = .returned (.int .u16 1) ∧ Below w.heap.size w w' := by
  have c1 := h1.cell
  have c2 := h2.cell
  have c3 := h3.cell
  have hp := fun n => (pages_any (h.below (below_drewN (Below.refl w.heap.size w) n))).mono fun _ _ (h : _ ∧ _) => And.intro h.1 h.2.symm
  have HP := Lib.hid hp
  have g1 : ((n : Int) != 1024) = true := by simp; omega
  have g2 : ((n : Int) != 128) = true := by simp; omega
  have g3 : (n != 1024) = true := by simp; omega
  have g4 : (n != 128) = true := by simp; omega
  have g5 : (n == 1024) = false := by simp; omega
  have g6 : (n == 128) = false := by simp; omega
  have hneg : ¬ ((pg : Int) < 0) := by omega
  have hd : decide ((pg : Int) < 0) = false := by simp
  have hd2 : decide ((D.pages : Int) ≤ (pg : Int)) = false := by simp; omega
  have hd3 : decide (D.pages ≤ pg) = false := by simp; omega
  clear hp h h1 h2 h3 hn
  generalize D.pages = N at *
  go_enter Try.func120, Try.ntmps120
  go_wp2_with fail
  go_quiet ((go_at_call 121; exact Calls.quiet_of_same (HP.out _)))
  go_wp2_with fail
  go_ret
  exact ⟨rfl, below_drewN (Below.refl _ _) _⟩
end Go.Proofs.Ytfbjjblgcgjndaa
