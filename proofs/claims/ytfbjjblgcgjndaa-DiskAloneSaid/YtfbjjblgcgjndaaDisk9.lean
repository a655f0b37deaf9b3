/- Contract of the disk's Cut. -/
import Derived.Test.YtfbjjblgcgjndaaDisk8
set_option linter.unusedVariables false
set_option linter.unusedSimpArgs false
namespace Go.Proofs.Ytfbjjblgcgjndaa
open Go.RowKit Go.Maps

def Dsk.cut (D : Dsk) (bs : List Bool) : Dsk := (D.settle fun i => bs.getD i false).calm
set_option maxRecDepth 100000 in
set_option maxHeartbeats 1000000 in
theorem cut_kept (w : World) (b : Nat) (A : Option Addr) (c : Nat) (bs : List Bool) (i : Nat) (hb : Box w b (.slice A bs.length c) 73) (hA : At w A (bs.map .bool)) :
    Calls Try.prog 125 (#[.int .i64 i] ++ #[.pointer (some ⟨b, 0, none⟩)]) w fun e w'' => e = .returned (.bool (bs.getD i false)) ∧ ∃ k, w'' = w.drewN k := by
  rw [show (#[Value.int .i64 (i : Int)] ++ #[.pointer (some ⟨b, 0, none⟩)]) = #[.int .i64 (i : Int), .pointer (some ⟨b, 0, none⟩)] from rfl]
  have c1 := hb.cell
  by_cases hi : i < bs.length
  · obtain ⟨g, o, rfl, hr⟩ := hA (by intro e; have := congrArg List.length e; simp at this; subst this; simp at hi)
    have c2 : w.cell? ⟨g, o + i, none⟩ = some (.bool (bs.getD i false)) := hr i _ (by simp [hi, List.getD_eq_getElem?_getD])
    have a1 : (i : Int) < (bs.length : Int) := by omega
    generalize bs.getD i false = x at *
    clear hr hA hb hi
    have hd : decide ((i : Int) < (bs.length : Int)) = true := by simpa using a1
    go_enter Try.func125, Try.ntmps125
    go_wp2
    go_ret
    exact ⟨rfl, 0, rfl⟩
  · have hx : bs.getD i false = false := by simp [List.getD_eq_getElem?_getD, List.getElem?_eq_none (show bs.length ≤ i by omega)]
    have a1 : ¬ (i : Int) < (bs.length : Int) := by omega
    have hd : decide ((i : Int) < (bs.length : Int)) = false := by simpa using a1
    rw [hx]
    clear hA hb hi
    go_enter Try.func125, Try.ntmps125
    go_wp2
    go_ret
    exact ⟨rfl, 0, rfl⟩
theorem six_chg (w : World) (p : Nat) (a b c d e f : Value) : Chg (OnlyP p) w ((((((w.setCell ⟨p, 3, none⟩ a).setCell ⟨p, 4, none⟩ b).setCell ⟨p, 5, none⟩ c).setCell ⟨p, 6, none⟩ d).setCell ⟨p, 7, none⟩ e).setCell ⟨p, 8, none⟩ f) :=
  ((two_chg w p 3 4 a b).trans (two_chg _ p 5 6 c d) (fun _ _ h => h)).trans (two_chg _ p 7 8 e f) (fun _ _ h => h)
set_option maxRecDepth 100000 in
set_option maxHeartbeats 1000000 in
theorem disk_cut (n0 : Nat) (w : World) (p : Nat) (D : Dsk) (S : Nat → Prop) (A : Option Addr) (c : Nat) (bs : List Bool) (h : DiskAt n0 w p D S) (hc : D.cache.length ≤ 1000000000000)
    (hA : ∀ w', Chg S w w' → At w' A (bs.map .bool)) (hSp : ∀ g, S g → g < w.heap.size) :
    Calls Try.prog 51 #[.pointer (some ⟨p, 0, none⟩), .slice A bs.length c] w fun e w' => e = .returned (.tuple #[]) ∧ DiskAt n0 w' p (D.cut bs) S ∧ Chg S w w' := by
  obtain ⟨w1, hw1⟩ : ∃ w1, w1 = w.alloc (.cells #[.slice A bs.length c] 73) := ⟨_, rfl⟩
  have hb1 : Below w.heap.size w w1 := by rw [hw1]; exact below_alloc0 (Below.refl _ _) _
  have B1 : Box w1 w.heap.size (.slice A bs.length c) 73 := by unfold Box; rw [hw1]; exact heap_alloc_new w _
  have hset := Lib.hid (settle_any n0 w1 p D S 125 #[.pointer (some ⟨w.heap.size, 0, none⟩)] (fun i => bs.getD i false) (h.below hb1) hc (fun _ _ => rfl) (fun i w' hi hch => cut_kept w' w.heap.size A c bs i (B1.keep hch (fun e => by have := hSp _ e; omega))
    (hA w' ((Chg.of_below (F := S) hb1).trans hch (fun _ _ h => h)))))
  have hw01 := Lib.hid (show Chg S w w1 from .of_below hb1)
  clear B1 hb1 hA hSp h hc
  go_enter Try.func51, Try.ntmps51
  go_wp2_with fail
  rw [← hw1]
  have HW1 := Lib.hid hw1
  clear hw1
  go_wp2_with fail
  refine hset.out.mono ?_
  rintro e w2 ⟨rfl, hd, hch⟩
  have HD := Lib.hid hd
  have HC := Lib.hid hch
  clear hd hch
  go_wp2_with fail
  refine (none_any _).mono ?_
  rintro e w3 ⟨rfl, hw3⟩
  have hb3 : Below w2.heap.size w2 w3 := by rw [hw3]; exact below_alloc0 (Below.refl _ _) _
  have hd3 := HD.out.below hb3
  have HD3 := Lib.hid hd3
  have HC3 := Lib.hid (HC.out.trans (.of_below (F := S) hb3) (fun _ _ h => h))
  clear hw3 hb3
  obtain ⟨ok, q, M, hin, hft⟩ := hd3
  have HP := Lib.hid (hft p (.inl rfl))
  have HR := Lib.hid hin.rcd
  have OK := Lib.hid ok
  have c3 : w3.cell? ⟨p, 3, none⟩ = some (.bool (D.settle fun i => bs.getD i false).dark) := hin.rcd.cell 3 (by omega)
  have c4 : w3.cell? ⟨p, 4, none⟩ = some (.int .i64 (D.settle fun i => bs.getD i false).trip) := hin.rcd.cell 4 (by omega)
  have c5 : w3.cell? ⟨p, 5, none⟩ = some (.int .i64 ((D.settle fun i => bs.getD i false).f 0)) := hin.rcd.cell 5 (by omega)
  have c6 : w3.cell? ⟨p, 6, none⟩ = some (.int .i64 ((D.settle fun i => bs.getD i false).f 1)) := hin.rcd.cell 6 (by omega)
  have c7 : w3.cell? ⟨p, 7, none⟩ = some (.int .i64 ((D.settle fun i => bs.getD i false).f 2)) := hin.rcd.cell 7 (by omega)
  have c8 : w3.cell? ⟨p, 8, none⟩ = some (.int .i64 ((D.settle fun i => bs.getD i false).f 3)) := hin.rcd.cell 8 (by omega)
  have f3 := hin.rcd.frozen 3
  have f4 := hin.rcd.frozen 4
  have f5 := hin.rcd.frozen 5
  have f6 := hin.rcd.frozen 6
  have f7 := hin.rcd.frozen 7
  have f8 := hin.rcd.frozen 8
  clear hin hft ok
  go_wp2
  go_end0
  refine ⟨rfl, HD3.out.only (D' := D.cut bs) (Dsk.calm_ok OK.out) rfl rfl ?_ ?_, ?_⟩
  · exact six_chg _ _ _ _ _ _ _ _
  · intro L C m hr
    exact ((((((hr.set 3 _).set 4 _).set 5 _).set 6 _).set 7 _).set 8 _).congr (all13 rfl rfl rfl rfl rfl rfl rfl rfl rfl rfl rfl rfl rfl)
  · exact (hw01.out.trans HC3.out (fun _ _ h => h)).trans (six_chg _ _ _ _ _ _ _ _) (fun g _ e => by rw [show g = p from e]; exact HP.out)
end Go.Proofs.Ytfbjjblgcgjndaa
