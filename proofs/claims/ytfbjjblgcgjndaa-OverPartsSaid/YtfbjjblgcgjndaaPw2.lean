/- Joined texts: DiskOp, Disk3, Build, Last. -/
import Derived.ArgAppend
import Derived.Laws.OwnMore
import Derived.OrdersHeld
import Derived.Deep.RegionHeld3
import Derived.Test.YtfbjjblgcgjndaaPw1
set_option linter.unusedVariables false
set_option linter.unusedSimpArgs false

/- Contract of the disk's op. -/
namespace Go.Proofs.Ytfbjjblgcgjndaa
open Go.RowKit Go.Maps

theorem all13 {P : Nat → Prop} (h0 : P 0) (h1 : P 1) (h2 : P 2) (h3 : P 3) (h4 : P 4) (h5 : P 5) (h6 : P 6) (h7 : P 7) (h8 : P 8) (h9 : P 9) (h10 : P 10) (h11 : P 11) (h12 : P 12) : ∀ i, i < 13 → P i := by
  intro i hi
  match i, hi with
  | 0, _ => exact h0
  | 1, _ => exact h1
  | 2, _ => exact h2
  | 3, _ => exact h3
  | 4, _ => exact h4
  | 5, _ => exact h5
  | 6, _ => exact h6
  | 7, _ => exact h7
  | 8, _ => exact h8
  | 9, _ => exact h9
  | 10, _ => exact h10
  | 11, _ => exact h11
  | 12, _ => exact h12
def OnlyP (p : Nat) (g : Nat) : Prop := g = p
/-- an operation fails at its beginning -/
def OpFails (L C : Value) (m p : Nat) (D : Dsk) (k : Nat) (w : World) (e : Ending) (w' : World) : Prop :=
  e = .returned (.int .u16 ((D.begin k).1 : Nat)) ∧ RecAt w' p 180 13 (dcell L C m (D.begin k).2) ∧ Chg (OnlyP p) w w'
theorem rec_off {L C : Value} {m p : Nat} {D : Dsk} {w : World} (h : RecAt w p 180 13 (dcell L C m D)) : RecAt ((w.setCell ⟨p, 3, none⟩ (.bool true)).setCell ⟨p, 4, none⟩ (.int .i64 (-1))) p 180 13 (dcell L C m D.off) :=
  ((h.set 3 _).set 4 _).congr (all13 rfl rfl rfl rfl rfl rfl rfl rfl rfl rfl rfl rfl rfl)
theorem two_chg (w : World) (p i j : Nat) (x y : Value) : Chg (OnlyP p) w ((w.setCell ⟨p, i, none⟩ x).setCell ⟨p, j, none⟩ y) :=
  ((Chg.refl _ w).setCell ⟨p, i, none⟩ x (.inl (show OnlyP p p from rfl))).setCell ⟨p, j, none⟩ y (.inl (show OnlyP p p from rfl))
theorem one_chg (w : World) (p i : Nat) (x : Value) : Chg (OnlyP p) w (w.setCell ⟨p, i, none⟩ x) := (Chg.refl _ w).setCell ⟨p, i, none⟩ x (.inl (show OnlyP p p from rfl))
theorem rec_trip {L C : Value} {m p : Nat} {D : Dsk} {w : World} (h : RecAt w p 180 13 (dcell L C m D)) (t : Int) : RecAt (w.setCell ⟨p, 4, none⟩ (.int .i64 t)) p 180 13 (dcell L C m { D with trip := t }) :=
  (h.set 4 _).congr (all13 rfl rfl rfl rfl rfl rfl rfl rfl rfl rfl rfl rfl rfl)
theorem rec_fall1 {L C : Value} {m p : Nat} {D : Dsk} {w : World} (h : RecAt w p 180 13 (dcell L C m { D with trip := dec1 D.trip })) : RecAt ((w.setCell ⟨p, 10, none⟩ (.int .i64 (D.n 1 + 1))).setCell ⟨p, 6, none⟩ (.int .i64 (-1))).drew p 180 13 (dcell L C m (D.fall 1)) :=
  show RecAt ((w.setCell ⟨p, 10, none⟩ (.int .i64 (D.n 1 + 1))).setCell ⟨p, 6, none⟩ (.int .i64 (-1))) p 180 13 _ from ((h.set 10 _).set 6 _).congr (all13 rfl rfl rfl rfl rfl rfl rfl rfl rfl rfl rfl rfl rfl)
theorem rec_go1a {L C : Value} {m p : Nat} {D : Dsk} {w : World} (h : RecAt w p 180 13 (dcell L C m { D with trip := dec1 D.trip })) (hf : 0 < D.f 1) : RecAt ((w.setCell ⟨p, 10, none⟩ (.int .i64 (D.n 1 + 1))).setCell ⟨p, 6, none⟩ (.int .i64 (D.f 1 - 1))).drew p 180 13 (dcell L C m (D.go 1)) := by
  unfold Dsk.go
  rw [dec1_pos hf]
  exact show RecAt ((w.setCell ⟨p, 10, none⟩ (.int .i64 (D.n 1 + 1))).setCell ⟨p, 6, none⟩ (.int .i64 (D.f 1 - 1))) p 180 13 _ from ((h.set 10 _).set 6 _).congr (all13 rfl rfl rfl rfl rfl rfl rfl rfl rfl rfl rfl rfl rfl)
theorem rec_go1b {L C : Value} {m p : Nat} {D : Dsk} {w : World} (h : RecAt w p 180 13 (dcell L C m { D with trip := dec1 D.trip })) (hf : ¬ 0 < D.f 1) : RecAt (w.setCell ⟨p, 10, none⟩ (.int .i64 (D.n 1 + 1))).drew p 180 13 (dcell L C m (D.go 1)) := by
  unfold Dsk.go
  rw [dec1_neg hf]
  exact show RecAt (w.setCell ⟨p, 10, none⟩ (.int .i64 (D.n 1 + 1))) p 180 13 _ from (h.set 10 _).congr (all13 rfl rfl rfl rfl rfl rfl rfl rfl rfl rfl rfl rfl rfl)
theorem rec_fall2 {L C : Value} {m p : Nat} {D : Dsk} {w : World} (h : RecAt w p 180 13 (dcell L C m { D with trip := dec1 D.trip })) : RecAt ((w.setCell ⟨p, 11, none⟩ (.int .i64 (D.n 2 + 1))).setCell ⟨p, 7, none⟩ (.int .i64 (-1))).drew p 180 13 (dcell L C m (D.fall 2)) :=
  show RecAt ((w.setCell ⟨p, 11, none⟩ (.int .i64 (D.n 2 + 1))).setCell ⟨p, 7, none⟩ (.int .i64 (-1))) p 180 13 _ from ((h.set 11 _).set 7 _).congr (all13 rfl rfl rfl rfl rfl rfl rfl rfl rfl rfl rfl rfl rfl)
theorem rec_go2a {L C : Value} {m p : Nat} {D : Dsk} {w : World} (h : RecAt w p 180 13 (dcell L C m { D with trip := dec1 D.trip })) (hf : 0 < D.f 2) : RecAt ((w.setCell ⟨p, 11, none⟩ (.int .i64 (D.n 2 + 1))).setCell ⟨p, 7, none⟩ (.int .i64 (D.f 2 - 1))).drew p 180 13 (dcell L C m (D.go 2)) := by
  unfold Dsk.go
  rw [dec1_pos hf]
  exact show RecAt ((w.setCell ⟨p, 11, none⟩ (.int .i64 (D.n 2 + 1))).setCell ⟨p, 7, none⟩ (.int .i64 (D.f 2 - 1))) p 180 13 _ from ((h.set 11 _).set 7 _).congr (all13 rfl rfl rfl rfl rfl rfl rfl rfl rfl rfl rfl rfl rfl)
theorem rec_go2b {L C : Value} {m p : Nat} {D : Dsk} {w : World} (h : RecAt w p 180 13 (dcell L C m { D with trip := dec1 D.trip })) (hf : ¬ 0 < D.f 2) : RecAt (w.setCell ⟨p, 11, none⟩ (.int .i64 (D.n 2 + 1))).drew p 180 13 (dcell L C m (D.go 2)) := by
  unfold Dsk.go
  rw [dec1_neg hf]
  exact show RecAt (w.setCell ⟨p, 11, none⟩ (.int .i64 (D.n 2 + 1))) p 180 13 _ from (h.set 11 _).congr (all13 rfl rfl rfl rfl rfl rfl rfl rfl rfl rfl rfl rfl rfl)
theorem rec_fall3 {L C : Value} {m p : Nat} {D : Dsk} {w : World} (h : RecAt w p 180 13 (dcell L C m { D with trip := dec1 D.trip })) : RecAt ((w.setCell ⟨p, 12, none⟩ (.int .i64 (D.n 3 + 1))).setCell ⟨p, 8, none⟩ (.int .i64 (-1))).drew p 180 13 (dcell L C m (D.fall 3)) :=
  show RecAt ((w.setCell ⟨p, 12, none⟩ (.int .i64 (D.n 3 + 1))).setCell ⟨p, 8, none⟩ (.int .i64 (-1))) p 180 13 _ from ((h.set 12 _).set 8 _).congr (all13 rfl rfl rfl rfl rfl rfl rfl rfl rfl rfl rfl rfl rfl)
theorem rec_go3a {L C : Value} {m p : Nat} {D : Dsk} {w : World} (h : RecAt w p 180 13 (dcell L C m { D with trip := dec1 D.trip })) (hf : 0 < D.f 3) : RecAt ((w.setCell ⟨p, 12, none⟩ (.int .i64 (D.n 3 + 1))).setCell ⟨p, 8, none⟩ (.int .i64 (D.f 3 - 1))).drew p 180 13 (dcell L C m (D.go 3)) := by
  unfold Dsk.go
  rw [dec1_pos hf]
  exact show RecAt ((w.setCell ⟨p, 12, none⟩ (.int .i64 (D.n 3 + 1))).setCell ⟨p, 8, none⟩ (.int .i64 (D.f 3 - 1))) p 180 13 _ from ((h.set 12 _).set 8 _).congr (all13 rfl rfl rfl rfl rfl rfl rfl rfl rfl rfl rfl rfl rfl)
theorem rec_go3b {L C : Value} {m p : Nat} {D : Dsk} {w : World} (h : RecAt w p 180 13 (dcell L C m { D with trip := dec1 D.trip })) (hf : ¬ 0 < D.f 3) : RecAt (w.setCell ⟨p, 12, none⟩ (.int .i64 (D.n 3 + 1))).drew p 180 13 (dcell L C m (D.go 3)) := by
  unfold Dsk.go
  rw [dec1_neg hf]
  exact show RecAt (w.setCell ⟨p, 12, none⟩ (.int .i64 (D.n 3 + 1))) p 180 13 _ from (h.set 12 _).congr (all13 rfl rfl rfl rfl rfl rfl rfl rfl rfl rfl rfl rfl rfl)

set_option maxRecDepth 100000 in
set_option maxHeartbeats 1000000 in
theorem op_fails1 (L C : Value) (m p : Nat) (D : Dsk) (fv : Value) (w : World) (h : RecAt w p 180 13 (dcell L C m D)) (ok : D.Ok) (hn : D.n 1 ≤ 4611686018427387904) (hb : (D.begin 1).1 ≠ 0) :
    Calls Try.prog 119 #[.pointer (some ⟨p, 0, none⟩), .int .i64 1, fv] w (OpFails L C m p D 1 w) := by
  have c3 : w.cell? ⟨p, 3, none⟩ = some (.bool D.dark) := h.cell 3 (by omega)
  have c4 : w.cell? ⟨p, 4, none⟩ = some (.int .i64 D.trip) := h.cell 4 (by omega)
  have cf : w.cell? ⟨p, 6, none⟩ = some (.int .i64 (D.f 1)) := h.cell 6 (by omega)
  have cn : w.cell? ⟨p, 10, none⟩ = some (.int .i64 (D.n 1)) := h.cell 10 (by omega)
  have f3 := h.frozen 3
  have f4 := h.frozen 4
  have ff := h.frozen 6
  have fn := h.frozen 10
  have t1 := ok.trip
  have n1 := ok.n 1
  unfold OpFails
  unfold Dsk.begin at hb ⊢
  by_cases hd : D.dark = true
  · rw [if_pos hd]
    rw [hd] at c3
    have HH := Lib.hid h
    clear h hb hd
    go_enter Try.func119, Try.ntmps119
    go_wp2
    go_ret
    exact ⟨rfl, HH.out, Chg.refl _ _⟩
  · have hd' : D.dark = false := by simpa using hd
    rw [if_neg hd] at hb ⊢
    rw [hd'] at c3
    by_cases ht : D.trip = 0
    · rw [if_pos ht]
      rw [ht] at c4
      have HH := Lib.hid (rec_off h)
      clear h hb hd hd' ht t1
      go_enter Try.func119, Try.ntmps119
      go_wp2_with fail
      go_ret
      exact ⟨rfl, HH.out, two_chg _ _ _ _ _ _⟩
    · rw [if_neg ht] at hb ⊢
      by_cases hf : D.f 1 = 0
      · rw [if_pos hf] at hb ⊢
        rw [hf] at cf
        have ht1 : (D.trip == 0) = false := by simpa using ht
        have HF := Lib.hid hf
        by_cases hp : 0 < D.trip
        · have H2 : RecAt (w.setCell ⟨p, 4, none⟩ (.int .i64 (D.trip - 1))) p 180 13 (dcell L C m { D with trip := dec1 D.trip }) := by rw [dec1_pos hp]; exact rec_trip h _
          have hc2 := one_chg w p 4 (.int .i64 (D.trip - 1))
          have HX := Lib.hid H2
          have HC := Lib.hid hc2
          clear h hb hd hd' ht hf H2 hc2
          go_enter Try.func119, Try.ntmps119
          go_wp2_with fail
          replace HX := HX.out
          replace HC := HC.out
          generalize w.setCell ⟨p, 4, none⟩ (.int .i64 (D.trip - 1)) = w2 at *
          have cf : w2.cell? ⟨p, 6, none⟩ = some (.int .i64 (D.f 1)) := HX.cell 6 (by omega)
          have cn : w2.cell? ⟨p, 10, none⟩ = some (.int .i64 (D.n 1)) := HX.cell 10 (by omega)
          rw [HF.out] at cf
          have ff := HX.frozen 6
          have fn := HX.frozen 10
          go_region
          all_goals
            go_wp2_with fail
            go_ret
            exact ⟨rfl, rec_fall1 HX, (HC.trans (two_chg w2 p 10 6 _ _) (fun _ _ h => h)).drew⟩
        · have H2 : RecAt w p 180 13 (dcell L C m { D with trip := dec1 D.trip }) := by rw [dec1_neg hp]; exact h
          have HX := Lib.hid H2
          have hc2 : Chg (OnlyP p) w w := Chg.refl _ _
          have HC := Lib.hid hc2
          clear h hb hd hd' ht hf H2 hc2
          go_enter Try.func119, Try.ntmps119
          go_wp2_with fail
          replace HX := HX.out
          replace HC := HC.out
          clear c3 c4 cf cn f3 f4 ff fn
          obtain ⟨w2, hw2⟩ : ∃ w2, w2 = w := ⟨_, rfl⟩
          rw [← hw2] at HX
          rw [show Code.wp _ _ _ _ w = Code.wp _ _ _ _ w2 from by rw [hw2]]
          have HC' : Chg (OnlyP p) w w2 := by rw [hw2]; exact HC
          clear HC hw2
          have HC := HC'
          have cf : w2.cell? ⟨p, 6, none⟩ = some (.int .i64 (D.f 1)) := HX.cell 6 (by omega)
          have cn : w2.cell? ⟨p, 10, none⟩ = some (.int .i64 (D.n 1)) := HX.cell 10 (by omega)
          rw [HF.out] at cf
          have ff := HX.frozen 6
          have fn := HX.frozen 10
          go_region
          all_goals
            go_wp2_with fail
            go_ret
            exact ⟨rfl, rec_fall1 HX, (HC.trans (two_chg w2 p 10 6 _ _) (fun _ _ h => h)).drew⟩
      · rw [if_neg hf] at hb
        exact absurd rfl hb

set_option maxRecDepth 100000 in
set_option maxHeartbeats 1000000 in
theorem op_fails2 (L C : Value) (m p : Nat) (D : Dsk) (fv : Value) (w : World) (h : RecAt w p 180 13 (dcell L C m D)) (ok : D.Ok) (hn : D.n 2 ≤ 4611686018427387904) (hb : (D.begin 2).1 ≠ 0) :
    Calls Try.prog 119 #[.pointer (some ⟨p, 0, none⟩), .int .i64 2, fv] w (OpFails L C m p D 2 w) := by
  have c3 : w.cell? ⟨p, 3, none⟩ = some (.bool D.dark) := h.cell 3 (by omega)
  have c4 : w.cell? ⟨p, 4, none⟩ = some (.int .i64 D.trip) := h.cell 4 (by omega)
  have cf : w.cell? ⟨p, 7, none⟩ = some (.int .i64 (D.f 2)) := h.cell 7 (by omega)
  have cn : w.cell? ⟨p, 11, none⟩ = some (.int .i64 (D.n 2)) := h.cell 11 (by omega)
  have f3 := h.frozen 3
  have f4 := h.frozen 4
  have ff := h.frozen 7
  have fn := h.frozen 11
  have t1 := ok.trip
  have n1 := ok.n 2
  unfold OpFails
  unfold Dsk.begin at hb ⊢
  by_cases hd : D.dark = true
  · rw [if_pos hd]
    rw [hd] at c3
    have HH := Lib.hid h
    clear h hb hd
    go_enter Try.func119, Try.ntmps119
    go_wp2
    go_ret
    exact ⟨rfl, HH.out, Chg.refl _ _⟩
  · have hd' : D.dark = false := by simpa using hd
    rw [if_neg hd] at hb ⊢
    rw [hd'] at c3
    by_cases ht : D.trip = 0
    · rw [if_pos ht]
      rw [ht] at c4
      have HH := Lib.hid (rec_off h)
      clear h hb hd hd' ht t1
      go_enter Try.func119, Try.ntmps119
      go_wp2_with fail
      go_ret
      exact ⟨rfl, HH.out, two_chg _ _ _ _ _ _⟩
    · rw [if_neg ht] at hb ⊢
      by_cases hf : D.f 2 = 0
      · rw [if_pos hf] at hb ⊢
        rw [hf] at cf
        have ht1 : (D.trip == 0) = false := by simpa using ht
        have HF := Lib.hid hf
        by_cases hp : 0 < D.trip
        · have H2 : RecAt (w.setCell ⟨p, 4, none⟩ (.int .i64 (D.trip - 1))) p 180 13 (dcell L C m { D with trip := dec1 D.trip }) := by rw [dec1_pos hp]; exact rec_trip h _
          have hc2 := one_chg w p 4 (.int .i64 (D.trip - 1))
          have HX := Lib.hid H2
          have HC := Lib.hid hc2
          clear h hb hd hd' ht hf H2 hc2
          go_enter Try.func119, Try.ntmps119
          go_wp2_with fail
          replace HX := HX.out
          replace HC := HC.out
          generalize w.setCell ⟨p, 4, none⟩ (.int .i64 (D.trip - 1)) = w2 at *
          have cf : w2.cell? ⟨p, 7, none⟩ = some (.int .i64 (D.f 2)) := HX.cell 7 (by omega)
          have cn : w2.cell? ⟨p, 11, none⟩ = some (.int .i64 (D.n 2)) := HX.cell 11 (by omega)
          rw [HF.out] at cf
          have ff := HX.frozen 7
          have fn := HX.frozen 11
          go_region
          all_goals
            go_wp2_with fail
            go_ret
            exact ⟨rfl, rec_fall2 HX, (HC.trans (two_chg w2 p 11 7 _ _) (fun _ _ h => h)).drew⟩
        · have H2 : RecAt w p 180 13 (dcell L C m { D with trip := dec1 D.trip }) := by rw [dec1_neg hp]; exact h
          have HX := Lib.hid H2
          have hc2 : Chg (OnlyP p) w w := Chg.refl _ _
          have HC := Lib.hid hc2
          clear h hb hd hd' ht hf H2 hc2
          go_enter Try.func119, Try.ntmps119
          go_wp2_with fail
          replace HX := HX.out
          replace HC := HC.out
          clear c3 c4 cf cn f3 f4 ff fn
          obtain ⟨w2, hw2⟩ : ∃ w2, w2 = w := ⟨_, rfl⟩
          rw [← hw2] at HX
          rw [show Code.wp _ _ _ _ w = Code.wp _ _ _ _ w2 from by rw [hw2]]
          have HC' : Chg (OnlyP p) w w2 := by rw [hw2]; exact HC
          clear HC hw2
          have HC := HC'
          have cf : w2.cell? ⟨p, 7, none⟩ = some (.int .i64 (D.f 2)) := HX.cell 7 (by omega)
          have cn : w2.cell? ⟨p, 11, none⟩ = some (.int .i64 (D.n 2)) := HX.cell 11 (by omega)
          rw [HF.out] at cf
          have ff := HX.frozen 7
          have fn := HX.frozen 11
          go_region
          all_goals
            go_wp2_with fail
            go_ret
            exact ⟨rfl, rec_fall2 HX, (HC.trans (two_chg w2 p 11 7 _ _) (fun _ _ h => h)).drew⟩
      · rw [if_neg hf] at hb
        exact absurd rfl hb

set_option maxRecDepth 100000 in
set_option maxHeartbeats 1000000 in
theorem op_fails3 (L C : Value) (m p : Nat) (D : Dsk) (fv : Value) (w : World) (h : RecAt w p 180 13 (dcell L C m D)) (ok : D.Ok) (hn : D.n 3 ≤ 4611686018427387904) (hb : (D.begin 3).1 ≠ 0) :
    Calls Try.prog 119 #[.pointer (some ⟨p, 0, none⟩), .int .i64 3, fv] w (OpFails L C m p D 3 w) := by
  have c3 : w.cell? ⟨p, 3, none⟩ = some (.bool D.dark) := h.cell 3 (by omega)
  have c4 : w.cell? ⟨p, 4, none⟩ = some (.int .i64 D.trip) := h.cell 4 (by omega)
  have cf : w.cell? ⟨p, 8, none⟩ = some (.int .i64 (D.f 3)) := h.cell 8 (by omega)
  have cn : w.cell? ⟨p, 12, none⟩ = some (.int .i64 (D.n 3)) := h.cell 12 (by omega)
  have f3 := h.frozen 3
  have f4 := h.frozen 4
  have ff := h.frozen 8
  have fn := h.frozen 12
  have t1 := ok.trip
  have n1 := ok.n 3
  unfold OpFails
  unfold Dsk.begin at hb ⊢
  by_cases hd : D.dark = true
  · rw [if_pos hd]
    rw [hd] at c3
    have HH := Lib.hid h
    clear h hb hd
    go_enter Try.func119, Try.ntmps119
    go_wp2
    go_ret
    exact ⟨rfl, HH.out, Chg.refl _ _⟩
  · have hd' : D.dark = false := by simpa using hd
    rw [if_neg hd] at hb ⊢
    rw [hd'] at c3
    by_cases ht : D.trip = 0
    · rw [if_pos ht]
      rw [ht] at c4
      have HH := Lib.hid (rec_off h)
      clear h hb hd hd' ht t1
      go_enter Try.func119, Try.ntmps119
      go_wp2_with fail
      go_ret
      exact ⟨rfl, HH.out, two_chg _ _ _ _ _ _⟩
    · rw [if_neg ht] at hb ⊢
      by_cases hf : D.f 3 = 0
      · rw [if_pos hf] at hb ⊢
        rw [hf] at cf
        have ht1 : (D.trip == 0) = false := by simpa using ht
        have HF := Lib.hid hf
        by_cases hp : 0 < D.trip
        · have H2 : RecAt (w.setCell ⟨p, 4, none⟩ (.int .i64 (D.trip - 1))) p 180 13 (dcell L C m { D with trip := dec1 D.trip }) := by rw [dec1_pos hp]; exact rec_trip h _
          have hc2 := one_chg w p 4 (.int .i64 (D.trip - 1))
          have HX := Lib.hid H2
          have HC := Lib.hid hc2
          clear h hb hd hd' ht hf H2 hc2
          go_enter Try.func119, Try.ntmps119
          go_wp2_with fail
          replace HX := HX.out
          replace HC := HC.out
          generalize w.setCell ⟨p, 4, none⟩ (.int .i64 (D.trip - 1)) = w2 at *
          have cf : w2.cell? ⟨p, 8, none⟩ = some (.int .i64 (D.f 3)) := HX.cell 8 (by omega)
          have cn : w2.cell? ⟨p, 12, none⟩ = some (.int .i64 (D.n 3)) := HX.cell 12 (by omega)
          rw [HF.out] at cf
          have ff := HX.frozen 8
          have fn := HX.frozen 12
          go_region
          all_goals
            go_wp2_with fail
            go_ret
            exact ⟨rfl, rec_fall3 HX, (HC.trans (two_chg w2 p 12 8 _ _) (fun _ _ h => h)).drew⟩
        · have H2 : RecAt w p 180 13 (dcell L C m { D with trip := dec1 D.trip }) := by rw [dec1_neg hp]; exact h
          have HX := Lib.hid H2
          have hc2 : Chg (OnlyP p) w w := Chg.refl _ _
          have HC := Lib.hid hc2
          clear h hb hd hd' ht hf H2 hc2
          go_enter Try.func119, Try.ntmps119
          go_wp2_with fail
          replace HX := HX.out
          replace HC := HC.out
          clear c3 c4 cf cn f3 f4 ff fn
          obtain ⟨w2, hw2⟩ : ∃ w2, w2 = w := ⟨_, rfl⟩
          rw [← hw2] at HX
          rw [show Code.wp _ _ _ _ w = Code.wp _ _ _ _ w2 from by rw [hw2]]
          have HC' : Chg (OnlyP p) w w2 := by rw [hw2]; exact HC
          clear HC hw2
          have HC := HC'
          have cf : w2.cell? ⟨p, 8, none⟩ = some (.int .i64 (D.f 3)) := HX.cell 8 (by omega)
          have cn : w2.cell? ⟨p, 12, none⟩ = some (.int .i64 (D.n 3)) := HX.cell 12 (by omega)
          rw [HF.out] at cf
          have ff := HX.frozen 8
          have fn := HX.frozen 12
          go_region
          all_goals
            go_wp2_with fail
            go_ret
            exact ⟨rfl, rec_fall3 HX, (HC.trans (two_chg w2 p 12 8 _ _) (fun _ _ h => h)).drew⟩
      · rw [if_neg hf] at hb
        exact absurd rfl hb

set_option maxRecDepth 100000 in
set_option maxHeartbeats 2000000 in
theorem op_go1 (L C : Value) (m p : Nat) (D : Dsk) (fi : FuncId) (caps : Array Value) (R : Nat → World → Prop) (w : World) (h : RecAt w p 180 13 (dcell L C m D)) (ok : D.Ok) (hn : D.n 1 ≤ 4611686018427387904) (hb : (D.begin 1).1 = 0)
    (hcf : ∀ args w, (callFunc fi args).run Try.prog w = .ok (.enter fi args) w)
    (hdo : ∀ w', RecAt w' p 180 13 (dcell L C m (D.go 1)) → Chg (OnlyP p) w w' → Calls Try.prog fi caps w' fun e w'' => ∃ x : Nat, e = .returned (.int .u16 (x : Nat)) ∧ R x w'') :
    Calls Try.prog 119 #[.pointer (some ⟨p, 0, none⟩), .int .i64 1, .func (.func fi) #[] caps] w fun e w'' => ∃ x : Nat, e = .returned (.int .u16 (x : Nat)) ∧ R x w'' := by
  have c3 : w.cell? ⟨p, 3, none⟩ = some (.bool D.dark) := h.cell 3 (by omega)
  have c4 : w.cell? ⟨p, 4, none⟩ = some (.int .i64 D.trip) := h.cell 4 (by omega)
  have cf : w.cell? ⟨p, 6, none⟩ = some (.int .i64 (D.f 1)) := h.cell 6 (by omega)
  have cn : w.cell? ⟨p, 10, none⟩ = some (.int .i64 (D.n 1)) := h.cell 10 (by omega)
  have f3 := h.frozen 3
  have f4 := h.frozen 4
  have ff := h.frozen 6
  have fn' := h.frozen 10
  have t1 := ok.trip
  have n1 := ok.n 1
  have ff1 := ok.f 1
  have HDO := Lib.hid hdo
  clear hdo
  obtain ⟨hd', ht, hf⟩ : D.dark = false ∧ ¬ D.trip = 0 ∧ ¬ D.f 1 = 0 := by
    unfold Dsk.begin at hb
    split at hb
    · simp at hb
    · split at hb
      · simp at hb
      · split at hb
        · simp at hb
        · rename_i a b c; exact ⟨by simpa using a, b, c⟩
  have hd := hd'
  rw [hd'] at c3
  clear hb
  have ht1 : (D.trip == 0) = false := by simpa using ht
  have hf1 : (D.f 1 == 0) = false := by simpa using hf
  by_cases hfp : 0 < D.f 1
  · have HFP := Lib.hid hfp
    by_cases hp : 0 < D.trip
    · have _t := trivial
      have H2 : RecAt (w.setCell ⟨p, 4, none⟩ (.int .i64 (D.trip - 1))) p 180 13 (dcell L C m { D with trip := dec1 D.trip }) := by rw [dec1_pos hp]; exact rec_trip h _
      have hc2 := one_chg w p 4 (.int .i64 (D.trip - 1))
      have HX := Lib.hid H2
      have HC := Lib.hid hc2
      clear h hd hd' ht hf H2 hc2
      go_enter Try.func119, Try.ntmps119
      go_wp2_with fail
      replace HX := HX.out
      replace HC := HC.out
      generalize w.setCell ⟨p, 4, none⟩ (.int .i64 (D.trip - 1)) = w2 at *
      have cf : w2.cell? ⟨p, 6, none⟩ = some (.int .i64 (D.f 1)) := HX.cell 6 (by omega)
      have cn : w2.cell? ⟨p, 10, none⟩ = some (.int .i64 (D.n 1)) := HX.cell 10 (by omega)
      have ff := HX.frozen 6
      have fn' := HX.frozen 10
      go_region
      all_goals
        go_wp2_with fail
        refine (HDO.out _ (rec_go1a HX (by have := HFP.out; omega)) (HC.trans (two_chg w2 p 10 6 _ _) (fun _ _ h => h)).drew).mono ?_
        rintro e w9 ⟨x, rfl, hR⟩
        have HR := Lib.hid hR
        clear hR
        go_wp2
        go_ret
        exact ⟨x, rfl, HR.out⟩
    · have _t := trivial
      have H2 : RecAt w p 180 13 (dcell L C m { D with trip := dec1 D.trip }) := by rw [dec1_neg hp]; exact h
      have HX := Lib.hid H2
      have hc2 : Chg (OnlyP p) w w := Chg.refl _ _
      have HC := Lib.hid hc2
      clear h hd hd' ht hf H2 hc2
      go_enter Try.func119, Try.ntmps119
      go_wp2_with fail
      replace HX := HX.out
      replace HC := HC.out
      clear c3 c4 cf cn f3 f4 ff fn'
      obtain ⟨w2, hw2⟩ : ∃ w2, w2 = w := ⟨_, rfl⟩
      rw [← hw2] at HX
      rw [show Code.wp _ _ _ _ w = Code.wp _ _ _ _ w2 from by rw [hw2]]
      have HC' : Chg (OnlyP p) w w2 := by rw [hw2]; exact HC
      clear HC hw2
      have HC := HC'
      have cf : w2.cell? ⟨p, 6, none⟩ = some (.int .i64 (D.f 1)) := HX.cell 6 (by omega)
      have cn : w2.cell? ⟨p, 10, none⟩ = some (.int .i64 (D.n 1)) := HX.cell 10 (by omega)
      have ff := HX.frozen 6
      have fn' := HX.frozen 10
      go_region
      all_goals
        go_wp2_with fail
        refine (HDO.out _ (rec_go1a HX (by have := HFP.out; omega)) (HC.trans (two_chg w2 p 10 6 _ _) (fun _ _ h => h)).drew).mono ?_
        rintro e w9 ⟨x, rfl, hR⟩
        have HR := Lib.hid hR
        clear hR
        go_wp2
        go_ret
        exact ⟨x, rfl, HR.out⟩
  · have HFP := Lib.hid hfp
    by_cases hp : 0 < D.trip
    · have _t := trivial
      have H2 : RecAt (w.setCell ⟨p, 4, none⟩ (.int .i64 (D.trip - 1))) p 180 13 (dcell L C m { D with trip := dec1 D.trip }) := by rw [dec1_pos hp]; exact rec_trip h _
      have hc2 := one_chg w p 4 (.int .i64 (D.trip - 1))
      have HX := Lib.hid H2
      have HC := Lib.hid hc2
      clear h hd hd' ht hf H2 hc2
      go_enter Try.func119, Try.ntmps119
      go_wp2_with fail
      replace HX := HX.out
      replace HC := HC.out
      generalize w.setCell ⟨p, 4, none⟩ (.int .i64 (D.trip - 1)) = w2 at *
      have cf : w2.cell? ⟨p, 6, none⟩ = some (.int .i64 (D.f 1)) := HX.cell 6 (by omega)
      have cn : w2.cell? ⟨p, 10, none⟩ = some (.int .i64 (D.n 1)) := HX.cell 10 (by omega)
      have ff := HX.frozen 6
      have fn' := HX.frozen 10
      go_region
      all_goals
        go_wp2_with fail
        refine (HDO.out _ (rec_go1b HX (by have := HFP.out; omega)) (HC.trans (one_chg w2 p 10 _) (fun _ _ h => h)).drew).mono ?_
        rintro e w9 ⟨x, rfl, hR⟩
        have HR := Lib.hid hR
        clear hR
        go_wp2
        go_ret
        exact ⟨x, rfl, HR.out⟩
    · have _t := trivial
      have H2 : RecAt w p 180 13 (dcell L C m { D with trip := dec1 D.trip }) := by rw [dec1_neg hp]; exact h
      have HX := Lib.hid H2
      have hc2 : Chg (OnlyP p) w w := Chg.refl _ _
      have HC := Lib.hid hc2
      clear h hd hd' ht hf H2 hc2
      go_enter Try.func119, Try.ntmps119
      go_wp2_with fail
      replace HX := HX.out
      replace HC := HC.out
      clear c3 c4 cf cn f3 f4 ff fn'
      obtain ⟨w2, hw2⟩ : ∃ w2, w2 = w := ⟨_, rfl⟩
      rw [← hw2] at HX
      rw [show Code.wp _ _ _ _ w = Code.wp _ _ _ _ w2 from by rw [hw2]]
      have HC' : Chg (OnlyP p) w w2 := by rw [hw2]; exact HC
      clear HC hw2
      have HC := HC'
      have cf : w2.cell? ⟨p, 6, none⟩ = some (.int .i64 (D.f 1)) := HX.cell 6 (by omega)
      have cn : w2.cell? ⟨p, 10, none⟩ = some (.int .i64 (D.n 1)) := HX.cell 10 (by omega)
      have ff := HX.frozen 6
      have fn' := HX.frozen 10
      go_region
      all_goals
        go_wp2_with fail
        refine (HDO.out _ (rec_go1b HX (by have := HFP.out; omega)) (HC.trans (one_chg w2 p 10 _) (fun _ _ h => h)).drew).mono ?_
        rintro e w9 ⟨x, rfl, hR⟩
        have HR := Lib.hid hR
        clear hR
        go_wp2
        go_ret
        exact ⟨x, rfl, HR.out⟩

set_option maxRecDepth 100000 in
set_option maxHeartbeats 2000000 in
theorem op_go2 (L C : Value) (m p : Nat) (D : Dsk) (fi : FuncId) (caps : Array Value) (R : Nat → World → Prop) (w : World) (h : RecAt w p 180 13 (dcell L C m D)) (ok : D.Ok) (hn : D.n 2 ≤ 4611686018427387904) (hb : (D.begin 2).1 = 0)
    (hcf : ∀ args w, (callFunc fi args).run Try.prog w = .ok (.enter fi args) w)
    (hdo : ∀ w', RecAt w' p 180 13 (dcell L C m (D.go 2)) → Chg (OnlyP p) w w' → Calls Try.prog fi caps w' fun e w'' => ∃ x : Nat, e = .returned (.int .u16 (x : Nat)) ∧ R x w'') :
    Calls Try.prog 119 #[.pointer (some ⟨p, 0, none⟩), .int .i64 2, .func (.func fi) #[] caps] w fun e w'' => ∃ x : Nat, e = .returned (.int .u16 (x : Nat)) ∧ R x w'' := by
  have c3 : w.cell? ⟨p, 3, none⟩ = some (.bool D.dark) := h.cell 3 (by omega)
  have c4 : w.cell? ⟨p, 4, none⟩ = some (.int .i64 D.trip) := h.cell 4 (by omega)
  have cf : w.cell? ⟨p, 7, none⟩ = some (.int .i64 (D.f 2)) := h.cell 7 (by omega)
  have cn : w.cell? ⟨p, 11, none⟩ = some (.int .i64 (D.n 2)) := h.cell 11 (by omega)
  have f3 := h.frozen 3
  have f4 := h.frozen 4
  have ff := h.frozen 7
  have fn' := h.frozen 11
  have t1 := ok.trip
  have n1 := ok.n 2
  have ff1 := ok.f 2
  have HDO := Lib.hid hdo
  clear hdo
  obtain ⟨hd', ht, hf⟩ : D.dark = false ∧ ¬ D.trip = 0 ∧ ¬ D.f 2 = 0 := by
    unfold Dsk.begin at hb
    split at hb
    · simp at hb
    · split at hb
      · simp at hb
      · split at hb
        · simp at hb
        · rename_i a b c; exact ⟨by simpa using a, b, c⟩
  have hd := hd'
  rw [hd'] at c3
  clear hb
  have ht1 : (D.trip == 0) = false := by simpa using ht
  have hf1 : (D.f 2 == 0) = false := by simpa using hf
  by_cases hfp : 0 < D.f 2
  · have HFP := Lib.hid hfp
    by_cases hp : 0 < D.trip
    · have _t := trivial
      have H2 : RecAt (w.setCell ⟨p, 4, none⟩ (.int .i64 (D.trip - 1))) p 180 13 (dcell L C m { D with trip := dec1 D.trip }) := by rw [dec1_pos hp]; exact rec_trip h _
      have hc2 := one_chg w p 4 (.int .i64 (D.trip - 1))
      have HX := Lib.hid H2
      have HC := Lib.hid hc2
      clear h hd hd' ht hf H2 hc2
      go_enter Try.func119, Try.ntmps119
      go_wp2_with fail
      replace HX := HX.out
      replace HC := HC.out
      generalize w.setCell ⟨p, 4, none⟩ (.int .i64 (D.trip - 1)) = w2 at *
      have cf : w2.cell? ⟨p, 7, none⟩ = some (.int .i64 (D.f 2)) := HX.cell 7 (by omega)
      have cn : w2.cell? ⟨p, 11, none⟩ = some (.int .i64 (D.n 2)) := HX.cell 11 (by omega)
      have ff := HX.frozen 7
      have fn' := HX.frozen 11
      go_region
      all_goals
        go_wp2_with fail
        refine (HDO.out _ (rec_go2a HX (by have := HFP.out; omega)) (HC.trans (two_chg w2 p 11 7 _ _) (fun _ _ h => h)).drew).mono ?_
        rintro e w9 ⟨x, rfl, hR⟩
        have HR := Lib.hid hR
        clear hR
        go_wp2
        go_ret
        exact ⟨x, rfl, HR.out⟩
    · have _t := trivial
      have H2 : RecAt w p 180 13 (dcell L C m { D with trip := dec1 D.trip }) := by rw [dec1_neg hp]; exact h
      have HX := Lib.hid H2
      have hc2 : Chg (OnlyP p) w w := Chg.refl _ _
      have HC := Lib.hid hc2
      clear h hd hd' ht hf H2 hc2
      go_enter Try.func119, Try.ntmps119
      go_wp2_with fail
      replace HX := HX.out
      replace HC := HC.out
      clear c3 c4 cf cn f3 f4 ff fn'
      obtain ⟨w2, hw2⟩ : ∃ w2, w2 = w := ⟨_, rfl⟩
      rw [← hw2] at HX
      rw [show Code.wp _ _ _ _ w = Code.wp _ _ _ _ w2 from by rw [hw2]]
      have HC' : Chg (OnlyP p) w w2 := by rw [hw2]; exact HC
      clear HC hw2
      have HC := HC'
      have cf : w2.cell? ⟨p, 7, none⟩ = some (.int .i64 (D.f 2)) := HX.cell 7 (by omega)
      have cn : w2.cell? ⟨p, 11, none⟩ = some (.int .i64 (D.n 2)) := HX.cell 11 (by omega)
      have ff := HX.frozen 7
      have fn' := HX.frozen 11
      go_region
      all_goals
        go_wp2_with fail
        refine (HDO.out _ (rec_go2a HX (by have := HFP.out; omega)) (HC.trans (two_chg w2 p 11 7 _ _) (fun _ _ h => h)).drew).mono ?_
        rintro e w9 ⟨x, rfl, hR⟩
        have HR := Lib.hid hR
        clear hR
        go_wp2
        go_ret
        exact ⟨x, rfl, HR.out⟩
  · have HFP := Lib.hid hfp
    by_cases hp : 0 < D.trip
    · have _t := trivial
      have H2 : RecAt (w.setCell ⟨p, 4, none⟩ (.int .i64 (D.trip - 1))) p 180 13 (dcell L C m { D with trip := dec1 D.trip }) := by rw [dec1_pos hp]; exact rec_trip h _
      have hc2 := one_chg w p 4 (.int .i64 (D.trip - 1))
      have HX := Lib.hid H2
      have HC := Lib.hid hc2
      clear h hd hd' ht hf H2 hc2
      go_enter Try.func119, Try.ntmps119
      go_wp2_with fail
      replace HX := HX.out
      replace HC := HC.out
      generalize w.setCell ⟨p, 4, none⟩ (.int .i64 (D.trip - 1)) = w2 at *
      have cf : w2.cell? ⟨p, 7, none⟩ = some (.int .i64 (D.f 2)) := HX.cell 7 (by omega)
      have cn : w2.cell? ⟨p, 11, none⟩ = some (.int .i64 (D.n 2)) := HX.cell 11 (by omega)
      have ff := HX.frozen 7
      have fn' := HX.frozen 11
      go_region
      all_goals
        go_wp2_with fail
        refine (HDO.out _ (rec_go2b HX (by have := HFP.out; omega)) (HC.trans (one_chg w2 p 11 _) (fun _ _ h => h)).drew).mono ?_
        rintro e w9 ⟨x, rfl, hR⟩
        have HR := Lib.hid hR
        clear hR
        go_wp2
        go_ret
        exact ⟨x, rfl, HR.out⟩
    · have _t := trivial
      have H2 : RecAt w p 180 13 (dcell L C m { D with trip := dec1 D.trip }) := by rw [dec1_neg hp]; exact h
      have HX := Lib.hid H2
      have hc2 : Chg (OnlyP p) w w := Chg.refl _ _
      have HC := Lib.hid hc2
      clear h hd hd' ht hf H2 hc2
      go_enter Try.func119, Try.ntmps119
      go_wp2_with fail
      replace HX := HX.out
      replace HC := HC.out
      clear c3 c4 cf cn f3 f4 ff fn'
      obtain ⟨w2, hw2⟩ : ∃ w2, w2 = w := ⟨_, rfl⟩
      rw [← hw2] at HX
      rw [show Code.wp _ _ _ _ w = Code.wp _ _ _ _ w2 from by rw [hw2]]
      have HC' : Chg (OnlyP p) w w2 := by rw [hw2]; exact HC
      clear HC hw2
      have HC := HC'
      have cf : w2.cell? ⟨p, 7, none⟩ = some (.int .i64 (D.f 2)) := HX.cell 7 (by omega)
      have cn : w2.cell? ⟨p, 11, none⟩ = some (.int .i64 (D.n 2)) := HX.cell 11 (by omega)
      have ff := HX.frozen 7
      have fn' := HX.frozen 11
      go_region
      all_goals
        go_wp2_with fail
        refine (HDO.out _ (rec_go2b HX (by have := HFP.out; omega)) (HC.trans (one_chg w2 p 11 _) (fun _ _ h => h)).drew).mono ?_
        rintro e w9 ⟨x, rfl, hR⟩
        have HR := Lib.hid hR
        clear hR
        go_wp2
        go_ret
        exact ⟨x, rfl, HR.out⟩

set_option maxRecDepth 100000 in
set_option maxHeartbeats 2000000 in
theorem op_go3 (L C : Value) (m p : Nat) (D : Dsk) (fi : FuncId) (caps : Array Value) (R : Nat → World → Prop) (w : World) (h : RecAt w p 180 13 (dcell L C m D)) (ok : D.Ok) (hn : D.n 3 ≤ 4611686018427387904) (hb : (D.begin 3).1 = 0)
    (hcf : ∀ args w, (callFunc fi args).run Try.prog w = .ok (.enter fi args) w)
    (hdo : ∀ w', RecAt w' p 180 13 (dcell L C m (D.go 3)) → Chg (OnlyP p) w w' → Calls Try.prog fi caps w' fun e w'' => ∃ x : Nat, e = .returned (.int .u16 (x : Nat)) ∧ R x w'') :
    Calls Try.prog 119 #[.pointer (some ⟨p, 0, none⟩), .int .i64 3, .func (.func fi) #[] caps] w fun e w'' => ∃ x : Nat, e = .returned (.int .u16 (x : Nat)) ∧ R x w'' := by
  have c3 : w.cell? ⟨p, 3, none⟩ = some (.bool D.dark) := h.cell 3 (by omega)
  have c4 : w.cell? ⟨p, 4, none⟩ = some (.int .i64 D.trip) := h.cell 4 (by omega)
  have cf : w.cell? ⟨p, 8, none⟩ = some (.int .i64 (D.f 3)) := h.cell 8 (by omega)
  have cn : w.cell? ⟨p, 12, none⟩ = some (.int .i64 (D.n 3)) := h.cell 12 (by omega)
  have f3 := h.frozen 3
  have f4 := h.frozen 4
  have ff := h.frozen 8
  have fn' := h.frozen 12
  have t1 := ok.trip
  have n1 := ok.n 3
  have ff1 := ok.f 3
  have HDO := Lib.hid hdo
  clear hdo
  obtain ⟨hd', ht, hf⟩ : D.dark = false ∧ ¬ D.trip = 0 ∧ ¬ D.f 3 = 0 := by
    unfold Dsk.begin at hb
    split at hb
    · simp at hb
    · split at hb
      · simp at hb
      · split at hb
        · simp at hb
        · rename_i a b c; exact ⟨by simpa using a, b, c⟩
  have hd := hd'
  rw [hd'] at c3
  clear hb
  have ht1 : (D.trip == 0) = false := by simpa using ht
  have hf1 : (D.f 3 == 0) = false := by simpa using hf
  by_cases hfp : 0 < D.f 3
  · have HFP := Lib.hid hfp
    by_cases hp : 0 < D.trip
    · have _t := trivial
      have H2 : RecAt (w.setCell ⟨p, 4, none⟩ (.int .i64 (D.trip - 1))) p 180 13 (dcell L C m { D with trip := dec1 D.trip }) := by rw [dec1_pos hp]; exact rec_trip h _
      have hc2 := one_chg w p 4 (.int .i64 (D.trip - 1))
      have HX := Lib.hid H2
      have HC := Lib.hid hc2
      clear h hd hd' ht hf H2 hc2
      go_enter Try.func119, Try.ntmps119
      go_wp2_with fail
      replace HX := HX.out
      replace HC := HC.out
      generalize w.setCell ⟨p, 4, none⟩ (.int .i64 (D.trip - 1)) = w2 at *
      have cf : w2.cell? ⟨p, 8, none⟩ = some (.int .i64 (D.f 3)) := HX.cell 8 (by omega)
      have cn : w2.cell? ⟨p, 12, none⟩ = some (.int .i64 (D.n 3)) := HX.cell 12 (by omega)
      have ff := HX.frozen 8
      have fn' := HX.frozen 12
      go_region
      all_goals
        go_wp2_with fail
        refine (HDO.out _ (rec_go3a HX (by have := HFP.out; omega)) (HC.trans (two_chg w2 p 12 8 _ _) (fun _ _ h => h)).drew).mono ?_
        rintro e w9 ⟨x, rfl, hR⟩
        have HR := Lib.hid hR
        clear hR
        go_wp2
        go_ret
        exact ⟨x, rfl, HR.out⟩
    · have _t := trivial
      have H2 : RecAt w p 180 13 (dcell L C m { D with trip := dec1 D.trip }) := by rw [dec1_neg hp]; exact h
      have HX := Lib.hid H2
      have hc2 : Chg (OnlyP p) w w := Chg.refl _ _
      have HC := Lib.hid hc2
      clear h hd hd' ht hf H2 hc2
      go_enter Try.func119, Try.ntmps119
      go_wp2_with fail
      replace HX := HX.out
      replace HC := HC.out
      clear c3 c4 cf cn f3 f4 ff fn'
      obtain ⟨w2, hw2⟩ : ∃ w2, w2 = w := ⟨_, rfl⟩
      rw [← hw2] at HX
      rw [show Code.wp _ _ _ _ w = Code.wp _ _ _ _ w2 from by rw [hw2]]
      have HC' : Chg (OnlyP p) w w2 := by rw [hw2]; exact HC
      clear HC hw2
      have HC := HC'
      have cf : w2.cell? ⟨p, 8, none⟩ = some (.int .i64 (D.f 3)) := HX.cell 8 (by omega)
      have cn : w2.cell? ⟨p, 12, none⟩ = some (.int .i64 (D.n 3)) := HX.cell 12 (by omega)
      have ff := HX.frozen 8
      have fn' := HX.frozen 12
      go_region
      all_goals
        go_wp2_with fail
        refine (HDO.out _ (rec_go3a HX (by have := HFP.out; omega)) (HC.trans (two_chg w2 p 12 8 _ _) (fun _ _ h => h)).drew).mono ?_
        rintro e w9 ⟨x, rfl, hR⟩
        have HR := Lib.hid hR
        clear hR
        go_wp2
        go_ret
        exact ⟨x, rfl, HR.out⟩
  · have HFP := Lib.hid hfp
    by_cases hp : 0 < D.trip
    · have _t := trivial
      have H2 : RecAt (w.setCell ⟨p, 4, none⟩ (.int .i64 (D.trip - 1))) p 180 13 (dcell L C m { D with trip := dec1 D.trip }) := by rw [dec1_pos hp]; exact rec_trip h _
      have hc2 := one_chg w p 4 (.int .i64 (D.trip - 1))
      have HX := Lib.hid H2
      have HC := Lib.hid hc2
      clear h hd hd' ht hf H2 hc2
      go_enter Try.func119, Try.ntmps119
      go_wp2_with fail
      replace HX := HX.out
      replace HC := HC.out
      generalize w.setCell ⟨p, 4, none⟩ (.int .i64 (D.trip - 1)) = w2 at *
      have cf : w2.cell? ⟨p, 8, none⟩ = some (.int .i64 (D.f 3)) := HX.cell 8 (by omega)
      have cn : w2.cell? ⟨p, 12, none⟩ = some (.int .i64 (D.n 3)) := HX.cell 12 (by omega)
      have ff := HX.frozen 8
      have fn' := HX.frozen 12
      go_region
      all_goals
        go_wp2_with fail
        refine (HDO.out _ (rec_go3b HX (by have := HFP.out; omega)) (HC.trans (one_chg w2 p 12 _) (fun _ _ h => h)).drew).mono ?_
        rintro e w9 ⟨x, rfl, hR⟩
        have HR := Lib.hid hR
        clear hR
        go_wp2
        go_ret
        exact ⟨x, rfl, HR.out⟩
    · have _t := trivial
      have H2 : RecAt w p 180 13 (dcell L C m { D with trip := dec1 D.trip }) := by rw [dec1_neg hp]; exact h
      have HX := Lib.hid H2
      have hc2 : Chg (OnlyP p) w w := Chg.refl _ _
      have HC := Lib.hid hc2
      clear h hd hd' ht hf H2 hc2
      go_enter Try.func119, Try.ntmps119
      go_wp2_with fail
      replace HX := HX.out
      replace HC := HC.out
      clear c3 c4 cf cn f3 f4 ff fn'
      obtain ⟨w2, hw2⟩ : ∃ w2, w2 = w := ⟨_, rfl⟩
      rw [← hw2] at HX
      rw [show Code.wp _ _ _ _ w = Code.wp _ _ _ _ w2 from by rw [hw2]]
      have HC' : Chg (OnlyP p) w w2 := by rw [hw2]; exact HC
      clear HC hw2
      have HC := HC'
      have cf : w2.cell? ⟨p, 8, none⟩ = some (.int .i64 (D.f 3)) := HX.cell 8 (by omega)
      have cn : w2.cell? ⟨p, 12, none⟩ = some (.int .i64 (D.n 3)) := HX.cell 12 (by omega)
      have ff := HX.frozen 8
      have fn' := HX.frozen 12
      go_region
      all_goals
        go_wp2_with fail
        refine (HDO.out _ (rec_go3b HX (by have := HFP.out; omega)) (HC.trans (one_chg w2 p 12 _) (fun _ _ h => h)).drew).mono ?_
        rintro e w9 ⟨x, rfl, hR⟩
        have HR := Lib.hid hR
        clear hR
        go_wp2
        go_ret
        exact ⟨x, rfl, HR.out⟩
end Go.Proofs.Ytfbjjblgcgjndaa

/- Contracts of the disk's Pages and of what Write does. -/
namespace Go.Proofs.Ytfbjjblgcgjndaa
open Go.RowKit Go.Maps

theorem ret_int {k : IntKind} {a b : Int} (h : a = b) : Ending.returned (.int k a) = .returned (.int k b) := by rw [h]
set_option maxRecDepth 100000 in
theorem pages_in (L C : Value) (m p : Nat) (D : Dsk) (A : Option Addr) (w : World) (h : RecAt w p 180 13 (dcell (.slice A D.last.length D.last.length) C m D)) (hl : D.last.length ≤ 131072) :
    Calls Try.prog 121 #[.pointer (some ⟨p, 0, none⟩)] w fun e w' => e = .returned (.int .i64 (D.pages : Int)) ∧ w = w' := by
  have c0 : w.cell? ⟨p, 0, none⟩ = some (.slice A D.last.length D.last.length) := h.cell 0 (by omega)
  unfold Dsk.pages
  clear h
  go_enter Try.func121, Try.ntmps121
  go_wp2
  go_ret
  exact ⟨ret_int (by omega), rfl⟩
theorem pages_any {n0 : Nat} {w : World} {p : Nat} {D : Dsk} {S : Nat → Prop} (h : DiskAt n0 w p D S) :
    Calls Try.prog 121 #[.pointer (some ⟨p, 0, none⟩)] w fun e w' => e = .returned (.int .i64 (D.pages : Int)) ∧ w = w' := by
  obtain ⟨ok, q, M, h1, h2⟩ := h
  exact pages_in (.slice none 0 0) q.C q.m p D _ w h1.rcd (by obtain ⟨k, h1, h2, h3⟩ := ok.pages; omega)
/-- a box of one cell -/
def Box (w : World) (b : Nat) (v : Value) (t : TypeId) : Prop := w.heap[b]? = some (.cells #[v] t (0, 0))
theorem Box.cell {w : World} {b : Nat} {v : Value} {t : TypeId} (h : Box w b v t) : w.cell? ⟨b, 0, none⟩ = some v := by rw [cell_of_row w b 0 _ t (0, 0) h]; rfl
theorem Box.lt {w : World} {b : Nat} {v : Value} {t : TypeId} (h : Box w b v t) : b < w.heap.size := (Array.getElem?_eq_some_iff.1 h).1
theorem Box.keep {w w' : World} {b : Nat} {v : Value} {t : TypeId} {G : Nat → Prop} (h : Box w b v t) (hc : Chg G w w') (hG : ¬ G b) : Box w' b v t := by
  unfold Box; rw [hc.block b h.lt hG]; exact h

set_option maxRecDepth 100000 in
set_option maxHeartbeats 1000000 in
theorem write_range (n0 : Nat) (w : World) (p : Nat) (D : Dsk) (S : Nat → Prop) (pg : Int) (bp bd bb : Nat) (bv : Value) (h : DiskAt n0 w p D S) (h1 : Box w bp (.int .i64 pg) 3) (h2 : Box w bd (.pointer (some ⟨p, 0, none⟩)) 74)
    (hr : pg < 0 ∨ (D.pages : Int) ≤ pg) : Calls Try.prog 120 #[.pointer (some ⟨bp, 0, none⟩), .pointer (some ⟨bd, 0, none⟩), .pointer (some ⟨bb, 0, none⟩)] w fun e w' => e = .returned (.int .u16 2) ∧ Below w.heap.size w w' := by
  have c1 := h1.cell
  have c2 := h2.cell
  have hp := fun n => (pages_any (h.below (below_drewN (Below.refl w.heap.size w) n))).mono fun _ _ (h : _ ∧ _) => And.intro h.1 h.2.symm
  have HP := Lib.hid hp
  clear hp h h1 h2
  by_cases hneg : pg < 0
  · have hd : decide (pg < 0) = true := by simpa using hneg
    have HH := Lib.hid hneg
    clear hr hneg
    go_enter Try.func120, Try.ntmps120
    go_wp2_with fail
    go_quiet ((go_at_call 121; exact Calls.quiet_of_same (HP.out _)))
    go_wp2_with fail
    go_ret
    exact ⟨rfl, below_drewN (Below.refl _ _) _⟩
  · have hge : (D.pages : Int) ≤ pg := by omega
    have hd : decide (pg < 0) = false := by simpa using hneg
    have hd2 : decide ((D.pages : Int) ≤ pg) = true := by simpa using hge
    clear hr
    generalize D.pages = N at *
    go_enter Try.func120, Try.ntmps120
    go_wp2_with fail
    go_quiet ((go_at_call 121; exact Calls.quiet_of_same (HP.out _)))
    go_wp2_with fail
    go_ret
    exact ⟨rfl, below_drewN (Below.refl _ _) _⟩

set_option maxRecDepth 100000 in
set_option maxHeartbeats 1000000 in
theorem write_arg (n0 : Nat) (w : World) (p : Nat) (D : Dsk) (S : Nat → Prop) (pg : Nat) (bp bd bb : Nat) (A : Option Addr) (n c : Nat) (h : DiskAt n0 w p D S) (h1 : Box w bp (.int .i64 (pg : Int)) 3) (h2 : Box w bd (.pointer (some ⟨p, 0, none⟩)) 74) (h3 : Box w bb (.slice A n c) 23)
    (hr : pg < D.pages) (hn : n ≠ 1024 ∧ n ≠ 128) : Calls Try.prog 120 #[.pointer (some ⟨bp, 0, none⟩), .pointer (some ⟨bd, 0, none⟩), .pointer (some ⟨bb, 0, none⟩)] w fun e w' => e = .returned (.int .u16 1) ∧ Below w.heap.size w w' := by
  have c1 := h1.cell
  have c2 := h2.cell
  have c3 := h3.cell
  have hp := fun n => (pages_any (h.below (below_drewN (Below.refl w.heap.size w) n))).mono fun _ _ (h : _ ∧ _) => And.intro h.1 h.2.symm
  have HP := Lib.hid hp
  have g1 : ((n : Int) != 1024) = true := by simp; omega
  have g2 : ((n : Int) != 128) = true := by simp; omega
  have g3 : (n != 1024) = true := by simp; omega
  have g4 : (n != 128) = true := by simp; omega
  have g5 : (n == 1024) = false := by simp; omega
  have g6 : (n == 128) = false := by simp; omega
  have hneg : ¬ ((pg : Int) < 0) := by omega
  have hd : decide ((pg : Int) < 0) = false := by simp
  have hd2 : decide ((D.pages : Int) ≤ (pg : Int)) = false := by simp; omega
  have hd3 : decide (D.pages ≤ pg) = false := by simp; omega
  clear hp h h1 h2 h3 hn
  generalize D.pages = N at *
  go_enter Try.func120, Try.ntmps120
  go_wp2_with fail
  go_quiet ((go_at_call 121; exact Calls.quiet_of_same (HP.out _)))
  go_wp2_with fail
  go_ret
  exact ⟨rfl, below_drewN (Below.refl _ _) _⟩
end Go.Proofs.Ytfbjjblgcgjndaa

/- A write that waits is built: struct and slice of one. -/
namespace Go.Proofs.Ytfbjjblgcgjndaa
open Go.RowKit Go.Maps

def pourStep (off : Nat) (cs : Array Value) (p : Value × Nat) : Array Value := cs.setIfInBounds (off + p.2) p.1
theorem pour (off : Nat) : ∀ (vs : List Value) (k : Nat) (cs : Array Value), off + k + vs.length ≤ cs.size →
    ((vs.zipIdx k).foldl (fun cs (p : Value × Nat) => cs.setIfInBounds (off + p.2) p.1) cs).size = cs.size ∧
    ∀ i, ((vs.zipIdx k).foldl (fun cs (p : Value × Nat) => cs.setIfInBounds (off + p.2) p.1) cs)[i]? = if off + k ≤ i ∧ i < off + k + vs.length then vs[i - (off + k)]? else cs[i]?
  | [], k, cs, h => by simp; intro i h1 h2; omega
  | v :: vs, k, cs, h => by
    simp only [List.length_cons] at h
    obtain ⟨h1, h2⟩ := pour off vs (k + 1) (cs.setIfInBounds (off + k) v) (by simp; omega)
    simp only [List.zipIdx_cons, List.foldl_cons]
    refine ⟨by rw [h1]; simp, fun i => ?_⟩
    rw [h2]
    simp only [List.length_cons]
    by_cases e : i = off + k
    · subst e
      rw [if_neg (by omega), if_pos (by omega)]
      rw [Array.getElem?_setIfInBounds_self_of_lt (by omega)]
      simp
    · by_cases e2 : off + (k + 1) ≤ i ∧ i < off + (k + 1) + vs.length
      · rw [if_pos e2, if_pos (by omega)]
        rw [show i - (off + k) = (i - (off + (k + 1))) + 1 by omega]
        simp
      · rw [if_neg e2, if_neg (by omega), Array.getElem?_setIfInBounds_ne (by omega)]
theorem poured (off : Nat) (vs : List Value) (cs : Array Value) (h : off + vs.length = cs.size) :
    (vs.zipIdx.foldl (fun cs (p : Value × Nat) => cs.setIfInBounds (off + p.2) p.1) cs) = (cs.toList.take off ++ vs).toArray := by
  obtain ⟨h1, h2⟩ := pour off vs 0 cs (by omega)
  apply Array.ext_getElem?
  intro i
  rw [h2]
  simp only [Nat.add_zero]
  by_cases e : off ≤ i ∧ i < off + vs.length
  · rw [if_pos e]
    simp only [List.getElem?_toArray]
    rw [List.getElem?_append_right (by simp; omega)]
    congr 1
    simp; omega
  · rw [if_neg e]
    simp only [List.getElem?_toArray]
    by_cases e3 : i < off
    · rw [List.getElem?_append_left (by simp; omega), List.getElem?_take, if_pos e3]; simp
    · rw [Array.getElem?_eq_none (by omega), List.getElem?_eq_none (by simp; omega)]
theorem Try.info3' : (Try.prog.info? 3).map (·.size) = some 1 := by kernel_rfl
theorem Try.info183' : (Try.prog.info? 183).map (·.size) = some 128 := by kernel_rfl
theorem Try.info185 : (Try.prog.info? 185).map (fun i => (i.zero, i.size, i.bytes)) = some (some (.agg (#[.int .i64 0] ++ zero128)), 129, 136) := by kernel_rfl
theorem zero129_size : (#[Value.int .i64 0] ++ zero128).size = 129 := by simp [zero128]
set_option maxRecDepth 100000 in
theorem run_build (a : Int) (l : List Nat) (hl : l.length = 128) (w : World) : (Instr.build 185 #[(0, .int .i64 a), (1, .agg (ns .u8 l).toArray)]).run Try.prog w = .ok (.agg (Value.int .i64 a :: ns .u8 l).toArray) w := by
  obtain ⟨i3, h3, e3⟩ := Option.map_eq_some_iff.1 Try.info3'
  obtain ⟨i183, h183, e183⟩ := Option.map_eq_some_iff.1 Try.info183'
  obtain ⟨i185, h185, e185⟩ := Option.map_eq_some_iff.1 Try.info185
  simp only [Prod.mk.injEq] at e185
  have hz := zero129_size
  generalize (#[Value.int .i64 0] ++ zero128) = Z at *
  have hnl : (ns .u8 l).length = 128 := by rw [ns_length, hl]
  have hp := poured 1 (ns .u8 l) (Z.setIfInBounds 0 (.int .i64 a)) (by simp [hz, hnl])
  have ht : (Z.setIfInBounds 0 (.int .i64 a)).toList.take 1 = [.int .i64 a] := by
    rw [Array.toList_setIfInBounds]
    obtain ⟨zl⟩ := Z
    cases zl with
    | nil => simp at hz
    | cons x xs => simp
  rw [ht] at hp
  simp [Instr.build, zeroValue, sizeOf, typeInfo, run_underlying Try.underlying185, h3, h183, h185, e185.1, e3, e183]
  simp [Instr.fill, Value.cells, hz, hnl]
  rw [hp]
  rfl
theorem Try.u178 : Try.prog.underlying 178 = some (.slice 185) := Try.underlying178
set_option maxRecDepth 100000 in
theorem run_buildSlice (cs : List Value) (hl : cs.length = 129) (w : World) : (Instr.buildSlice 178 1 #[(0, .agg cs.toArray)]).run Try.prog w = .ok (.slice (some ⟨w.heap.size, 0, none⟩) 1 1) (w.alloc (.cells cs.toArray 185)) := by
  obtain ⟨i185, h185, e185⟩ := Option.map_eq_some_iff.1 Try.info185
  simp only [Prod.mk.injEq] at e185
  have hz := zero129_size
  generalize (#[Value.int .i64 0] ++ zero128) = Z at *
  obtain ⟨Y, hY⟩ : ∃ Y, Y = (Array.range 129).map (Z[· % Z.size]!) := ⟨_, rfl⟩
  have hYs : Y.size = 129 := by rw [hY]; simp
  have hp := poured 0 cs Y (by rw [hYs]; omega)
  simp [Instr.buildSlice, zeroValue, sizeOf, typeInfo, run_underlying Try.underlying178, h185, e185.1, e185.2.1]
  rw [show (Array.map (fun x => (Value.agg Z).cells[x % (Value.agg Z).cells.size]!) (Array.range 129)) = Y from hY.symm]
  simp [Instr.fill, Value.cells, hYs, hl, newRow]
  simp at hp
  rw [hp]

theorem run_build' (u v : Value) (hu : u.cells.size = 1) (hv : v.cells.size = 128) (w : World) : (Instr.build 185 #[(0, u), (1, v)]).run Try.prog w = .ok (.agg (u.cells ++ v.cells)) w := by
  obtain ⟨i3, h3, e3⟩ := Option.map_eq_some_iff.1 Try.info3'
  obtain ⟨i183, h183, e183⟩ := Option.map_eq_some_iff.1 Try.info183'
  obtain ⟨i185, h185, e185⟩ := Option.map_eq_some_iff.1 Try.info185
  simp only [Prod.mk.injEq] at e185
  have hz := zero129_size
  generalize (#[Value.int .i64 0] ++ zero128) = Z at *
  simp [Instr.build, zeroValue, sizeOf, typeInfo, run_underlying Try.underlying185, h3, h183, h185, e185.1, e3, e183]
  obtain ⟨x, hx⟩ : ∃ x, u.cells = #[x] := by
    obtain ⟨⟨l⟩, hl⟩ : ∃ l, u.cells = l := ⟨_, rfl⟩
    rw [hl] at hu ⊢
    match l, hu with
    | [x], _ => exact ⟨x, rfl⟩
  obtain ⟨⟨ys⟩, hys⟩ : ∃ l, v.cells = l := ⟨_, rfl⟩
  rw [hys] at hv ⊢
  have hyl : ys.length = 128 := by simpa using hv
  have hp := poured 1 ys (Z.setIfInBounds 0 x) (by simp [hz, hyl])
  have ht : (Z.setIfInBounds 0 x).toList.take 1 = [x] := by
    rw [Array.toList_setIfInBounds]
    obtain ⟨zl⟩ := Z
    cases zl with
    | nil => simp at hz
    | cons x xs => simp
  rw [ht] at hp
  have hzc : (Value.agg Z).cells = Z := rfl
  simp [Instr.fill, hx, hys, hzc, hz, hyl]
  rw [hp]
  simp
def build185 (u v : Value) : Sem Next := do pure (.value (← Instr.build 185 #[(0, u), (1, v)]))
theorem execOp_build185 (ρ : Operand → Value) (dst : Option Tmp) (x y : Operand) (ty : TypeId) (pos : String) (after : Array Edge) (guard : Option (Nat × Bool)) :
    execOp ρ ⟨dst, .build 185 #[(0, x), (1, y)], ty, pos, after, guard⟩ = build185 (ρ x) (ρ y) := by
  unfold execOp build185
  simp only [List.map_toArray, List.map_cons, List.map_nil]
theorem run_build185 (k : IntKind) (a : Int) (cs : List Value) (h : cs.length = 128) (w : World) : (build185 (.int k a) (.agg cs.toArray)).run Try.prog w = .ok (.value (.agg (Value.int k a :: cs).toArray)) w := by
  unfold build185
  have := run_build' (.int k a) (.agg cs.toArray) rfl (by simpa [Value.cells] using h) w
  simp only [Sem.run_bind, this, Sem.run_pure, Result.andThen_ok]
  simp [Value.cells]
theorem run_buildSlice' (u : Value) (hu : u.cells.size = 129) (w : World) : (Instr.buildSlice 178 1 #[(0, u)]).run Try.prog w = .ok (.slice (some ⟨w.heap.size, 0, none⟩) 1 1) (w.alloc (.cells u.cells 185)) := by
  obtain ⟨i185, h185, e185⟩ := Option.map_eq_some_iff.1 Try.info185
  simp only [Prod.mk.injEq] at e185
  have hz := zero129_size
  generalize (#[Value.int .i64 0] ++ zero128) = Z at *
  obtain ⟨Y, hY⟩ : ∃ Y, Y = (Array.range 129).map (Z[· % Z.size]!) := ⟨_, rfl⟩
  have hYs : Y.size = 129 := by rw [hY]; simp
  obtain ⟨⟨ys⟩, hys⟩ : ∃ l, u.cells = l := ⟨_, rfl⟩
  rw [hys] at hu
  have hyl : ys.length = 129 := by simpa using hu
  have hp := poured 0 ys Y (by rw [hYs]; omega)
  simp [Instr.buildSlice, zeroValue, sizeOf, typeInfo, run_underlying Try.underlying178, h185, e185.1, e185.2.1]
  rw [show (Array.map (fun x => (Value.agg Z).cells[x % (Value.agg Z).cells.size]!) (Array.range 129)) = Y from hY.symm]
  simp [Instr.fill, hys, hYs, hyl, newRow]
  simp at hp
  rw [hp]
def one185 (u : Value) : Sem Next := do pure (.value (← Instr.buildSlice 178 1 #[(0, u)]))
theorem execOp_one185 (ρ : Operand → Value) (dst : Option Tmp) (x : Operand) (ty : TypeId) (pos : String) (after : Array Edge) (guard : Option (Nat × Bool)) :
    execOp ρ ⟨dst, .buildSlice 178 1 #[(0, x)], ty, pos, after, guard⟩ = one185 (ρ x) := by
  unfold execOp one185
  simp only [List.map_toArray, List.map_cons, List.map_nil]
theorem run_one185 (cs : List Value) (h : cs.length = 129) (w : World) : (one185 (.agg cs.toArray)).run Try.prog w = .ok (.value (.slice (some ⟨w.heap.size, 0, none⟩) 1 1)) (w.alloc (.cells cs.toArray 185)) := by
  unfold one185
  have := run_buildSlice' (.agg cs.toArray) (by simpa [Value.cells] using h) w
  simp only [Sem.run_bind, this, Sem.run_pure, Result.andThen_ok]
  simp [Value.cells]

section
variable {P : Program}
/-- append: it fits, and the row's block is written; or a new block is made, and nothing is written -/
theorem run_append2 (w : World) (base : Nat) (t ty e : TypeId) (i : TypeInfo) (z : Value) (size bytes : Nat) (ht : P.underlying t = some (.slice e)) (hi : P.info? e = some i) (hz : i.zero = some z) (hsize : i.size = size) (hby : i.bytes = bytes) (hzs : z.cells.size = size) (hsz : 0 < size)
    (v : Value) (n : Nat) (xs : List Value) (hown : w.ownsRow base e size v n xs) (ad : Addr) (m c : Nat) (news : List Value) (hl : news.length = m * size) (hnews : ∀ j u, news[j]? = some u → w.cell? (ad.add j) = some u) (h1 : ∀ u ∈ news, u.oneCell' = true)
    (h63 : n + m ≤ maxLen) (hbytes : (n + m) * bytes ≤ 140737488355328) (hbase : base ≤ w.heap.size) :
    ∃ v' w', (Builtin.append_ #[t, t] ty #[v, .slice (some ad) m c]).run P w = .ok v' w' ∧ w'.ownsRow base e size v' (n + m) (xs ++ news) ∧
      ((w.grownBy w' v.ownBlock ∧ v'.ownBlock = v.ownBlock) ∨ (w.grownBy w' none ∧ ∃ g, v'.ownBlock = some g ∧ w.heap.size ≤ g)) := by
  rcases hown.2 with ⟨hv, hn0⟩ | ⟨g, cap, cur, hv, hb, hh, h3, h4, h5, h6⟩
  · obtain ⟨v', w', hr, a1, a2, _, a4⟩ := run_append_own_at (P := P) w base t ty e i z size bytes ht hi hz hsize hby hzs hsz v n xs hown ad m c news hl hnews h1 h63 hbytes hbase
    refine ⟨v', w', hr, a1, ?_⟩
    have hvo : v.ownBlock = none := by rw [hv]; rfl
    rw [hvo] at a2 a4 ⊢
    rcases a4 with a4 | a4
    · exact .inl ⟨a2, a4⟩
    · exact .inr ⟨a2, _, a4, Nat.le_refl _⟩
  · subst hv
    by_cases hroom : n + m ≤ cap
    · obtain ⟨w', hr, a1, a2⟩ := run_append_fits (P := P) w base t ty e i size ht hi hsize g n cap xs hown ad m c news hl hnews h1 hroom
      exact ⟨_, w', hr, a1, .inl ⟨a2, rfl⟩⟩
    · obtain ⟨v', w', hr, a1, a2⟩ := run_append_arg_grows (P := P) w t ty e i z size bytes ht hi hz hsize hby hzs hsz ⟨g, 0, none⟩ n cap xs hown.1 (by
        intro j u hu
        rw [Addr.add_mid, cell_of_row w g _ cur e (0, 0) hh]
        rw [← h6, List.getElem?_take] at hu
        split at hu
        · simpa using hu
        · cases hu) ad m c news hl hnews (by omega) h63 hbytes
      have hge : ∃ g', v'.ownBlock = some g' ∧ w.heap.size ≤ g' := by
        rcases a1.2 with ⟨_, hz⟩ | ⟨g', cap', cur', rfl, hb', _⟩
        · omega
        · exact ⟨g', rfl, hb'⟩
      refine ⟨v', w', hr, own_up a1 ?_, .inr ⟨a2, hge⟩⟩
      intro g' hg'
      obtain ⟨g'', e1, e2⟩ := hge
      rw [e1] at hg'; cases hg'; omega
/-- at a step of a region that draws its order -/
theorem step_append2 {ops : Array Oper} {o : Oper} {a : Act} {w : World} {K : Act → World → Prop} {Q : Exit → Act → World → Prop} {E : Prop} (hgd : o.guard = none) (s x : Operand) (t e : TypeId) (z : Value) (size bytes : Nat)
    (ho : o.op = .call { callee := .builtin .append, args := #[s, x], argTypes := #[t, t] })
    (ht : P.underlying t = some (.slice e)) (hinfo : (P.info? e).map (fun i => (i.zero, i.size, i.bytes)) = some (some z, size, bytes)) (hzs : z.cells.size = size) (h0 : 0 < size)
    (base : Nat) (v : Value) (n : Nat) (xs : List Value) (hs : a.eval s = v) (hown : w.ownsRow base e size v n xs)
    (ad : Addr) (m c : Nat) (news : List Value) (hx : a.eval x = .slice (some ad) m c) (hl : news.length = m * size) (hAt : At w (some ad) news) (h1 : ∀ u ∈ news, u.oneCell' = true)
    (h63 : n + m ≤ 140737488355328) (hbytes : (n + m) * bytes ≤ 140737488355328) (hbase : base ≤ w.heap.size)
    (h : ∀ v' w', w'.ownsRow base e size v' (n + m) (xs ++ news) → (w.grownBy w' v.ownBlock ∧ v'.ownBlock = v.ownBlock) ∨ (w.grownBy w' none ∧ ∃ g, v'.ownBlock = some g ∧ w.heap.size ≤ g) → K (a.put o.dst v') w') :
    if Region.wanted o (yielded ops a.tmps) = true then Oper.wp P o a w K Q else E := by
  have hw : Region.wanted o (yielded ops a.tmps) = true := by simp [Region.wanted, hgd]
  rw [if_pos hw]
  obtain ⟨i0, hi, hzz⟩ := Option.map_eq_some_iff.1 hinfo
  simp only [Prod.mk.injEq] at hzz
  obtain ⟨hz0, hz1, hz2⟩ := hzz
  have hnews : ∀ j u, news[j]? = some u → w.cell? (ad.add j) = some u := fun j u hu => by
    obtain ⟨b, o, e, hr⟩ := hAt (by intro hn; rw [hn] at hu; simp at hu)
    cases e
    rw [Addr.add_mid]; exact hr j u hu
  obtain ⟨v', w', hr, h2, h3⟩ := run_append2 (P := P) w base t o.type e i0 z size bytes ht hi hz0 hz1 hz2 hzs h0 v n xs hown ad m c news hl hnews h1 (by simp only [maxLen]; omega) hbytes hbase
  unfold Oper.wp execOp
  simp only [ho, resolve, invoke, builtin, Sem.run_bind, Sem.run_pure, Result.andThen_ok, List.map_toArray, List.map_cons, List.map_nil, hs, hx, hr]
  exact h v' w' h2 h3
end
end Go.Proofs.Ytfbjjblgcgjndaa

/- Regions that draw their order: what is read ahead of the last operation may be read first, though that one writes it. -/
namespace Go.Proofs.Ytfbjjblgcgjndaa
open Go.RowKit

section
variable {P : Program} {ops : Array Oper} {Q : Exit → Act → World → Prop} {md : Region.Mode} {S : World → Prop} {L : Nat}
/-- in whatever order; S holds as long as operation L is still to come -/
def AnyL (P : Program) (md : Region.Mode) (ops : Array Oper) (Q : Exit → Act → World → Prop) (S : World → Prop) (L : Nat) : Nat → Array Bool → Act → World → Prop
  | 0, l, a, w => Region.ready md ops l = [] ∧ Q .normal a w
  | k + 1, l, a, w => (Region.ready md ops l = [] → Q .normal a w) ∧
      ∀ i ∈ Region.ready md ops l, wpOp P ops Q i (fun a' w' => ((l.setIfInBounds i true).getD L true = false → S w') ∧ AnyL P md ops Q S L k (l.setIfInBounds i true) a' w') a w
theorem AnyL.any : ∀ (k : Nat) (l : Array Bool) (a : Act) (w : World), AnyL P md ops Q S L k l a w → wpAny P md ops Q k l a w
  | 0, _, _, _, h => h
  | k + 1, _, _, _, h => ⟨h.1, fun i hi => wpOp_mono (fun a' w' h' => AnyL.any k _ a' w' h'.2) (h.2 i hi)⟩
theorem AnyL.start {id : Nat} {a : Act} {w : World} (L : Nat) (S : World → Prop) (hm : P.follows .mixedOrders = true) (h : AnyL P .any ops Q S L ops.size (Array.replicate ops.size false) a w.drew) : (Code.region id ops true).wp P Q a w :=
  wp_region_any hm (AnyL.any _ _ _ _ h)
def bound (md : Region.Mode) (ops : Array Oper) (L i : Nat) : Bool := match ops[L]? with
  | some o => o.after.any fun e => Region.binds md e && e.on == i
  | none => false
theorem AnyL.first {i : Nat} {oi : Oper} {v : Value} (hi : ops[i]? = some oi) (hsel : ∀ (j : Nat) (o : Oper) cs b, ops[j]? = some o → o.op ≠ .select cs b) (hQ : ∀ c a w, Q (.panic c) (a.put oi.dst v) w → Q (.panic c) a w) (hb : bound md ops L i = true) :
    ∀ (k : Nat) (l : Array Bool) (a : Act) (w : World),
      (∀ j oj, ops[j]? = some oj → j ≠ i → l.getD j true = false → (∀ e ∈ oj.after, Region.binds md e = true → e.on ≠ i) → oi.apart ops oj = true) →
      i ∈ Region.ready md ops l → l.getD L true = false → YieldsIf P ops S oi v a → S w → AnyL P md ops Q S L k (l.setIfInBounds i true) (a.put oi.dst v) w → AnyL P md ops Q S L (k + 1) l a w := by
  obtain ⟨oL, hoL, d0, hd0, hb0, hon0⟩ : ∃ oL, ops[L]? = some oL ∧ ∃ e ∈ oL.after, Region.binds md e = true ∧ e.on = i := by
    unfold bound at hb
    split at hb
    · rename_i o ho
      rw [Array.any_eq_true] at hb
      obtain ⟨q, hq, h⟩ := hb
      simp only [Bool.and_eq_true, beq_iff_eq] at h
      exact ⟨o, ho, _, Array.getElem_mem hq, h.1, h.2⟩
    · cases hb
  intro k
  induction k with
  | zero =>
    intro l a w _ hr hlL hy hS H
    refine ⟨fun h => (by rw [h] at hr; cases hr), fun j hj => ?_⟩
    by_cases e : j = i
    · subst e; exact hy.wpOp hi hS ⟨fun _ => hS, H⟩
    · have := ready_mono hj e
      rw [H.1] at this
      cases this
  | succ k ih =>
    intro l a w hfree hr hlL hy hS H
    refine ⟨fun h => (by rw [h] at hr; cases hr), fun j hj => ?_⟩
    by_cases e : j = i
    · subst e; exact hy.wpOp hi hS ⟨fun _ => hS, H⟩
    · have step := H.2 j (ready_mono hj e)
      obtain ⟨un, oj, hoj, all⟩ := mem_ready.1 hj
      have free1 : ∀ e ∈ oj.after, Region.binds md e = true → e.on ≠ i := fun d hd hb heq => by
        have h1 := all d hd hb
        have h0 := (mem_ready.1 hr).1
        rw [heq] at h1
        rcases Nat.lt_or_ge i l.size with h' | h'
        · simp [h'] at h0 h1; rw [h0] at h1; cases h1
        · simp [Array.getElem?_eq_none h'] at h1
      have hjL : j ≠ L := fun e2 => by
        subst e2
        rw [hoj] at hoL
        cases hoL
        exact free1 d0 hd0 hb0 hon0
      have hiL : i ≠ L := fun e2 => by
        subst e2
        obtain ⟨_, oi', hoi', all'⟩ := mem_ready.1 hr
        rw [hoi'] at hoL
        cases hoL
        have h1 := all' d0 hd0 hb0
        rw [hon0] at h1
        have h0 := (mem_ready.1 hr).1
        rcases Nat.lt_or_ge i l.size with h' | h'
        · simp [h'] at h0 h1; rw [h0] at h1; cases h1
        · simp [Array.getElem?_eq_none h'] at h1
      have hl1 : ((l.setIfInBounds i true).setIfInBounds j true).getD L true = false := by rw [getD_set_ne true hjL, getD_set_ne true hiL]; exact hlL
      have hl2 : (l.setIfInBounds j true).getD L true = false := by rw [getD_set_ne true hjL]; exact hlL
      have step2 := wpOp_putIf hoj (hfree j oj hoj e un free1) (fun cs b => hsel i oi cs b hi) (fun cs b => hsel j oj cs b hoj) hQ hy step
      have hir : i ∈ Region.ready md ops (l.setIfInBounds j true) := ready_mono hr (Ne.symm e)
      refine wpOp_mono (fun a' w' h3 => ?_) step2
      obtain ⟨y1, y2, y3⟩ := h3
      refine ⟨fun _ => y2 hl1, ih (l.setIfInBounds j true) a' w' ?_ hir hl2 y1 (y2 hl1) ?_⟩
      · intro m om hm hmi hun hno
        refine hfree m om hm hmi ?_ hno
        by_cases hjm : j = m
        · subst hjm; exact un
        · rw [getD_set_ne true hjm] at hun; exact hun
      · rw [Array.setIfInBounds_comm _ _ e]; exact y3
theorem AnyL.take {i : Nat} {oi : Oper} {v : Value} {k : Nat} {l : Array Bool} {a : Act} {w : World} (hi : ops[i]? = some oi) (hs : Region.noSelect ops = true) (hf : Region.free md ops l i = true) (hr : (Region.ready md ops l).contains i = true) (hb : (bound md ops L i && !l.getD L true) = true)
    (hQ : ∀ c a w, Q (.panic c) (a.put oi.dst v) w → Q (.panic c) a w) (hy : YieldsIf P ops S oi v a) (hS : S w) (h : AnyL P md ops Q S L k (l.setIfInBounds i true) (a.put oi.dst v) w) : AnyL P md ops Q S L (k + 1) l a w := by
  simp only [Bool.and_eq_true, Bool.not_eq_true'] at hb
  exact AnyL.first hi (Region.noSelect_spec hs) hQ hb.1 k l a w (Region.free_spec hi hf) (by simpa using hr) hb.2 hy hS h
/-- one alone may come up -/
theorem AnyL.one {i : Nat} {o : Oper} {k : Nat} {l : Array Bool} {a : Act} {w : World} (hr : Region.ready md ops l = [i]) (ho : ops[i]? = some o) (hw : Region.wanted o (yielded ops a.tmps) = true)
    (h : ∀ K : Act → World → Prop, (∀ a' w', ((l.setIfInBounds i true).getD L true = false → S w') → AnyL P md ops Q S L k (l.setIfInBounds i true) a' w' → K a' w') → Oper.wp P o a w K Q) : AnyL P md ops Q S L (k + 1) l a w := by
  refine ⟨fun h0 => (by rw [hr] at h0; cases h0), fun j hj => ?_⟩
  rw [hr, List.mem_singleton] at hj
  subst hj
  refine wpOp_step ho fun K' hK => ?_
  rw [if_pos hw]
  exact h K' fun a' w' h1 h2 => hK a' w' ⟨h1, h2⟩
theorem AnyL.done {k : Nat} {l : Array Bool} {a : Act} {w : World} (hr : Region.ready md ops l = []) (h : Q .normal a w) : AnyL P md ops Q S L k l a w := by
  cases k with
  | zero => exact ⟨hr, h⟩
  | succ k => exact ⟨fun _ => h, fun i hi => by rw [hr] at hi; cases hi⟩
/-- append, at the operation -/
theorem oper_append2 {o : Oper} {a : Act} {w : World} {K : Act → World → Prop} (s x : Operand) (t e : TypeId) (z : Value) (size bytes : Nat)
    (ho : o.op = .call { callee := .builtin .append, args := #[s, x], argTypes := #[t, t] })
    (ht : P.underlying t = some (.slice e)) (hinfo : (P.info? e).map (fun i => (i.zero, i.size, i.bytes)) = some (some z, size, bytes)) (hzs : z.cells.size = size) (h0 : 0 < size)
    (base : Nat) (v : Value) (n : Nat) (xs : List Value) (hs : a.eval s = v) (hown : w.ownsRow base e size v n xs)
    (ad : Addr) (m c : Nat) (news : List Value) (hx : a.eval x = .slice (some ad) m c) (hl : news.length = m * size) (hAt : At w (some ad) news) (h1 : ∀ u ∈ news, u.oneCell' = true)
    (h63 : n + m ≤ 140737488355328) (hbytes : (n + m) * bytes ≤ 140737488355328) (hbase : base ≤ w.heap.size)
    (h : ∀ v' w', w'.ownsRow base e size v' (n + m) (xs ++ news) → (w.grownBy w' v.ownBlock ∧ v'.ownBlock = v.ownBlock) ∨ (w.grownBy w' none ∧ ∃ g, v'.ownBlock = some g ∧ w.heap.size ≤ g) → K (a.put o.dst v') w') :
    Oper.wp P o a w K Q := by
  obtain ⟨i0, hi, hzz⟩ := Option.map_eq_some_iff.1 hinfo
  simp only [Prod.mk.injEq] at hzz
  obtain ⟨hz0, hz1, hz2⟩ := hzz
  have hnews : ∀ j u, news[j]? = some u → w.cell? (ad.add j) = some u := fun j u hu => by
    obtain ⟨b, o, e, hr⟩ := hAt (by intro hn; rw [hn] at hu; simp at hu)
    cases e
    rw [Addr.add_mid]; exact hr j u hu
  obtain ⟨v', w', hr, h2, h3⟩ := run_append2 (P := P) w base t o.type e i0 z size bytes ht hi hz0 hz1 hz2 hzs h0 v n xs hown ad m c news hl hnews h1 (by simp only [maxLen]; omega) hbytes hbase
  unfold Oper.wp execOp
  simp only [ho, resolve, invoke, builtin, Sem.run_bind, Sem.run_pure, Result.andThen_ok, List.map_toArray, List.map_cons, List.map_nil, hs, hx, hr]
  exact h v' w' h2 h3
end
end Go.Proofs.Ytfbjjblgcgjndaa
