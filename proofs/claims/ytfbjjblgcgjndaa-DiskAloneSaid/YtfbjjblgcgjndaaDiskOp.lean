/- Contract of the disk's op. -/
import Derived.Test.YtfbjjblgcgjndaaDisk2
set_option linter.unusedVariables false
set_option linter.unusedSimpArgs false
namespace Go.Proofs.Ytfbjjblgcgjndaa
open Go.RowKit Go.Maps

theorem all13 {P : Nat → Prop} (h0 : P 0) (h1 : P 1) (h2 : P 2) (h3 : P 3) (h4 : P 4) (h5 : P 5) (h6 : P 6) (h7 : P 7) (h8 : P 8) (h9 : P 9) (h10 : P 10) (h11 : P 11) (h12 : P 12) : ∀ i, i < 13 → P i := by
  intro i hi
  match i, hi with
  | 0, _ => exact h0
  | 1, _ => exact h1
  | 2, _ => exact h2
  | 3, _ => exact h3
  | 4, _ => exact h4
  | 5, _ => exact h5
  | 6, _ => exact h6
  | 7, _ => exact h7
  | 8, _ => exact h8
  | 9, _ => exact h9
  | 10, _ => exact h10
  | 11, _ => exact h11
  | 12, _ => exact h12
def OnlyP (p : Nat) (g : Nat) : Prop := g = p
/-- an operation fails at its beginning -/
def OpFails (L C : Value) (m p : Nat) (D : Dsk) (k : Nat) (w : World) (e : Ending) (w' : World) : Prop :=
  e = .returned (.int .u16 ((D.begin k).1 : Nat)) ∧ RecAt w' p 180 13 (dcell L C m (D.begin k).2) ∧ Chg (OnlyP p) w w'
theorem rec_off {L C : Value} {m p : Nat} {D : Dsk} {w : World} (h : RecAt w p 180 13 (dcell L C m D)) : RecAt ((w.setCell ⟨p, 3, none⟩ (.bool true)).setCell ⟨p, 4, none⟩ (.int .i64 (-1))) p 180 13 (dcell L C m D.off) :=
  ((h.set 3 _).set 4 _).congr (all13 rfl rfl rfl rfl rfl rfl rfl rfl rfl rfl rfl rfl rfl)
theorem two_chg (w : World) (p i j : Nat) (x y : Value) : Chg (OnlyP p) w ((w.setCell ⟨p, i, none⟩ x).setCell ⟨p, j, none⟩ y) :=
  ((Chg.refl _ w).setCell ⟨p, i, none⟩ x (.inl (show OnlyP p p from rfl))).setCell ⟨p, j, none⟩ y (.inl (show OnlyP p p from rfl))
theorem one_chg (w : World) (p i : Nat) (x : Value) : Chg (OnlyP p) w (w.setCell ⟨p, i, none⟩ x) := (Chg.refl _ w).setCell ⟨p, i, none⟩ x (.inl (show OnlyP p p from rfl))
theorem rec_trip {L C : Value} {m p : Nat} {D : Dsk} {w : World} (h : RecAt w p 180 13 (dcell L C m D)) (t : Int) : RecAt (w.setCell ⟨p, 4, none⟩ (.int .i64 t)) p 180 13 (dcell L C m { D with trip := t }) :=
  (h.set 4 _).congr (all13 rfl rfl rfl rfl rfl rfl rfl rfl rfl rfl rfl rfl rfl)
theorem rec_fall1 {L C : Value} {m p : Nat} {D : Dsk} {w : World} (h : RecAt w p 180 13 (dcell L C m { D with trip := dec1 D.trip })) : RecAt ((w.setCell ⟨p, 10, none⟩ (.int .i64 (D.n 1 + 1))).setCell ⟨p, 6, none⟩ (.int .i64 (-1))).drew p 180 13 (dcell L C m (D.fall 1)) :=
  show RecAt ((w.setCell ⟨p, 10, none⟩ (.int .i64 (D.n 1 + 1))).setCell ⟨p, 6, none⟩ (.int .i64 (-1))) p 180 13 _ from ((h.set 10 _).set 6 _).congr (all13 rfl rfl rfl rfl rfl rfl rfl rfl rfl rfl rfl rfl rfl)
theorem rec_go1a {L C : Value} {m p : Nat} {D : Dsk} {w : World} (h : RecAt w p 180 13 (dcell L C m { D with trip := dec1 D.trip })) (hf : 0 < D.f 1) : RecAt ((w.setCell ⟨p, 10, none⟩ (.int .i64 (D.n 1 + 1))).setCell ⟨p, 6, none⟩ (.int .i64 (D.f 1 - 1))).drew p 180 13 (dcell L C m (D.go 1)) := by
  unfold Dsk.go
  rw [dec1_pos hf]
  exact show RecAt ((w.setCell ⟨p, 10, none⟩ (.int .i64 (D.n 1 + 1))).setCell ⟨p, 6, none⟩ (.int .i64 (D.f 1 - 1))) p 180 13 _ from ((h.set 10 _).set 6 _).congr (all13 rfl rfl rfl rfl rfl rfl rfl rfl rfl rfl rfl rfl rfl)
theorem rec_go1b {L C : Value} {m p : Nat} {D : Dsk} {w : World} (h : RecAt w p 180 13 (dcell L C m { D with trip := dec1 D.trip })) (hf : ¬ 0 < D.f 1) : RecAt (w.setCell ⟨p, 10, none⟩ (.int .i64 (D.n 1 + 1))).drew p 180 13 (dcell L C m (D.go 1)) := by
  unfold Dsk.go
  rw [dec1_neg hf]
  exact show RecAt (w.setCell ⟨p, 10, none⟩ (.int .i64 (D.n 1 + 1))) p 180 13 _ from (h.set 10 _).congr (all13 rfl rfl rfl rfl rfl rfl rfl rfl rfl rfl rfl rfl rfl)
theorem rec_fall2 {L C : Value} {m p : Nat} {D : Dsk} {w : World} (h : RecAt w p 180 13 (dcell L C m { D with trip := dec1 D.trip })) : RecAt ((w.setCell ⟨p, 11, none⟩ (.int .i64 (D.n 2 + 1))).setCell ⟨p, 7, none⟩ (.int .i64 (-1))).drew p 180 13 (dcell L C m (D.fall 2)) :=
  show RecAt ((w.setCell ⟨p, 11, none⟩ (.int .i64 (D.n 2 + 1))).setCell ⟨p, 7, none⟩ (.int .i64 (-1))) p 180 13 _ from ((h.set 11 _).set 7 _).congr (all13 rfl rfl rfl rfl rfl rfl rfl rfl rfl rfl rfl rfl rfl)
theorem rec_go2a {L C : Value} {m p : Nat} {D : Dsk} {w : World} (h : RecAt w p 180 13 (dcell L C m { D with trip := dec1 D.trip })) (hf : 0 < D.f 2) : RecAt ((w.setCell ⟨p, 11, none⟩ (.int .i64 (D.n 2 + 1))).setCell ⟨p, 7, none⟩ (.int .i64 (D.f 2 - 1))).drew p 180 13 (dcell L C m (D.go 2)) := by
  unfold Dsk.go
  rw [dec1_pos hf]
  exact show RecAt ((w.setCell ⟨p, 11, none⟩ (.int .i64 (D.n 2 + 1))).setCell ⟨p, 7, none⟩ (.int .i64 (D.f 2 - 1))) p 180 13 _ from ((h.set 11 _).set 7 _).congr (all13 rfl rfl rfl rfl rfl rfl rfl rfl rfl rfl rfl rfl rfl)
theorem rec_go2b {L C : Value} {m p : Nat} {D : Dsk} {w : World} (h : RecAt w p 180 13 (dcell L C m { D with trip := dec1 D.trip })) (hf : ¬ 0 < D.f 2) : RecAt (w.setCell ⟨p, 11, none⟩ (.int .i64 (D.n 2 + 1))).drew p 180 13 (dcell L C m (D.go 2)) := by
  unfold Dsk.go
  rw [dec1_neg hf]
  exact show RecAt (w.setCell ⟨p, 11, none⟩ (.int .i64 (D.n 2 + 1))) p 180 13 _ from (h.set 11 _).congr (all13 rfl rfl rfl rfl rfl rfl rfl rfl rfl rfl rfl rfl rfl)
theorem rec_fall3 {L C : Value} {m p : Nat} {D : Dsk} {w : World} (h : RecAt w p 180 13 (dcell L C m { D with trip := dec1 D.trip })) : RecAt ((w.setCell ⟨p, 12, none⟩ (.int .i64 (D.n 3 + 1))).setCell ⟨p, 8, none⟩ (.int .i64 (-1))).drew p 180 13 (dcell L C m (D.fall 3)) :=
  show RecAt ((w.setCell ⟨p, 12, none⟩ (.int .i64 (D.n 3 + 1))).setCell ⟨p, 8, none⟩ (.int .i64 (-1))) p 180 13 _ from ((h.set 12 _).set 8 _).congr (all13 rfl rfl rfl rfl rfl rfl rfl rfl rfl rfl rfl rfl rfl)
theorem rec_go3a {L C : Value} {m p : Nat} {D : Dsk} {w : World} (h : RecAt w p 180 13 (dcell L C m { D with trip := dec1 D.trip })) (hf : 0 < D.f 3) : RecAt ((w.setCell ⟨p, 12, none⟩ (.int .i64 (D.n 3 + 1))).setCell ⟨p, 8, none⟩ (.int .i64 (D.f 3 - 1))).drew p 180 13 (dcell L C m (D.go 3)) := by
  unfold Dsk.go
  rw [dec1_pos hf]
  exact show RecAt ((w.setCell ⟨p, 12, none⟩ (.int .i64 (D.n 3 + 1))).setCell ⟨p, 8, none⟩ (.int .i64 (D.f 3 - 1))) p 180 13 _ from ((h.set 12 _).set 8 _).congr (all13 rfl rfl rfl rfl rfl rfl rfl rfl rfl rfl rfl rfl rfl)
theorem rec_go3b {L C : Value} {m p : Nat} {D : Dsk} {w : World} (h : RecAt w p 180 13 (dcell L C m { D with trip := dec1 D.trip })) (hf : ¬ 0 < D.f 3) : RecAt (w.setCell ⟨p, 12, none⟩ (.int .i64 (D.n 3 + 1))).drew p 180 13 (dcell L C m (D.go 3)) := by
  unfold Dsk.go
  rw [dec1_neg hf]
  exact show RecAt (w.setCell ⟨p, 12, none⟩ (.int .i64 (D.n 3 + 1))) p 180 13 _ from (h.set 12 _).congr (all13 rfl rfl rfl rfl rfl rfl rfl rfl rfl rfl rfl rfl rfl)

set_option maxRecDepth 100000 in
set_option maxHeartbeats 1000000 in
theorem op_fails1 (L C : Value) (m p : Nat) (D : Dsk) (fv : Value) (w : World) (h : RecAt w p 180 13 (dcell L C m D)) (ok : D.Ok) (hn : D.n 1 ≤ 4611686018427387904) (hb : (D.begin 1).1 ≠ 0) :
    Calls Try.prog 119 #[.pointer (some ⟨p, 0, none⟩), .int .i64 1, fv] w (OpFails L C m p D 1 w) := by
  have c3 : w.cell? ⟨p, 3, none⟩ = some (.bool D.dark) := h.cell 3 (by omega)
  have c4 : w.cell? ⟨p, 4, none⟩ = some (.int .i64 D.trip) := h.cell 4 (by omega)
  have cf : w.cell? ⟨p, 6, none⟩ = some (.int .i64 (D.f 1)) := h.cell 6 (by omega)
  have cn : w.cell? ⟨p, 10, none⟩ = some (.int .i64 (D.n 1)) := h.cell 10 (by omega)
  have f3 := h.frozen 3
  have f4 := h.frozen 4
  have ff := h.frozen 6
  have fn := h.frozen 10
  have t1 := ok.trip
  have n1 := ok.n 1
  unfold OpFails
  unfold Dsk.begin at hb ⊢
  by_cases hd : D.dark = true
  · rw [if_pos hd]
    rw [hd] at c3
    have HH := Lib.hid h
    clear h hb hd
    go_enter Try.func119, Try.ntmps119
    go_wp2
    go_ret
    exact ⟨rfl, HH.out, Chg.refl _ _⟩
  · have hd' : D.dark = false := by simpa using hd
    rw [if_neg hd] at hb ⊢
    rw [hd'] at c3
    by_cases ht : D.trip = 0
    · rw [if_pos ht]
      rw [ht] at c4
      have HH := Lib.hid (rec_off h)
      clear h hb hd hd' ht t1
      go_enter Try.func119, Try.ntmps119
      go_wp2_with fail
      go_ret
      exact ⟨rfl, HH.out, two_chg _ _ _ _ _ _⟩
    · rw [if_neg ht] at hb ⊢
      by_cases hf : D.f 1 = 0
      · rw [if_pos hf] at hb ⊢
        rw [hf] at cf
        have ht1 : (D.trip == 0) = false := by simpa using ht
        have HF := Lib.hid hf
        by_cases hp : 0 < D.trip
        · have H2 : RecAt (w.setCell ⟨p, 4, none⟩ (.int .i64 (D.trip - 1))) p 180 13 (dcell L C m { D with trip := dec1 D.trip }) := by rw [dec1_pos hp]; exact rec_trip h _
          have hc2 := one_chg w p 4 (.int .i64 (D.trip - 1))
          have HX := Lib.hid H2
          have HC := Lib.hid hc2
          clear h hb hd hd' ht hf H2 hc2
          go_enter Try.func119, Try.ntmps119
          go_wp2_with fail
          replace HX := HX.out
          replace HC := HC.out
          generalize w.setCell ⟨p, 4, none⟩ (.int .i64 (D.trip - 1)) = w2 at *
          have cf : w2.cell? ⟨p, 6, none⟩ = some (.int .i64 (D.f 1)) := HX.cell 6 (by omega)
          have cn : w2.cell? ⟨p, 10, none⟩ = some (.int .i64 (D.n 1)) := HX.cell 10 (by omega)
          rw [HF.out] at cf
          have ff := HX.frozen 6
          have fn := HX.frozen 10
          go_region
          all_goals
            go_wp2_with fail
            go_ret
            exact ⟨rfl, rec_fall1 HX, (HC.trans (two_chg w2 p 10 6 _ _) (fun _ _ h => h)).drew⟩
        · have H2 : RecAt w p 180 13 (dcell L C m { D with trip := dec1 D.trip }) := by rw [dec1_neg hp]; exact h
          have HX := Lib.hid H2
          have hc2 : Chg (OnlyP p) w w := Chg.refl _ _
          have HC := Lib.hid hc2
          clear h hb hd hd' ht hf H2 hc2
          go_enter Try.func119, Try.ntmps119
          go_wp2_with fail
          replace HX := HX.out
          replace HC := HC.out
          clear c3 c4 cf cn f3 f4 ff fn
          obtain ⟨w2, hw2⟩ : ∃ w2, w2 = w := ⟨_, rfl⟩
          rw [← hw2] at HX
          rw [show Code.wp _ _ _ _ w = Code.wp _ _ _ _ w2 from by rw [hw2]]
          have HC' : Chg (OnlyP p) w w2 := by rw [hw2]; exact HC
          clear HC hw2
          have HC := HC'
          have cf : w2.cell? ⟨p, 6, none⟩ = some (.int .i64 (D.f 1)) := HX.cell 6 (by omega)
          have cn : w2.cell? ⟨p, 10, none⟩ = some (.int .i64 (D.n 1)) := HX.cell 10 (by omega)
          rw [HF.out] at cf
          have ff := HX.frozen 6
          have fn := HX.frozen 10
          go_region
          all_goals
            go_wp2_with fail
            go_ret
            exact ⟨rfl, rec_fall1 HX, (HC.trans (two_chg w2 p 10 6 _ _) (fun _ _ h => h)).drew⟩
      · rw [if_neg hf] at hb
        exact absurd rfl hb

set_option maxRecDepth 100000 in
set_option maxHeartbeats 1000000 in
theorem op_fails2 (L C : Value) (m p : Nat) (D : Dsk) (fv : Value) (w : World) (h : RecAt w p 180 13 (dcell L C m D)) (ok : D.Ok) (hn : D.n 2 ≤ 4611686018427387904) (hb : (D.begin 2).1 ≠ 0) :
    Calls Try.prog 119 #[.pointer (some ⟨p, 0, none⟩), .int .i64 2, fv] w (OpFails L C m p D 2 w) := by
  have c3 : w.cell? ⟨p, 3, none⟩ = some (.bool D.dark) := h.cell 3 (by omega)
  have c4 : w.cell? ⟨p, 4, none⟩ = some (.int .i64 D.trip) := h.cell 4 (by omega)
  have cf : w.cell? ⟨p, 7, none⟩ = some (.int .i64 (D.f 2)) := h.cell 7 (by omega)
  have cn : w.cell? ⟨p, 11, none⟩ = some (.int .i64 (D.n 2)) := h.cell 11 (by omega)
  have f3 := h.frozen 3
  have f4 := h.frozen 4
  have ff := h.frozen 7
  have fn := h.frozen 11
  have t1 := ok.trip
  have n1 := ok.n 2
  unfold OpFails
  unfold Dsk.begin at hb ⊢
  by_cases hd : D.dark = true
  · rw [if_pos hd]
    rw [hd] at c3
    have HH := Lib.hid h
    clear h hb hd
    go_enter Try.func119, Try.ntmps119
    go_wp2
    go_ret
    exact ⟨rfl, HH.out, Chg.refl _ _⟩
  · have hd' : D.dark = false := by simpa using hd
    rw [if_neg hd] at hb ⊢
    rw [hd'] at c3
    by_cases ht : D.trip = 0
    · rw [if_pos ht]
      rw [ht] at c4
      have HH := Lib.hid (rec_off h)
      clear h hb hd hd' ht t1
      go_enter Try.func119, Try.ntmps119
      go_wp2_with fail
      go_ret
      exact ⟨rfl, HH.out, two_chg _ _ _ _ _ _⟩
    · rw [if_neg ht] at hb ⊢
      by_cases hf : D.f 2 = 0
      · rw [if_pos hf] at hb ⊢
        rw [hf] at cf
        have ht1 : (D.trip == 0) = false := by simpa using ht
        have HF := Lib.hid hf
        by_cases hp : 0 < D.trip
        · have H2 : RecAt (w.setCell ⟨p, 4, none⟩ (.int .i64 (D.trip - 1))) p 180 13 (dcell L C m { D with trip := dec1 D.trip }) := by rw [dec1_pos hp]; exact rec_trip h _
          have hc2 := one_chg w p 4 (.int .i64 (D.trip - 1))
          have HX := Lib.hid H2
          have HC := Lib.hid hc2
          clear h hb hd hd' ht hf H2 hc2
          go_enter Try.func119, Try.ntmps119
          go_wp2_with fail
          replace HX := HX.out
          replace HC := HC.out
          generalize w.setCell ⟨p, 4, none⟩ (.int .i64 (D.trip - 1)) = w2 at *
          have cf : w2.cell? ⟨p, 7, none⟩ = some (.int .i64 (D.f 2)) := HX.cell 7 (by omega)
          have cn : w2.cell? ⟨p, 11, none⟩ = some (.int .i64 (D.n 2)) := HX.cell 11 (by omega)
          rw [HF.out] at cf
          have ff := HX.frozen 7
          have fn := HX.frozen 11
          go_region
          all_goals
            go_wp2_with fail
            go_ret
            exact ⟨rfl, rec_fall2 HX, (HC.trans (two_chg w2 p 11 7 _ _) (fun _ _ h => h)).drew⟩
        · have H2 : RecAt w p 180 13 (dcell L C m { D with trip := dec1 D.trip }) := by rw [dec1_neg hp]; exact h
          have HX := Lib.hid H2
          have hc2 : Chg (OnlyP p) w w := Chg.refl _ _
          have HC := Lib.hid hc2
          clear h hb hd hd' ht hf H2 hc2
          go_enter Try.func119, Try.ntmps119
          go_wp2_with fail
          replace HX := HX.out
          replace HC := HC.out
          clear c3 c4 cf cn f3 f4 ff fn
          obtain ⟨w2, hw2⟩ : ∃ w2, w2 = w := ⟨_, rfl⟩
          rw [← hw2] at HX
          rw [show Code.wp _ _ _ _ w = Code.wp _ _ _ _ w2 from by rw [hw2]]
          have HC' : Chg (OnlyP p) w w2 := by rw [hw2]; exact HC
          clear HC hw2
          have HC := HC'
          have cf : w2.cell? ⟨p, 7, none⟩ = some (.int .i64 (D.f 2)) := HX.cell 7 (by omega)
          have cn : w2.cell? ⟨p, 11, none⟩ = some (.int .i64 (D.n 2)) := HX.cell 11 (by omega)
          rw [HF.out] at cf
          have ff := HX.frozen 7
          have fn := HX.frozen 11
          go_region
          all_goals
            go_wp2_with fail
            go_ret
            exact ⟨rfl, rec_fall2 HX, (HC.trans (two_chg w2 p 11 7 _ _) (fun _ _ h => h)).drew⟩
      · rw [if_neg hf] at hb
        exact absurd rfl hb

set_option maxRecDepth 100000 in
set_option maxHeartbeats 1000000 in
theorem op_fails3 (L C : Value) (m p : Nat) (D : Dsk) (fv : Value) (w : World) (h : RecAt w p 180 13 (dcell L C m D)) (ok : D.Ok) (hn : D.n 3 ≤ 4611686018427387904) (hb : (D.begin 3).1 ≠ 0) :
    Calls Try.prog 119 #[.pointer (some ⟨p, 0, none⟩), .int .i64 3, fv] w (OpFails L C m p D 3 w) := by
  have c3 : w.cell? ⟨p, 3, none⟩ = some (.bool D.dark) := h.cell 3 (by omega)
  have c4 : w.cell? ⟨p, 4, none⟩ = some (.int .i64 D.trip) := h.cell 4 (by omega)
  have cf : w.cell? ⟨p, 8, none⟩ = some (.int .i64 (D.f 3)) := h.cell 8 (by omega)
  have cn : w.cell? ⟨p, 12, none⟩ = some (.int .i64 (D.n 3)) := h.cell 12 (by omega)
  have f3 := h.frozen 3
  have f4 := h.frozen 4
  have ff := h.frozen 8
  have fn := h.frozen 12
  have t1 := ok.trip
  have n1 := ok.n 3
  unfold OpFails
  unfold Dsk.begin at hb ⊢
  by_cases hd : D.dark = true
  · rw [if_pos hd]
    rw [hd] at c3
    have HH := Lib.hid h
    clear h hb hd
    go_enter Try.func119, Try.ntmps119
    go_wp2
    go_ret
    exact ⟨rfl, HH.out, Chg.refl _ _⟩
  · have hd' : D.dark = false := by simpa using hd
    rw [if_neg hd] at hb ⊢
    rw [hd'] at c3
    by_cases ht : D.trip = 0
    · rw [if_pos ht]
      rw [ht] at c4
      have HH := Lib.hid (rec_off h)
      clear h hb hd hd' ht t1
      go_enter Try.func119, Try.ntmps119
      go_wp2_with fail
      go_ret
      exact ⟨rfl, HH.out, two_chg _ _ _ _ _ _⟩
    · rw [if_neg ht] at hb ⊢
      by_cases hf : D.f 3 = 0
      · rw [if_pos hf] at hb ⊢
        rw [hf] at cf
        have ht1 : (D.trip == 0) = false := by simpa using ht
        have HF := Lib.hid hf
        by_cases hp : 0 < D.trip
        · have H2 : RecAt (w.setCell ⟨p, 4, none⟩ (.int .i64 (D.trip - 1))) p 180 13 (dcell L C m { D with trip := dec1 D.trip }) := by rw [dec1_pos hp]; exact rec_trip h _
          have hc2 := one_chg w p 4 (.int .i64 (D.trip - 1))
          have HX := Lib.hid H2
          have HC := Lib.hid hc2
          clear h hb hd hd' ht hf H2 hc2
          go_enter Try.func119, Try.ntmps119
          go_wp2_with fail
          replace HX := HX.out
          replace HC := HC.out
          generalize w.setCell ⟨p, 4, none⟩ (.int .i64 (D.trip - 1)) = w2 at *
          have cf : w2.cell? ⟨p, 8, none⟩ = some (.int .i64 (D.f 3)) := HX.cell 8 (by omega)
          have cn : w2.cell? ⟨p, 12, none⟩ = some (.int .i64 (D.n 3)) := HX.cell 12 (by omega)
          rw [HF.out] at cf
          have ff := HX.frozen 8
          have fn := HX.frozen 12
          go_region
          all_goals
            go_wp2_with fail
            go_ret
            exact ⟨rfl, rec_fall3 HX, (HC.trans (two_chg w2 p 12 8 _ _) (fun _ _ h => h)).drew⟩
        · have H2 : RecAt w p 180 13 (dcell L C m { D with trip := dec1 D.trip }) := by rw [dec1_neg hp]; exact h
          have HX := Lib.hid H2
          have hc2 : Chg (OnlyP p) w w := Chg.refl _ _
          have HC := Lib.hid hc2
          clear h hb hd hd' ht hf H2 hc2
          go_enter Try.func119, Try.ntmps119
          go_wp2_with fail
          replace HX := HX.out
          replace HC := HC.out
          clear c3 c4 cf cn f3 f4 ff fn
          obtain ⟨w2, hw2⟩ : ∃ w2, w2 = w := ⟨_, rfl⟩
          rw [← hw2] at HX
          rw [show Code.wp _ _ _ _ w = Code.wp _ _ _ _ w2 from by rw [hw2]]
          have HC' : Chg (OnlyP p) w w2 := by rw [hw2]; exact HC
          clear HC hw2
          have HC := HC'
          have cf : w2.cell? ⟨p, 8, none⟩ = some (.int .i64 (D.f 3)) := HX.cell 8 (by omega)
          have cn : w2.cell? ⟨p, 12, none⟩ = some (.int .i64 (D.n 3)) := HX.cell 12 (by omega)
          rw [HF.out] at cf
          have ff := HX.frozen 8
          have fn := HX.frozen 12
          go_region
          all_goals
            go_wp2_with fail
            go_ret
            exact ⟨rfl, rec_fall3 HX, (HC.trans (two_chg w2 p 12 8 _ _) (fun _ _ h => h)).drew⟩
      · rw [if_neg hf] at hb
        exact absurd rfl hb

set_option maxRecDepth 100000 in
set_option maxHeartbeats 2000000 in
theorem op_go1 (L C : Value) (m p : Nat) (D : Dsk) (fi : FuncId) (caps : Array Value) (R : Nat → World → Prop) (w : World) (h : RecAt w p 180 13 (dcell L C m D)) (ok : D.Ok) (hn : D.n 1 ≤ 4611686018427387904) (hb : (D.begin 1).1 = 0)
    (hcf : ∀ args w, (callFunc fi args).run Try.prog w = .ok (.enter fi args) w)
    (hdo : ∀ w', RecAt w' p 180 13 (dcell L C m (D.go 1)) → Chg (OnlyP p) w w' → Calls Try.prog fi caps w' fun e w'' => ∃ x : Nat, e = .returned (.int .u16 (x : Nat)) ∧ R x w'') :
    Calls Try.prog 119 #[.pointer (some ⟨p, 0, none⟩), .int .i64 1, .func (.func fi) #[] caps] w fun e w'' => ∃ x : Nat, e = .returned (.int .u16 (x : Nat)) ∧ R x w'' := by
  have c3 : w.cell? ⟨p, 3, none⟩ = some (.bool D.dark) := h.cell 3 (by omega)
  have c4 : w.cell? ⟨p, 4, none⟩ = some (.int .i64 D.trip) := h.cell 4 (by omega)
  have cf : w.cell? ⟨p, 6, none⟩ = some (.int .i64 (D.f 1)) := h.cell 6 (by omega)
  have cn : w.cell? ⟨p, 10, none⟩ = some (.int .i64 (D.n 1)) := h.cell 10 (by omega)
  have f3 := h.frozen 3
  have f4 := h.frozen 4
  have ff := h.frozen 6
  have fn' := h.frozen 10
  have t1 := ok.trip
  have n1 := ok.n 1
  have ff1 := ok.f 1
  have HDO := Lib.hid hdo
  clear hdo
  obtain ⟨hd', ht, hf⟩ : D.dark = false ∧ ¬ D.trip = 0 ∧ ¬ D.f 1 = 0 := by
    unfold Dsk.begin at hb
    split at hb
    · simp at hb
    · split at hb
      · simp at hb
      · split at hb
        · simp at hb
        · rename_i a b c; exact ⟨by simpa using a, b, c⟩
  have hd := hd'
  rw [hd'] at c3
  clear hb
  have ht1 : (D.trip == 0) = false := by simpa using ht
  have hf1 : (D.f 1 == 0) = false := by simpa using hf
  by_cases hfp : 0 < D.f 1
  · have HFP := Lib.hid hfp
    by_cases hp : 0 < D.trip
    · have _t := trivial
      have H2 : RecAt (w.setCell ⟨p, 4, none⟩ (.int .i64 (D.trip - 1))) p 180 13 (dcell L C m { D with trip := dec1 D.trip }) := by rw [dec1_pos hp]; exact rec_trip h _
      have hc2 := one_chg w p 4 (.int .i64 (D.trip - 1))
      have HX := Lib.hid H2
      have HC := Lib.hid hc2
      clear h hd hd' ht hf H2 hc2
      go_enter Try.func119, Try.ntmps119
      go_wp2_with fail
      replace HX := HX.out
      replace HC := HC.out
      generalize w.setCell ⟨p, 4, none⟩ (.int .i64 (D.trip - 1)) = w2 at *
      have cf : w2.cell? ⟨p, 6, none⟩ = some (.int .i64 (D.f 1)) := HX.cell 6 (by omega)
      have cn : w2.cell? ⟨p, 10, none⟩ = some (.int .i64 (D.n 1)) := HX.cell 10 (by omega)
      have ff := HX.frozen 6
      have fn' := HX.frozen 10
      go_region
      all_goals
        go_wp2_with fail
        refine (HDO.out _ (rec_go1a HX (by have := HFP.out; omega)) (HC.trans (two_chg w2 p 10 6 _ _) (fun _ _ h => h)).drew).mono ?_
        rintro e w9 ⟨x, rfl, hR⟩
        have HR := Lib.hid hR
        clear hR
        go_wp2
        go_ret
        exact ⟨x, rfl, HR.out⟩
    · have _t := trivial
      have H2 : RecAt w p 180 13 (dcell L C m { D with trip := dec1 D.trip }) := by rw [dec1_neg hp]; exact h
      have HX := Lib.hid H2
      have hc2 : Chg (OnlyP p) w w := Chg.refl _ _
      have HC := Lib.hid hc2
      clear h hd hd' ht hf H2 hc2
      go_enter Try.func119, Try.ntmps119
      go_wp2_with fail
      replace HX := HX.out
      replace HC := HC.out
      clear c3 c4 cf cn f3 f4 ff fn'
      obtain ⟨w2, hw2⟩ : ∃ w2, w2 = w := ⟨_, rfl⟩
      rw [← hw2] at HX
      rw [show Code.wp _ _ _ _ w = Code.wp _ _ _ _ w2 from by rw [hw2]]
      have HC' : Chg (OnlyP p) w w2 := by rw [hw2]; exact HC
      clear HC hw2
      have HC := HC'
      have cf : w2.cell? ⟨p, 6, none⟩ = some (.int .i64 (D.f 1)) := HX.cell 6 (by omega)
      have cn : w2.cell? ⟨p, 10, none⟩ = some (.int .i64 (D.n 1)) := HX.cell 10 (by omega)
      have ff := HX.frozen 6
      have fn' := HX.frozen 10
      go_region
      all_goals
        go_wp2_with fail
        refine (HDO.out _ (rec_go1a HX (by have := HFP.out; omega)) (HC.trans (two_chg w2 p 10 6 _ _) (fun _ _ h => h)).drew).mono ?_
        rintro e w9 ⟨x, rfl, hR⟩
        have HR := Lib.hid hR
        clear hR
        go_wp2
        go_ret
        exact ⟨x, rfl, HR.out⟩
  · have HFP := Lib.hid hfp
    by_cases hp : 0 < D.trip
    · have _t := trivial
      have H2 : RecAt (w.setCell ⟨p, 4, none⟩ (.int .i64 (D.trip - 1))) p 180 13 (dcell L C m { D with trip := dec1 D.trip }) := by rw [dec1_pos hp]; exact rec_trip h _
      have hc2 := one_chg w p 4 (.int .i64 (D.trip - 1))
      have HX := Lib.hid H2
      have HC := Lib.hid hc2
      clear h hd hd' ht hf H2 hc2
      go_enter Try.func119, Try.ntmps119
      go_wp2_with fail
      replace HX := HX.out
      replace HC := HC.out
      generalize w.setCell ⟨p, 4, none⟩ (.int .i64 (D.trip - 1)) = w2 at *
      have cf : w2.cell? ⟨p, 6, none⟩ = some (.int .i64 (D.f 1)) := HX.cell 6 (by omega)
      have cn : w2.cell? ⟨p, 10, none⟩ = some (.int .i64 (D.n 1)) := HX.cell 10 (by omega)
      have ff := HX.frozen 6
      have fn' := HX.frozen 10
      go_region
      all_goals
        go_wp2_with fail
        refine (HDO.out _ (rec_go1b HX (by have := HFP.out; omega)) (HC.trans (one_chg w2 p 10 _) (fun _ _ h => h)).drew).mono ?_
        rintro e w9 ⟨x, rfl, hR⟩
        have HR := Lib.hid hR
        clear hR
        go_wp2
        go_ret
        exact ⟨x, rfl, HR.out⟩
    · have _t := trivial
      have H2 : RecAt w p 180 13 (dcell L C m { D with trip := dec1 D.trip }) := by rw [dec1_neg hp]; exact h
      have HX := Lib.hid H2
      have hc2 : Chg (OnlyP p) w w := Chg.refl _ _
      have HC := Lib.hid hc2
      clear h hd hd' ht hf H2 hc2
      go_enter Try.func119, Try.ntmps119
      go_wp2_with fail
      replace HX := HX.out
      replace HC := HC.out
      clear c3 c4 cf cn f3 f4 ff fn'
      obtain ⟨w2, hw2⟩ : ∃ w2, w2 = w := ⟨_, rfl⟩
      rw [← hw2] at HX
      rw [show Code.wp _ _ _ _ w = Code.wp _ _ _ _ w2 from by rw [hw2]]
      have HC' : Chg (OnlyP p) w w2 := by rw [hw2]; exact HC
      clear HC hw2
      have HC := HC'
      have cf : w2.cell? ⟨p, 6, none⟩ = some (.int .i64 (D.f 1)) := HX.cell 6 (by omega)
      have cn : w2.cell? ⟨p, 10, none⟩ = some (.int .i64 (D.n 1)) := HX.cell 10 (by omega)
      have ff := HX.frozen 6
      have fn' := HX.frozen 10
      go_region
      all_goals
        go_wp2_with fail
        refine (HDO.out _ (rec_go1b HX (by have := HFP.out; omega)) (HC.trans (one_chg w2 p 10 _) (fun _ _ h => h)).drew).mono ?_
        rintro e w9 ⟨x, rfl, hR⟩
        have HR := Lib.hid hR
        clear hR
        go_wp2
        go_ret
        exact ⟨x, rfl, HR.out⟩

set_option maxRecDepth 100000 in
set_option maxHeartbeats 2000000 in
theorem op_go2 (L C : Value) (m p : Nat) (D : Dsk) (fi : FuncId) (caps : Array Value) (R : Nat → World → Prop) (w : World) (h : RecAt w p 180 13 (dcell L C m D)) (ok : D.Ok) (hn : D.n 2 ≤ 4611686018427387904) (hb : (D.begin 2).1 = 0)
    (hcf : ∀ args w, (callFunc fi args).run Try.prog w = .ok (.enter fi args) w)
    (hdo : ∀ w', RecAt w' p 180 13 (dcell L C m (D.go 2)) → Chg (OnlyP p) w w' → Calls Try.prog fi caps w' fun e w'' => ∃ x : Nat, e = .returned (.int .u16 (x : Nat)) ∧ R x w'') :
    Calls Try.prog 119 #[.pointer (some ⟨p, 0, none⟩), .int .i64 2, .func (.func fi) #[] caps] w fun e w'' => ∃ x : Nat, e = .returned (.int .u16 (x : Nat)) ∧ R x w'' := by
  have c3 : w.cell? ⟨p, 3, none⟩ = some (.bool D.dark) := h.cell 3 (by omega)
  have c4 : w.cell? ⟨p, 4, none⟩ = some (.int .i64 D.trip) := h.cell 4 (by omega)
  have cf : w.cell? ⟨p, 7, none⟩ = some (.int .i64 (D.f 2)) := h.cell 7 (by omega)
  have cn : w.cell? ⟨p, 11, none⟩ = some (.int .i64 (D.n 2)) := h.cell 11 (by omega)
  have f3 := h.frozen 3
  have f4 := h.frozen 4
  have ff := h.frozen 7
  have fn' := h.frozen 11
  have t1 := ok.trip
  have n1 := ok.n 2
  have ff1 := ok.f 2
  have HDO := Lib.hid hdo
  clear hdo
  obtain ⟨hd', ht, hf⟩ : D.dark = false ∧ ¬ D.trip = 0 ∧ ¬ D.f 2 = 0 := by
    unfold Dsk.begin at hb
    split at hb
    · simp at hb
    · split at hb
      · simp at hb
      · split at hb
        · simp at hb
        · rename_i a b c; exact ⟨by simpa using a, b, c⟩
  have hd := hd'
  rw [hd'] at c3
  clear hb
  have ht1 : (D.trip == 0) = false := by simpa using ht
  have hf1 : (D.f 2 == 0) = false := by simpa using hf
  by_cases hfp : 0 < D.f 2
  · have HFP := Lib.hid hfp
    by_cases hp : 0 < D.trip
    · have _t := trivial
      have H2 : RecAt (w.setCell ⟨p, 4, none⟩ (.int .i64 (D.trip - 1))) p 180 13 (dcell L C m { D with trip := dec1 D.trip }) := by rw [dec1_pos hp]; exact rec_trip h _
      have hc2 := one_chg w p 4 (.int .i64 (D.trip - 1))
      have HX := Lib.hid H2
      have HC := Lib.hid hc2
      clear h hd hd' ht hf H2 hc2
      go_enter Try.func119, Try.ntmps119
      go_wp2_with fail
      replace HX := HX.out
      replace HC := HC.out
      generalize w.setCell ⟨p, 4, none⟩ (.int .i64 (D.trip - 1)) = w2 at *
      have cf : w2.cell? ⟨p, 7, none⟩ = some (.int .i64 (D.f 2)) := HX.cell 7 (by omega)
      have cn : w2.cell? ⟨p, 11, none⟩ = some (.int .i64 (D.n 2)) := HX.cell 11 (by omega)
      have ff := HX.frozen 7
      have fn' := HX.frozen 11
      go_region
      all_goals
        go_wp2_with fail
        refine (HDO.out _ (rec_go2a HX (by have := HFP.out; omega)) (HC.trans (two_chg w2 p 11 7 _ _) (fun _ _ h => h)).drew).mono ?_
        rintro e w9 ⟨x, rfl, hR⟩
        have HR := Lib.hid hR
        clear hR
        go_wp2
        go_ret
        exact ⟨x, rfl, HR.out⟩
    · have _t := trivial
      have H2 : RecAt w p 180 13 (dcell L C m { D with trip := dec1 D.trip }) := by rw [dec1_neg hp]; exact h
      have HX := Lib.hid H2
      have hc2 : Chg (OnlyP p) w w := Chg.refl _ _
      have HC := Lib.hid hc2
      clear h hd hd' ht hf H2 hc2
      go_enter Try.func119, Try.ntmps119
      go_wp2_with fail
      replace HX := HX.out
      replace HC := HC.out
      clear c3 c4 cf cn f3 f4 ff fn'
      obtain ⟨w2, hw2⟩ : ∃ w2, w2 = w := ⟨_, rfl⟩
      rw [← hw2] at HX
      rw [show Code.wp _ _ _ _ w = Code.wp _ _ _ _ w2 from by rw [hw2]]
      have HC' : Chg (OnlyP p) w w2 := by rw [hw2]; exact HC
      clear HC hw2
      have HC := HC'
      have cf : w2.cell? ⟨p, 7, none⟩ = some (.int .i64 (D.f 2)) := HX.cell 7 (by omega)
      have cn : w2.cell? ⟨p, 11, none⟩ = some (.int .i64 (D.n 2)) := HX.cell 11 (by omega)
      have ff := HX.frozen 7
      have fn' := HX.frozen 11
      go_region
      all_goals
        go_wp2_with fail
        refine (HDO.out _ (rec_go2a HX (by have := HFP.out; omega)) (HC.trans (two_chg w2 p 11 7 _ _) (fun _ _ h => h)).drew).mono ?_
        rintro e w9 ⟨x, rfl, hR⟩
        have HR := Lib.hid hR
        clear hR
        go_wp2
        go_ret
        exact ⟨x, rfl, HR.out⟩
  · have HFP := Lib.hid hfp
    by_cases hp : 0 < D.trip
    · have _t := trivial
      have H2 : RecAt (w.setCell ⟨p, 4, none⟩ (.int .i64 (D.trip - 1))) p 180 13 (dcell L C m { D with trip := dec1 D.trip }) := by rw [dec1_pos hp]; exact rec_trip h _
      have hc2 := one_chg w p 4 (.int .i64 (D.trip - 1))
      have HX := Lib.hid H2
      have HC := Lib.hid hc2
      clear h hd hd' ht hf H2 hc2
      go_enter Try.func119, Try.ntmps119
      go_wp2_with fail
      replace HX := HX.out
      replace HC := HC.out
      generalize w.setCell ⟨p, 4, none⟩ (.int .i64 (D.trip - 1)) = w2 at *
      have cf : w2.cell? ⟨p, 7, none⟩ = some (.int .i64 (D.f 2)) := HX.cell 7 (by omega)
      have cn : w2.cell? ⟨p, 11, none⟩ = some (.int .i64 (D.n 2)) := HX.cell 11 (by omega)
      have ff := HX.frozen 7
      have fn' := HX.frozen 11
      go_region
      all_goals
        go_wp2_with fail
        refine (HDO.out _ (rec_go2b HX (by have := HFP.out; omega)) (HC.trans (one_chg w2 p 11 _) (fun _ _ h => h)).drew).mono ?_
        rintro e w9 ⟨x, rfl, hR⟩
        have HR := Lib.hid hR
        clear hR
        go_wp2
        go_ret
        exact ⟨x, rfl, HR.out⟩
    · have _t := trivial
      have H2 : RecAt w p 180 13 (dcell L C m { D with trip := dec1 D.trip }) := by rw [dec1_neg hp]; exact h
      have HX := Lib.hid H2
      have hc2 : Chg (OnlyP p) w w := Chg.refl _ _
      have HC := Lib.hid hc2
      clear h hd hd' ht hf H2 hc2
      go_enter Try.func119, Try.ntmps119
      go_wp2_with fail
      replace HX := HX.out
      replace HC := HC.out
      clear c3 c4 cf cn f3 f4 ff fn'
      obtain ⟨w2, hw2⟩ : ∃ w2, w2 = w := ⟨_, rfl⟩
      rw [← hw2] at HX
      rw [show Code.wp _ _ _ _ w = Code.wp _ _ _ _ w2 from by rw [hw2]]
      have HC' : Chg (OnlyP p) w w2 := by rw [hw2]; exact HC
      clear HC hw2
      have HC := HC'
      have cf : w2.cell? ⟨p, 7, none⟩ = some (.int .i64 (D.f 2)) := HX.cell 7 (by omega)
      have cn : w2.cell? ⟨p, 11, none⟩ = some (.int .i64 (D.n 2)) := HX.cell 11 (by omega)
      have ff := HX.frozen 7
      have fn' := HX.frozen 11
      go_region
      all_goals
        go_wp2_with fail
        refine (HDO.out _ (rec_go2b HX (by have := HFP.out; omega)) (HC.trans (one_chg w2 p 11 _) (fun _ _ h => h)).drew).mono ?_
        rintro e w9 ⟨x, rfl, hR⟩
        have HR := Lib.hid hR
        clear hR
        go_wp2
        go_ret
        exact ⟨x, rfl, HR.out⟩

set_option maxRecDepth 100000 in
set_option maxHeartbeats 2000000 in
theorem op_go3 (L C : Value) (m p : Nat) (D : Dsk) (fi : FuncId) (caps : Array Value) (R : Nat → World → Prop) (w : World) (h : RecAt w p 180 13 (dcell L C m D)) (ok : D.Ok) (hn : D.n 3 ≤ 4611686018427387904) (hb : (D.begin 3).1 = 0)
    (hcf : ∀ args w, (callFunc fi args).run Try.prog w = .ok (.enter fi args) w)
    (hdo : ∀ w', RecAt w' p 180 13 (dcell L C m (D.go 3)) → Chg (OnlyP p) w w' → Calls Try.prog fi caps w' fun e w'' => ∃ x : Nat, e = .returned (.int .u16 (x : Nat)) ∧ R x w'') :
    Calls Try.prog 119 #[.pointer (some ⟨p, 0, none⟩), .int .i64 3, .func (.func fi) #[] caps] w fun e w'' => ∃ x : Nat, e = .returned (.int .u16 (x : Nat)) ∧ R x w'' := by
  have c3 : w.cell? ⟨p, 3, none⟩ = some (.bool D.dark) := h.cell 3 (by omega)
  have c4 : w.cell? ⟨p, 4, none⟩ = some (.int .i64 D.trip) := h.cell 4 (by omega)
  have cf : w.cell? ⟨p, 8, none⟩ = some (.int .i64 (D.f 3)) := h.cell 8 (by omega)
  have cn : w.cell? ⟨p, 12, none⟩ = some (.int .i64 (D.n 3)) := h.cell 12 (by omega)
  have f3 := h.frozen 3
  have f4 := h.frozen 4
  have ff := h.frozen 8
  have fn' := h.frozen 12
  have t1 := ok.trip
  have n1 := ok.n 3
  have ff1 := ok.f 3
  have HDO := Lib.hid hdo
  clear hdo
  obtain ⟨hd', ht, hf⟩ : D.dark = false ∧ ¬ D.trip = 0 ∧ ¬ D.f 3 = 0 := by
    unfold Dsk.begin at hb
    split at hb
    · simp at hb
    · split at hb
      · simp at hb
      · split at hb
        · simp at hb
        · rename_i a b c; exact ⟨by simpa using a, b, c⟩
  have hd := hd'
  rw [hd'] at c3
  clear hb
  have ht1 : (D.trip == 0) = false := by simpa using ht
  have hf1 : (D.f 3 == 0) = false := by simpa using hf
  by_cases hfp : 0 < D.f 3
  · have HFP := Lib.hid hfp
    by_cases hp : 0 < D.trip
    · have _t := trivial
      have H2 : RecAt (w.setCell ⟨p, 4, none⟩ (.int .i64 (D.trip - 1))) p 180 13 (dcell L C m { D with trip := dec1 D.trip }) := by rw [dec1_pos hp]; exact rec_trip h _
      have hc2 := one_chg w p 4 (.int .i64 (D.trip - 1))
      have HX := Lib.hid H2
      have HC := Lib.hid hc2
      clear h hd hd' ht hf H2 hc2
      go_enter Try.func119, Try.ntmps119
      go_wp2_with fail
      replace HX := HX.out
      replace HC := HC.out
      generalize w.setCell ⟨p, 4, none⟩ (.int .i64 (D.trip - 1)) = w2 at *
      have cf : w2.cell? ⟨p, 8, none⟩ = some (.int .i64 (D.f 3)) := HX.cell 8 (by omega)
      have cn : w2.cell? ⟨p, 12, none⟩ = some (.int .i64 (D.n 3)) := HX.cell 12 (by omega)
      have ff := HX.frozen 8
      have fn' := HX.frozen 12
      go_region
      all_goals
        go_wp2_with fail
        refine (HDO.out _ (rec_go3a HX (by have := HFP.out; omega)) (HC.trans (two_chg w2 p 12 8 _ _) (fun _ _ h => h)).drew).mono ?_
        rintro e w9 ⟨x, rfl, hR⟩
        have HR := Lib.hid hR
        clear hR
        go_wp2
        go_ret
        exact ⟨x, rfl, HR.out⟩
    · have _t := trivial
      have H2 : RecAt w p 180 13 (dcell L C m { D with trip := dec1 D.trip }) := by rw [dec1_neg hp]; exact h
      have HX := Lib.hid H2
      have hc2 : Chg (OnlyP p) w w := Chg.refl _ _
      have HC := Lib.hid hc2
      clear h hd hd' ht hf H2 hc2
      go_enter Try.func119, Try.ntmps119
      go_wp2_with fail
      replace HX := HX.out
      replace HC := HC.out
      clear c3 c4 cf cn f3 f4 ff fn'
      obtain ⟨w2, hw2⟩ : ∃ w2, w2 = w := ⟨_, rfl⟩
      rw [← hw2] at HX
      rw [show Code.wp _ _ _ _ w = Code.wp _ _ _ _ w2 from by rw [hw2]]
      have HC' : Chg (OnlyP p) w w2 := by rw [hw2]; exact HC
      clear HC hw2
      have HC := HC'
      have cf : w2.cell? ⟨p, 8, none⟩ = some (.int .i64 (D.f 3)) := HX.cell 8 (by omega)
      have cn : w2.cell? ⟨p, 12, none⟩ = some (.int .i64 (D.n 3)) := HX.cell 12 (by omega)
      have ff := HX.frozen 8
      have fn' := HX.frozen 12
      go_region
      all_goals
        go_wp2_with fail
        refine (HDO.out _ (rec_go3a HX (by have := HFP.out; omega)) (HC.trans (two_chg w2 p 12 8 _ _) (fun _ _ h => h)).drew).mono ?_
        rintro e w9 ⟨x, rfl, hR⟩
        have HR := Lib.hid hR
        clear hR
        go_wp2
        go_ret
        exact ⟨x, rfl, HR.out⟩
  · have HFP := Lib.hid hfp
    by_cases hp : 0 < D.trip
    · have _t := trivial
      have H2 : RecAt (w.setCell ⟨p, 4, none⟩ (.int .i64 (D.trip - 1))) p 180 13 (dcell L C m { D with trip := dec1 D.trip }) := by rw [dec1_pos hp]; exact rec_trip h _
      have hc2 := one_chg w p 4 (.int .i64 (D.trip - 1))
      have HX := Lib.hid H2
      have HC := Lib.hid hc2
      clear h hd hd' ht hf H2 hc2
      go_enter Try.func119, Try.ntmps119
      go_wp2_with fail
      replace HX := HX.out
      replace HC := HC.out
      generalize w.setCell ⟨p, 4, none⟩ (.int .i64 (D.trip - 1)) = w2 at *
      have cf : w2.cell? ⟨p, 8, none⟩ = some (.int .i64 (D.f 3)) := HX.cell 8 (by omega)
      have cn : w2.cell? ⟨p, 12, none⟩ = some (.int .i64 (D.n 3)) := HX.cell 12 (by omega)
      have ff := HX.frozen 8
      have fn' := HX.frozen 12
      go_region
      all_goals
        go_wp2_with fail
        refine (HDO.out _ (rec_go3b HX (by have := HFP.out; omega)) (HC.trans (one_chg w2 p 12 _) (fun _ _ h => h)).drew).mono ?_
        rintro e w9 ⟨x, rfl, hR⟩
        have HR := Lib.hid hR
        clear hR
        go_wp2
        go_ret
        exact ⟨x, rfl, HR.out⟩
    · have _t := trivial
      have H2 : RecAt w p 180 13 (dcell L C m { D with trip := dec1 D.trip }) := by rw [dec1_neg hp]; exact h
      have HX := Lib.hid H2
      have hc2 : Chg (OnlyP p) w w := Chg.refl _ _
      have HC := Lib.hid hc2
      clear h hd hd' ht hf H2 hc2
      go_enter Try.func119, Try.ntmps119
      go_wp2_with fail
      replace HX := HX.out
      replace HC := HC.out
      clear c3 c4 cf cn f3 f4 ff fn'
      obtain ⟨w2, hw2⟩ : ∃ w2, w2 = w := ⟨_, rfl⟩
      rw [← hw2] at HX
      rw [show Code.wp _ _ _ _ w = Code.wp _ _ _ _ w2 from by rw [hw2]]
      have HC' : Chg (OnlyP p) w w2 := by rw [hw2]; exact HC
      clear HC hw2
      have HC := HC'
      have cf : w2.cell? ⟨p, 8, none⟩ = some (.int .i64 (D.f 3)) := HX.cell 8 (by omega)
      have cn : w2.cell? ⟨p, 12, none⟩ = some (.int .i64 (D.n 3)) := HX.cell 12 (by omega)
      have ff := HX.frozen 8
      have fn' := HX.frozen 12
      go_region
      all_goals
        go_wp2_with fail
        refine (HDO.out _ (rec_go3b HX (by have := HFP.out; omega)) (HC.trans (one_chg w2 p 12 _) (fun _ _ h => h)).drew).mono ?_
        rintro e w9 ⟨x, rfl, hR⟩
        have HR := Lib.hid hR
        clear hR
        go_wp2
        go_ret
        exact ⟨x, rfl, HR.out⟩
end Go.Proofs.Ytfbjjblgcgjndaa
