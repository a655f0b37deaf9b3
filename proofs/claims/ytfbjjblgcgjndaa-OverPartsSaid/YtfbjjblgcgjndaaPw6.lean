/- Joined texts: RDisk3, RDisk4, RDisk5, RDisk6, RDisk7, Grid, RDisk9. -/
import Derived.Test.YtfbjjblgcgjndaaPw5
set_option linter.unusedVariables false
set_option linter.unusedSimpArgs false

/- Contract of the reference disk's begins. -/
namespace Go.Proofs.Ytfbjjblgcgjndaa
open Go.RowKit

set_option maxRecDepth 100000 in
set_option maxHeartbeats 8000000 in
theorem rbegin1 {n0 : Nat} {w : World} {p : Nat} {D : Dsk} {S : Nat → Prop} (h : RD n0 w p D S) (hn : D.n 1 ≤ 4611686018427387904) : Calls Try.prog 168 #[.pointer (some ⟨p, 0, none⟩), .int .i64 1] w (RGives n0 w p S (D.begin 1).1 (D.begin 1).2) := by
  have HH := Lib.hid h
  have OKB := Lib.hid (D.begin_ok h.1 1)
  obtain ⟨ok, ⟨q, Y, hin, hS⟩, _⟩ := h
  have c2 : w.cell? ⟨p, 2, none⟩ = some (.bool D.dark) := hin.rcd.cell 2 (by omega)
  have c3 : w.cell? ⟨p, 3, none⟩ = some (.int .i64 D.trip) := hin.rcd.cell 3 (by omega)
  have c4 : w.cell? ⟨p, 4, none⟩ = some q.V := hin.rcd.cell 4 (by omega)
  have cn : w.cell? ⟨p, 5, none⟩ = some (.int .i64 (D.n 1)) := hin.rcd.cell 5 (by omega)
  have e2 := hin.rcd.frozen 2
  have e3 := hin.rcd.frozen 3
  have en := hin.rcd.frozen 5
  obtain ⟨g, cap, hV, hgp, hfc, hff⟩ := hin.fcell
  rw [hV] at c4
  have g1 : w.cell? ⟨g, 1, none⟩ = some (.int .i64 (D.f 1)) := hfc 1 (by omega)
  have f1 := hff 1
  have hgp' : p ≠ g := Ne.symm hgp
  obtain ⟨t1, t2⟩ := ok.trip
  obtain ⟨u1, u2⟩ := ok.f 1
  have n1 := ok.n 1
  have HIN := Lib.hid hin
  have HS := Lib.hid hS
  have HV := Lib.hid hV
  unfold RGives
  unfold Dsk.begin at OKB ⊢
  clear hin hS hV hfc hff ok
  by_cases h1 : D.dark = true
  · rw [if_pos h1]
    rw [h1] at c2
    clear h1
    go_enter Try.func168, Try.ntmps168
    go_wp2
    go_ret
    exact ⟨rfl, HH.out, Chg.refl _ _⟩
  · rw [if_neg h1] at OKB ⊢
    rw [show D.dark = false by simpa using h1] at c2
    clear h1
    by_cases h2 : D.trip = 0
    · rw [if_pos h2] at OKB ⊢
      rw [h2] at c3
      clear h2
      go_enter Try.func168, Try.ntmps168
      go_wp2
      go_ret
      exact ⟨rfl, RDiskIn.done (D' := D.off) HH.out HS.out OKB.out ((HIN.out.inDark true).inTrip (-1)) ((chg_pv w 2 _).trans (chg_pv _ 3 _) (fun _ _ h => h))⟩
    · rw [if_neg h2] at OKB ⊢
      have i2 : ¬ D.trip = 0 := h2
      clear h2
      by_cases h3 : D.f 1 = 0
      · rw [if_pos h3] at OKB ⊢
        rw [h3] at g1
        clear h3
        rcases (show 0 < D.trip ∨ D.trip < 0 by omega) with h4 | h4
        · have hD : D.fall 1 = { D with trip := D.trip - 1, n := turn D.n 1 (D.n 1 + 1), f := turn D.f 1 (-1) } := by unfold Dsk.fall; rw [dec1_pos h4]
          have HD := Lib.hid hD
          clear hD
          go_enter Try.func168, Try.ntmps168
          go_wp2
          go_ret
          refine ⟨rfl, RDiskIn.done HH.out HS.out OKB.out (q := q) (Y := Y) ?_ ?_⟩
          · rw [HD.out]; exact (((HIN.out.inTrip _).inN1 _).inF HV.out 1 (by omega) _).1
          · exact ((chg_pv w 3 _).trans (chg_pv _ 5 _) (fun _ _ h => h)).trans (((HIN.out.inTrip _).inN1 _).inF HV.out 1 (by omega) _).2 (fun _ _ h => h)
        · have hD : D.fall 1 = { D with n := turn D.n 1 (D.n 1 + 1), f := turn D.f 1 (-1) } := by unfold Dsk.fall; rw [dec1_neg (by omega)]
          have HD := Lib.hid hD
          clear hD
          go_enter Try.func168, Try.ntmps168
          go_wp2
          go_ret
          refine ⟨rfl, RDiskIn.done HH.out HS.out OKB.out (q := q) (Y := Y) ?_ ?_⟩
          · rw [HD.out]; exact ((HIN.out.inN1 _).inF HV.out 1 (by omega) _).1
          · exact (chg_pv w 5 _).trans ((HIN.out.inN1 _).inF HV.out 1 (by omega) _).2 (fun _ _ h => h)
      · rw [if_neg h3] at OKB ⊢
        have i3 : ¬ D.f 1 = 0 := h3
        clear h3
        rcases (show 0 < D.trip ∨ D.trip < 0 by omega) with h4 | h4
        all_goals rcases (show 0 < D.f 1 ∨ D.f 1 < 0 by omega) with h5 | h5
        · have hD : D.go 1 = { D with trip := D.trip - 1, n := turn D.n 1 (D.n 1 + 1), f := turn D.f 1 (D.f 1 - 1) } := by unfold Dsk.go; rw [dec1_pos h4, dec1_pos h5]
          have HD := Lib.hid hD
          clear hD
          go_enter Try.func168, Try.ntmps168
          go_wp2
          go_ret
          refine ⟨rfl, RDiskIn.done HH.out HS.out OKB.out (q := q) (Y := Y) ?_ ?_⟩
          · rw [HD.out]; exact (((HIN.out.inTrip _).inN1 _).inF HV.out 1 (by omega) _).1
          · exact ((chg_pv w 3 _).trans (chg_pv _ 5 _) (fun _ _ h => h)).trans (((HIN.out.inTrip _).inN1 _).inF HV.out 1 (by omega) _).2 (fun _ _ h => h)
        · have hD : D.go 1 = { D with trip := D.trip - 1, n := turn D.n 1 (D.n 1 + 1) } := by unfold Dsk.go; rw [dec1_pos h4, dec1_neg (show ¬ 0 < D.f 1 by omega), turn_self]
          have HD := Lib.hid hD
          clear hD
          go_enter Try.func168, Try.ntmps168
          go_wp2
          go_ret
          refine ⟨rfl, RDiskIn.done HH.out HS.out OKB.out (q := q) (Y := Y) ?_ ?_⟩
          · rw [HD.out]; exact (HIN.out.inTrip _).inN1 _
          · exact (chg_pv w 3 _).trans (chg_pv _ 5 _) (fun _ _ h => h)
        · have hD : D.go 1 = { D with n := turn D.n 1 (D.n 1 + 1), f := turn D.f 1 (D.f 1 - 1) } := by unfold Dsk.go; rw [dec1_neg (show ¬ 0 < D.trip by omega), dec1_pos h5]
          have HD := Lib.hid hD
          clear hD
          go_enter Try.func168, Try.ntmps168
          go_wp2
          go_ret
          refine ⟨rfl, RDiskIn.done HH.out HS.out OKB.out (q := q) (Y := Y) ?_ ?_⟩
          · rw [HD.out]; exact ((HIN.out.inN1 _).inF HV.out 1 (by omega) _).1
          · exact (chg_pv w 5 _).trans ((HIN.out.inN1 _).inF HV.out 1 (by omega) _).2 (fun _ _ h => h)
        · have hD : D.go 1 = { D with n := turn D.n 1 (D.n 1 + 1) } := by unfold Dsk.go; rw [dec1_neg (show ¬ 0 < D.trip by omega), dec1_neg (show ¬ 0 < D.f 1 by omega), turn_self]
          have HD := Lib.hid hD
          clear hD
          go_enter Try.func168, Try.ntmps168
          go_wp2
          go_ret
          refine ⟨rfl, RDiskIn.done HH.out HS.out OKB.out (q := q) (Y := Y) ?_ ?_⟩
          · rw [HD.out]; exact HIN.out.inN1 _
          · exact chg_pv w 5 _
set_option maxRecDepth 100000 in
set_option maxHeartbeats 8000000 in
theorem rbegin2 {n0 : Nat} {w : World} {p : Nat} {D : Dsk} {S : Nat → Prop} (h : RD n0 w p D S) (hn : D.n 2 ≤ 4611686018427387904) : Calls Try.prog 168 #[.pointer (some ⟨p, 0, none⟩), .int .i64 2] w (RGives n0 w p S (D.begin 2).1 (D.begin 2).2) := by
  have HH := Lib.hid h
  have OKB := Lib.hid (D.begin_ok h.1 2)
  obtain ⟨ok, ⟨q, Y, hin, hS⟩, _⟩ := h
  have c2 : w.cell? ⟨p, 2, none⟩ = some (.bool D.dark) := hin.rcd.cell 2 (by omega)
  have c3 : w.cell? ⟨p, 3, none⟩ = some (.int .i64 D.trip) := hin.rcd.cell 3 (by omega)
  have c4 : w.cell? ⟨p, 4, none⟩ = some q.V := hin.rcd.cell 4 (by omega)
  have cn : w.cell? ⟨p, 6, none⟩ = some (.int .i64 (D.n 2)) := hin.rcd.cell 6 (by omega)
  have e2 := hin.rcd.frozen 2
  have e3 := hin.rcd.frozen 3
  have en := hin.rcd.frozen 6
  obtain ⟨g, cap, hV, hgp, hfc, hff⟩ := hin.fcell
  rw [hV] at c4
  have g1 : w.cell? ⟨g, 2, none⟩ = some (.int .i64 (D.f 2)) := hfc 2 (by omega)
  have f1 := hff 2
  have hgp' : p ≠ g := Ne.symm hgp
  obtain ⟨t1, t2⟩ := ok.trip
  obtain ⟨u1, u2⟩ := ok.f 2
  have n1 := ok.n 2
  have HIN := Lib.hid hin
  have HS := Lib.hid hS
  have HV := Lib.hid hV
  unfold RGives
  unfold Dsk.begin at OKB ⊢
  clear hin hS hV hfc hff ok
  by_cases h1 : D.dark = true
  · rw [if_pos h1]
    rw [h1] at c2
    clear h1
    go_enter Try.func168, Try.ntmps168
    go_wp2
    go_ret
    exact ⟨rfl, HH.out, Chg.refl _ _⟩
  · rw [if_neg h1] at OKB ⊢
    rw [show D.dark = false by simpa using h1] at c2
    clear h1
    by_cases h2 : D.trip = 0
    · rw [if_pos h2] at OKB ⊢
      rw [h2] at c3
      clear h2
      go_enter Try.func168, Try.ntmps168
      go_wp2
      go_ret
      exact ⟨rfl, RDiskIn.done (D' := D.off) HH.out HS.out OKB.out ((HIN.out.inDark true).inTrip (-1)) ((chg_pv w 2 _).trans (chg_pv _ 3 _) (fun _ _ h => h))⟩
    · rw [if_neg h2] at OKB ⊢
      have i2 : ¬ D.trip = 0 := h2
      clear h2
      by_cases h3 : D.f 2 = 0
      · rw [if_pos h3] at OKB ⊢
        rw [h3] at g1
        clear h3
        rcases (show 0 < D.trip ∨ D.trip < 0 by omega) with h4 | h4
        · have hD : D.fall 2 = { D with trip := D.trip - 1, n := turn D.n 2 (D.n 2 + 1), f := turn D.f 2 (-1) } := by unfold Dsk.fall; rw [dec1_pos h4]
          have HD := Lib.hid hD
          clear hD
          go_enter Try.func168, Try.ntmps168
          go_wp2
          go_ret
          refine ⟨rfl, RDiskIn.done HH.out HS.out OKB.out (q := q) (Y := Y) ?_ ?_⟩
          · rw [HD.out]; exact (((HIN.out.inTrip _).inN2 _).inF HV.out 2 (by omega) _).1
          · exact ((chg_pv w 3 _).trans (chg_pv _ 6 _) (fun _ _ h => h)).trans (((HIN.out.inTrip _).inN2 _).inF HV.out 2 (by omega) _).2 (fun _ _ h => h)
        · have hD : D.fall 2 = { D with n := turn D.n 2 (D.n 2 + 1), f := turn D.f 2 (-1) } := by unfold Dsk.fall; rw [dec1_neg (by omega)]
          have HD := Lib.hid hD
          clear hD
          go_enter Try.func168, Try.ntmps168
          go_wp2
          go_ret
          refine ⟨rfl, RDiskIn.done HH.out HS.out OKB.out (q := q) (Y := Y) ?_ ?_⟩
          · rw [HD.out]; exact ((HIN.out.inN2 _).inF HV.out 2 (by omega) _).1
          · exact (chg_pv w 6 _).trans ((HIN.out.inN2 _).inF HV.out 2 (by omega) _).2 (fun _ _ h => h)
      · rw [if_neg h3] at OKB ⊢
        have i3 : ¬ D.f 2 = 0 := h3
        clear h3
        rcases (show 0 < D.trip ∨ D.trip < 0 by omega) with h4 | h4
        all_goals rcases (show 0 < D.f 2 ∨ D.f 2 < 0 by omega) with h5 | h5
        · have hD : D.go 2 = { D with trip := D.trip - 1, n := turn D.n 2 (D.n 2 + 1), f := turn D.f 2 (D.f 2 - 1) } := by unfold Dsk.go; rw [dec1_pos h4, dec1_pos h5]
          have HD := Lib.hid hD
          clear hD
          go_enter Try.func168, Try.ntmps168
          go_wp2
          go_ret
          refine ⟨rfl, RDiskIn.done HH.out HS.out OKB.out (q := q) (Y := Y) ?_ ?_⟩
          · rw [HD.out]; exact (((HIN.out.inTrip _).inN2 _).inF HV.out 2 (by omega) _).1
          · exact ((chg_pv w 3 _).trans (chg_pv _ 6 _) (fun _ _ h => h)).trans (((HIN.out.inTrip _).inN2 _).inF HV.out 2 (by omega) _).2 (fun _ _ h => h)
        · have hD : D.go 2 = { D with trip := D.trip - 1, n := turn D.n 2 (D.n 2 + 1) } := by unfold Dsk.go; rw [dec1_pos h4, dec1_neg (show ¬ 0 < D.f 2 by omega), turn_self]
          have HD := Lib.hid hD
          clear hD
          go_enter Try.func168, Try.ntmps168
          go_wp2
          go_ret
          refine ⟨rfl, RDiskIn.done HH.out HS.out OKB.out (q := q) (Y := Y) ?_ ?_⟩
          · rw [HD.out]; exact (HIN.out.inTrip _).inN2 _
          · exact (chg_pv w 3 _).trans (chg_pv _ 6 _) (fun _ _ h => h)
        · have hD : D.go 2 = { D with n := turn D.n 2 (D.n 2 + 1), f := turn D.f 2 (D.f 2 - 1) } := by unfold Dsk.go; rw [dec1_neg (show ¬ 0 < D.trip by omega), dec1_pos h5]
          have HD := Lib.hid hD
          clear hD
          go_enter Try.func168, Try.ntmps168
          go_wp2
          go_ret
          refine ⟨rfl, RDiskIn.done HH.out HS.out OKB.out (q := q) (Y := Y) ?_ ?_⟩
          · rw [HD.out]; exact ((HIN.out.inN2 _).inF HV.out 2 (by omega) _).1
          · exact (chg_pv w 6 _).trans ((HIN.out.inN2 _).inF HV.out 2 (by omega) _).2 (fun _ _ h => h)
        · have hD : D.go 2 = { D with n := turn D.n 2 (D.n 2 + 1) } := by unfold Dsk.go; rw [dec1_neg (show ¬ 0 < D.trip by omega), dec1_neg (show ¬ 0 < D.f 2 by omega), turn_self]
          have HD := Lib.hid hD
          clear hD
          go_enter Try.func168, Try.ntmps168
          go_wp2
          go_ret
          refine ⟨rfl, RDiskIn.done HH.out HS.out OKB.out (q := q) (Y := Y) ?_ ?_⟩
          · rw [HD.out]; exact HIN.out.inN2 _
          · exact chg_pv w 6 _
set_option maxRecDepth 100000 in
set_option maxHeartbeats 8000000 in
theorem rbegin3 {n0 : Nat} {w : World} {p : Nat} {D : Dsk} {S : Nat → Prop} (h : RD n0 w p D S) (hn : D.n 3 ≤ 4611686018427387904) : Calls Try.prog 168 #[.pointer (some ⟨p, 0, none⟩), .int .i64 3] w (RGives n0 w p S (D.begin 3).1 (D.begin 3).2) := by
  have HH := Lib.hid h
  have OKB := Lib.hid (D.begin_ok h.1 3)
  obtain ⟨ok, ⟨q, Y, hin, hS⟩, _⟩ := h
  have c2 : w.cell? ⟨p, 2, none⟩ = some (.bool D.dark) := hin.rcd.cell 2 (by omega)
  have c3 : w.cell? ⟨p, 3, none⟩ = some (.int .i64 D.trip) := hin.rcd.cell 3 (by omega)
  have c4 : w.cell? ⟨p, 4, none⟩ = some q.V := hin.rcd.cell 4 (by omega)
  have cn : w.cell? ⟨p, 7, none⟩ = some (.int .i64 (D.n 3)) := hin.rcd.cell 7 (by omega)
  have e2 := hin.rcd.frozen 2
  have e3 := hin.rcd.frozen 3
  have en := hin.rcd.frozen 7
  obtain ⟨g, cap, hV, hgp, hfc, hff⟩ := hin.fcell
  rw [hV] at c4
  have g1 : w.cell? ⟨g, 3, none⟩ = some (.int .i64 (D.f 3)) := hfc 3 (by omega)
  have f1 := hff 3
  have hgp' : p ≠ g := Ne.symm hgp
  obtain ⟨t1, t2⟩ := ok.trip
  obtain ⟨u1, u2⟩ := ok.f 3
  have n1 := ok.n 3
  have HIN := Lib.hid hin
  have HS := Lib.hid hS
  have HV := Lib.hid hV
  unfold RGives
  unfold Dsk.begin at OKB ⊢
  clear hin hS hV hfc hff ok
  by_cases h1 : D.dark = true
  · rw [if_pos h1]
    rw [h1] at c2
    clear h1
    go_enter Try.func168, Try.ntmps168
    go_wp2
    go_ret
    exact ⟨rfl, HH.out, Chg.refl _ _⟩
  · rw [if_neg h1] at OKB ⊢
    rw [show D.dark = false by simpa using h1] at c2
    clear h1
    by_cases h2 : D.trip = 0
    · rw [if_pos h2] at OKB ⊢
      rw [h2] at c3
      clear h2
      go_enter Try.func168, Try.ntmps168
      go_wp2
      go_ret
      exact ⟨rfl, RDiskIn.done (D' := D.off) HH.out HS.out OKB.out ((HIN.out.inDark true).inTrip (-1)) ((chg_pv w 2 _).trans (chg_pv _ 3 _) (fun _ _ h => h))⟩
    · rw [if_neg h2] at OKB ⊢
      have i2 : ¬ D.trip = 0 := h2
      clear h2
      by_cases h3 : D.f 3 = 0
      · rw [if_pos h3] at OKB ⊢
        rw [h3] at g1
        clear h3
        rcases (show 0 < D.trip ∨ D.trip < 0 by omega) with h4 | h4
        · have hD : D.fall 3 = { D with trip := D.trip - 1, n := turn D.n 3 (D.n 3 + 1), f := turn D.f 3 (-1) } := by unfold Dsk.fall; rw [dec1_pos h4]
          have HD := Lib.hid hD
          clear hD
          go_enter Try.func168, Try.ntmps168
          go_wp2
          go_ret
          refine ⟨rfl, RDiskIn.done HH.out HS.out OKB.out (q := q) (Y := Y) ?_ ?_⟩
          · rw [HD.out]; exact (((HIN.out.inTrip _).inN3 _).inF HV.out 3 (by omega) _).1
          · exact ((chg_pv w 3 _).trans (chg_pv _ 7 _) (fun _ _ h => h)).trans (((HIN.out.inTrip _).inN3 _).inF HV.out 3 (by omega) _).2 (fun _ _ h => h)
        · have hD : D.fall 3 = { D with n := turn D.n 3 (D.n 3 + 1), f := turn D.f 3 (-1) } := by unfold Dsk.fall; rw [dec1_neg (by omega)]
          have HD := Lib.hid hD
          clear hD
          go_enter Try.func168, Try.ntmps168
          go_wp2
          go_ret
          refine ⟨rfl, RDiskIn.done HH.out HS.out OKB.out (q := q) (Y := Y) ?_ ?_⟩
          · rw [HD.out]; exact ((HIN.out.inN3 _).inF HV.out 3 (by omega) _).1
          · exact (chg_pv w 7 _).trans ((HIN.out.inN3 _).inF HV.out 3 (by omega) _).2 (fun _ _ h => h)
      · rw [if_neg h3] at OKB ⊢
        have i3 : ¬ D.f 3 = 0 := h3
        clear h3
        rcases (show 0 < D.trip ∨ D.trip < 0 by omega) with h4 | h4
        all_goals rcases (show 0 < D.f 3 ∨ D.f 3 < 0 by omega) with h5 | h5
        · have hD : D.go 3 = { D with trip := D.trip - 1, n := turn D.n 3 (D.n 3 + 1), f := turn D.f 3 (D.f 3 - 1) } := by unfold Dsk.go; rw [dec1_pos h4, dec1_pos h5]
          have HD := Lib.hid hD
          clear hD
          go_enter Try.func168, Try.ntmps168
          go_wp2
          go_ret
          refine ⟨rfl, RDiskIn.done HH.out HS.out OKB.out (q := q) (Y := Y) ?_ ?_⟩
          · rw [HD.out]; exact (((HIN.out.inTrip _).inN3 _).inF HV.out 3 (by omega) _).1
          · exact ((chg_pv w 3 _).trans (chg_pv _ 7 _) (fun _ _ h => h)).trans (((HIN.out.inTrip _).inN3 _).inF HV.out 3 (by omega) _).2 (fun _ _ h => h)
        · have hD : D.go 3 = { D with trip := D.trip - 1, n := turn D.n 3 (D.n 3 + 1) } := by unfold Dsk.go; rw [dec1_pos h4, dec1_neg (show ¬ 0 < D.f 3 by omega), turn_self]
          have HD := Lib.hid hD
          clear hD
          go_enter Try.func168, Try.ntmps168
          go_wp2
          go_ret
          refine ⟨rfl, RDiskIn.done HH.out HS.out OKB.out (q := q) (Y := Y) ?_ ?_⟩
          · rw [HD.out]; exact (HIN.out.inTrip _).inN3 _
          · exact (chg_pv w 3 _).trans (chg_pv _ 7 _) (fun _ _ h => h)
        · have hD : D.go 3 = { D with n := turn D.n 3 (D.n 3 + 1), f := turn D.f 3 (D.f 3 - 1) } := by unfold Dsk.go; rw [dec1_neg (show ¬ 0 < D.trip by omega), dec1_pos h5]
          have HD := Lib.hid hD
          clear hD
          go_enter Try.func168, Try.ntmps168
          go_wp2
          go_ret
          refine ⟨rfl, RDiskIn.done HH.out HS.out OKB.out (q := q) (Y := Y) ?_ ?_⟩
          · rw [HD.out]; exact ((HIN.out.inN3 _).inF HV.out 3 (by omega) _).1
          · exact (chg_pv w 7 _).trans ((HIN.out.inN3 _).inF HV.out 3 (by omega) _).2 (fun _ _ h => h)
        · have hD : D.go 3 = { D with n := turn D.n 3 (D.n 3 + 1) } := by unfold Dsk.go; rw [dec1_neg (show ¬ 0 < D.trip by omega), dec1_neg (show ¬ 0 < D.f 3 by omega), turn_self]
          have HD := Lib.hid hD
          clear hD
          go_enter Try.func168, Try.ntmps168
          go_wp2
          go_ret
          refine ⟨rfl, RDiskIn.done HH.out HS.out OKB.out (q := q) (Y := Y) ?_ ?_⟩
          · rw [HD.out]; exact HIN.out.inN3 _
          · exact chg_pv w 7 _
end Go.Proofs.Ytfbjjblgcgjndaa

/- Contracts of the reference disk's sector, Pending and Image. -/
namespace Go.Proofs.Ytfbjjblgcgjndaa
open Go.RowKit

/-- a sector as the first i writes give it -/
def secUp (D : Dsk) (i a : Nat) : List Nat := match lastWrite (D.cache.take i) a with
  | some s => s
  | none => D.last.getD a []
theorem secUp_zero (D : Dsk) (a : Nat) : secUp D 0 a = D.last.getD a [] := rfl
theorem secUp_all (D : Dsk) (a : Nat) : secUp D D.cache.length a = D.sec a := by unfold secUp Dsk.sec; rw [List.take_length]; rfl
theorem secUp_succ (D : Dsk) (i a : Nat) (h : i < D.cache.length) : secUp D (i + 1) a = if (D.cache.getD i (0, [])).1 = a then (D.cache.getD i (0, [])).2 else secUp D i a := by
  have hx : D.cache[i]? = some D.cache[i] := List.getElem?_eq_getElem h
  have hg : D.cache.getD i (0, []) = D.cache[i] := by rw [List.getD_eq_getElem?_getD, hx]; rfl
  rw [hg]
  unfold secUp
  rw [take_snoc _ i _ hx, show D.cache[i] = (D.cache[i].1, D.cache[i].2) from rfl, lastWrite_append]
  by_cases e : D.cache[i].1 = a
  · rw [if_pos e, if_pos e]
  · rw [if_neg e, if_neg e]
theorem ccells_get (c : List (Nat × List Nat)) (G : Nat → Value) (i : Nat) (h : i < c.length) : (ccells c G)[i * 2]? = some (.int .i64 (((c.getD i (0, [])).1 : Nat) : Int)) ∧ (ccells c G)[i * 2 + 1]? = some (G i) := by
  have key : ∀ (n : Nat) (f : Nat → List Value), (∀ i, (f i).length = 2) → ∀ i, i < n → ∀ j, j < 2 → ((List.range n).flatMap f)[i * 2 + j]? = (f i)[j]? := by
    intro n f hf
    induction n with
    | zero => intro i hi; omega
    | succ n ih =>
      intro i hi j hj
      have hl : ∀ m, ((List.range m).flatMap f).length = m * 2 := by
        intro m
        induction m with
        | zero => rfl
        | succ m ihm => rw [List.range_succ, List.flatMap_append, List.length_append, ihm]; simp [hf]; omega
      rw [List.range_succ, List.flatMap_append]
      by_cases hin : i < n
      · rw [List.getElem?_append_left (by rw [hl]; omega)]; exact ih i hin j hj
      · obtain rfl : i = n := by omega
        rw [List.getElem?_append_right (by rw [hl]; omega), hl]
        simp
  exact ⟨key c.length _ (fun _ => rfl) i h 0 (by omega), key c.length _ (fun _ => rfl) i h 1 (by omega)⟩
theorem RDiskIn.lcell {n0 : Nat} {w : World} {p : Nat} {D : Dsk} {q : RParts} {Y : Nat → Prop} (h : RDiskIn n0 w p D q Y) (hl : 0 < D.last.length) : ∃ g cap, q.L = .slice (some ⟨g, 0, none⟩) D.last.length cap ∧ (∀ i, i < D.last.length → w.cell? ⟨g, i, none⟩ = some (q.F i)) ∧ ∀ i, w.frozen? ⟨g, i, none⟩ = false := by
  obtain ⟨g, cap, hV, _⟩ := own_form h.last hl
  have h1 := h.last
  rw [hV] at h1
  refine ⟨g, cap, hV, fun i hi => ?_, fun i => ?_⟩
  · rw [h1.cellAt i (by omega)]; exact lst_get _ _ _ hi
  · rcases h1.2 with ⟨e, _⟩ | ⟨g', cap', cur, e, _, hh, _⟩
    · cases e
    · cases e
      exact frozen_of_row w g i cur 23 hh
theorem RDiskIn.ccell {n0 : Nat} {w : World} {p : Nat} {D : Dsk} {q : RParts} {Y : Nat → Prop} (h : RDiskIn n0 w p D q Y) (hl : 0 < D.cache.length) : ∃ g cap, q.C = .slice (some ⟨g, 0, none⟩) D.cache.length cap ∧ ∀ i, i < D.cache.length → w.cell? ⟨g, i * 2, none⟩ = some (.int .i64 (((D.cache.getD i (0, [])).1 : Nat) : Int)) ∧ w.cell? ⟨g, i * 2 + 1, none⟩ = some (q.G i) := by
  obtain ⟨g, cap, hV, _⟩ := own_form h.cache hl
  have h1 := h.cache
  rw [hV] at h1
  refine ⟨g, cap, hV, fun i hi => ?_⟩
  obtain ⟨a, b⟩ := ccells_get D.cache q.G i hi
  exact ⟨by rw [h1.cellAt (i * 2) (by omega)]; exact a, by rw [h1.cellAt (i * 2 + 1) (by omega)]; exact b⟩
def SecGives (s : List Nat) (Y : Nat → Prop) (w : World) (e : Ending) (w' : World) : Prop := ∃ v, e = .returned v ∧ RowIn w Y v s ∧ w = w'
set_option maxRecDepth 100000 in
set_option maxHeartbeats 2000000 in
theorem rsector_any {n0 : Nat} {w : World} {p : Nat} {D : Dsk} {q : RParts} {Y : Nat → Prop} (h : RDiskIn n0 w p D q Y) (a : Nat) (ha : a < D.last.length) (hc : D.cache.length ≤ 1000000000000) (hl : D.last.length ≤ 131072) :
    Calls Try.prog 169 #[.pointer (some ⟨p, 0, none⟩), .int .i64 (a : Int)] w (SecGives (D.sec a) Y w) := by
  obtain ⟨g, cap, hL, hlc, _⟩ := h.lcell (by omega)
  have c0 : w.cell? ⟨p, 0, none⟩ = some (.slice (some ⟨g, 0, none⟩) D.last.length cap) := by rw [← hL]; exact h.rcd.cell 0 (by omega)
  have c1 : w.cell? ⟨g, a, none⟩ = some (q.F a) := hlc a ha
  obtain ⟨C, cc, hC, _⟩ := At.own h.cache
  have c2 : w.cell? ⟨p, 1, none⟩ = some (.slice C D.cache.length cc) := by rw [← hC]; exact h.rcd.cell 1 (by omega)
  have h1 : (a : Int) < (D.last.length : Int) := by omega
  have HF := Lib.hid (h.rows a ha)
  have HIN := Lib.hid h
  have HC := Lib.hid hC
  clear h hL hlc hC
  generalize q.F a = fa at *
  go_enter Try.func169, Try.ntmps169
  go_wp2_with fail
  go_loop [5, 6] (fun v i => ∃ k : Nat, k ≤ D.cache.length ∧ i = .int .i64 k ∧ RowIn w Y v (secUp D k a)) (fun _ i => D.cache.length - (intOf i).toNat)
  case atStart => exact ⟨0, by omega, rfl, by rw [secUp_zero]; exact HF.out⟩
  case round =>
    obtain ⟨k, hk, rfl, hr⟩ := hrel
    by_cases hlt : k < D.cache.length
    · obtain ⟨gc, capc, hC2, hcc⟩ := HIN.out.ccell (by omega)
      rw [HC.out] at hC2
      injection hC2 with e1 e2 e3
      subst e1 e3
      clear e2
      obtain ⟨d1, d2⟩ := hcc k hlt
      have hs := secUp_succ D k a hlt
      have HR := Lib.hid (HIN.out.crows k hlt)
      have h3 : (k : Int) < (D.cache.length : Int) := by omega
      generalize D.cache.getD k (0, []) = x at *
      generalize q.G k = gk at *
      clear hcc
      by_cases hxa : x.1 = a
      · rw [if_pos hxa] at hs
        have t1 : ((x.1 : Int) == (a : Int)) = true := by simp; omega
        have HS := Lib.hid hs
        have HX := Lib.hid hxa
        have HRR := Lib.hid hr
        clear hs hxa hr
        go_wp2_with fail
        case roundEnd => exact ⟨⟨k + 1, by omega, by go_num, by rw [HS.out]; exact HR.out⟩, by simp only [intOf]; omega⟩
      · rw [if_neg hxa] at hs
        have t1 : ((x.1 : Int) == (a : Int)) = false := by simp; omega
        have HS := Lib.hid hs
        have HX := Lib.hid hxa
        have HRR := Lib.hid hr
        clear hs hxa hr
        go_wp2_with fail
        case roundEnd => exact ⟨⟨k + 1, by omega, by go_num, by rw [HS.out]; exact HRR.out⟩, by simp only [intOf]; omega⟩
    · obtain rfl : k = D.cache.length := by omega
      rw [secUp_all] at hr
      have HR := Lib.hid hr
      clear hr
      go_wp2_with fail
      go_ret
      exact ⟨_, rfl, HR.out, rfl⟩
end Go.Proofs.Ytfbjjblgcgjndaa

/- Contracts of the reference disk's Pending, Image and Read. -/
namespace Go.Proofs.Ytfbjjblgcgjndaa
open Go.RowKit

theorem RDiskIn.below {n0 : Nat} {w w' : World} {p : Nat} {D : Dsk} {q : RParts} {Y : Nat → Prop} (h : RDiskIn n0 w p D q Y) (hb : Below w.heap.size w w') : RDiskIn n0 w' p D q Y :=
  h.keep (G := fun _ => False) (.of_below hb) (fun _ _ h => h)
set_option maxRecDepth 100000 in
set_option maxHeartbeats 2000000 in
theorem rpending_any {n0 : Nat} {w : World} {p : Nat} {D : Dsk} {S : Nat → Prop} (h : RD n0 w p D S) (hc : D.cache.length ≤ 1000000000000) : Calls Try.prog 159 #[.pointer (some ⟨p, 0, none⟩)] w (GivesInts (D.cache.map (·.1)) w) := by
  obtain ⟨ok, ⟨q, Y, hin, _⟩, _⟩ := h
  have HIN := Lib.hid hin
  have HC := Lib.hid hc
  clear hin ok hc
  go_enter Try.func159, Try.ntmps159
  go_wp2_with fail
  go_loopw [3, 4] (fun v i wr => ∃ j : Nat, j ≤ D.cache.length ∧ i = .int .i64 j ∧ wr.ownsRow w.heap.size 3 1 v j (ns .i64 ((D.cache.take j).map (·.1))) ∧ Below w.heap.size w wr) (fun _ i _ => D.cache.length - (intOf i).toNat)
  case atStart => exact ⟨0, by omega, rfl, World.ownsRow_nil _ _ _ _, Below.refl _ _⟩
  case round =>
    obtain ⟨j, hj, rfl, hv, hb⟩ := hrel
    have hin := HIN.out.below hb
    have hj12 : j ≤ 1000000000000 := by have := HC.out; omega
    by_cases hlt : j < D.cache.length
    · obtain ⟨gc, capc, hC2, hcc⟩ := hin.ccell (by omega)
      have c1 : wr.cell? ⟨p, 1, none⟩ = some (.slice (some ⟨gc, 0, none⟩) D.cache.length capc) := by rw [← hC2]; exact hin.rcd.cell 1 (by omega)
      obtain ⟨d1, _⟩ := hcc j hlt
      have hts := take_snoc D.cache j D.cache[j] (List.getElem?_eq_getElem hlt)
      have hg : D.cache.getD j (0, []) = D.cache[j] := by rw [List.getD_eq_getElem?_getD, List.getElem?_eq_getElem hlt]; rfl
      rw [hg] at d1
      obtain ⟨x, hx⟩ : ∃ x, x = D.cache[j].1 := ⟨_, rfl⟩
      rw [← hx] at d1
      have hmap : (D.cache.take (j + 1)).map (·.1) = (D.cache.take j).map (·.1) ++ [x] := by rw [hts, List.map_append, hx]; rfl
      have HMAP := Lib.hid hmap
      have h3 : (j : Int) < (D.cache.length : Int) := by omega
      have hbA : Below wr.heap.size wr (wr.alloc (.cells #[.int .i64 (x : Int)] 3)) := below_alloc0 (Below.refl _ _) _
      have hvA := own_below hv hbA
      have hbB := below_next0 hb hbA
      have hAA : At (wr.alloc (.cells #[.int .i64 (x : Int)] 3)) (some ⟨wr.heap.size, 0, none⟩) [.int .i64 (x : Int)] := At.whole (heap_alloc_new wr _)
      obtain ⟨A0, c0, rfl⟩ := own_slice hv
      have HVA := Lib.hid hvA
      have HBB := Lib.hid hbB
      have HAA := Lib.hid hAA
      have HSA := Lib.hid hbB.size
      clear hcc hC2 hin hv hb hbA hvA hbB hAA hts hg hx hmap
      go_wp2_with (at_builtin; go_loud (refine wp_append2 rfl (.tmp 14) (.tmp 23) 86 3 (.int .i64 0) 1 8 rfl Try.underlying86 Try.info3 rfl (by decide) w.heap.size (.slice A0 j c0) j _ rfl HVA.out (some ⟨wr.heap.size, 0, none⟩) 1 1 _ rfl rfl HAA.out (by simp) (by simp [Value.oneCell']) (by omega) (by omega) HSA.out ?_); intro v1 w1 ho1 hor1)
      have hch1 := push_chg hor1
      have HO1 := Lib.hid ho1
      have HCH1 := Lib.hid hch1
      clear ho1 hor1 hch1
      obtain ⟨A1, c11, rfl⟩ := own_slice HO1.out
      go_wp2
      case roundEnd =>
        refine ⟨⟨j + 1, by omega, by go_num, ?_, HBB.out.trans (HCH1.out.below HSA.out (fun k hk => own_base HVA.out k hk))⟩, by simp only [intOf]; omega⟩
        rw [HMAP.out, ns_append]
        exact HO1.out
    · obtain rfl : j = D.cache.length := by omega
      rw [List.take_length] at hv
      have c1 : ∃ C cc, wr.cell? ⟨p, 1, none⟩ = some (.slice C D.cache.length cc) := by
        obtain ⟨C, cc, e, _⟩ := At.own hin.cache
        exact ⟨C, cc, by rw [← e]; exact hin.rcd.cell 1 (by omega)⟩
      obtain ⟨C, cc, c1⟩ := c1
      obtain ⟨A, c, rfl⟩ := own_slice hv
      have HV := Lib.hid hv
      clear hv hin
      go_wp2
      go_ret
      refine ⟨A, c, by rw [List.length_map]; rfl, ?_, hb⟩
      rw [List.length_map]; exact HV.out
set_option maxRecDepth 100000 in
set_option maxHeartbeats 2000000 in
theorem rimage_any {n0 : Nat} {w : World} {p : Nat} {D : Dsk} {S : Nat → Prop} (h : RD n0 w p D S) : Calls Try.prog 160 #[.pointer (some ⟨p, 0, none⟩)] w (GivesFill D.last.flatten w) := by
  obtain ⟨ok, ⟨q, Y, hin, _⟩, _⟩ := h
  have hlen : D.last.length ≤ 131072 ∧ 0 < D.last.length := by obtain ⟨k, a, b, c⟩ := ok.pages; omega
  have h128 : ∀ s ∈ D.last, s.length = 128 := fun s hs => (ok.last s hs).1
  have HIN := Lib.hid hin
  have HL := Lib.hid hlen
  have H128 := Lib.hid h128
  clear hin ok hlen h128
  go_enter Try.func160, Try.ntmps160
  go_wp2_with fail
  go_loopw [3, 4] (fun v i wr => ∃ j : Nat, j ≤ D.last.length ∧ i = .int .i64 j ∧ Buf w.heap.size wr v (D.last.take j).flatten ∧ Below w.heap.size w wr) (fun _ i _ => D.last.length - (intOf i).toNat)
  case atStart => exact ⟨0, by omega, rfl, Buf.nil _ _, Below.refl _ _⟩
  case round =>
    obtain ⟨j, hj, rfl, hv, hb⟩ := hrel
    have hin := HIN.out.below hb
    obtain ⟨g, cap, hLv, hlc, _⟩ := hin.lcell HL.out.2
    have c0 : wr.cell? ⟨p, 0, none⟩ = some (.slice (some ⟨g, 0, none⟩) D.last.length cap) := by rw [← hLv]; exact hin.rcd.cell 0 (by omega)
    obtain ⟨A0, cv, rfl⟩ := own_slice hv
    have hfl := flat_take H128.out j hj
    rw [hfl] at hv ⊢
    by_cases hlt : j < D.last.length
    · obtain ⟨A1, c1, hF, hA1, hn1, _⟩ := hin.rows j hlt
      have hd1 := hlc j hlt
      have h128j : (D.last.getD j []).length = 128 := by rw [List.getD_eq_getElem?_getD, List.getElem?_eq_getElem hlt]; exact H128.out _ (List.getElem_mem _)
      rw [hF, h128j] at hd1
      have h3 : (j : Int) < (D.last.length : Int) := by omega
      have HV := Lib.hid hv
      have HB := Lib.hid hb
      have HA1 := Lib.hid hA1
      have HN1 := Lib.hid hn1
      have HJ := Lib.hid h128j
      have HFS := Lib.hid (flat_snoc D.last j hlt)
      have HBD := Lib.hid (show (D.last.take j).flatten.length + (D.last.getD j []).length ≤ 140737488355328 by have := HL.out; omega)
      have hbs := Lib.hid hb.size
      have HFL := Lib.hid hfl
      have hjs : j ≤ 131072 := by have := HL.out; omega
      clear hv hb hA1 hn1 h128j hfl hin hlc hLv hF
      go_wp2_with (at_builtin; go_loud (refine buf_append rfl (.tmp 14) (.tmp 21) rfl Try.underlying23 Try.info5 w.heap.size (.slice A0 (128 * j) cv) (D.last.take j).flatten rfl HV.out A1 128 c1 (D.last.getD j []) rfl HJ.out.symm HA1.out HN1.out HBD.out hbs.out HB.out ?_); intro v1 w1 hv1 hb1 hn1)
      have HV1 := Lib.hid hv1
      clear hv1
      go_wp2
      case roundEnd =>
        refine ⟨⟨j + 1, by omega, by push_cast; rfl, ?_, hb1⟩, by simp only [intOf]; omega⟩
        rw [HFS.out]; exact HV1.out
    · obtain rfl : j = D.last.length := by omega
      rw [List.take_length] at hv hfl
      have HV := Lib.hid hv
      have HFL := Lib.hid hfl
      clear hv hfl hin hlc hLv
      go_wp2
      go_ret
      refine ⟨A0, cv, ?_, ?_, hb⟩
      · rw [HFL.out]; rfl
      · rw [HFL.out]; exact HV.out
end Go.Proofs.Ytfbjjblgcgjndaa

/- Contract of the reference disk's Read. -/
namespace Go.Proofs.Ytfbjjblgcgjndaa
open Go.RowKit

def RReadGives (n0 : Nat) (w : World) (p : Nat) (S : Nat → Prop) (r : Nat × List Nat × Dsk) (e : Ending) (w' : World) : Prop :=
  ∃ A c, e = .returned (.tuple #[.slice A r.2.1.length c, .int .u16 (r.1 : Nat)]) ∧ Buf w.heap.size w' (.slice A r.2.1.length c) r.2.1 ∧ RD n0 w' p r.2.2 S ∧ Chg S w w'
set_option maxRecDepth 100000 in
set_option maxHeartbeats 4000000 in
theorem rread_any {n0 : Nat} {w : World} {p : Nat} {D : Dsk} {S : Nat → Prop} (h : RD n0 w p D S) (pg : Int) (hc : D.cache.length ≤ 1000000000000) (hn : D.n 1 ≤ 4611686018427387904) :
    Calls Try.prog 151 #[.pointer (some ⟨p, 0, none⟩), .int .i64 pg] w (RReadGives n0 w p S (D.read pg)) := by
  have HBG := Lib.hid (rbegin1 h hn)
  have hlen : D.last.length ≤ 131072 := by obtain ⟨k, a, b, c⟩ := h.1.pages; omega
  have H128 := Lib.hid (fun a (ha : a < D.last.length) => (D.sec_ok h.1 a ha).1)
  have HSO := Lib.hid (fun a k (ha : a + k ≤ D.last.length) => (D.secs_ok h.1 a k ha).1)
  have HPGS := Lib.hid h.1.pages
  have HC := Lib.hid hc
  clear hc hn h
  by_cases hb : (D.begin 1).1 = 0
  · have hrd : D.read pg = if pg < 0 ∨ (D.pages : Int) ≤ pg then (2, [], D.go 1) else (0, D.secs (8 * pg.toNat) 8, D.go 1) := by unfold Dsk.read; rw [if_neg (by simpa using hb)]
    have hgo : D.begin 1 = (0, D.go 1) := by rw [← Dsk.begin_go hb, ← hb]
    rw [hgo] at HBG
    have HRD0 := Lib.hid hrd
    clear hrd hgo hb
    go_enter Try.func151, Try.ntmps151
    go_wp2_with fail
    refine HBG.out.mono ?_
    rintro e w1 ⟨rfl, hd, hch⟩
    have HD := Lib.hid hd
    have HCH := Lib.hid hch
    have hp := Lib.hid (rpages_any hd)
    have hpe : (D.go 1).pages = D.pages := rfl
    rw [hpe] at hp
    clear hd hch hpe HBG
    have HHP := Lib.hid hp.out
    clear hp
    by_cases hneg : pg < 0
    · have hrd := HRD0.out
      rw [if_pos (.inl hneg)] at hrd
      have HRD := Lib.hid hrd
      clear hrd
      go_wp2_with fail
      go_ret2
      rw [HRD.out]
      exact ⟨none, 0, rfl, Buf.nil _ _, HD.out, HCH.out⟩
    · by_cases hbig : (D.pages : Int) ≤ pg
      · have hrd := HRD0.out
        rw [if_pos (.inr hbig)] at hrd
        have HRD := Lib.hid hrd
        clear hrd
        have HBI := Lib.hid hbig
        clear HRD0
        generalize D.pages = N at *
        go_wp2_with fail
        refine HHP.out.mono ?_
        rintro e w2 ⟨rfl, rfl⟩
        have hd1 : decide ((N : Int) ≤ pg) = true := by have := HBI.out; simpa using this
        go_wp2_with fail
        go_ret2
        rw [HRD.out]
        exact ⟨none, 0, rfl, Buf.nil _ _, HD.out, HCH.out⟩
      · have hrd := HRD0.out
        rw [if_neg (by omega)] at hrd
        obtain ⟨n, rfl⟩ : ∃ n : Nat, pg = (n : Int) := ⟨pg.toNat, by omega⟩
        rw [Int.toNat_natCast] at hrd
        have HRD := Lib.hid hrd
        clear hrd
        have hnp : n < D.pages := by omega
        have h8 : 8 * n + 8 ≤ D.last.length := by obtain ⟨k, a, b, c⟩ := HPGS.out; unfold Dsk.pages at hnp; omega
        have hd1 : decide ((D.pages : Int) ≤ (n : Int)) = false := by simp; omega
        have hd2 : ¬ D.pages ≤ n := by omega
        have hnb : n ≤ 16384 := by omega
        have H8 := Lib.hid h8
        have HNP := Lib.hid hnp
        clear h8 hneg hbig
        go_wp2_with fail
        refine HHP.out.mono ?_
        rintro e w2 ⟨rfl, rfl⟩
        go_wp2_with fail
        obtain ⟨ok, ⟨q, Y, hin, hS⟩, hlt⟩ := HD.out
        have HIN := Lib.hid hin
        clear ok hin hS hlt
        go_loopw [7, 8] (fun v i wr => ∃ j : Nat, j ≤ 8 ∧ i = .int .i64 j ∧ Buf w1.heap.size wr v (D.secs (8 * n) j) ∧ Below w1.heap.size w1 wr) (fun _ i _ => 8 - (intOf i).toNat)
        case atStart => exact ⟨0, by omega, rfl, by rw [Dsk.secs_zero]; exact Buf.nil _ _, Below.refl _ _⟩
        case round =>
          obtain ⟨j, hj, rfl, hv, hb⟩ := hrel
          obtain ⟨A0, cv, rfl⟩ := own_slice hv
          have hsl := HSO.out (8 * n) j (by have := H8.out; omega)
          rw [hsl] at hv ⊢
          by_cases hlt : j < 8
          · have h3 : (j : Int) < 8 := by omega
            have hsec := rsector_any (HIN.out.below hb) (8 * n + j) (by have := H8.out; show _ < D.last.length; omega) HC.out hlen
            rw [show ((8 * n + j : Nat) : Int) = 8 * (n : Int) + (j : Int) by push_cast; rfl] at hsec
            have HSEC := Lib.hid hsec
            have h128 := H128.out (8 * n + j) (by have := H8.out; omega)
            have HSS := Lib.hid (D.secs_succ (8 * n) j)
            have HV := Lib.hid hv
            have HB := Lib.hid hb
            have HSL := Lib.hid hsl
            have HBZ := Lib.hid hb.size
            have HBD := Lib.hid (show (D.secs (8 * n) j).length + (D.sec (8 * n + j)).length ≤ 140737488355328 by rw [hsl, h128]; omega)
            have H12 := Lib.hid h128
            clear hsec h128 hv hb hsl
            go_wp2_with fail
            refine HSEC.out.mono ?_
            rintro e w3 ⟨v3, rfl, ⟨A3, c3, rfl, hA3, hn3, _⟩, rfl⟩
            rw [show (Dsk.sec (D.go 1) (8 * n + j)).length = 128 from H12.out]
            have HA3 := Lib.hid hA3
            have HN3 := Lib.hid hn3
            clear hA3 hn3
            go_wp2_with (at_builtin; go_loud (refine buf_append rfl (.tmp 26) (.tmp 32) rfl Try.underlying23 Try.info5 w1.heap.size (.slice A0 (128 * j) cv) (D.secs (8 * n) j) rfl HV.out A3 128 c3 (D.sec (8 * n + j)) rfl H12.out.symm HA3.out HN3.out HBD.out HBZ.out HB.out ?_); intro v4 w4 hv4 hb4 hn4)
            have HV4 := Lib.hid hv4
            clear hv4
            go_wp2
            case roundEnd =>
              refine ⟨⟨j + 1, by omega, by go_num, ?_, hb4⟩, by simp only [intOf]; omega⟩
              rw [HSS.out]; exact HV4.out
          · obtain rfl : j = 8 := by omega
            have HV := Lib.hid hv
            have HSL := Lib.hid hsl
            clear hv hsl
            go_wp2_with fail
            go_ret2
            rw [HRD.out]
            refine ⟨A0, cv, ?_, ?_, ⟨HD.out.below hb, HCH.out.trans (.of_below (F := fun _ => False) hb) (fun _ _ h => h.elim)⟩⟩
            · show _ = Ending.returned (.tuple #[.slice A0 (D.secs (8 * n) 8).length cv, .int .u16 ((0 : Nat) : Int)])
              rw [HSL.out]; rfl
            · show Buf w.heap.size wr (.slice A0 (D.secs (8 * n) 8).length cv) (D.secs (8 * n) 8)
              rw [HSL.out]; exact own_down HV.out HCH.out.size
  · have hrd : D.read pg = ((D.begin 1).1, [], (D.begin 1).2) := by unfold Dsk.read; rw [if_pos hb]
    rw [hrd]
    clear hrd
    have he : (((D.begin 1).1 : Nat) != 0) = true := by simpa using hb
    have he2 : ((((D.begin 1).1 : Nat) : Int) != 0) = true := by simp; omega
    have HNE := Lib.hid hb
    generalize (D.begin 1).1 = x at *
    generalize (D.begin 1).2 = D' at *
    clear hb
    go_enter Try.func151, Try.ntmps151
    go_wp2_with fail
    refine HBG.out.mono ?_
    rintro e w1 ⟨rfl, hd, hch⟩
    have HD := Lib.hid hd
    have HCH := Lib.hid hch
    clear hd hch
    go_wp2_with fail
    go_ret2
    exact ⟨none, 0, rfl, Buf.nil _ _, HD.out, HCH.out⟩
end Go.Proofs.Ytfbjjblgcgjndaa

/- Contracts of the reference disk's Sync and Cut. -/
namespace Go.Proofs.Ytfbjjblgcgjndaa
open Go.RowKit

/-- a write is laid -/
theorem RDiskIn.lay {n0 : Nat} {w : World} {p : Nat} {D : Dsk} {q : RParts} {Y : Nat → Prop} (h : RDiskIn n0 w p D q Y) {g cap : Nat} (hL : q.L = .slice (some ⟨g, 0, none⟩) D.last.length cap) (i : Nat) (hi : i < D.last.length) (v : Value) (s : List Nat) (hv : RowIn w Y v s) :
    RDiskIn n0 (w.setCell ⟨g, i, none⟩ v) p { D with last := D.last.set i s } { q with F := turn q.F i v } Y ∧ Chg (blk q.L) w (w.setCell ⟨g, i, none⟩ v) := by
  obtain ⟨s1, s2, s3, s4, s5⟩ := h.sep
  have hbL : blk q.L g := by rw [hL]; rfl
  have hc : Chg (blk q.L) w (w.setCell ⟨g, i, none⟩ v) := (setCell_chg w g i v).mono (fun j _ e => by rw [show j = g from e]; exact hbL)
  have hY : ∀ x, Y x → ¬ blk q.L x := fun x hx e => h.apart x hx (.inr (.inl e))
  refine ⟨⟨?_, ?_, fun j hj => ?_, own_chg h.cache hc (fun x hx e => (s4 x e).1 hx), fun j hj => (h.crows j hj).keep hc hY, own_chg h.faults hc (fun x hx e => (s4 x e).2 hx), h.base, h.sep, h.apart, fun x hx => ⟨(h.lt x hx).1, Nat.lt_of_lt_of_le (h.lt x hx).2 hc.size⟩⟩, hc⟩
  · exact h.rcd.keep hc s1
  · have h1 := h.last
    rw [hL] at h1
    have h2 := (h1.stored i v).1
    rw [lst_put] at h2
    simp only [List.length_set]
    rw [hL]; exact h2
  · simp only [List.length_set] at hj
    show RowIn _ Y (turn q.F i v j) ((D.last.set i s).getD j [])
    by_cases e : j = i
    · subst e
      rw [turn_same, List.getD_eq_getElem?_getD, List.getElem?_set_self hi]
      exact hv.keep hc hY
    · rw [turn_other _ _ _ _ e, List.getD_eq_getElem?_getD, List.getElem?_set_ne (Ne.symm e), ← List.getD_eq_getElem?_getD]
      exact (h.rows j hj).keep hc hY
/-- the cache is thrown away -/
theorem RDiskIn.drop {n0 : Nat} {w : World} {p : Nat} {D : Dsk} {q : RParts} {Y : Nat → Prop} (h : RDiskIn n0 w p D q Y) :
    RDiskIn n0 (w.setCell ⟨p, 1, none⟩ (.slice none 0 0)) p { D with cache := [] } { q with C := .slice none 0 0 } Y := by
  obtain ⟨s1, s2, s3, s4, s5⟩ := h.sep
  have hc := setCell_chg w p 1 (.slice none 0 0)
  have hY : ∀ x, Y x → ¬ x = p := fun x hx e => h.apart x hx (.inl e)
  have hnb : ∀ x, ¬ blk (Value.slice none 0 0) x := fun x e => by cases e
  refine ⟨(h.rcd.set 1 _).congr (all8 rfl rfl rfl rfl rfl rfl rfl rfl), own_chg h.last hc (fun x hx e => s1 (by rw [← show x = p from e]; exact hx)), fun j hj => (h.rows j hj).keep hc hY, World.ownsRow_nil _ _ _ _, fun j hj => by simp at hj, own_chg h.faults hc (fun x hx e => s3 (by rw [← show x = p from e]; exact hx)), h.base,
    ⟨s1, hnb p, s3, fun x hx => ⟨hnb x, (s4 x hx).2⟩, fun x hx => absurd hx (hnb x)⟩, fun x hx e => ?_, fun x hx => ⟨(h.lt x hx).1, Nat.lt_of_lt_of_le (h.lt x hx).2 hc.size⟩⟩
  rcases e with e | e | e | e
  · exact h.apart x hx (.inl e)
  · exact h.apart x hx (.inr (.inl e))
  · exact hnb x e
  · exact h.apart x hx (.inr (.inr (.inr e)))
/-- new faults -/
theorem RDiskIn.fresh {n0 : Nat} {w : World} {p : Nat} {D : Dsk} {q : RParts} {Y : Nat → Prop} (h : RDiskIn n0 w p D q Y) (hn : n0 ≤ w.heap.size) (f : Nat → Int) :
    RDiskIn n0 ((w.alloc (.cells #[.int .i64 (f 0), .int .i64 (f 1), .int .i64 (f 2), .int .i64 (f 3)] 3)).setCell ⟨p, 4, none⟩ (.slice (some ⟨w.heap.size, 0, none⟩) 4 4)) p { D with f := f } { q with V := .slice (some ⟨w.heap.size, 0, none⟩) 4 4 } Y := by
  obtain ⟨s1, s2, s3, s4, s5⟩ := h.sep
  have hlt := h.rcd.lt
  obtain ⟨w1, hw1⟩ : ∃ w1, w1 = w.alloc (.cells #[.int .i64 (f 0), .int .i64 (f 1), .int .i64 (f 2), .int .i64 (f 3)] 3) := ⟨_, rfl⟩
  have hb : Below w.heap.size w w1 := by rw [hw1]; exact below_alloc0 (Below.refl _ _) _
  have hnew : w1.heap[w.heap.size]? = some (.cells #[.int .i64 (f 0), .int .i64 (f 1), .int .i64 (f 2), .int .i64 (f 3)] 3 (0, 0)) := by rw [hw1]; exact heap_alloc_new w _
  have h1 := h.below hb
  rw [← hw1]
  have hc := setCell_chg w1 p 4 (.slice (some ⟨w.heap.size, 0, none⟩) 4 4)
  have hY : ∀ x, Y x → ¬ x = p := fun x hx e => h.apart x hx (.inl e)
  have hV : ∀ x, blk (Value.slice (some ⟨w.heap.size, 0, none⟩) 4 4) x → x = w.heap.size := fun x hx => by cases hx; rfl
  have hLlt : ∀ x, blk q.L x → x < w.heap.size := fun x hx => (row_lt h.last hx).2
  have hClt : ∀ x, blk q.C x → x < w.heap.size := fun x hx => (row_lt h.cache hx).2
  refine ⟨(h1.rcd.set 4 _).congr (all8 rfl rfl rfl rfl rfl rfl rfl rfl), own_chg h1.last hc (fun x hx e => s1 (by rw [← show x = p from e]; exact hx)), fun j hj => (h1.rows j hj).keep hc hY, own_chg h1.cache hc (fun x hx e => s2 (by rw [← show x = p from e]; exact hx)), fun j hj => (h1.crows j hj).keep hc hY, ?_, h.base,
    ⟨s1, s2, fun e => by have := hV p e; omega, fun x hx => ⟨(s4 x hx).1, fun e => by have := hV x e; have := hLlt x hx; omega⟩, fun x hx e => by have := hV x e; have := hClt x hx; omega⟩, fun x hx e => ?_, fun x hx => ⟨(h.lt x hx).1, Nat.lt_of_lt_of_le (h1.lt x hx).2 hc.size⟩⟩
  · have : w1.ownsRow n0 3 1 (.slice (some ⟨w.heap.size, 0, none⟩) 4 4) 4 (fourF { D with f := f }) := ⟨rfl, .inr ⟨w.heap.size, 4, _, rfl, hn, hnew, Nat.le_refl _, by simp only [maxLen]; omega, rfl, rfl⟩⟩
    exact own_chg this hc (fun x hx e => by have := hV x hx; have := show x = p from e; omega)
  · rcases e with e | e | e | e
    · exact h.apart x hx (.inl e)
    · exact h.apart x hx (.inr (.inl e))
    · exact h.apart x hx (.inr (.inr (.inl e)))
    · have := hV x e; have := (h.lt x hx).2; omega
def RLaid (n0 : Nat) (w wr : World) (p : Nat) (D : Dsk) (q : RParts) (Y : Nat → Prop) (kept : Nat → Bool) (j : Nat) : Prop :=
  ∃ F, RDiskIn n0 wr p (D.laid kept j) { q with F := F } Y ∧ Chg (blk q.L) w wr
end Go.Proofs.Ytfbjjblgcgjndaa

/- A list of byte lists that a law keeps beside a disk; what is set in it step by step. -/
namespace Go.Proofs.Ytfbjjblgcgjndaa
open Go.RowKit

theorem getD_set7 {α : Type} (l : List α) (i j : Nat) (x d : α) : (l.set i x).getD j d = if j = i ∧ i < l.length then x else l.getD j d := by
  rw [List.getD_eq_getElem?_getD, List.getD_eq_getElem?_getD, List.getElem?_set]
  by_cases h : i = j
  · subst h
    by_cases h2 : i < l.length
    · simp [h2]
    · simp [h2]
  · rw [if_neg h, if_neg (fun e => h e.1.symm)]
theorem keeps_step (Z : List (List Nat)) (c : List (Nat × List Nat)) (a : Nat) (b : List Nat) (K : Nat → Bool) (k : Nat) :
    settled Z (c ++ puts a b (k + 1)) K (c.length + (k + 1)) = if K (c.length + k) = true then (settled Z (c ++ puts a b k) K (c.length + k)).set (a + k) ((b.drop (128 * k)).take 128) else settled Z (c ++ puts a b k) K (c.length + k) := by
  have hl : (c ++ puts a b k).length = c.length + k := by rw [List.length_append, puts_length]
  have := settled_snoc Z (c ++ puts a b k) (a + k, (b.drop (128 * k)).take 128) K
  rw [hl] at this
  rw [puts, ← List.append_assoc, show c.length + (k + 1) = c.length + k + 1 by omega, this]
theorem part_rep (y n k : Nat) (h : 128 * (k + 1) ≤ n) : ((List.replicate n y).drop (128 * k)).take 128 = List.replicate 128 y := by
  rw [List.drop_replicate, List.take_replicate, show min 128 (n - 128 * k) = 128 by omega]

/-- rows of bytes behind a block of slices; all of it lies in X -/
structure Grid (n0 : Nat) (w : World) (g : Nat) (L : List (List Nat)) (X : Nat → Prop) : Prop where
  rows : ∃ F, RecAt w g 23 L.length F ∧ ∀ i, i < L.length → ∃ A c, F i = .slice A (L.getD i []).length c ∧ At w A (ns .u8 (L.getD i [])) ∧ ∀ a, A = some a → X a.block ∧ a.block ≠ g
  here : X g
  lt : ∀ x, X x → n0 ≤ x ∧ x < w.heap.size
theorem Grid.keep {n0 : Nat} {w w' : World} {g : Nat} {L : List (List Nat)} {X G : Nat → Prop} (h : Grid n0 w g L X) (hc : Chg G w w') (hG : ∀ x, X x → ¬ G x) : Grid n0 w' g L X := by
  obtain ⟨F, h1, h2⟩ := h.rows
  exact ⟨⟨F, h1.keep hc (hG g h.here), fun i hi => by
    obtain ⟨A, c, e, hA, hx⟩ := h2 i hi
    exact ⟨A, c, e, hA.chg hc (fun a ha => hG _ (hx a ha).1), hx⟩⟩, h.here, fun x hx => ⟨(h.lt x hx).1, Nat.lt_of_lt_of_le (h.lt x hx).2 hc.size⟩⟩
theorem Grid.below {n0 : Nat} {w w' : World} {g : Nat} {L : List (List Nat)} {X : Nat → Prop} (h : Grid n0 w g L X) (hb : Below w.heap.size w w') : Grid n0 w' g L X :=
  h.keep (G := fun _ => False) (.of_below hb) (fun _ _ h => h)
theorem Grid.cell {n0 : Nat} {w : World} {g : Nat} {L : List (List Nat)} {X : Nat → Prop} (h : Grid n0 w g L X) (i : Nat) (hi : i < L.length) : ∃ A c, w.cell? ⟨g, i, none⟩ = some (.slice A (L.getD i []).length c) ∧ At w A (ns .u8 (L.getD i [])) := by
  obtain ⟨F, h1, h2⟩ := h.rows
  obtain ⟨A, c, e, hA, _⟩ := h2 i hi
  exact ⟨A, c, by rw [← e]; exact h1.cell i hi, hA⟩
theorem Grid.frozen {n0 : Nat} {w : World} {g : Nat} {L : List (List Nat)} {X : Nat → Prop} (h : Grid n0 w g L X) (i : Nat) : w.frozen? ⟨g, i, none⟩ = false := by
  obtain ⟨F, h1, h2⟩ := h.rows
  exact h1.frozen i
/-- what a row adds -/
def With (X : Nat → Prop) (v : Value) (x : Nat) : Prop := X x ∨ blk v x
theorem Grid.set {n0 n : Nat} {w : World} {g : Nat} {L : List (List Nat)} {X : Nat → Prop} {A : Option Addr} {c : Nat} {s : List Nat} (h : Grid n0 w g L X) (i : Nat) (hi : i < L.length) (hv : Buf n0 w (.slice A n c) s) (hg : ∀ x, blk (.slice A n c) x → x ≠ g) :
    Grid n0 (w.setCell ⟨g, i, none⟩ (.slice A n c)) g (L.set i s) (With X (.slice A n c)) ∧ Chg (fun x => x = g) w (w.setCell ⟨g, i, none⟩ (.slice A n c)) := by
  have hc := setCell_chg w g i (.slice A n c)
  obtain ⟨F, h1, h2⟩ := h.rows
  obtain ⟨hn, hA⟩ := buf_at hv
  refine ⟨⟨⟨turn F i (.slice A n c), ?_, fun j hj => ?_⟩, .inl h.here, fun x hx => ?_⟩, hc⟩
  · rw [List.length_set]; exact h1.set i _
  · rw [List.length_set] at hj
    rw [getD_set7]
    by_cases e : j = i
    · subst e
      rw [turn_same, if_pos ⟨rfl, hi⟩, ← hn]
      refine ⟨A, c, rfl, hA.chg hc (fun a ha e => hg a.block (by rw [ha]; rfl) e), fun a ha => ⟨.inr (by rw [ha]; rfl), hg a.block (by rw [ha]; rfl)⟩⟩
    · rw [turn_other _ _ _ _ e, if_neg (fun h => e h.1)]
      obtain ⟨B, d, e1, hB, hx⟩ := h2 j hj
      exact ⟨B, d, e1, hB.chg hc (fun a ha e => (hx a ha).2 e), fun a ha => ⟨.inl (hx a ha).1, (hx a ha).2⟩⟩
  · rcases hx with hx | hx
    · exact ⟨(h.lt x hx).1, Nat.lt_of_lt_of_le (h.lt x hx).2 hc.size⟩
    · exact ⟨(row_lt hv hx).1, Nat.lt_of_lt_of_le (row_lt hv hx).2 hc.size⟩
theorem Grid.made {n0 N : Nat} {w w' : World} (hn : n0 ≤ w.heap.size) (ho : w'.ownsRow w.heap.size 23 1 (.slice (some ⟨w.heap.size, 0, none⟩) N N) N (madeCells (Value.slice none 0 0).cells (N * 1)).toList) : Grid n0 w' w.heap.size (List.replicate N []) (fun x => x = w.heap.size) := by
  have h1 := own_full ho
  have hc : (madeCells (Value.slice none 0 0).cells (N * 1)).toList.toArray = (lst (fun _ => .slice none 0 0) N).toArray := by
    apply Array.ext
    · simp [lst_length, size_madeCells]
    · intro i hi1 hi2
      have hi : i < N := by simpa [size_madeCells] using hi1
      simp [madeCells, lst, Value.cells, Nat.mod_one]
  refine ⟨⟨fun _ => .slice none 0 0, RecAt.of (by rw [h1, hc]) (by rw [List.length_replicate]), fun i hi => ⟨none, 0, ?_, ?_, fun a ha => by cases ha⟩⟩, rfl, fun x hx => ?_⟩
  · simp [List.getD_eq_getElem?_getD, List.getElem?_replicate]
    split <;> simp
  · have : (List.replicate N ([] : List Nat)).getD i [] = [] := by
      simp [List.getD_eq_getElem?_getD, List.getElem?_replicate]
      split <;> simp
    rw [this]; exact At.nil _ _
  · rw [show x = w.heap.size from hx]
    exact ⟨hn, (Array.getElem?_eq_some_iff.1 h1).1⟩
theorem grid_all {L : List (List Nat)} {n : Nat} {s : List Nat} (hL : L.length = n) (h : ∀ j, j < n → L.getD j [] = s) : L = List.replicate n s := by
  apply List.ext_getElem
  · rw [hL, List.length_replicate]
  · intro i h1 h2
    have := h i (by omega)
    rw [List.getD_eq_getElem?_getD, List.getElem?_eq_getElem h1] at this
    simpa using this
end Go.Proofs.Ytfbjjblgcgjndaa

/- Contracts of the reference disk's made and New. -/
namespace Go.Proofs.Ytfbjjblgcgjndaa
open Go.RowKit

def madeWorld (w : World) (A : Option Addr) (n c : Nat) : World := (w.alloc (.cells #[.int .i64 (-1), .int .i64 (-1), .int .i64 (-1), .int .i64 (-1)] 3)).alloc (.cells #[.slice A n c, .slice none 0 0, .bool false, .int .i64 (-1), .slice (some ⟨w.heap.size, 0, none⟩) 4 4, .int .i64 0, .int .i64 0, .int .i64 0] 193)
set_option maxRecDepth 100000 in
theorem made_any (w : World) (A : Option Addr) (n c : Nat) : Calls Try.prog 128 #[.slice A n c] w fun e w' => e = .returned (.pointer (some ⟨w.heap.size + 1, 0, none⟩)) ∧ w' = madeWorld w A n c := by
  go_enter Try.func128, Try.ntmps128
  go_wp2
  go_ret
  exact ⟨by simp, rfl⟩
/-- rows gathered so far, all memory the call's own -/
structure Rows23 (n0 : Nat) (w : World) (v : Value) (L : List (List Nat)) (F : Nat → Value) (Y : Nat → Prop) : Prop where
  own : w.ownsRow n0 23 1 v L.length (lst F L.length)
  rows : ∀ i, i < L.length → RowIn w Y (F i) (L.getD i [])
  lt : ∀ g, Y g → n0 ≤ g ∧ g < w.heap.size
  off : ∀ g, Y g → ¬ blk v g
theorem Rows23.nil (n0 : Nat) (w : World) : Rows23 n0 w (.slice none 0 0) [] (fun _ => .slice none 0 0) (fun _ => False) :=
  ⟨World.ownsRow_nil _ _ _ _, fun i hi => by simp at hi, fun g hg => hg.elim, fun g hg => hg.elim⟩
theorem Rows23.below {n0 : Nat} {w w' : World} {v : Value} {L : List (List Nat)} {F : Nat → Value} {Y : Nat → Prop} (h : Rows23 n0 w v L F Y) (hb : Below w.heap.size w w') : Rows23 n0 w' v L F Y :=
  ⟨own_below h.own hb, fun i hi => (h.rows i hi).keep (G := fun _ => False) (.of_below hb) (fun _ _ h => h), fun g hg => ⟨(h.lt g hg).1, Nat.lt_of_lt_of_le (h.lt g hg).2 hb.size⟩, h.off⟩
/-- a row more -/
theorem Rows23.push {n0 : Nat} {w w' : World} {v v' : Value} {L : List (List Nat)} {F : Nat → Value} {Y : Nat → Prop} {A : Option Addr} {n c : Nat} {s : List Nat} (h : Rows23 n0 w v L F Y) (hr : Buf n0 w (.slice A n c) s) (hoff : ∀ g, blk (.slice A n c) g → ¬ blk v g)
    (ho : w'.ownsRow n0 23 1 v' (L.length + 1) (lst F L.length ++ [.slice A n c])) (hor : (w.grownBy w' v.ownBlock ∧ v'.ownBlock = v.ownBlock) ∨ (w.grownBy w' none ∧ ∃ g, v'.ownBlock = some g ∧ w.heap.size ≤ g)) :
    Rows23 n0 w' v' (L ++ [s]) (turn F L.length (.slice A n c)) (With Y (.slice A n c)) := by
  have hc := push_chg hor
  obtain ⟨hn, hA⟩ := buf_at hr
  have hnil : A = none → c = 0 := by
    obtain ⟨A', c', e, _, h2, _⟩ := hr.at
    injection e with e1 e2 e3
    subst e1 e3; exact h2
  have hnew : ∀ g, g < w.heap.size → blk v' g → blk v g := fun g hg hb => by
    rcases push_blk hor hb with x | x
    · exact x
    · omega
  have hl : (L ++ [s]).length = L.length + 1 := by simp
  refine ⟨?_, fun i hi => ?_, fun g hg => ?_, fun g hg hb => ?_⟩
  · rw [hl]
    have : lst (turn F L.length (.slice A n c)) (L.length + 1) = lst F L.length ++ [.slice A n c] := by
      rw [lst_succ, turn_same]
      congr 1
      exact lst_congr fun j hj => turn_other _ _ _ _ (by omega)
    rw [this]; exact ho
  · rw [hl] at hi
    by_cases e : i = L.length
    · subst e
      rw [turn_same]
      have : (L ++ [s]).getD L.length [] = s := by simp [List.getD_eq_getElem?_getD]
      rw [this]
      exact ⟨A, c, by rw [hn], hA.chg hc (fun a ha => hoff _ (by rw [ha]; rfl)), hnil, fun a ha => .inr (by rw [ha]; rfl)⟩
    · rw [turn_other _ _ _ _ e]
      have : (L ++ [s]).getD i [] = L.getD i [] := by rw [List.getD_eq_getElem?_getD, List.getElem?_append_left (by omega), ← List.getD_eq_getElem?_getD]
      rw [this]
      exact ((h.rows i (by omega)).keep hc h.off).mono (fun g hg => .inl hg)
  · rcases hg with hg | hg
    · exact ⟨(h.lt g hg).1, Nat.lt_of_lt_of_le (h.lt g hg).2 hc.size⟩
    · exact ⟨(row_lt hr hg).1, Nat.lt_of_lt_of_le (row_lt hr hg).2 hc.size⟩
  · rcases hg with hg | hg
    · exact h.off g hg (hnew g (h.lt g hg).2 hb)
    · exact hoff g hg (hnew g (row_lt hr hg).2 hb)
/-- a disk is made of rows -/
theorem Rows23.disk {n0 : Nat} {w : World} {A : Option Addr} {c : Nat} {D : Dsk} {F : Nat → Value} {Y : Nat → Prop} (h : Rows23 n0 w (.slice A D.last.length c) D.last F Y) (hn : n0 ≤ w.heap.size) (ok : D.Ok) (hc : D.cache = []) (hd : D.dark = false) (ht : D.trip = -1) (hf : ∀ j, D.f j = -1) (hnn : ∀ j, D.n j = 0) :
    RD n0 (madeWorld w A D.last.length c) (w.heap.size + 1) D (fun g => n0 ≤ g ∧ g < w.heap.size + 2) ∧ Below w.heap.size w (madeWorld w A D.last.length c) := by
  have hb : Below w.heap.size w (madeWorld w A D.last.length c) := below_alloc0 (below_alloc0 (Below.refl _ _) _) _
  have hs : (madeWorld w A D.last.length c).heap.size = w.heap.size + 2 := by unfold madeWorld; simp only [sz_alloc]
  have h1 := h.below hb
  have hp : (madeWorld w A D.last.length c).heap[w.heap.size + 1]? = some (.cells #[.slice A D.last.length c, .slice none 0 0, .bool false, .int .i64 (-1), .slice (some ⟨w.heap.size, 0, none⟩) 4 4, .int .i64 0, .int .i64 0, .int .i64 0] 193 (0, 0)) := by
    unfold madeWorld; simp only [hp_alloc, sz_alloc]; rw [if_pos trivial]
  have hfb : (madeWorld w A D.last.length c).heap[w.heap.size]? = some (.cells #[.int .i64 (-1), .int .i64 (-1), .int .i64 (-1), .int .i64 (-1)] 3 (0, 0)) := by
    unfold madeWorld; simp only [hp_alloc, sz_alloc]; rw [if_neg (by omega), if_pos trivial]
  have hLlt : ∀ x, blk (.slice A D.last.length c) x → x < w.heap.size := fun x hx => (row_lt h.own hx).2
  have hVb : ∀ x, blk (Value.slice (some ⟨w.heap.size, 0, none⟩) 4 4) x → x = w.heap.size := fun x hx => by cases hx; rfl
  have hnb : ∀ x, ¬ blk (Value.slice none 0 0) x := fun x e => by cases e
  have hin : RDiskIn n0 (madeWorld w A D.last.length c) (w.heap.size + 1) D ⟨.slice A D.last.length c, .slice none 0 0, .slice (some ⟨w.heap.size, 0, none⟩) 4 4, F, fun _ => .slice none 0 0⟩ Y := by
    refine ⟨RecAt.of hp ?_, h1.own, h1.rows, by rw [hc]; exact World.ownsRow_nil _ _ _ _, fun i hi => by rw [hc] at hi; simp at hi, ⟨rfl, .inr ⟨w.heap.size, 4, _, rfl, hn, hfb, Nat.le_refl _, by simp only [maxLen]; omega, rfl, ?_⟩⟩, by omega,
      ⟨fun e => by have := hLlt _ e; omega, hnb _, fun e => by have := hVb _ e; omega, fun x hx => ⟨hnb x, fun e => by have := hVb x e; have := hLlt x hx; omega⟩, fun x hx => absurd hx (hnb x)⟩, fun x hx e => ?_, h1.lt⟩
    · simp [lst, rcell, hd, ht, hnn, List.range_succ]
    · simp [fourF, hf]
    · have hlt := (h.lt x hx).2
      rcases e with e | e | e | e
      · omega
      · exact h.off x hx e
      · exact hnb x e
      · have := hVb x e; omega
  refine ⟨⟨ok, ⟨_, Y, hin, fun g hg => ?_⟩, fun g hg => ⟨hg.1, by rw [hs]; exact hg.2⟩⟩, hb⟩
  rcases hg with hg | hg | hg | hg | hg
  · have := h.lt g hg; exact ⟨this.1, by omega⟩
  · exact ⟨by omega, by omega⟩
  · have := row_lt h.own hg; exact ⟨this.1, by omega⟩
  · exact absurd hg (hnb g)
  · have := hVb g hg; exact ⟨by omega, by omega⟩
end Go.Proofs.Ytfbjjblgcgjndaa
