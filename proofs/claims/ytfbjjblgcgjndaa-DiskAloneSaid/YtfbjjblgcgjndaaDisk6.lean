/- Contracts of the disk's Trip, Fail, Dark, Counts. -/
import Derived.Test.YtfbjjblgcgjndaaDisk5
set_option linter.unusedVariables false
set_option linter.unusedSimpArgs false
namespace Go.Proofs.Ytfbjjblgcgjndaa
open Go.RowKit Go.Maps

def Dsk.setTrip (D : Dsk) (n : Int) : Nat × Dsk := if n < 0 then (1, D) else if D.dark then (4, D) else (0, { D with trip := n })
def Dsk.setFail (D : Dsk) (k n : Int) : Nat × Dsk := if (k < 1 ∨ 3 < k) ∨ n < 0 then (1, D) else if D.dark then (4, D) else (0, { D with f := turn D.f k.toNat n })
theorem DiskAt.only {n0 : Nat} {w w' : World} {p : Nat} {D D' : Dsk} {S : Nat → Prop} (h : DiskAt n0 w p D S) (ok : D'.Ok) (h1 : D'.last = D.last) (h2 : D'.cache = D.cache) (hc : Chg (OnlyP p) w w')
    (hr : ∀ L C m, RecAt w p 180 13 (dcell L C m D) → RecAt w' p 180 13 (dcell L C m D')) : DiskAt n0 w' p D' S := by
  obtain ⟨_, q, M, hin, hft⟩ := h
  exact ⟨ok, q, M, hin.turned (hr _ _ _ hin.rcd) hc h1 h2, hft⟩
theorem DiskAt.here {n0 : Nat} {w : World} {p : Nat} {D : Dsk} {S : Nat → Prop} (h : DiskAt n0 w p D S) : S p := by
  obtain ⟨_, q, M, hin, hft⟩ := h
  exact hft p (.inl rfl)
theorem DiskAt.wide {n0 : Nat} {w : World} {p : Nat} {D : Dsk} {S : Nat → Prop} {a b : Nat} (h : DiskAt n0 w p D S) : DiskAt n0 w p D (Wide S a b) := h.mono fun g _ _ hg => .inl hg
theorem chg_p {p : Nat} {S : Nat → Prop} {w w' : World} (h : Chg (OnlyP p) w w') (hp : S p) : Chg S w w' := h.mono fun g _ e => by rw [show g = p from e]; exact hp

set_option maxRecDepth 100000 in
theorem disk_dark (n0 : Nat) (w : World) (p : Nat) (D : Dsk) (S : Nat → Prop) (h : DiskAt n0 w p D S) : Calls Try.prog 54 #[.pointer (some ⟨p, 0, none⟩)] w fun e w' => e = .returned (.bool D.dark) ∧ w = w' := by
  obtain ⟨ok, q, M, hin, hft⟩ := h
  have c3 : w.cell? ⟨p, 3, none⟩ = some (.bool D.dark) := hin.rcd.cell 3 (by omega)
  clear hin hft
  go_enter Try.func54, Try.ntmps54
  go_wp2
  go_ret
  exact ⟨rfl, rfl⟩
set_option maxRecDepth 100000 in
theorem disk_counts (n0 : Nat) (w : World) (p : Nat) (D : Dsk) (S : Nat → Prop) (h : DiskAt n0 w p D S) : Calls Try.prog 56 #[.pointer (some ⟨p, 0, none⟩)] w fun e w' => e = .returned (.agg #[.int .i64 (D.n 1), .int .i64 (D.n 2), .int .i64 (D.n 3)]) ∧ Below w.heap.size w w' := by
  obtain ⟨ok, q, M, hin, hft⟩ := h
  have c1 : w.cell? ⟨p, 10, none⟩ = some (.int .i64 (D.n 1)) := hin.rcd.cell 10 (by omega)
  have c2 : w.cell? ⟨p, 11, none⟩ = some (.int .i64 (D.n 2)) := hin.rcd.cell 11 (by omega)
  have c3 : w.cell? ⟨p, 12, none⟩ = some (.int .i64 (D.n 3)) := hin.rcd.cell 12 (by omega)
  have hlt := hin.rcd.lt
  clear hin hft
  go_enter Try.func56, Try.ntmps56
  go_wp2
  go_region
  go_wp2
  refine bodyPost_ret (v := .agg #[.int .i64 (D.n 1), .int .i64 (D.n 2), .int .i64 (D.n 3)]) (by simp [results, Try.results56, go_sem]) rfl ⟨rfl, ?_⟩
  exact below_drew0 (below_alloc0 (Below.refl _ _) _)
set_option maxRecDepth 100000 in
theorem disk_trip (n0 : Nat) (w : World) (p : Nat) (D : Dsk) (S : Nat → Prop) (n : Int) (h : DiskAt n0 w p D S) (hn : n ≤ 9223372036854775807) : Calls Try.prog 53 #[.pointer (some ⟨p, 0, none⟩), .int .i64 n] w (DiskGives n0 w p S (D.setTrip n).1 (D.setTrip n).2) := by
  have hh := h
  obtain ⟨ok, q, M, hin, hft⟩ := h
  have c3 : w.cell? ⟨p, 3, none⟩ = some (.bool D.dark) := hin.rcd.cell 3 (by omega)
  have c4 : w.cell? ⟨p, 4, none⟩ = some (.int .i64 D.trip) := hin.rcd.cell 4 (by omega)
  have f4 := hin.rcd.frozen 4
  unfold DiskGives Dsk.setTrip
  clear hin hft
  by_cases h1 : n < 0
  · rw [if_pos h1]
    have HH := Lib.hid hh
    clear hh
    go_enter Try.func53, Try.ntmps53
    go_wp2
    go_ret
    exact ⟨rfl, HH.out.wide, Chg.refl _ _⟩
  · rw [if_neg h1]
    by_cases h2 : D.dark = true
    · rw [if_pos h2]
      rw [h2] at c3
      have HH := Lib.hid hh
      clear hh h2
      go_enter Try.func53, Try.ntmps53
      go_wp2
      go_ret
      exact ⟨rfl, HH.out.wide, Chg.refl _ _⟩
    · rw [if_neg h2]
      have h3 : D.dark = false := by simpa using h2
      rw [h3] at c3
      have hfin := hh.only (D' := { D with trip := n }) (w' := w.setCell ⟨p, 4, none⟩ (.int .i64 n)) ⟨ok.last, ok.cache, ok.pages, ⟨by simp only; omega, hn⟩, ok.f, ok.n⟩ rfl rfl (one_chg w p 4 _) (fun L C m hr => rec_trip hr n)
      have HF := Lib.hid hfin
      have HP := Lib.hid hh.here
      clear hh hfin h2 h3
      go_enter Try.func53, Try.ntmps53
      go_wp2
      go_ret
      exact ⟨rfl, HF.out.wide, chg_p (one_chg w p 4 _) HP.out⟩
theorem rec_f {L C : Value} {m p : Nat} {D : Dsk} {w : World} (h : RecAt w p 180 13 (dcell L C m D)) (n : Int) : RecAt (w.setCell ⟨p, 6, none⟩ (.int .i64 n)) p 180 13 (dcell L C m { D with f := turn D.f 1 n }) ∧ RecAt (w.setCell ⟨p, 7, none⟩ (.int .i64 n)) p 180 13 (dcell L C m { D with f := turn D.f 2 n }) ∧ RecAt (w.setCell ⟨p, 8, none⟩ (.int .i64 n)) p 180 13 (dcell L C m { D with f := turn D.f 3 n }) :=
  ⟨(h.set 6 _).congr (all13 rfl rfl rfl rfl rfl rfl rfl rfl rfl rfl rfl rfl rfl), (h.set 7 _).congr (all13 rfl rfl rfl rfl rfl rfl rfl rfl rfl rfl rfl rfl rfl), (h.set 8 _).congr (all13 rfl rfl rfl rfl rfl rfl rfl rfl rfl rfl rfl rfl rfl)⟩
set_option maxRecDepth 100000 in
set_option maxHeartbeats 1000000 in
theorem disk_fail (n0 : Nat) (w : World) (p : Nat) (D : Dsk) (S : Nat → Prop) (k n : Int) (h : DiskAt n0 w p D S) (hn : n ≤ 9223372036854775807) : Calls Try.prog 58 #[.pointer (some ⟨p, 0, none⟩), .int .i64 k, .int .i64 n] w (DiskGives n0 w p S (D.setFail k n).1 (D.setFail k n).2) := by
  have hh := h
  obtain ⟨ok, q, M, hin, hft⟩ := h
  have c3 : w.cell? ⟨p, 3, none⟩ = some (.bool D.dark) := hin.rcd.cell 3 (by omega)
  have c6 : w.cell? ⟨p, 6, none⟩ = some (.int .i64 (D.f 1)) := hin.rcd.cell 6 (by omega)
  have c7 : w.cell? ⟨p, 7, none⟩ = some (.int .i64 (D.f 2)) := hin.rcd.cell 7 (by omega)
  have c8 : w.cell? ⟨p, 8, none⟩ = some (.int .i64 (D.f 3)) := hin.rcd.cell 8 (by omega)
  have f6 := hin.rcd.frozen 6
  have f7 := hin.rcd.frozen 7
  have f8 := hin.rcd.frozen 8
  unfold DiskGives Dsk.setFail
  clear hin hft
  by_cases h1 : (k < 1 ∨ 3 < k) ∨ n < 0
  · rw [if_pos h1]
    have HH := Lib.hid hh
    clear hh
    rcases (show k < 1 ∨ (¬ k < 1 ∧ 3 < k) ∨ (¬ k < 1 ∧ ¬ 3 < k ∧ n < 0) by omega) with a | ⟨a, b⟩ | ⟨a, b, c⟩
    all_goals
      clear h1
      go_enter Try.func58, Try.ntmps58
      go_wp2
      go_ret
      exact ⟨rfl, HH.out.wide, Chg.refl _ _⟩
  · rw [if_neg h1]
    have hk : k = 1 ∨ k = 2 ∨ k = 3 := by omega
    have hnn : ¬ n < 0 := by omega
    clear h1
    by_cases h2 : D.dark = true
    · rw [if_pos h2]
      rw [h2] at c3
      have HH := Lib.hid hh
      clear hh h2
      rcases hk with rfl | rfl | rfl
      all_goals
        go_enter Try.func58, Try.ntmps58
        go_wp2
        go_ret
        exact ⟨rfl, HH.out.wide, Chg.refl _ _⟩
    · rw [if_neg h2]
      have h3 : D.dark = false := by simpa using h2
      rw [h3] at c3
      have HP := Lib.hid hh.here
      have HH := Lib.hid hh
      have OK := Lib.hid ok
      clear hh h2 h3 ok
      rcases hk with rfl | rfl | rfl
      all_goals
        go_enter Try.func58, Try.ntmps58
        go_wp2
        go_ret
      · exact ⟨rfl, (HH.out.only (D' := { D with f := turn D.f 1 n }) ⟨OK.out.last, OK.out.cache, OK.out.pages, OK.out.trip, D.turn_f OK.out 1 n (by omega) hn, OK.out.n⟩ rfl rfl (one_chg w p 6 _) (fun L C m hr => (rec_f hr n).1)).wide, chg_p (one_chg w p 6 _) HP.out⟩
      · exact ⟨rfl, (HH.out.only (D' := { D with f := turn D.f 2 n }) ⟨OK.out.last, OK.out.cache, OK.out.pages, OK.out.trip, D.turn_f OK.out 2 n (by omega) hn, OK.out.n⟩ rfl rfl (one_chg w p 7 _) (fun L C m hr => (rec_f hr n).2.1)).wide, chg_p (one_chg w p 7 _) HP.out⟩
      · exact ⟨rfl, (HH.out.only (D' := { D with f := turn D.f 3 n }) ⟨OK.out.last, OK.out.cache, OK.out.pages, OK.out.trip, D.turn_f OK.out 3 n (by omega) hn, OK.out.n⟩ rfl rfl (one_chg w p 8 _) (fun L C m hr => (rec_f hr n).2.2)).wide, chg_p (one_chg w p 8 _) HP.out⟩
end Go.Proofs.Ytfbjjblgcgjndaa
