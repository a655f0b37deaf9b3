/- Joined texts: RDisk1, RDisk2, RDisk3, RDisk4, RDisk5, RDisk6, RDisk7, Grid, RDisk9, Over3, Over4. -/
import Derived.Maps.AppendAt
import Derived.Test.YtfbjjblgcgjndaaPb4
import Derived.Test.YtfbjjblgcgjndaaPb5
import Derived.Test.YtfbjjblgcgjndaaPb6
set_option linter.unusedVariables false
set_option linter.unusedSimpArgs false

/- The reference's disk in memory, over the same plain disk. -/
namespace Go.Proofs.Ytfbjjblgcgjndaa
open Go.RowKit

/-- the reference disk's own cells -/
def rcell (L C V : Value) (D : Dsk) : Nat → Value
  | 0 => L
  | 1 => C
  | 2 => .bool D.dark
  | 3 => .int .i64 D.trip
  | 4 => V
  | 5 => .int .i64 (D.n 1)
  | 6 => .int .i64 (D.n 2)
  | 7 => .int .i64 (D.n 3)
  | _ => undef
/-- its four faults -/
def fourF (D : Dsk) : List Value := [.int .i64 (D.f 0), .int .i64 (D.f 1), .int .i64 (D.f 2), .int .i64 (D.f 3)]
/-- a value that is a slice of these bytes, its block among Y -/
def RowIn (w : World) (Y : Nat → Prop) (v : Value) (s : List Nat) : Prop := ∃ A c, v = .slice A s.length c ∧ At w A (ns .u8 s) ∧ (A = none → c = 0) ∧ ∀ a, A = some a → Y a.block
theorem RowIn.keep {w w' : World} {Y G : Nat → Prop} {v : Value} {s : List Nat} (h : RowIn w Y v s) (hc : Chg G w w') (hG : ∀ g, Y g → ¬ G g) : RowIn w' Y v s := by
  obtain ⟨A, c, h1, h2, h3, h4⟩ := h
  exact ⟨A, c, h1, h2.chg hc (fun a ha => hG _ (h4 a ha)), h3, h4⟩
theorem RowIn.mono {w : World} {Y Y' : Nat → Prop} {v : Value} {s : List Nat} (h : RowIn w Y v s) (hY : ∀ g, Y g → Y' g) : RowIn w Y' v s := by
  obtain ⟨A, c, h1, h2, h3, h4⟩ := h
  exact ⟨A, c, h1, h2, h3, fun a ha => hY _ (h4 a ha)⟩
/-- the cells of a write in the cache -/
def rwcell (x : Nat × Value) : List Value := [.int .i64 (x.1 : Int), x.2]
structure RParts where
  L : Value
  C : Value
  V : Value
  F : Nat → Value
  G : Nat → Value
/-- the cache's cells: where, and a slice -/
def ccells (c : List (Nat × List Nat)) (G : Nat → Value) : List Value := (List.range c.length).flatMap fun i => [.int .i64 (((c.getD i (0, [])).1 : Nat) : Int), G i]
/-- the containers' blocks -/
def RParts.box (p : Nat) (q : RParts) (g : Nat) : Prop := g = p ∨ blk q.L g ∨ blk q.C g ∨ blk q.V g
structure RDiskIn (n0 : Nat) (w : World) (p : Nat) (D : Dsk) (q : RParts) (Y : Nat → Prop) : Prop where
  rcd : RecAt w p 193 8 (rcell q.L q.C q.V D)
  last : w.ownsRow n0 23 1 q.L D.last.length (lst q.F D.last.length)
  rows : ∀ i, i < D.last.length → RowIn w Y (q.F i) (D.last.getD i [])
  cache : w.ownsRow n0 271 2 q.C D.cache.length (ccells D.cache q.G)
  crows : ∀ i, i < D.cache.length → RowIn w Y (q.G i) (D.cache.getD i (0, [])).2
  faults : w.ownsRow n0 3 1 q.V 4 (fourF D)
  base : n0 ≤ p
  sep : ¬ blk q.L p ∧ ¬ blk q.C p ∧ ¬ blk q.V p ∧ (∀ g, blk q.L g → ¬ blk q.C g ∧ ¬ blk q.V g) ∧ ∀ g, blk q.C g → ¬ blk q.V g
  apart : ∀ g, Y g → ¬ q.box p g
  lt : ∀ g, Y g → n0 ≤ g ∧ g < w.heap.size
/-- the reference's disk at p; all its blocks are S -/
def RD (n0 : Nat) (w : World) (p : Nat) (D : Dsk) (S : Nat → Prop) : Prop := D.Ok ∧ (∃ q Y, RDiskIn n0 w p D q Y ∧ (∀ g, Y g ∨ q.box p g → S g)) ∧ ∀ g, S g → n0 ≤ g ∧ g < w.heap.size
theorem RDiskIn.keep {n0 : Nat} {w w' : World} {p : Nat} {D : Dsk} {q : RParts} {Y G : Nat → Prop} (h : RDiskIn n0 w p D q Y) (hc : Chg G w w') (hG : ∀ g, Y g ∨ q.box p g → ¬ G g) : RDiskIn n0 w' p D q Y :=
  ⟨h.rcd.keep hc (hG p (.inr (.inl rfl))), own_chg h.last hc (fun g hg => hG g (.inr (.inr (.inl hg)))), fun i hi => (h.rows i hi).keep hc (fun g hg => hG g (.inl hg)), own_chg h.cache hc (fun g hg => hG g (.inr (.inr (.inr (.inl hg))))),
    fun i hi => (h.crows i hi).keep hc (fun g hg => hG g (.inl hg)), own_chg h.faults hc (fun g hg => hG g (.inr (.inr (.inr (.inr hg))))), h.base, h.sep, h.apart, fun g hg => ⟨(h.lt g hg).1, Nat.lt_of_lt_of_le (h.lt g hg).2 hc.size⟩⟩
theorem RD.keep {n0 : Nat} {w w' : World} {p : Nat} {D : Dsk} {S G : Nat → Prop} (h : RD n0 w p D S) (hc : Chg G w w') (hG : ∀ g, S g → ¬ G g) : RD n0 w' p D S := by
  obtain ⟨ok, ⟨q, Y, h1, h2⟩, h3⟩ := h
  exact ⟨ok, ⟨q, Y, h1.keep hc (fun g hg => hG g (h2 g hg)), h2⟩, fun g hg => ⟨(h3 g hg).1, Nat.lt_of_lt_of_le (h3 g hg).2 hc.size⟩⟩
theorem RD.below {n0 : Nat} {w w' : World} {p : Nat} {D : Dsk} {S : Nat → Prop} (h : RD n0 w p D S) (hb : Below w.heap.size w w') : RD n0 w' p D S :=
  h.keep (G := fun _ => False) (.of_below hb) (fun _ _ h => h)
theorem RD.top {n0 : Nat} {w : World} {p : Nat} {D : Dsk} {S : Nat → Prop} (h : RD n0 w p D S) : ∀ g, S g → g < w.heap.size := fun g hg => (h.2.2 g hg).2
theorem all8 {F F' : Nat → Value} (h0 : F 0 = F' 0) (h1 : F 1 = F' 1) (h2 : F 2 = F' 2) (h3 : F 3 = F' 3) (h4 : F 4 = F' 4) (h5 : F 5 = F' 5) (h6 : F 6 = F' 6) (h7 : F 7 = F' 7) : ∀ i, i < 8 → F i = F' i := fun i hi => by
  match i, hi with
  | 0, _ => exact h0
  | 1, _ => exact h1
  | 2, _ => exact h2
  | 3, _ => exact h3
  | 4, _ => exact h4
  | 5, _ => exact h5
  | 6, _ => exact h6
  | 7, _ => exact h7
/-- the record alone is written: the sectors and the cache stay -/
theorem RDiskIn.turned {n0 : Nat} {w w' : World} {p : Nat} {D D' : Dsk} {q : RParts} {Y : Nat → Prop} (h : RDiskIn n0 w p D q Y) (hr : RecAt w' p 193 8 (rcell q.L q.C q.V D')) (hf : w'.ownsRow n0 3 1 q.V 4 (fourF D')) (hc : Chg (fun g => g = p ∨ blk q.V g) w w') (h1 : D'.last = D.last) (h2 : D'.cache = D.cache) : RDiskIn n0 w' p D' q Y := by
  obtain ⟨s1, s2, s3, s4, s5⟩ := h.sep
  have hY : ∀ g, Y g → ¬ (g = p ∨ blk q.V g) := fun g hg e => h.apart g hg (e.elim .inl (fun e => .inr (.inr (.inr e))))
  refine ⟨hr, ?_, ?_, ?_, ?_, hf, h.base, h.sep, h.apart, fun g hg => ⟨(h.lt g hg).1, Nat.lt_of_lt_of_le (h.lt g hg).2 hc.size⟩⟩
  · rw [h1]; exact own_chg h.last hc (fun g hg e => e.elim (fun e => s1 (e ▸ hg)) (fun e => (s4 g hg).2 e))
  · rw [h1]; exact fun i hi => (h.rows i hi).keep hc hY
  · rw [h2]; exact own_chg h.cache hc (fun g hg e => e.elim (fun e => s2 (e ▸ hg)) (fun e => s5 g hg e))
  · rw [h2]; exact fun i hi => (h.crows i hi).keep hc hY
theorem RD.rcd_cell {n0 : Nat} {w : World} {p : Nat} {D : Dsk} {q : RParts} {Y : Nat → Prop} (h : RDiskIn n0 w p D q Y) (i : Nat) (hi : i < 8) : w.cell? ⟨p, i, none⟩ = some (rcell q.L q.C q.V D i) := h.rcd.cell i hi
set_option maxRecDepth 100000 in
theorem rpages_any {n0 : Nat} {w : World} {p : Nat} {D : Dsk} {S : Nat → Prop} (h : RD n0 w p D S) : Calls Try.prog 130 #[.pointer (some ⟨p, 0, none⟩)] w fun e w' => e = .returned (.int .i64 (D.pages : Int)) ∧ w = w' := by
  obtain ⟨ok, ⟨q, Y, hin, _⟩, _⟩ := h
  obtain ⟨A, c, e, _⟩ := At.own hin.last
  have c0 : w.cell? ⟨p, 0, none⟩ = some (.slice A D.last.length c) := by rw [← e]; exact hin.rcd.cell 0 (by omega)
  have hl : D.last.length ≤ 131072 := by obtain ⟨k, h1, h2, h3⟩ := ok.pages; omega
  unfold Dsk.pages
  clear hin e ok
  go_enter Try.func130, Try.ntmps130
  go_wp2
  go_ret
  exact ⟨by congr 2, rfl⟩
end Go.Proofs.Ytfbjjblgcgjndaa

/- Contracts of the reference disk's begins, Trip and Fail. -/
namespace Go.Proofs.Ytfbjjblgcgjndaa
open Go.RowKit

def PV (p : Nat) (q : RParts) (g : Nat) : Prop := g = p ∨ blk q.V g
section
variable {n0 : Nat} {w : World} {p : Nat} {D : Dsk} {q : RParts} {Y : Nat → Prop}
theorem chg_pv (w : World) (i : Nat) (x : Value) : Chg (PV p q) w (w.setCell ⟨p, i, none⟩ x) := (setCell_chg w p i x).mono (fun _ _ h => .inl h)
theorem RDiskIn.f_keep (h : RDiskIn n0 w p D q Y) (i : Nat) (x : Value) {D' : Dsk} (hf : D'.f = D.f) : (w.setCell ⟨p, i, none⟩ x).ownsRow n0 3 1 q.V 4 (fourF D') := by
  have := own_chg h.faults (setCell_chg w p i x) (fun g hg e => h.sep.2.2.1 (by rw [← show g = p from e]; exact hg))
  rw [show fourF D' = fourF D by unfold fourF; rw [hf]]
  exact this
theorem RDiskIn.inTrip (h : RDiskIn n0 w p D q Y) (x : Int) : RDiskIn n0 (w.setCell ⟨p, 3, none⟩ (.int .i64 x)) p { D with trip := x } q Y :=
  h.turned ((h.rcd.set 3 _).congr (all8 rfl rfl rfl rfl rfl rfl rfl rfl)) (h.f_keep 3 _ rfl) (chg_pv w 3 _) rfl rfl
theorem RDiskIn.inDark (h : RDiskIn n0 w p D q Y) (x : Bool) : RDiskIn n0 (w.setCell ⟨p, 2, none⟩ (.bool x)) p { D with dark := x } q Y :=
  h.turned ((h.rcd.set 2 _).congr (all8 rfl rfl rfl rfl rfl rfl rfl rfl)) (h.f_keep 2 _ rfl) (chg_pv w 2 _) rfl rfl
theorem RDiskIn.inN1 (h : RDiskIn n0 w p D q Y) (x : Int) : RDiskIn n0 (w.setCell ⟨p, 5, none⟩ (.int .i64 x)) p { D with n := turn D.n 1 x } q Y :=
  h.turned ((h.rcd.set 5 _).congr (all8 rfl rfl rfl rfl rfl rfl rfl rfl)) (h.f_keep 5 _ rfl) (chg_pv w 5 _) rfl rfl
theorem RDiskIn.inN2 (h : RDiskIn n0 w p D q Y) (x : Int) : RDiskIn n0 (w.setCell ⟨p, 6, none⟩ (.int .i64 x)) p { D with n := turn D.n 2 x } q Y :=
  h.turned ((h.rcd.set 6 _).congr (all8 rfl rfl rfl rfl rfl rfl rfl rfl)) (h.f_keep 6 _ rfl) (chg_pv w 6 _) rfl rfl
theorem RDiskIn.inN3 (h : RDiskIn n0 w p D q Y) (x : Int) : RDiskIn n0 (w.setCell ⟨p, 7, none⟩ (.int .i64 x)) p { D with n := turn D.n 3 x } q Y :=
  h.turned ((h.rcd.set 7 _).congr (all8 rfl rfl rfl rfl rfl rfl rfl rfl)) (h.f_keep 7 _ rfl) (chg_pv w 7 _) rfl rfl
theorem RDiskIn.inF (h : RDiskIn n0 w p D q Y) {g cap : Nat} (hV : q.V = .slice (some ⟨g, 0, none⟩) 4 cap) (k : Nat) (hk : k < 4) (x : Int) : RDiskIn n0 (w.setCell ⟨g, k, none⟩ (.int .i64 x)) p { D with f := turn D.f k x } q Y ∧ Chg (PV p q) w (w.setCell ⟨g, k, none⟩ (.int .i64 x)) := by
  have hgp : g ≠ p := fun e => h.sep.2.2.1 (by rw [hV, e]; rfl)
  have hch : Chg (PV p q) w (w.setCell ⟨g, k, none⟩ (.int .i64 x)) := (setCell_chg w g k _).mono (fun j _ e => .inr (by rw [show j = g from e, hV]; rfl))
  refine ⟨h.turned (h.rcd.keep (setCell_chg w g k _) (fun e => hgp (show p = g from e).symm)) ?_ hch rfl rfl, hch⟩
  have h1 := h.faults
  rw [hV] at h1 ⊢
  have h2 := (h1.stored k (.int .i64 x)).1
  have : (fourF D).set k (.int .i64 x) = fourF { D with f := turn D.f k x } := by
    match k, hk with
    | 0, _ => rfl
    | 1, _ => rfl
    | 2, _ => rfl
    | 3, _ => rfl
  rw [this] at h2
  exact h2
theorem RDiskIn.fcell (h : RDiskIn n0 w p D q Y) : ∃ g cap, q.V = .slice (some ⟨g, 0, none⟩) 4 cap ∧ g ≠ p ∧ (∀ k, k < 4 → w.cell? ⟨g, k, none⟩ = (fourF D)[k]?) ∧ ∀ k, w.frozen? ⟨g, k, none⟩ = false := by
  obtain ⟨g, cap, hV, _, _, _, _⟩ := own_form h.faults (by omega)
  have h1 := h.faults
  have hgp : g ≠ p := fun e => h.sep.2.2.1 (by rw [hV, e]; rfl)
  rw [hV] at h1
  refine ⟨g, cap, hV, hgp, fun k hk => ?_, fun k => ?_⟩
  · rw [h1.cellAt k (by omega)]
  · rcases h1.2 with ⟨e, _⟩ | ⟨g', cap', cur, e, _, hh, _⟩
    · cases e
    · cases e
      exact frozen_of_row w g k cur 3 hh
theorem RDiskIn.done {S : Nat → Prop} {w' : World} {D' : Dsk} (h : RD n0 w p D S) (hS : ∀ g, Y g ∨ q.box p g → S g) (ok : D'.Ok) (h' : RDiskIn n0 w' p D' q Y) (hc : Chg (PV p q) w w') : RD n0 w' p D' S ∧ Chg S w w' :=
  ⟨⟨ok, ⟨q, Y, h', hS⟩, fun g hg => ⟨(h.2.2 g hg).1, Nat.lt_of_lt_of_le (h.2.2 g hg).2 hc.size⟩⟩, hc.mono (fun g _ e => hS g (.inr (e.elim .inl (fun e => .inr (.inr (.inr e))))))⟩
end
theorem turn_self {α : Type} (f : Nat → α) (i : Nat) : turn f i (f i) = f := by
  funext j; unfold turn; split
  · rename_i e; rw [e]
  · rfl
/-- what a call on the reference's disk leaves -/
def RGives (n0 : Nat) (w : World) (p : Nat) (S : Nat → Prop) (x : Nat) (D' : Dsk) (e : Ending) (w' : World) : Prop := e = .returned (.int .u16 (x : Nat)) ∧ RD n0 w' p D' S ∧ Chg S w w'
set_option maxRecDepth 100000 in
set_option maxHeartbeats 4000000 in
theorem rtrip_any {n0 : Nat} {w : World} {p : Nat} {D : Dsk} {S : Nat → Prop} (h : RD n0 w p D S) (n : Int) (hn : n ≤ 9223372036854775807) : Calls Try.prog 161 #[.pointer (some ⟨p, 0, none⟩), .int .i64 n] w (RGives n0 w p S (D.setTrip n).1 (D.setTrip n).2) := by
  have HH := Lib.hid h
  obtain ⟨ok, ⟨q, Y, hin, hS⟩, _⟩ := h
  have c2 : w.cell? ⟨p, 2, none⟩ = some (.bool D.dark) := hin.rcd.cell 2 (by omega)
  have c3 : w.cell? ⟨p, 3, none⟩ = some (.int .i64 D.trip) := hin.rcd.cell 3 (by omega)
  have f3 := hin.rcd.frozen 3
  have HIN := Lib.hid hin
  have HS := Lib.hid hS
  have OK := Lib.hid ok
  unfold Dsk.setTrip RGives
  clear hin hS ok
  by_cases h1 : n < 0
  · rw [if_pos h1]
    go_enter Try.func161, Try.ntmps161
    go_wp2
    go_ret
    exact ⟨rfl, HH.out, Chg.refl _ _⟩
  · rw [if_neg h1]
    by_cases h2 : D.dark = true
    · rw [if_pos h2]
      rw [h2] at c2
      clear h2
      go_enter Try.func161, Try.ntmps161
      go_wp2
      go_ret
      exact ⟨rfl, HH.out, Chg.refl _ _⟩
    · rw [if_neg h2]
      rw [show D.dark = false by simpa using h2] at c2
      clear h2
      go_enter Try.func161, Try.ntmps161
      go_wp2
      go_ret
      exact ⟨rfl, RDiskIn.done (D' := { D with trip := n }) HH.out HS.out ⟨OK.out.last, OK.out.cache, OK.out.pages, ⟨by simp only; omega, hn⟩, OK.out.f, OK.out.n⟩ (HIN.out.inTrip n) (chg_pv w 3 _)⟩
set_option maxRecDepth 100000 in
set_option maxHeartbeats 4000000 in
theorem rfail_any {n0 : Nat} {w : World} {p : Nat} {D : Dsk} {S : Nat → Prop} (h : RD n0 w p D S) (k n : Int) (hn : n ≤ 9223372036854775807) : Calls Try.prog 162 #[.pointer (some ⟨p, 0, none⟩), .int .i64 k, .int .i64 n] w (RGives n0 w p S (D.setFail k n).1 (D.setFail k n).2) := by
  have HH := Lib.hid h
  obtain ⟨ok, ⟨q, Y, hin, hS⟩, _⟩ := h
  have c2 : w.cell? ⟨p, 2, none⟩ = some (.bool D.dark) := hin.rcd.cell 2 (by omega)
  have c4 : w.cell? ⟨p, 4, none⟩ = some q.V := hin.rcd.cell 4 (by omega)
  obtain ⟨g, cap, hV, hgp, hfc, hff⟩ := hin.fcell
  rw [hV] at c4
  have g1 : w.cell? ⟨g, 1, none⟩ = some (.int .i64 (D.f 1)) := hfc 1 (by omega)
  have g2 : w.cell? ⟨g, 2, none⟩ = some (.int .i64 (D.f 2)) := hfc 2 (by omega)
  have g3 : w.cell? ⟨g, 3, none⟩ = some (.int .i64 (D.f 3)) := hfc 3 (by omega)
  have f1 := hff 1
  have f2 := hff 2
  have f3 := hff 3
  have HIN := Lib.hid hin
  have HS := Lib.hid hS
  have OK := Lib.hid ok
  have HV := Lib.hid hV
  unfold Dsk.setFail RGives
  clear hin hS ok hV hfc hff
  by_cases h1 : (k < 1 ∨ 3 < k) ∨ n < 0
  · rw [if_pos h1]
    rcases (show k < 1 ∨ (¬ k < 1 ∧ 3 < k) ∨ (¬ k < 1 ∧ ¬ 3 < k ∧ n < 0) by omega) with a | ⟨a, b⟩ | ⟨a, b, c⟩
    all_goals
      clear h1
      go_enter Try.func162, Try.ntmps162
      go_wp2
      go_ret
      exact ⟨rfl, HH.out, Chg.refl _ _⟩
  · rw [if_neg h1]
    have hk : k = 1 ∨ k = 2 ∨ k = 3 := by omega
    have hnn : ¬ n < 0 := by omega
    clear h1
    by_cases h2 : D.dark = true
    · rw [if_pos h2]
      rw [h2] at c2
      clear h2
      rcases hk with rfl | rfl | rfl
      all_goals
        go_enter Try.func162, Try.ntmps162
        go_wp2
        go_ret
        exact ⟨rfl, HH.out, Chg.refl _ _⟩
    · rw [if_neg h2]
      rw [show D.dark = false by simpa using h2] at c2
      clear h2
      rcases hk with rfl | rfl | rfl
      all_goals
        go_enter Try.func162, Try.ntmps162
        go_wp2
        go_ret
      · exact ⟨rfl, RDiskIn.done (D' := { D with f := turn D.f 1 n }) HH.out HS.out ⟨OK.out.last, OK.out.cache, OK.out.pages, OK.out.trip, D.turn_f OK.out 1 n (by omega) hn, OK.out.n⟩ (HIN.out.inF HV.out 1 (by omega) n).1 (HIN.out.inF HV.out 1 (by omega) n).2⟩
      · exact ⟨rfl, RDiskIn.done (D' := { D with f := turn D.f 2 n }) HH.out HS.out ⟨OK.out.last, OK.out.cache, OK.out.pages, OK.out.trip, D.turn_f OK.out 2 n (by omega) hn, OK.out.n⟩ (HIN.out.inF HV.out 2 (by omega) n).1 (HIN.out.inF HV.out 2 (by omega) n).2⟩
      · exact ⟨rfl, RDiskIn.done (D' := { D with f := turn D.f 3 n }) HH.out HS.out ⟨OK.out.last, OK.out.cache, OK.out.pages, OK.out.trip, D.turn_f OK.out 3 n (by omega) hn, OK.out.n⟩ (HIN.out.inF HV.out 3 (by omega) n).1 (HIN.out.inF HV.out 3 (by omega) n).2⟩
end Go.Proofs.Ytfbjjblgcgjndaa

/- Contract of the reference disk's begins. -/
namespace Go.Proofs.Ytfbjjblgcgjndaa
open Go.RowKit

set_option maxRecDepth 100000 in
set_option maxHeartbeats 8000000 in
theorem rbegin1 {n0 : Nat} {w : World} {p : Nat} {D : Dsk} {S : Nat → Prop} (h : RD n0 w p D S) (hn : D.n 1 ≤ 4611686018427387904) : Calls Try.prog 168 #[.pointer (some ⟨p, 0, none⟩), .int .i64 1] w (RGives n0 w p S (D.begin 1).1 (D.begin 1).2) := by
  have HH := Lib.hid h
  have OKB := Lib.hid (D.begin_ok h.1 1)
  obtain ⟨ok, ⟨q, Y, hin, hS⟩, _⟩ := h
  have c2 : w.cell? ⟨p, 2, none⟩ = some (.bool D.dark) := hin.rcd.cell 2 (by omega)
  have c3 : w.cell? ⟨p, 3, none⟩ = some (.int .i64 D.trip) := hin.rcd.cell 3 (by omega)
  have c4 : w.cell? ⟨p, 4, none⟩ = some q.V := hin.rcd.cell 4 (by omega)
  have cn : w.cell? ⟨p, 5, none⟩ = some (.int .i64 (D.n 1)) := hin.rcd.cell 5 (by omega)
  have e2 := hin.rcd.frozen 2
  have e3 := hin.rcd.frozen 3
  have en := hin.rcd.frozen 5
  obtain ⟨g, cap, hV, hgp, hfc, hff⟩ := hin.fcell
  rw [hV] at c4
  have g1 : w.cell? ⟨g, 1, none⟩ = some (.int .i64 (D.f 1)) := hfc 1 (by omega)
  have f1 := hff 1
  have hgp' : p ≠ g := Ne.symm hgp
  obtain ⟨t1, t2⟩ := ok.trip
  obtain ⟨u1, u2⟩ := ok.f 1
  have n1 := ok.n 1
  have HIN := Lib.hid hin
  have HS := Lib.hid hS
  have HV := Lib.hid hV
  unfold RGives
  unfold Dsk.begin at OKB ⊢
  clear hin hS hV hfc hff ok
  by_cases h1 : D.dark = true
  · rw [if_pos h1]
    rw [h1] at c2
    clear h1
    go_enter Try.func168, Try.ntmps168
    go_wp2
    go_ret
    exact ⟨rfl, HH.out, Chg.refl _ _⟩
  · rw [if_neg h1] at OKB ⊢
    rw [show D.dark = false by simpa using h1] at c2
    clear h1
    by_cases h2 : D.trip = 0
    · rw [if_pos h2] at OKB ⊢
      rw [h2] at c3
      clear h2
      go_enter Try.func168, Try.ntmps168
      go_wp2
      go_ret
      exact ⟨rfl, RDiskIn.done (D' := D.off) HH.out HS.out OKB.out ((HIN.out.inDark true).inTrip (-1)) ((chg_pv w 2 _).trans (chg_pv _ 3 _) (fun _ _ h => h))⟩
    · rw [if_neg h2] at OKB ⊢
      have i2 : ¬ D.trip = 0 := h2
      clear h2
      by_cases h3 : D.f 1 = 0
      · rw [if_pos h3] at OKB ⊢
        rw [h3] at g1
        clear h3
        rcases (show 0 < D.trip ∨ D.trip < 0 by omega) with h4 | h4
        · have hD : D.fall 1 = { D with trip := D.trip - 1, n := turn D.n 1 (D.n 1 + 1), f := turn D.f 1 (-1) } := by unfold Dsk.fall; rw [dec1_pos h4]
          have HD := Lib.hid hD
          clear hD
          go_enter Try.func168, Try.ntmps168
          go_wp2
          go_ret
          refine ⟨rfl, RDiskIn.done HH.out HS.out OKB.out (q := q) (Y := Y) ?_ ?_⟩
          · rw [HD.out]; exact (((HIN.out.inTrip _).inN1 _).inF HV.out 1 (by omega) _).1
          · exact ((chg_pv w 3 _).trans (chg_pv _ 5 _) (fun _ _ h => h)).trans (((HIN.out.inTrip _).inN1 _).inF HV.out 1 (by omega) _).2 (fun _ _ h => h)
        · have hD : D.fall 1 = { D with n := turn D.n 1 (D.n 1 + 1), f := turn D.f 1 (-1) } := by unfold Dsk.fall; rw [dec1_neg (by omega)]
          have HD := Lib.hid hD
          clear hD
          go_enter Try.func168, Try.ntmps168
          go_wp2
          go_ret
          refine ⟨rfl, RDiskIn.done HH.out HS.out OKB.out (q := q) (Y := Y) ?_ ?_⟩
          · rw [HD.out]; exact ((HIN.out.inN1 _).inF HV.out 1 (by omega) _).1
          · exact (chg_pv w 5 _).trans ((HIN.out.inN1 _).inF HV.out 1 (by omega) _).2 (fun _ _ h => h)
      · rw [if_neg h3] at OKB ⊢
        have i3 : ¬ D.f 1 = 0 := h3
        clear h3
        rcases (show 0 < D.trip ∨ D.trip < 0 by omega) with h4 | h4
        all_goals rcases (show 0 < D.f 1 ∨ D.f 1 < 0 by omega) with h5 | h5
        · have hD : D.go 1 = { D with trip := D.trip - 1, n := turn D.n 1 (D.n 1 + 1), f := turn D.f 1 (D.f 1 - 1) } := by unfold Dsk.go; rw [dec1_pos h4, dec1_pos h5]
          have HD := Lib.hid hD
          clear hD
          go_enter Try.func168, Try.ntmps168
          go_wp2
          go_ret
          refine ⟨rfl, RDiskIn.done HH.out HS.out OKB.out (q := q) (Y := Y) ?_ ?_⟩
          · rw [HD.out]; exact (((HIN.out.inTrip _).inN1 _).inF HV.out 1 (by omega) _).1
          · exact ((chg_pv w 3 _).trans (chg_pv _ 5 _) (fun _ _ h => h)).trans (((HIN.out.inTrip _).inN1 _).inF HV.out 1 (by omega) _).2 (fun _ _ h => h)
        · have hD : D.go 1 = { D with trip := D.trip - 1, n := turn D.n 1 (D.n 1 + 1) } := by unfold Dsk.go; rw [dec1_pos h4, dec1_neg (show ¬ 0 < D.f 1 by omega), turn_self]
          have HD := Lib.hid hD
          clear hD
          go_enter Try.func168, Try.ntmps168
          go_wp2
          go_ret
          refine ⟨rfl, RDiskIn.done HH.out HS.out OKB.out (q := q) (Y := Y) ?_ ?_⟩
          · rw [HD.out]; exact (HIN.out.inTrip _).inN1 _
          · exact (chg_pv w 3 _).trans (chg_pv _ 5 _) (fun _ _ h => h)
        · have hD : D.go 1 = { D with n := turn D.n 1 (D.n 1 + 1), f := turn D.f 1 (D.f 1 - 1) } := by unfold Dsk.go; rw [dec1_neg (show ¬ 0 < D.trip by omega), dec1_pos h5]
          have HD := Lib.hid hD
          clear hD
          go_enter Try.func168, Try.ntmps168
          go_wp2
          go_ret
          refine ⟨rfl, RDiskIn.done HH.out HS.out OKB.out (q := q) (Y := Y) ?_ ?_⟩
          · rw [HD.out]; exact ((HIN.out.inN1 _).inF HV.out 1 (by omega) _).1
          · exact (chg_pv w 5 _).trans ((HIN.out.inN1 _).inF HV.out 1 (by omega) _).2 (fun _ _ h => h)
        · have hD : D.go 1 = { D with n := turn D.n 1 (D.n 1 + 1) } := by unfold Dsk.go; rw [dec1_neg (show ¬ 0 < D.trip by omega), dec1_neg (show ¬ 0 < D.f 1 by omega), turn_self]
          have HD := Lib.hid hD
          clear hD
          go_enter Try.func168, Try.ntmps168
          go_wp2
          go_ret
          refine ⟨rfl, RDiskIn.done HH.out HS.out OKB.out (q := q) (Y := Y) ?_ ?_⟩
          · rw [HD.out]; exact HIN.out.inN1 _
          · exact chg_pv w 5 _
set_option maxRecDepth 100000 in
set_option maxHeartbeats 8000000 in
theorem rbegin2 {n0 : Nat} {w : World} {p : Nat} {D : Dsk} {S : Nat → Prop} (h : RD n0 w p D S) (hn : D.n 2 ≤ 4611686018427387904) : Calls Try.prog 168 #[.pointer (some ⟨p, 0, none⟩), .int .i64 2] w (RGives n0 w p S (D.begin 2).1 (D.begin 2).2) := by
  have HH := Lib.hid h
  have OKB := Lib.hid (D.begin_ok h.1 2)
  obtain ⟨ok, ⟨q, Y, hin, hS⟩, _⟩ := h
  have c2 : w.cell? ⟨p, 2, none⟩ = some (.bool D.dark) := hin.rcd.cell 2 (by omega)
  have c3 : w.cell? ⟨p, 3, none⟩ = some (.int .i64 D.trip) := hin.rcd.cell 3 (by omega)
  have c4 : w.cell? ⟨p, 4, none⟩ = some q.V := hin.rcd.cell 4 (by omega)
  have cn : w.cell? ⟨p, 6, none⟩ = some (.int .i64 (D.n 2)) := hin.rcd.cell 6 (by omega)
  have e2 := hin.rcd.frozen 2
  have e3 := hin.rcd.frozen 3
  have en := hin.rcd.frozen 6
  obtain ⟨g, cap, hV, hgp, hfc, hff⟩ := hin.fcell
  rw [hV] at c4
  have g1 : w.cell? ⟨g, 2, none⟩ = some (.int .i64 (D.f 2)) := hfc 2 (by omega)
  have f1 := hff 2
  have hgp' : p ≠ g := Ne.symm hgp
  obtain ⟨t1, t2⟩ := ok.trip
  obtain ⟨u1, u2⟩ := ok.f 2
  have n1 := ok.n 2
  have HIN := Lib.hid hin
  have HS := Lib.hid hS
  have HV := Lib.hid hV
  unfold RGives
  unfold Dsk.begin at OKB ⊢
  clear hin hS hV hfc hff ok
  by_cases h1 : D.dark = true
  · rw [if_pos h1]
    rw [h1] at c2
    clear h1
    go_enter Try.func168, Try.ntmps168
    go_wp2
    go_ret
    exact ⟨rfl, HH.out, Chg.refl _ _⟩
  · rw [if_neg h1] at OKB ⊢
    rw [show D.dark = false by simpa using h1] at c2
    clear h1
    by_cases h2 : D.trip = 0
    · rw [if_pos h2] at OKB ⊢
      rw [h2] at c3
      clear h2
      go_enter Try.func168, Try.ntmps168
      go_wp2
      go_ret
      exact ⟨rfl, RDiskIn.done (D' := D.off) HH.out HS.out OKB.out ((HIN.out.inDark true).inTrip (-1)) ((chg_pv w 2 _).trans (chg_pv _ 3 _) (fun _ _ h => h))⟩
    · rw [if_neg h2] at OKB ⊢
      have i2 : ¬ D.trip = 0 := h2
      clear h2
      by_cases h3 : D.f 2 = 0
      · rw [if_pos h3] at OKB ⊢
        rw [h3] at g1
        clear h3
        rcases (show 0 < D.trip ∨ D.trip < 0 by omega) with h4 | h4
        · have hD : D.fall 2 = { D with trip := D.trip - 1, n := turn D.n 2 (D.n 2 + 1), f := turn D.f 2 (-1) } := by unfold Dsk.fall; rw [dec1_pos h4]
          have HD := Lib.hid hD
          clear hD
          go_enter Try.func168, Try.ntmps168
          go_wp2
          go_ret
          refine ⟨rfl, RDiskIn.done HH.out HS.out OKB.out (q := q) (Y := Y) ?_ ?_⟩
          · rw [HD.out]; exact (((HIN.out.inTrip _).inN2 _).inF HV.out 2 (by omega) _).1
          · exact ((chg_pv w 3 _).trans (chg_pv _ 6 _) (fun _ _ h => h)).trans (((HIN.out.inTrip _).inN2 _).inF HV.out 2 (by omega) _).2 (fun _ _ h => h)
        · have hD : D.fall 2 = { D with n := turn D.n 2 (D.n 2 + 1), f := turn D.f 2 (-1) } := by unfold Dsk.fall; rw [dec1_neg (by omega)]
          have HD := Lib.hid hD
          clear hD
          go_enter Try.func168, Try.ntmps168
          go_wp2
          go_ret
          refine ⟨rfl, RDiskIn.done HH.out HS.out OKB.out (q := q) (Y := Y) ?_ ?_⟩
          · rw [HD.out]; exact ((HIN.out.inN2 _).inF HV.out 2 (by omega) _).1
          · exact (chg_pv w 6 _).trans ((HIN.out.inN2 _).inF HV.out 2 (by omega) _).2 (fun _ _ h => h)
      · rw [if_neg h3] at OKB ⊢
        have i3 : ¬ D.f 2 = 0 := h3
        clear h3
        rcases (show 0 < D.trip ∨ D.trip < 0 by omega) with h4 | h4
        all_goals rcases (show 0 < D.f 2 ∨ D.f 2 < 0 by omega) with h5 | h5
        · have hD : D.go 2 = { D with trip := D.trip - 1, n := turn D.n 2 (D.n 2 + 1), f := turn D.f 2 (D.f 2 - 1) } := by unfold Dsk.go; rw [dec1_pos h4, dec1_pos h5]
          have HD := Lib.hid hD
          clear hD
          go_enter Try.func168, Try.ntmps168
          go_wp2
          go_ret
          refine ⟨rfl, RDiskIn.done HH.out HS.out OKB.out (q := q) (Y := Y) ?_ ?_⟩
          · rw [HD.out]; exact (((HIN.out.inTrip _).inN2 _).inF HV.out 2 (by omega) _).1
          · exact ((chg_pv w 3 _).trans (chg_pv _ 6 _) (fun _ _ h => h)).trans (((HIN.out.inTrip _).inN2 _).inF HV.out 2 (by omega) _).2 (fun _ _ h => h)
        · have hD : D.go 2 = { D with trip := D.trip - 1, n := turn D.n 2 (D.n 2 + 1) } := by unfold Dsk.go; rw [dec1_pos h4, dec1_neg (show ¬ 0 < D.f 2 by omega), turn_self]
          have HD := Lib.hid hD
          clear hD
          go_enter Try.func168, Try.ntmps168
          go_wp2
          go_ret
          refine ⟨rfl, RDiskIn.done HH.out HS.out OKB.out (q := q) (Y := Y) ?_ ?_⟩
          · rw [HD.out]; exact (HIN.out.inTrip _).inN2 _
          · exact (chg_pv w 3 _).trans (chg_pv _ 6 _) (fun _ _ h => h)
        · have hD : D.go 2 = { D with n := turn D.n 2 (D.n 2 + 1), f := turn D.f 2 (D.f 2 - 1) } := by unfold Dsk.go; rw [dec1_neg (show ¬ 0 < D.trip by omega), dec1_pos h5]
          have HD := Lib.hid hD
          clear hD
          go_enter Try.func168, Try.ntmps168
          go_wp2
          go_ret
          refine ⟨rfl, RDiskIn.done HH.out HS.out OKB.out (q := q) (Y := Y) ?_ ?_⟩
          · rw [HD.out]; exact ((HIN.out.inN2 _).inF HV.out 2 (by omega) _).1
          · exact (chg_pv w 6 _).trans ((HIN.out.inN2 _).inF HV.out 2 (by omega) _).2 (fun _ _ h => h)
        · have hD : D.go 2 = { D with n := turn D.n 2 (D.n 2 + 1) } := by unfold Dsk.go; rw [dec1_neg (show ¬ 0 < D.trip by omega), dec1_neg (show ¬ 0 < D.f 2 by omega), turn_self]
          have HD := Lib.hid hD
          clear hD
          go_enter Try.func168, Try.ntmps168
          go_wp2
          go_ret
          refine ⟨rfl, RDiskIn.done HH.out HS.out OKB.out (q := q) (Y := Y) ?_ ?_⟩
          · rw [HD.out]; exact HIN.out.inN2 _
          · exact chg_pv w 6 _
set_option maxRecDepth 100000 in
set_option maxHeartbeats 8000000 in
theorem rbegin3 {n0 : Nat} {w : World} {p : Nat} {D : Dsk} {S : Nat → Prop} (h : RD n0 w p D S) (hn : D.n 3 ≤ 4611686018427387904) : Calls Try.prog 168 #[.pointer (some ⟨p, 0, none⟩), .int .i64 3] w (RGives n0 w p S (D.begin 3).1 (D.begin 3).2) := by
  have HH := Lib.hid h
  have OKB := Lib.hid (D.begin_ok h.1 3)
  obtain ⟨ok, ⟨q, Y, hin, hS⟩, _⟩ := h
  have c2 : w.cell? ⟨p, 2, none⟩ = some (.bool D.dark) := hin.rcd.cell 2 (by omega)
  have c3 : w.cell? ⟨p, 3, none⟩ = some (.int .i64 D.trip) := hin.rcd.cell 3 (by omega)
  have c4 : w.cell? ⟨p, 4, none⟩ = some q.V := hin.rcd.cell 4 (by omega)
  have cn : w.cell? ⟨p, 7, none⟩ = some (.int .i64 (D.n 3)) := hin.rcd.cell 7 (by omega)
  have e2 := hin.rcd.frozen 2
  have e3 := hin.rcd.frozen 3
  have en := hin.rcd.frozen 7
  obtain ⟨g, cap, hV, hgp, hfc, hff⟩ := hin.fcell
  rw [hV] at c4
  have g1 : w.cell? ⟨g, 3, none⟩ = some (.int .i64 (D.f 3)) := hfc 3 (by omega)
  have f1 := hff 3
  have hgp' : p ≠ g := Ne.symm hgp
  obtain ⟨t1, t2⟩ := ok.trip
  obtain ⟨u1, u2⟩ := ok.f 3
  have n1 := ok.n 3
  have HIN := Lib.hid hin
  have HS := Lib.hid hS
  have HV := Lib.hid hV
  unfold RGives
  unfold Dsk.begin at OKB ⊢
  clear hin hS hV hfc hff ok
  by_cases h1 : D.dark = true
  · rw [if_pos h1]
    rw [h1] at c2
    clear h1
    go_enter Try.func168, Try.ntmps168
    go_wp2
    go_ret
    exact ⟨rfl, HH.out, Chg.refl _ _⟩
  · rw [if_neg h1] at OKB ⊢
    rw [show D.dark = false by simpa using h1] at c2
    clear h1
    by_cases h2 : D.trip = 0
    · rw [if_pos h2] at OKB ⊢
      rw [h2] at c3
      clear h2
      go_enter Try.func168, Try.ntmps168
      go_wp2
      go_ret
      exact ⟨rfl, RDiskIn.done (D' := D.off) HH.out HS.out OKB.out ((HIN.out.inDark true).inTrip (-1)) ((chg_pv w 2 _).trans (chg_pv _ 3 _) (fun _ _ h => h))⟩
    · rw [if_neg h2] at OKB ⊢
      have i2 : ¬ D.trip = 0 := h2
      clear h2
      by_cases h3 : D.f 3 = 0
      · rw [if_pos h3] at OKB ⊢
        rw [h3] at g1
        clear h3
        rcases (show 0 < D.trip ∨ D.trip < 0 by omega) with h4 | h4
        · have hD : D.fall 3 = { D with trip := D.trip - 1, n := turn D.n 3 (D.n 3 + 1), f := turn D.f 3 (-1) } := by unfold Dsk.fall; rw [dec1_pos h4]
          have HD := Lib.hid hD
          clear hD
          go_enter Try.func168, Try.ntmps168
          go_wp2
          go_ret
          refine ⟨rfl, RDiskIn.done HH.out HS.out OKB.out (q := q) (Y := Y) ?_ ?_⟩
          · rw [HD.out]; exact (((HIN.out.inTrip _).inN3 _).inF HV.out 3 (by omega) _).1
          · exact ((chg_pv w 3 _).trans (chg_pv _ 7 _) (fun _ _ h => h)).trans (((HIN.out.inTrip _).inN3 _).inF HV.out 3 (by omega) _).2 (fun _ _ h => h)
        · have hD : D.fall 3 = { D with n := turn D.n 3 (D.n 3 + 1), f := turn D.f 3 (-1) } := by unfold Dsk.fall; rw [dec1_neg (by omega)]
          have HD := Lib.hid hD
          clear hD
          go_enter Try.func168, Try.ntmps168
          go_wp2
          go_ret
          refine ⟨rfl, RDiskIn.done HH.out HS.out OKB.out (q := q) (Y := Y) ?_ ?_⟩
          · rw [HD.out]; exact ((HIN.out.inN3 _).inF HV.out 3 (by omega) _).1
          · exact (chg_pv w 7 _).trans ((HIN.out.inN3 _).inF HV.out 3 (by omega) _).2 (fun _ _ h => h)
      · rw [if_neg h3] at OKB ⊢
        have i3 : ¬ D.f 3 = 0 := h3
        clear h3
        rcases (show 0 < D.trip ∨ D.trip < 0 by omega) with h4 | h4
        all_goals rcases (show 0 < D.f 3 ∨ D.f 3 < 0 by omega) with h5 | h5
        · have hD : D.go 3 = { D with trip := D.trip - 1, n := turn D.n 3 (D.n 3 + 1), f := turn D.f 3 (D.f 3 - 1) } := by unfold Dsk.go; rw [dec1_pos h4, dec1_pos h5]
          have HD := Lib.hid hD
          clear hD
          go_enter Try.func168, Try.ntmps168
          go_wp2
          go_ret
          refine ⟨rfl, RDiskIn.done HH.out HS.out OKB.out (q := q) (Y := Y) ?_ ?_⟩
          · rw [HD.out]; exact (((HIN.out.inTrip _).inN3 _).inF HV.out 3 (by omega) _).1
          · exact ((chg_pv w 3 _).trans (chg_pv _ 7 _) (fun _ _ h => h)).trans (((HIN.out.inTrip _).inN3 _).inF HV.out 3 (by omega) _).2 (fun _ _ h => h)
        · have hD : D.go 3 = { D with trip := D.trip - 1, n := turn D.n 3 (D.n 3 + 1) } := by unfold Dsk.go; rw [dec1_pos h4, dec1_neg (show ¬ 0 < D.f 3 by omega), turn_self]
          have HD := Lib.hid hD
          clear hD
          go_enter Try.func168, Try.ntmps168
          go_wp2
          go_ret
          refine ⟨rfl, RDiskIn.done HH.out HS.out OKB.out (q := q) (Y := Y) ?_ ?_⟩
          · rw [HD.out]; exact (HIN.out.inTrip _).inN3 _
          · exact (chg_pv w 3 _).trans (chg_pv _ 7 _) (fun _ _ h => h)
        · have hD : D.go 3 = { D with n := turn D.n 3 (D.n 3 + 1), f := turn D.f 3 (D.f 3 - 1) } := by unfold Dsk.go; rw [dec1_neg (show ¬ 0 < D.trip by omega), dec1_pos h5]
          have HD := Lib.hid hD
          clear hD
          go_enter Try.func168, Try.ntmps168
          go_wp2
          go_ret
          refine ⟨rfl, RDiskIn.done HH.out HS.out OKB.out (q := q) (Y := Y) ?_ ?_⟩
          · rw [HD.out]; exact ((HIN.out.inN3 _).inF HV.out 3 (by omega) _).1
          · exact (chg_pv w 7 _).trans ((HIN.out.inN3 _).inF HV.out 3 (by omega) _).2 (fun _ _ h => h)
        · have hD : D.go 3 = { D with n := turn D.n 3 (D.n 3 + 1) } := by unfold Dsk.go; rw [dec1_neg (show ¬ 0 < D.trip by omega), dec1_neg (show ¬ 0 < D.f 3 by omega), turn_self]
          have HD := Lib.hid hD
          clear hD
          go_enter Try.func168, Try.ntmps168
          go_wp2
          go_ret
          refine ⟨rfl, RDiskIn.done HH.out HS.out OKB.out (q := q) (Y := Y) ?_ ?_⟩
          · rw [HD.out]; exact HIN.out.inN3 _
          · exact chg_pv w 7 _
end Go.Proofs.Ytfbjjblgcgjndaa

/- Contracts of the reference disk's sector, Pending and Image. -/
namespace Go.Proofs.Ytfbjjblgcgjndaa
open Go.RowKit

/-- a sector as the first i writes give it -/
def secUp (D : Dsk) (i a : Nat) : List Nat := match lastWrite (D.cache.take i) a with
  | some s => s
  | none => D.last.getD a []
theorem secUp_zero (D : Dsk) (a : Nat) : secUp D 0 a = D.last.getD a [] := rfl
theorem secUp_all (D : Dsk) (a : Nat) : secUp D D.cache.length a = D.sec a := by unfold secUp Dsk.sec; rw [List.take_length]; rfl
theorem secUp_succ (D : Dsk) (i a : Nat) (h : i < D.cache.length) : secUp D (i + 1) a = if (D.cache.getD i (0, [])).1 = a then (D.cache.getD i (0, [])).2 else secUp D i a := by
  have hx : D.cache[i]? = some D.cache[i] := List.getElem?_eq_getElem h
  have hg : D.cache.getD i (0, []) = D.cache[i] := by rw [List.getD_eq_getElem?_getD, hx]; rfl
  rw [hg]
  unfold secUp
  rw [take_snoc _ i _ hx, show D.cache[i] = (D.cache[i].1, D.cache[i].2) from rfl, lastWrite_append]
  by_cases e : D.cache[i].1 = a
  · rw [if_pos e, if_pos e]
  · rw [if_neg e, if_neg e]
theorem ccells_get (c : List (Nat × List Nat)) (G : Nat → Value) (i : Nat) (h : i < c.length) : (ccells c G)[i * 2]? = some (.int .i64 (((c.getD i (0, [])).1 : Nat) : Int)) ∧ (ccells c G)[i * 2 + 1]? = some (G i) := by
  have key : ∀ (n : Nat) (f : Nat → List Value), (∀ i, (f i).length = 2) → ∀ i, i < n → ∀ j, j < 2 → ((List.range n).flatMap f)[i * 2 + j]? = (f i)[j]? := by
    intro n f hf
    induction n with
    | zero => intro i hi; omega
    | succ n ih =>
      intro i hi j hj
      have hl : ∀ m, ((List.range m).flatMap f).length = m * 2 := by
        intro m
        induction m with
        | zero => rfl
        | succ m ihm => rw [List.range_succ, List.flatMap_append, List.length_append, ihm]; simp [hf]; omega
      rw [List.range_succ, List.flatMap_append]
      by_cases hin : i < n
      · rw [List.getElem?_append_left (by rw [hl]; omega)]; exact ih i hin j hj
      · obtain rfl : i = n := by omega
        rw [List.getElem?_append_right (by rw [hl]; omega), hl]
        simp
  exact ⟨key c.length _ (fun _ => rfl) i h 0 (by omega), key c.length _ (fun _ => rfl) i h 1 (by omega)⟩
theorem RDiskIn.lcell {n0 : Nat} {w : World} {p : Nat} {D : Dsk} {q : RParts} {Y : Nat → Prop} (h : RDiskIn n0 w p D q Y) (hl : 0 < D.last.length) : ∃ g cap, q.L = .slice (some ⟨g, 0, none⟩) D.last.length cap ∧ (∀ i, i < D.last.length → w.cell? ⟨g, i, none⟩ = some (q.F i)) ∧ ∀ i, w.frozen? ⟨g, i, none⟩ = false := by
  obtain ⟨g, cap, hV, _⟩ := own_form h.last hl
  have h1 := h.last
  rw [hV] at h1
  refine ⟨g, cap, hV, fun i hi => ?_, fun i => ?_⟩
  · rw [h1.cellAt i (by omega)]; exact lst_get _ _ _ hi
  · rcases h1.2 with ⟨e, _⟩ | ⟨g', cap', cur, e, _, hh, _⟩
    · cases e
    · cases e
      exact frozen_of_row w g i cur 23 hh
theorem RDiskIn.ccell {n0 : Nat} {w : World} {p : Nat} {D : Dsk} {q : RParts} {Y : Nat → Prop} (h : RDiskIn n0 w p D q Y) (hl : 0 < D.cache.length) : ∃ g cap, q.C = .slice (some ⟨g, 0, none⟩) D.cache.length cap ∧ ∀ i, i < D.cache.length → w.cell? ⟨g, i * 2, none⟩ = some (.int .i64 (((D.cache.getD i (0, [])).1 : Nat) : Int)) ∧ w.cell? ⟨g, i * 2 + 1, none⟩ = some (q.G i) := by
  obtain ⟨g, cap, hV, _⟩ := own_form h.cache hl
  have h1 := h.cache
  rw [hV] at h1
  refine ⟨g, cap, hV, fun i hi => ?_⟩
  obtain ⟨a, b⟩ := ccells_get D.cache q.G i hi
  exact ⟨by rw [h1.cellAt (i * 2) (by omega)]; exact a, by rw [h1.cellAt (i * 2 + 1) (by omega)]; exact b⟩
def SecGives (s : List Nat) (Y : Nat → Prop) (w : World) (e : Ending) (w' : World) : Prop := ∃ v, e = .returned v ∧ RowIn w Y v s ∧ w = w'
set_option maxRecDepth 100000 in
set_option maxHeartbeats 2000000 in
theorem rsector_any {n0 : Nat} {w : World} {p : Nat} {D : Dsk} {q : RParts} {Y : Nat → Prop} (h : RDiskIn n0 w p D q Y) (a : Nat) (ha : a < D.last.length) (hc : D.cache.length ≤ 1000000000000) (hl : D.last.length ≤ 131072) :
    Calls Try.prog 169 #[.pointer (some ⟨p, 0, none⟩), .int .i64 (a : Int)] w (SecGives (D.sec a) Y w) := by
  obtain ⟨g, cap, hL, hlc, _⟩ := h.lcell (by omega)
  have c0 : w.cell? ⟨p, 0, none⟩ = some (.slice (some ⟨g, 0, none⟩) D.last.length cap) := by rw [← hL]; exact h.rcd.cell 0 (by omega)
  have c1 : w.cell? ⟨g, a, none⟩ = some (q.F a) := hlc a ha
  obtain ⟨C, cc, hC, _⟩ := At.own h.cache
  have c2 : w.cell? ⟨p, 1, none⟩ = some (.slice C D.cache.length cc) := by rw [← hC]; exact h.rcd.cell 1 (by omega)
  have h1 : (a : Int) < (D.last.length : Int) := by omega
  have HF := Lib.hid (h.rows a ha)
  have HIN := Lib.hid h
  have HC := Lib.hid hC
  clear h hL hlc hC
  generalize q.F a = fa at *
  go_enter Try.func169, Try.ntmps169
  go_wp2_with fail
  go_loop [5, 6] (fun v i => ∃ k : Nat, k ≤ D.cache.length ∧ i = .int .i64 k ∧ RowIn w Y v (secUp D k a)) (fun _ i => D.cache.length - (intOf i).toNat)
  case atStart => exact ⟨0, by omega, rfl, by rw [secUp_zero]; exact HF.out⟩
  case round =>
    obtain ⟨k, hk, rfl, hr⟩ := hrel
    by_cases hlt : k < D.cache.length
    · obtain ⟨gc, capc, hC2, hcc⟩ := HIN.out.ccell (by omega)
      rw [HC.out] at hC2
      injection hC2 with e1 e2 e3
      subst e1 e3
      clear e2
      obtain ⟨d1, d2⟩ := hcc k hlt
      have hs := secUp_succ D k a hlt
      have HR := Lib.hid (HIN.out.crows k hlt)
      have h3 : (k : Int) < (D.cache.length : Int) := by omega
      generalize D.cache.getD k (0, []) = x at *
      generalize q.G k = gk at *
      clear hcc
      by_cases hxa : x.1 = a
      · rw [if_pos hxa] at hs
        have t1 : ((x.1 : Int) == (a : Int)) = true := by simp; omega
        have HS := Lib.hid hs
        have HX := Lib.hid hxa
        have HRR := Lib.hid hr
        clear hs hxa hr
        go_wp2_with fail
        case roundEnd => exact ⟨⟨k + 1, by omega, by go_num, by rw [HS.out]; exact HR.out⟩, by simp only [intOf]; omega⟩
      · rw [if_neg hxa] at hs
        have t1 : ((x.1 : Int) == (a : Int)) = false := by simp; omega
        have HS := Lib.hid hs
        have HX := Lib.hid hxa
        have HRR := Lib.hid hr
        clear hs hxa hr
        go_wp2_with fail
        case roundEnd => exact ⟨⟨k + 1, by omega, by go_num, by rw [HS.out]; exact HRR.out⟩, by simp only [intOf]; omega⟩
    · obtain rfl : k = D.cache.length := by omega
      rw [secUp_all] at hr
      have HR := Lib.hid hr
      clear hr
      go_wp2_with fail
      go_ret
      exact ⟨_, rfl, HR.out, rfl⟩
end Go.Proofs.Ytfbjjblgcgjndaa

/- Contracts of the reference disk's Pending, Image and Read. -/
namespace Go.Proofs.Ytfbjjblgcgjndaa
open Go.RowKit

theorem RDiskIn.below {n0 : Nat} {w w' : World} {p : Nat} {D : Dsk} {q : RParts} {Y : Nat → Prop} (h : RDiskIn n0 w p D q Y) (hb : Below w.heap.size w w') : RDiskIn n0 w' p D q Y :=
  h.keep (G := fun _ => False) (.of_below hb) (fun _ _ h => h)
set_option maxRecDepth 100000 in
set_option maxHeartbeats 2000000 in
theorem rpending_any {n0 : Nat} {w : World} {p : Nat} {D : Dsk} {S : Nat → Prop} (h : RD n0 w p D S) (hc : D.cache.length ≤ 1000000000000) : Calls Try.prog 159 #[.pointer (some ⟨p, 0, none⟩)] w (GivesInts (D.cache.map (·.1)) w) := by
  obtain ⟨ok, ⟨q, Y, hin, _⟩, _⟩ := h
  have HIN := Lib.hid hin
  have HC := Lib.hid hc
  clear hin ok hc
  go_enter Try.func159, Try.ntmps159
  go_wp2_with fail
  go_loopw [3, 4] (fun v i wr => ∃ j : Nat, j ≤ D.cache.length ∧ i = .int .i64 j ∧ wr.ownsRow w.heap.size 3 1 v j (ns .i64 ((D.cache.take j).map (·.1))) ∧ Below w.heap.size w wr) (fun _ i _ => D.cache.length - (intOf i).toNat)
  case atStart => exact ⟨0, by omega, rfl, World.ownsRow_nil _ _ _ _, Below.refl _ _⟩
  case round =>
    obtain ⟨j, hj, rfl, hv, hb⟩ := hrel
    have hin := HIN.out.below hb
    have hj12 : j ≤ 1000000000000 := by have := HC.out; omega
    by_cases hlt : j < D.cache.length
    · obtain ⟨gc, capc, hC2, hcc⟩ := hin.ccell (by omega)
      have c1 : wr.cell? ⟨p, 1, none⟩ = some (.slice (some ⟨gc, 0, none⟩) D.cache.length capc) := by rw [← hC2]; exact hin.rcd.cell 1 (by omega)
      obtain ⟨d1, _⟩ := hcc j hlt
      have hts := take_snoc D.cache j D.cache[j] (List.getElem?_eq_getElem hlt)
      have hg : D.cache.getD j (0, []) = D.cache[j] := by rw [List.getD_eq_getElem?_getD, List.getElem?_eq_getElem hlt]; rfl
      rw [hg] at d1
      obtain ⟨x, hx⟩ : ∃ x, x = D.cache[j].1 := ⟨_, rfl⟩
      rw [← hx] at d1
      have hmap : (D.cache.take (j + 1)).map (·.1) = (D.cache.take j).map (·.1) ++ [x] := by rw [hts, List.map_append, hx]; rfl
      have HMAP := Lib.hid hmap
      have h3 : (j : Int) < (D.cache.length : Int) := by omega
      have hbA : Below wr.heap.size wr (wr.alloc (.cells #[.int .i64 (x : Int)] 3)) := below_alloc0 (Below.refl _ _) _
      have hvA := own_below hv hbA
      have hbB := below_next0 hb hbA
      have hAA : At (wr.alloc (.cells #[.int .i64 (x : Int)] 3)) (some ⟨wr.heap.size, 0, none⟩) [.int .i64 (x : Int)] := At.whole (heap_alloc_new wr _)
      obtain ⟨A0, c0, rfl⟩ := own_slice hv
      have HVA := Lib.hid hvA
      have HBB := Lib.hid hbB
      have HAA := Lib.hid hAA
      have HSA := Lib.hid hbB.size
      clear hcc hC2 hin hv hb hbA hvA hbB hAA hts hg hx hmap
      go_wp2_with (at_builtin; go_loud (refine wp_append2 rfl (.tmp 14) (.tmp 23) 86 3 (.int .i64 0) 1 8 rfl Try.underlying86 Try.info3 rfl (by decide) w.heap.size (.slice A0 j c0) j _ rfl HVA.out (some ⟨wr.heap.size, 0, none⟩) 1 1 _ rfl rfl HAA.out (by simp) (by simp [Value.oneCell']) (by omega) (by omega) HSA.out ?_); intro v1 w1 ho1 hor1)
      have hch1 := push_chg hor1
      have HO1 := Lib.hid ho1
      have HCH1 := Lib.hid hch1
      clear ho1 hor1 hch1
      obtain ⟨A1, c11, rfl⟩ := own_slice HO1.out
      go_wp2
      case roundEnd =>
        refine ⟨⟨j + 1, by omega, by go_num, ?_, HBB.out.trans (HCH1.out.below HSA.out (fun k hk => own_base HVA.out k hk))⟩, by simp only [intOf]; omega⟩
        rw [HMAP.out, ns_append]
        exact HO1.out
    · obtain rfl : j = D.cache.length := by omega
      rw [List.take_length] at hv
      have c1 : ∃ C cc, wr.cell? ⟨p, 1, none⟩ = some (.slice C D.cache.length cc) := by
        obtain ⟨C, cc, e, _⟩ := At.own hin.cache
        exact ⟨C, cc, by rw [← e]; exact hin.rcd.cell 1 (by omega)⟩
      obtain ⟨C, cc, c1⟩ := c1
      obtain ⟨A, c, rfl⟩ := own_slice hv
      have HV := Lib.hid hv
      clear hv hin
      go_wp2
      go_ret
      refine ⟨A, c, by rw [List.length_map]; rfl, ?_, hb⟩
      rw [List.length_map]; exact HV.out
set_option maxRecDepth 100000 in
set_option maxHeartbeats 2000000 in
theorem rimage_any {n0 : Nat} {w : World} {p : Nat} {D : Dsk} {S : Nat → Prop} (h : RD n0 w p D S) : Calls Try.prog 160 #[.pointer (some ⟨p, 0, none⟩)] w (GivesFill D.last.flatten w) := by
  obtain ⟨ok, ⟨q, Y, hin, _⟩, _⟩ := h
  have hlen : D.last.length ≤ 131072 ∧ 0 < D.last.length := by obtain ⟨k, a, b, c⟩ := ok.pages; omega
  have h128 : ∀ s ∈ D.last, s.length = 128 := fun s hs => (ok.last s hs).1
  have HIN := Lib.hid hin
  have HL := Lib.hid hlen
  have H128 := Lib.hid h128
  clear hin ok hlen h128
  go_enter Try.func160, Try.ntmps160
  go_wp2_with fail
  go_loopw [3, 4] (fun v i wr => ∃ j : Nat, j ≤ D.last.length ∧ i = .int .i64 j ∧ Buf w.heap.size wr v (D.last.take j).flatten ∧ Below w.heap.size w wr) (fun _ i _ => D.last.length - (intOf i).toNat)
  case atStart => exact ⟨0, by omega, rfl, Buf.nil _ _, Below.refl _ _⟩
  case round =>
    obtain ⟨j, hj, rfl, hv, hb⟩ := hrel
    have hin := HIN.out.below hb
    obtain ⟨g, cap, hLv, hlc, _⟩ := hin.lcell HL.out.2
    have c0 : wr.cell? ⟨p, 0, none⟩ = some (.slice (some ⟨g, 0, none⟩) D.last.length cap) := by rw [← hLv]; exact hin.rcd.cell 0 (by omega)
    obtain ⟨A0, cv, rfl⟩ := own_slice hv
    have hfl := flat_take H128.out j hj
    rw [hfl] at hv ⊢
    by_cases hlt : j < D.last.length
    · obtain ⟨A1, c1, hF, hA1, hn1, _⟩ := hin.rows j hlt
      have hd1 := hlc j hlt
      have h128j : (D.last.getD j []).length = 128 := by rw [List.getD_eq_getElem?_getD, List.getElem?_eq_getElem hlt]; exact H128.out _ (List.getElem_mem _)
      rw [hF, h128j] at hd1
      have h3 : (j : Int) < (D.last.length : Int) := by omega
      have HV := Lib.hid hv
      have HB := Lib.hid hb
      have HA1 := Lib.hid hA1
      have HN1 := Lib.hid hn1
      have HJ := Lib.hid h128j
      have HFS := Lib.hid (flat_snoc D.last j hlt)
      have HBD := Lib.hid (show (D.last.take j).flatten.length + (D.last.getD j []).length ≤ 140737488355328 by have := HL.out; omega)
      have hbs := Lib.hid hb.size
      have HFL := Lib.hid hfl
      have hjs : j ≤ 131072 := by have := HL.out; omega
      clear hv hb hA1 hn1 h128j hfl hin hlc hLv hF
      go_wp2_with (at_builtin; go_loud (refine buf_append rfl (.tmp 14) (.tmp 21) rfl Try.underlying23 Try.info5 w.heap.size (.slice A0 (128 * j) cv) (D.last.take j).flatten rfl HV.out A1 128 c1 (D.last.getD j []) rfl HJ.out.symm HA1.out HN1.out HBD.out hbs.out HB.out ?_); intro v1 w1 hv1 hb1 hn1)
      have HV1 := Lib.hid hv1
      clear hv1
      go_wp2
      case roundEnd =>
        refine ⟨⟨j + 1, by omega, by push_cast; rfl, ?_, hb1⟩, by simp only [intOf]; omega⟩
        rw [HFS.out]; exact HV1.out
    · obtain rfl : j = D.last.length := by omega
      rw [List.take_length] at hv hfl
      have HV := Lib.hid hv
      have HFL := Lib.hid hfl
      clear hv hfl hin hlc hLv
      go_wp2
      go_ret
      refine ⟨A0, cv, ?_, ?_, hb⟩
      · rw [HFL.out]; rfl
      · rw [HFL.out]; exact HV.out
end Go.Proofs.Ytfbjjblgcgjndaa

/- Contract of the reference disk's Read. -/
namespace Go.Proofs.Ytfbjjblgcgjndaa
open Go.RowKit

def RReadGives (n0 : Nat) (w : World) (p : Nat) (S : Nat → Prop) (r : Nat × List Nat × Dsk) (e : Ending) (w' : World) : Prop :=
  ∃ A c, e = .returned (.tuple #[.slice A r.2.1.length c, .int .u16 (r.1 : Nat)]) ∧ Buf w.heap.size w' (.slice A r.2.1.length c) r.2.1 ∧ RD n0 w' p r.2.2 S ∧ Chg S w w'
set_option maxRecDepth 100000 in
set_option maxHeartbeats 4000000 in
theorem rread_any {n0 : Nat} {w : World} {p : Nat} {D : Dsk} {S : Nat → Prop} (h : RD n0 w p D S) (pg : Int) (hc : D.cache.length ≤ 1000000000000) (hn : D.n 1 ≤ 4611686018427387904) :
    Calls Try.prog 151 #[.pointer (some ⟨p, 0, none⟩), .int .i64 pg] w (RReadGives n0 w p S (D.read pg)) := by
  have HBG := Lib.hid (rbegin1 h hn)
  have hlen : D.last.length ≤ 131072 := by obtain ⟨k, a, b, c⟩ := h.1.pages; omega
  have H128 := Lib.hid (fun a (ha : a < D.last.length) => (D.sec_ok h.1 a ha).1)
  have HSO := Lib.hid (fun a k (ha : a + k ≤ D.last.length) => (D.secs_ok h.1 a k ha).1)
  have HPGS := Lib.hid h.1.pages
  have HC := Lib.hid hc
  clear hc hn h
  by_cases hb : (D.begin 1).1 = 0
  · have hrd : D.read pg = if pg < 0 ∨ (D.pages : Int) ≤ pg then (2, [], D.go 1) else (0, D.secs (8 * pg.toNat) 8, D.go 1) := by unfold Dsk.read; rw [if_neg (by simpa using hb)]
    have hgo : D.begin 1 = (0, D.go 1) := by rw [← Dsk.begin_go hb, ← hb]
    rw [hgo] at HBG
    have HRD0 := Lib.hid hrd
    clear hrd hgo hb
    go_enter Try.func151, Try.ntmps151
    go_wp2_with fail
    refine HBG.out.mono ?_
    rintro e w1 ⟨rfl, hd, hch⟩
    have HD := Lib.hid hd
    have HCH := Lib.hid hch
    have hp := Lib.hid (rpages_any hd)
    have hpe : (D.go 1).pages = D.pages := rfl
    rw [hpe] at hp
    clear hd hch hpe HBG
    have HHP := Lib.hid hp.out
    clear hp
    by_cases hneg : pg < 0
    · have hrd := HRD0.out
      rw [if_pos (.inl hneg)] at hrd
      have HRD := Lib.hid hrd
      clear hrd
      go_wp2_with fail
      go_ret2
      rw [HRD.out]
      exact ⟨none, 0, rfl, Buf.nil _ _, HD.out, HCH.out⟩
    · by_cases hbig : (D.pages : Int) ≤ pg
      · have hrd := HRD0.out
        rw [if_pos (.inr hbig)] at hrd
        have HRD := Lib.hid hrd
        clear hrd
        have HBI := Lib.hid hbig
        clear HRD0
        generalize D.pages = N at *
        go_wp2_with fail
        refine HHP.out.mono ?_
        rintro e w2 ⟨rfl, rfl⟩
        have hd1 : decide ((N : Int) ≤ pg) = true := by have := HBI.out; simpa using this
        go_wp2_with fail
        go_ret2
        rw [HRD.out]
        exact ⟨none, 0, rfl, Buf.nil _ _, HD.out, HCH.out⟩
      · have hrd := HRD0.out
        rw [if_neg (by omega)] at hrd
        obtain ⟨n, rfl⟩ : ∃ n : Nat, pg = (n : Int) := ⟨pg.toNat, by omega⟩
        rw [Int.toNat_natCast] at hrd
        have HRD := Lib.hid hrd
        clear hrd
        have hnp : n < D.pages := by omega
        have h8 : 8 * n + 8 ≤ D.last.length := by obtain ⟨k, a, b, c⟩ := HPGS.out; unfold Dsk.pages at hnp; omega
        have hd1 : decide ((D.pages : Int) ≤ (n : Int)) = false := by simp; omega
        have hd2 : ¬ D.pages ≤ n := by omega
        have hnb : n ≤ 16384 := by omega
        have H8 := Lib.hid h8
        have HNP := Lib.hid hnp
        clear h8 hneg hbig
        go_wp2_with fail
        refine HHP.out.mono ?_
        rintro e w2 ⟨rfl, rfl⟩
        go_wp2_with fail
        obtain ⟨ok, ⟨q, Y, hin, hS⟩, hlt⟩ := HD.out
        have HIN := Lib.hid hin
        clear ok hin hS hlt
        go_loopw [7, 8] (fun v i wr => ∃ j : Nat, j ≤ 8 ∧ i = .int .i64 j ∧ Buf w1.heap.size wr v (D.secs (8 * n) j) ∧ Below w1.heap.size w1 wr) (fun _ i _ => 8 - (intOf i).toNat)
        case atStart => exact ⟨0, by omega, rfl, by rw [Dsk.secs_zero]; exact Buf.nil _ _, Below.refl _ _⟩
        case round =>
          obtain ⟨j, hj, rfl, hv, hb⟩ := hrel
          obtain ⟨A0, cv, rfl⟩ := own_slice hv
          have hsl := HSO.out (8 * n) j (by have := H8.out; omega)
          rw [hsl] at hv ⊢
          by_cases hlt : j < 8
          · have h3 : (j : Int) < 8 := by omega
            have hsec := rsector_any (HIN.out.below hb) (8 * n + j) (by have := H8.out; show _ < D.last.length; omega) HC.out hlen
            rw [show ((8 * n + j : Nat) : Int) = 8 * (n : Int) + (j : Int) by push_cast; rfl] at hsec
            have HSEC := Lib.hid hsec
            have h128 := H128.out (8 * n + j) (by have := H8.out; omega)
            have HSS := Lib.hid (D.secs_succ (8 * n) j)
            have HV := Lib.hid hv
            have HB := Lib.hid hb
            have HSL := Lib.hid hsl
            have HBZ := Lib.hid hb.size
            have HBD := Lib.hid (show (D.secs (8 * n) j).length + (D.sec (8 * n + j)).length ≤ 140737488355328 by rw [hsl, h128]; omega)
            have H12 := Lib.hid h128
            clear hsec h128 hv hb hsl
            go_wp2_with fail
            refine HSEC.out.mono ?_
            rintro e w3 ⟨v3, rfl, ⟨A3, c3, rfl, hA3, hn3, _⟩, rfl⟩
            rw [show (Dsk.sec (D.go 1) (8 * n + j)).length = 128 from H12.out]
            have HA3 := Lib.hid hA3
            have HN3 := Lib.hid hn3
            clear hA3 hn3
            go_wp2_with (at_builtin; go_loud (refine buf_append rfl (.tmp 26) (.tmp 32) rfl Try.underlying23 Try.info5 w1.heap.size (.slice A0 (128 * j) cv) (D.secs (8 * n) j) rfl HV.out A3 128 c3 (D.sec (8 * n + j)) rfl H12.out.symm HA3.out HN3.out HBD.out HBZ.out HB.out ?_); intro v4 w4 hv4 hb4 hn4)
            have HV4 := Lib.hid hv4
            clear hv4
            go_wp2
            case roundEnd =>
              refine ⟨⟨j + 1, by omega, by go_num, ?_, hb4⟩, by simp only [intOf]; omega⟩
              rw [HSS.out]; exact HV4.out
          · obtain rfl : j = 8 := by omega
            have HV := Lib.hid hv
            have HSL := Lib.hid hsl
            clear hv hsl
            go_wp2_with fail
            go_ret2
            rw [HRD.out]
            refine ⟨A0, cv, ?_, ?_, ⟨HD.out.below hb, HCH.out.trans (.of_below (F := fun _ => False) hb) (fun _ _ h => h.elim)⟩⟩
            · show _ = Ending.returned (.tuple #[.slice A0 (D.secs (8 * n) 8).length cv, .int .u16 ((0 : Nat) : Int)])
              rw [HSL.out]; rfl
            · show Buf w.heap.size wr (.slice A0 (D.secs (8 * n) 8).length cv) (D.secs (8 * n) 8)
              rw [HSL.out]; exact own_down HV.out HCH.out.size
  · have hrd : D.read pg = ((D.begin 1).1, [], (D.begin 1).2) := by unfold Dsk.read; rw [if_pos hb]
    rw [hrd]
    clear hrd
    have he : (((D.begin 1).1 : Nat) != 0) = true := by simpa using hb
    have he2 : ((((D.begin 1).1 : Nat) : Int) != 0) = true := by simp; omega
    have HNE := Lib.hid hb
    generalize (D.begin 1).1 = x at *
    generalize (D.begin 1).2 = D' at *
    clear hb
    go_enter Try.func151, Try.ntmps151
    go_wp2_with fail
    refine HBG.out.mono ?_
    rintro e w1 ⟨rfl, hd, hch⟩
    have HD := Lib.hid hd
    have HCH := Lib.hid hch
    clear hd hch
    go_wp2_with fail
    go_ret2
    exact ⟨none, 0, rfl, Buf.nil _ _, HD.out, HCH.out⟩
end Go.Proofs.Ytfbjjblgcgjndaa

/- Contracts of the reference disk's Sync and Cut. -/
namespace Go.Proofs.Ytfbjjblgcgjndaa
open Go.RowKit

/-- a write is laid -/
theorem RDiskIn.lay {n0 : Nat} {w : World} {p : Nat} {D : Dsk} {q : RParts} {Y : Nat → Prop} (h : RDiskIn n0 w p D q Y) {g cap : Nat} (hL : q.L = .slice (some ⟨g, 0, none⟩) D.last.length cap) (i : Nat) (hi : i < D.last.length) (v : Value) (s : List Nat) (hv : RowIn w Y v s) :
    RDiskIn n0 (w.setCell ⟨g, i, none⟩ v) p { D with last := D.last.set i s } { q with F := turn q.F i v } Y ∧ Chg (blk q.L) w (w.setCell ⟨g, i, none⟩ v) := by
  obtain ⟨s1, s2, s3, s4, s5⟩ := h.sep
  have hbL : blk q.L g := by rw [hL]; rfl
  have hc : Chg (blk q.L) w (w.setCell ⟨g, i, none⟩ v) := (setCell_chg w g i v).mono (fun j _ e => by rw [show j = g from e]; exact hbL)
  have hY : ∀ x, Y x → ¬ blk q.L x := fun x hx e => h.apart x hx (.inr (.inl e))
  refine ⟨⟨?_, ?_, fun j hj => ?_, own_chg h.cache hc (fun x hx e => (s4 x e).1 hx), fun j hj => (h.crows j hj).keep hc hY, own_chg h.faults hc (fun x hx e => (s4 x e).2 hx), h.base, h.sep, h.apart, fun x hx => ⟨(h.lt x hx).1, Nat.lt_of_lt_of_le (h.lt x hx).2 hc.size⟩⟩, hc⟩
  · exact h.rcd.keep hc s1
  · have h1 := h.last
    rw [hL] at h1
    have h2 := (h1.stored i v).1
    rw [lst_put] at h2
    simp only [List.length_set]
    rw [hL]; exact h2
  · simp only [List.length_set] at hj
    show RowIn _ Y (turn q.F i v j) ((D.last.set i s).getD j [])
    by_cases e : j = i
    · subst e
      rw [turn_same, List.getD_eq_getElem?_getD, List.getElem?_set_self hi]
      exact hv.keep hc hY
    · rw [turn_other _ _ _ _ e, List.getD_eq_getElem?_getD, List.getElem?_set_ne (Ne.symm e), ← List.getD_eq_getElem?_getD]
      exact (h.rows j hj).keep hc hY
/-- the cache is thrown away -/
theorem RDiskIn.drop {n0 : Nat} {w : World} {p : Nat} {D : Dsk} {q : RParts} {Y : Nat → Prop} (h : RDiskIn n0 w p D q Y) :
    RDiskIn n0 (w.setCell ⟨p, 1, none⟩ (.slice none 0 0)) p { D with cache := [] } { q with C := .slice none 0 0 } Y := by
  obtain ⟨s1, s2, s3, s4, s5⟩ := h.sep
  have hc := setCell_chg w p 1 (.slice none 0 0)
  have hY : ∀ x, Y x → ¬ x = p := fun x hx e => h.apart x hx (.inl e)
  have hnb : ∀ x, ¬ blk (Value.slice none 0 0) x := fun x e => by cases e
  refine ⟨(h.rcd.set 1 _).congr (all8 rfl rfl rfl rfl rfl rfl rfl rfl), own_chg h.last hc (fun x hx e => s1 (by rw [← show x = p from e]; exact hx)), fun j hj => (h.rows j hj).keep hc hY, World.ownsRow_nil _ _ _ _, fun j hj => by simp at hj, own_chg h.faults hc (fun x hx e => s3 (by rw [← show x = p from e]; exact hx)), h.base,
    ⟨s1, hnb p, s3, fun x hx => ⟨hnb x, (s4 x hx).2⟩, fun x hx => absurd hx (hnb x)⟩, fun x hx e => ?_, fun x hx => ⟨(h.lt x hx).1, Nat.lt_of_lt_of_le (h.lt x hx).2 hc.size⟩⟩
  rcases e with e | e | e | e
  · exact h.apart x hx (.inl e)
  · exact h.apart x hx (.inr (.inl e))
  · exact hnb x e
  · exact h.apart x hx (.inr (.inr (.inr e)))
/-- new faults -/
theorem RDiskIn.fresh {n0 : Nat} {w : World} {p : Nat} {D : Dsk} {q : RParts} {Y : Nat → Prop} (h : RDiskIn n0 w p D q Y) (hn : n0 ≤ w.heap.size) (f : Nat → Int) :
    RDiskIn n0 ((w.alloc (.cells #[.int .i64 (f 0), .int .i64 (f 1), .int .i64 (f 2), .int .i64 (f 3)] 3)).setCell ⟨p, 4, none⟩ (.slice (some ⟨w.heap.size, 0, none⟩) 4 4)) p { D with f := f } { q with V := .slice (some ⟨w.heap.size, 0, none⟩) 4 4 } Y := by
  obtain ⟨s1, s2, s3, s4, s5⟩ := h.sep
  have hlt := h.rcd.lt
  obtain ⟨w1, hw1⟩ : ∃ w1, w1 = w.alloc (.cells #[.int .i64 (f 0), .int .i64 (f 1), .int .i64 (f 2), .int .i64 (f 3)] 3) := ⟨_, rfl⟩
  have hb : Below w.heap.size w w1 := by rw [hw1]; exact below_alloc0 (Below.refl _ _) _
  have hnew : w1.heap[w.heap.size]? = some (.cells #[.int .i64 (f 0), .int .i64 (f 1), .int .i64 (f 2), .int .i64 (f 3)] 3 (0, 0)) := by rw [hw1]; exact heap_alloc_new w _
  have h1 := h.below hb
  rw [← hw1]
  have hc := setCell_chg w1 p 4 (.slice (some ⟨w.heap.size, 0, none⟩) 4 4)
  have hY : ∀ x, Y x → ¬ x = p := fun x hx e => h.apart x hx (.inl e)
  have hV : ∀ x, blk (Value.slice (some ⟨w.heap.size, 0, none⟩) 4 4) x → x = w.heap.size := fun x hx => by cases hx; rfl
  have hLlt : ∀ x, blk q.L x → x < w.heap.size := fun x hx => (row_lt h.last hx).2
  have hClt : ∀ x, blk q.C x → x < w.heap.size := fun x hx => (row_lt h.cache hx).2
  refine ⟨(h1.rcd.set 4 _).congr (all8 rfl rfl rfl rfl rfl rfl rfl rfl), own_chg h1.last hc (fun x hx e => s1 (by rw [← show x = p from e]; exact hx)), fun j hj => (h1.rows j hj).keep hc hY, own_chg h1.cache hc (fun x hx e => s2 (by rw [← show x = p from e]; exact hx)), fun j hj => (h1.crows j hj).keep hc hY, ?_, h.base,
    ⟨s1, s2, fun e => by have := hV p e; omega, fun x hx => ⟨(s4 x hx).1, fun e => by have := hV x e; have := hLlt x hx; omega⟩, fun x hx e => by have := hV x e; have := hClt x hx; omega⟩, fun x hx e => ?_, fun x hx => ⟨(h.lt x hx).1, Nat.lt_of_lt_of_le (h1.lt x hx).2 hc.size⟩⟩
  · have : w1.ownsRow n0 3 1 (.slice (some ⟨w.heap.size, 0, none⟩) 4 4) 4 (fourF { D with f := f }) := ⟨rfl, .inr ⟨w.heap.size, 4, _, rfl, hn, hnew, Nat.le_refl _, by simp only [maxLen]; omega, rfl, rfl⟩⟩
    exact own_chg this hc (fun x hx e => by have := hV x hx; have := show x = p from e; omega)
  · rcases e with e | e | e | e
    · exact h.apart x hx (.inl e)
    · exact h.apart x hx (.inr (.inl e))
    · exact h.apart x hx (.inr (.inr (.inl e)))
    · have := hV x e; have := (h.lt x hx).2; omega
def RLaid (n0 : Nat) (w wr : World) (p : Nat) (D : Dsk) (q : RParts) (Y : Nat → Prop) (kept : Nat → Bool) (j : Nat) : Prop :=
  ∃ F, RDiskIn n0 wr p (D.laid kept j) { q with F := F } Y ∧ Chg (blk q.L) w wr
end Go.Proofs.Ytfbjjblgcgjndaa

/- A list of byte lists that a law keeps beside a disk; what is set in it step by step. -/
namespace Go.Proofs.Ytfbjjblgcgjndaa
open Go.RowKit

theorem getD_set7 {α : Type} (l : List α) (i j : Nat) (x d : α) : (l.set i x).getD j d = if j = i ∧ i < l.length then x else l.getD j d := by
  rw [List.getD_eq_getElem?_getD, List.getD_eq_getElem?_getD, List.getElem?_set]
  by_cases h : i = j
  · subst h
    by_cases h2 : i < l.length
    · simp [h2]
    · simp [h2]
  · rw [if_neg h, if_neg (fun e => h e.1.symm)]
theorem keeps_step (Z : List (List Nat)) (c : List (Nat × List Nat)) (a : Nat) (b : List Nat) (K : Nat → Bool) (k : Nat) :
    settled Z (c ++ puts a b (k + 1)) K (c.length + (k + 1)) = if K (c.length + k) = true then (settled Z (c ++ puts a b k) K (c.length + k)).set (a + k) ((b.drop (128 * k)).take 128) else settled Z (c ++ puts a b k) K (c.length + k) := by
  have hl : (c ++ puts a b k).length = c.length + k := by rw [List.length_append, puts_length]
  have := settled_snoc Z (c ++ puts a b k) (a + k, (b.drop (128 * k)).take 128) K
  rw [hl] at this
  rw [puts, ← List.append_assoc, show c.length + (k + 1) = c.length + k + 1 by omega, this]
theorem part_rep (y n k : Nat) (h : 128 * (k + 1) ≤ n) : ((List.replicate n y).drop (128 * k)).take 128 = List.replicate 128 y := by
  rw [List.drop_replicate, List.take_replicate, show min 128 (n - 128 * k) = 128 by omega]

/-- rows of bytes behind a block of slices; all of it lies in X -/
structure Grid (n0 : Nat) (w : World) (g : Nat) (L : List (List Nat)) (X : Nat → Prop) : Prop where
  rows : ∃ F, RecAt w g 23 L.length F ∧ ∀ i, i < L.length → ∃ A c, F i = .slice A (L.getD i []).length c ∧ At w A (ns .u8 (L.getD i [])) ∧ ∀ a, A = some a → X a.block ∧ a.block ≠ g
  here : X g
  lt : ∀ x, X x → n0 ≤ x ∧ x < w.heap.size
theorem Grid.keep {n0 : Nat} {w w' : World} {g : Nat} {L : List (List Nat)} {X G : Nat → Prop} (h : Grid n0 w g L X) (hc : Chg G w w') (hG : ∀ x, X x → ¬ G x) : Grid n0 w' g L X := by
  obtain ⟨F, h1, h2⟩ := h.rows
  exact ⟨⟨F, h1.keep hc (hG g h.here), fun i hi => by
    obtain ⟨A, c, e, hA, hx⟩ := h2 i hi
    exact ⟨A, c, e, hA.chg hc (fun a ha => hG _ (hx a ha).1), hx⟩⟩, h.here, fun x hx => ⟨(h.lt x hx).1, Nat.lt_of_lt_of_le (h.lt x hx).2 hc.size⟩⟩
theorem Grid.below {n0 : Nat} {w w' : World} {g : Nat} {L : List (List Nat)} {X : Nat → Prop} (h : Grid n0 w g L X) (hb : Below w.heap.size w w') : Grid n0 w' g L X :=
  h.keep (G := fun _ => False) (.of_below hb) (fun _ _ h => h)
theorem Grid.cell {n0 : Nat} {w : World} {g : Nat} {L : List (List Nat)} {X : Nat → Prop} (h : Grid n0 w g L X) (i : Nat) (hi : i < L.length) : ∃ A c, w.cell? ⟨g, i, none⟩ = some (.slice A (L.getD i []).length c) ∧ At w A (ns .u8 (L.getD i [])) := by
  obtain ⟨F, h1, h2⟩ := h.rows
  obtain ⟨A, c, e, hA, _⟩ := h2 i hi
  exact ⟨A, c, by rw [← e]; exact h1.cell i hi, hA⟩
theorem Grid.frozen {n0 : Nat} {w : World} {g : Nat} {L : List (List Nat)} {X : Nat → Prop} (h : Grid n0 w g L X) (i : Nat) : w.frozen? ⟨g, i, none⟩ = false := by
  obtain ⟨F, h1, h2⟩ := h.rows
  exact h1.frozen i
/-- what a row adds -/
def With (X : Nat → Prop) (v : Value) (x : Nat) : Prop := X x ∨ blk v x
theorem Grid.set {n0 n : Nat} {w : World} {g : Nat} {L : List (List Nat)} {X : Nat → Prop} {A : Option Addr} {c : Nat} {s : List Nat} (h : Grid n0 w g L X) (i : Nat) (hi : i < L.length) (hv : Buf n0 w (.slice A n c) s) (hg : ∀ x, blk (.slice A n c) x → x ≠ g) :
    Grid n0 (w.setCell ⟨g, i, none⟩ (.slice A n c)) g (L.set i s) (With X (.slice A n c)) ∧ Chg (fun x => x = g) w (w.setCell ⟨g, i, none⟩ (.slice A n c)) := by
  have hc := setCell_chg w g i (.slice A n c)
  obtain ⟨F, h1, h2⟩ := h.rows
  obtain ⟨hn, hA⟩ := buf_at hv
  refine ⟨⟨⟨turn F i (.slice A n c), ?_, fun j hj => ?_⟩, .inl h.here, fun x hx => ?_⟩, hc⟩
  · rw [List.length_set]; exact h1.set i _
  · rw [List.length_set] at hj
    rw [getD_set7]
    by_cases e : j = i
    · subst e
      rw [turn_same, if_pos ⟨rfl, hi⟩, ← hn]
      refine ⟨A, c, rfl, hA.chg hc (fun a ha e => hg a.block (by rw [ha]; rfl) e), fun a ha => ⟨.inr (by rw [ha]; rfl), hg a.block (by rw [ha]; rfl)⟩⟩
    · rw [turn_other _ _ _ _ e, if_neg (fun h => e h.1)]
      obtain ⟨B, d, e1, hB, hx⟩ := h2 j hj
      exact ⟨B, d, e1, hB.chg hc (fun a ha e => (hx a ha).2 e), fun a ha => ⟨.inl (hx a ha).1, (hx a ha).2⟩⟩
  · rcases hx with hx | hx
    · exact ⟨(h.lt x hx).1, Nat.lt_of_lt_of_le (h.lt x hx).2 hc.size⟩
    · exact ⟨(row_lt hv hx).1, Nat.lt_of_lt_of_le (row_lt hv hx).2 hc.size⟩
theorem Grid.made {n0 N : Nat} {w w' : World} (hn : n0 ≤ w.heap.size) (ho : w'.ownsRow w.heap.size 23 1 (.slice (some ⟨w.heap.size, 0, none⟩) N N) N (madeCells (Value.slice none 0 0).cells (N * 1)).toList) : Grid n0 w' w.heap.size (List.replicate N []) (fun x => x = w.heap.size) := by
  have h1 := own_full ho
  have hc : (madeCells (Value.slice none 0 0).cells (N * 1)).toList.toArray = (lst (fun _ => .slice none 0 0) N).toArray := by
    apply Array.ext
    · simp [lst_length, size_madeCells]
    · intro i hi1 hi2
      have hi : i < N := by simpa [size_madeCells] using hi1
      simp [madeCells, lst, Value.cells, Nat.mod_one]
  refine ⟨⟨fun _ => .slice none 0 0, RecAt.of (by rw [h1, hc]) (by rw [List.length_replicate]), fun i hi => ⟨none, 0, ?_, ?_, fun a ha => by cases ha⟩⟩, rfl, fun x hx => ?_⟩
  · simp [List.getD_eq_getElem?_getD, List.getElem?_replicate]
    split <;> simp
  · have : (List.replicate N ([] : List Nat)).getD i [] = [] := by
      simp [List.getD_eq_getElem?_getD, List.getElem?_replicate]
      split <;> simp
    rw [this]; exact At.nil _ _
  · rw [show x = w.heap.size from hx]
    exact ⟨hn, (Array.getElem?_eq_some_iff.1 h1).1⟩
theorem grid_all {L : List (List Nat)} {n : Nat} {s : List Nat} (hL : L.length = n) (h : ∀ j, j < n → L.getD j [] = s) : L = List.replicate n s := by
  apply List.ext_getElem
  · rw [hL, List.length_replicate]
  · intro i h1 h2
    have := h i (by omega)
    rw [List.getD_eq_getElem?_getD, List.getElem?_eq_getElem h1] at this
    simpa using this
end Go.Proofs.Ytfbjjblgcgjndaa

/- Contracts of the reference disk's made and New. -/
namespace Go.Proofs.Ytfbjjblgcgjndaa
open Go.RowKit

def madeWorld (w : World) (A : Option Addr) (n c : Nat) : World := (w.alloc (.cells #[.int .i64 (-1), .int .i64 (-1), .int .i64 (-1), .int .i64 (-1)] 3)).alloc (.cells #[.slice A n c, .slice none 0 0, .bool false, .int .i64 (-1), .slice (some ⟨w.heap.size, 0, none⟩) 4 4, .int .i64 0, .int .i64 0, .int .i64 0] 193)
set_option maxRecDepth 100000 in
theorem made_any (w : World) (A : Option Addr) (n c : Nat) : Calls Try.prog 128 #[.slice A n c] w fun e w' => e = .returned (.pointer (some ⟨w.heap.size + 1, 0, none⟩)) ∧ w' = madeWorld w A n c := by
  go_enter Try.func128, Try.ntmps128
  go_wp2
  go_ret
  exact ⟨by simp, rfl⟩
/-- rows gathered so far, all memory the call's own -/
structure Rows23 (n0 : Nat) (w : World) (v : Value) (L : List (List Nat)) (F : Nat → Value) (Y : Nat → Prop) : Prop where
  own : w.ownsRow n0 23 1 v L.length (lst F L.length)
  rows : ∀ i, i < L.length → RowIn w Y (F i) (L.getD i [])
  lt : ∀ g, Y g → n0 ≤ g ∧ g < w.heap.size
  off : ∀ g, Y g → ¬ blk v g
theorem Rows23.nil (n0 : Nat) (w : World) : Rows23 n0 w (.slice none 0 0) [] (fun _ => .slice none 0 0) (fun _ => False) :=
  ⟨World.ownsRow_nil _ _ _ _, fun i hi => by simp at hi, fun g hg => hg.elim, fun g hg => hg.elim⟩
theorem Rows23.below {n0 : Nat} {w w' : World} {v : Value} {L : List (List Nat)} {F : Nat → Value} {Y : Nat → Prop} (h : Rows23 n0 w v L F Y) (hb : Below w.heap.size w w') : Rows23 n0 w' v L F Y :=
  ⟨own_below h.own hb, fun i hi => (h.rows i hi).keep (G := fun _ => False) (.of_below hb) (fun _ _ h => h), fun g hg => ⟨(h.lt g hg).1, Nat.lt_of_lt_of_le (h.lt g hg).2 hb.size⟩, h.off⟩
/-- a row more -/
theorem Rows23.push {n0 : Nat} {w w' : World} {v v' : Value} {L : List (List Nat)} {F : Nat → Value} {Y : Nat → Prop} {A : Option Addr} {n c : Nat} {s : List Nat} (h : Rows23 n0 w v L F Y) (hr : Buf n0 w (.slice A n c) s) (hoff : ∀ g, blk (.slice A n c) g → ¬ blk v g)
    (ho : w'.ownsRow n0 23 1 v' (L.length + 1) (lst F L.length ++ [.slice A n c])) (hor : (w.grownBy w' v.ownBlock ∧ v'.ownBlock = v.ownBlock) ∨ (w.grownBy w' none ∧ ∃ g, v'.ownBlock = some g ∧ w.heap.size ≤ g)) :
    Rows23 n0 w' v' (L ++ [s]) (turn F L.length (.slice A n c)) (With Y (.slice A n c)) := by
  have hc := push_chg hor
  obtain ⟨hn, hA⟩ := buf_at hr
  have hnil : A = none → c = 0 := by
    obtain ⟨A', c', e, _, h2, _⟩ := hr.at
    injection e with e1 e2 e3
    subst e1 e3; exact h2
  have hnew : ∀ g, g < w.heap.size → blk v' g → blk v g := fun g hg hb => by
    rcases push_blk hor hb with x | x
    · exact x
    · omega
  have hl : (L ++ [s]).length = L.length + 1 := by simp
  refine ⟨?_, fun i hi => ?_, fun g hg => ?_, fun g hg hb => ?_⟩
  · rw [hl]
    have : lst (turn F L.length (.slice A n c)) (L.length + 1) = lst F L.length ++ [.slice A n c] := by
      rw [lst_succ, turn_same]
      congr 1
      exact lst_congr fun j hj => turn_other _ _ _ _ (by omega)
    rw [this]; exact ho
  · rw [hl] at hi
    by_cases e : i = L.length
    · subst e
      rw [turn_same]
      have : (L ++ [s]).getD L.length [] = s := by simp [List.getD_eq_getElem?_getD]
      rw [this]
      exact ⟨A, c, by rw [hn], hA.chg hc (fun a ha => hoff _ (by rw [ha]; rfl)), hnil, fun a ha => .inr (by rw [ha]; rfl)⟩
    · rw [turn_other _ _ _ _ e]
      have : (L ++ [s]).getD i [] = L.getD i [] := by rw [List.getD_eq_getElem?_getD, List.getElem?_append_left (by omega), ← List.getD_eq_getElem?_getD]
      rw [this]
      exact ((h.rows i (by omega)).keep hc h.off).mono (fun g hg => .inl hg)
  · rcases hg with hg | hg
    · exact ⟨(h.lt g hg).1, Nat.lt_of_lt_of_le (h.lt g hg).2 hc.size⟩
    · exact ⟨(row_lt hr hg).1, Nat.lt_of_lt_of_le (row_lt hr hg).2 hc.size⟩
  · rcases hg with hg | hg
    · exact h.off g hg (hnew g (h.lt g hg).2 hb)
    · exact hoff g hg (hnew g (row_lt hr hg).2 hb)
/-- a disk is made of rows -/
theorem Rows23.disk {n0 : Nat} {w : World} {A : Option Addr} {c : Nat} {D : Dsk} {F : Nat → Value} {Y : Nat → Prop} (h : Rows23 n0 w (.slice A D.last.length c) D.last F Y) (hn : n0 ≤ w.heap.size) (ok : D.Ok) (hc : D.cache = []) (hd : D.dark = false) (ht : D.trip = -1) (hf : ∀ j, D.f j = -1) (hnn : ∀ j, D.n j = 0) :
    RD n0 (madeWorld w A D.last.length c) (w.heap.size + 1) D (fun g => n0 ≤ g ∧ g < w.heap.size + 2) ∧ Below w.heap.size w (madeWorld w A D.last.length c) := by
  have hb : Below w.heap.size w (madeWorld w A D.last.length c) := below_alloc0 (below_alloc0 (Below.refl _ _) _) _
  have hs : (madeWorld w A D.last.length c).heap.size = w.heap.size + 2 := by unfold madeWorld; simp only [sz_alloc]
  have h1 := h.below hb
  have hp : (madeWorld w A D.last.length c).heap[w.heap.size + 1]? = some (.cells #[.slice A D.last.length c, .slice none 0 0, .bool false, .int .i64 (-1), .slice (some ⟨w.heap.size, 0, none⟩) 4 4, .int .i64 0, .int .i64 0, .int .i64 0] 193 (0, 0)) := by
    unfold madeWorld; simp only [hp_alloc, sz_alloc]; rw [if_pos trivial]
  have hfb : (madeWorld w A D.last.length c).heap[w.heap.size]? = some (.cells #[.int .i64 (-1), .int .i64 (-1), .int .i64 (-1), .int .i64 (-1)] 3 (0, 0)) := by
    unfold madeWorld; simp only [hp_alloc, sz_alloc]; rw [if_neg (by omega), if_pos trivial]
  have hLlt : ∀ x, blk (.slice A D.last.length c) x → x < w.heap.size := fun x hx => (row_lt h.own hx).2
  have hVb : ∀ x, blk (Value.slice (some ⟨w.heap.size, 0, none⟩) 4 4) x → x = w.heap.size := fun x hx => by cases hx; rfl
  have hnb : ∀ x, ¬ blk (Value.slice none 0 0) x := fun x e => by cases e
  have hin : RDiskIn n0 (madeWorld w A D.last.length c) (w.heap.size + 1) D ⟨.slice A D.last.length c, .slice none 0 0, .slice (some ⟨w.heap.size, 0, none⟩) 4 4, F, fun _ => .slice none 0 0⟩ Y := by
    refine ⟨RecAt.of hp ?_, h1.own, h1.rows, by rw [hc]; exact World.ownsRow_nil _ _ _ _, fun i hi => by rw [hc] at hi; simp at hi, ⟨rfl, .inr ⟨w.heap.size, 4, _, rfl, hn, hfb, Nat.le_refl _, by simp only [maxLen]; omega, rfl, ?_⟩⟩, by omega,
      ⟨fun e => by have := hLlt _ e; omega, hnb _, fun e => by have := hVb _ e; omega, fun x hx => ⟨hnb x, fun e => by have := hVb x e; have := hLlt x hx; omega⟩, fun x hx => absurd hx (hnb x)⟩, fun x hx e => ?_, h1.lt⟩
    · simp [lst, rcell, hd, ht, hnn, List.range_succ]
    · simp [fourF, hf]
    · have hlt := (h.lt x hx).2
      rcases e with e | e | e | e
      · omega
      · exact h.off x hx e
      · exact hnb x e
      · have := hVb x e; omega
  refine ⟨⟨ok, ⟨_, Y, hin, fun g hg => ?_⟩, fun g hg => ⟨hg.1, by rw [hs]; exact hg.2⟩⟩, hb⟩
  rcases hg with hg | hg | hg | hg | hg
  · have := h.lt g hg; exact ⟨this.1, by omega⟩
  · exact ⟨by omega, by omega⟩
  · have := row_lt h.own hg; exact ⟨this.1, by omega⟩
  · exact absurd hg (hnb g)
  · have := hVb g hg; exact ⟨by omega, by omega⟩
end Go.Proofs.Ytfbjjblgcgjndaa

/- over.Encode (34). -/
namespace Go.Proofs.Ytfbjjblgcgjndaa
open Go.RowKit Go.Shelf

attribute [local go_sem] Oper.semAt_some

def encOk (l u : List Nat) : Prop := need l.length ≠ 0 ∧ u.length = need l.length ∧ (u.any fun x => !isPg x) = false
def le4 (x : Nat) : List Nat := [x % 256, x / 256 % 256, x / 65536 % 256, x / 16777216 % 256]
/-- page j of a great value -/
def encRow (l u : List Nat) (j : Nat) : List Nat := le4 (if j + 1 < u.length then nth u (j + 1) else 0) ++ (l.drop (1004 * j)).take 1004
def encRows (l u : List Nat) : List (List Nat) := (List.range (need l.length)).map (encRow l u)
def EncGives (w : World) (l u : List Nat) (e : Ending) (w' : World) : Prop :=
  ∃ v F Y, e = .returned (.tuple #[v, .int .u16 0]) ∧ Rows23 w.heap.size w' v (encRows l u) F Y ∧ Below w.heap.size w w' ∧ ∀ i A n c, i < need l.length → F i = .slice A n c → n ≤ c
/-- rows that came out: each its own block, all apart -/
structure Apt (n0 : Nat) (w : World) (n : Nat) (L : List (List Nat)) (F : Nat → Value) (Y : Nat → Prop) : Prop where
  bufs : ∀ i, i < n → Buf n0 w (F i) (L.getD i [])
  apart : ∀ i j, i < n → j < n → i ≠ j → ∀ g, blk (F i) g → ¬ blk (F j) g
  sub : ∀ i g, i < n → blk (F i) g → Y g
def EncFull (w : World) (l u : List Nat) (e : Ending) (w' : World) : Prop :=
  ∃ v F Y, e = .returned (.tuple #[v, .int .u16 0]) ∧ Rows23 w.heap.size w' v (encRows l u) F Y ∧ Below w.heap.size w w' ∧ (∀ i A n c, i < need l.length → F i = .slice A n c → n ≤ c) ∧ Apt w.heap.size w' (need l.length) (encRows l u) F Y
/-- the rows behind the chunks pre -/
def rowsOf (l u pre : List Nat) : List (List Nat) := (List.range pre.length).map fun j => le4 (if j + 1 < u.length then nth u (j + 1) else 0) ++ (l.drop (1004 * nth pre j)).take 1004
theorem rowsOf_length (l u pre : List Nat) : (rowsOf l u pre).length = pre.length := by simp [rowsOf]
theorem rowsOf_snoc (l u pre : List Nat) (x : Nat) : rowsOf l u (pre ++ [x]) = rowsOf l u pre ++ [le4 (if pre.length + 1 < u.length then nth u (pre.length + 1) else 0) ++ (l.drop (1004 * x)).take 1004] := by
  unfold rowsOf
  rw [List.length_append, List.length_singleton, List.range_succ, List.map_append]
  congr 1
  · refine List.map_congr_left fun j hj => ?_
    have hj' := List.mem_range.1 hj
    have : nth (pre ++ [x]) j = nth pre j := by simp [nth, List.getD_eq_getElem?_getD, List.getElem?_append_left hj']
    rw [this]
  · have : nth (pre ++ [x]) pre.length = x := by simp [nth, List.getD_eq_getElem?_getD]
    simp [this]
theorem rowsOf_all (l u : List Nat) (h : u.length = need l.length) : rowsOf l u (List.range (need l.length)) = encRows l u := by
  unfold rowsOf encRows encRow
  rw [List.length_range]
  refine List.map_congr_left fun j hj => ?_
  have hj' := List.mem_range.1 hj
  have : nth (List.range (need l.length)) j = j := by simp [nth, List.getD_eq_getElem?_getD, hj']
  rw [this]
/-- between two rounds -/
structure EncI (w : World) (l u : List Nat) (S : Value) (b o c : Nat) (pre : List Nat) (W : World) (v : Value) (F : Nat → Value) (Y : Nat → Prop) : Prop where
  at_ : Boxed W w.heap.size 34 S
  n_ : Boxed W (w.heap.size + 1) 3 (.int .i64 (u.length : Int))
  out : Boxed W (w.heap.size + 1 + 1) 30 v
  s_ : Boxed W (w.heap.size + 1 + 1 + 1) 23 (.slice (some ⟨b, o, none⟩) l.length c)
  k_ : Boxed W (w.heap.size + 1 + 1 + 1 + 1) 3 (.int .i64 1004)
  rows : Rows23 (w.heap.size + 5) W v (rowsOf l u pre) F Y
  cells : ∀ g, Y g → ∃ cs t fr, W.heap[g]? = some (.cells cs t fr)
  below : Below w.heap.size w W
  room : ∀ i A n cp, i < pre.length → F i = .slice A n cp → n ≤ cp
  bufs : ∀ i, i < pre.length → Buf (w.heap.size + 5) W (F i) ((rowsOf l u pre).getD i [])
  apart : ∀ i j, i < pre.length → j < pre.length → i ≠ j → ∀ g, blk (F i) g → ¬ blk (F j) g
  sub : ∀ i g, i < pre.length → blk (F i) g → Y g
theorem EncI.own {w : World} {l u : List Nat} {S : Value} {b o c B : Nat} (hB : w.heap.size ≤ B) : OwnFrom B (fun (pre : List Nat) W => ∃ v F Y, EncI w l u S b o c pre W v F Y) := by
  rintro pre W W' row ⟨v, F, Y, h⟩ hg hr
  have hne : ∀ g cs t fr, W.heap[g]? = some (.cells cs t fr) → row ≠ some g := fun g cs t fr hc e => by
    obtain ⟨_, o', ho, hno⟩ := hr g e
    rw [hc] at ho; cases ho; cases hno
  have hbx : ∀ {g t v}, Boxed W g t v → Boxed W' g t v := fun {g t v} hb => hb.kept hg (fun e => hne g _ _ _ hb e.symm)
  have hch : Chg (fun g => row = some g) W W' := ⟨hg.os, hg.tape, hg.output, hg.size, fun k hk hF => hg.block k hk (fun e => hF e.symm)⟩
  have hY : ∀ g, Y g → row ≠ some g := fun g hy => by
    obtain ⟨cs, t, fr, hc⟩ := h.cells g hy
    exact hne g cs t fr hc
  have hv : ∀ g, blk v g → row ≠ some g := fun g hb e => by
    rcases h.rows.own.2 with ⟨rfl, _⟩ | ⟨g', cap, cur, rfl, _, hgb, _⟩
    · cases hb
    · obtain rfl : g' = g := by cases hb; rfl
      exact hne g' _ _ _ hgb e
  refine ⟨v, F, Y, hbx h.at_, hbx h.n_, hbx h.out, hbx h.s_, hbx h.k_, ⟨own_chg h.rows.own hch hv, fun i hi => (h.rows.rows i hi).keep hch (fun g hy => hY g hy), fun g hy => ⟨(h.rows.lt g hy).1, Nat.lt_of_lt_of_le (h.rows.lt g hy).2 hg.size⟩, h.rows.off⟩, fun g hy => ?_, ?_, h.room, fun i hi => own_chg (h.bufs i hi) hch (fun g hb => hY g (h.sub i g hi hb)), h.apart, h.sub⟩
  · obtain ⟨cs, t, fr, hc⟩ := h.cells g hy
    exact ⟨cs, t, fr, (hg.block g (Array.getElem?_eq_some_iff.1 hc).1 (fun e => hne g cs t fr hc e.symm)).trans hc⟩
  · exact ownFrom_below (β := Unit) (Nat.le_refl _) hB () W W' row h.below hg hr
theorem Rows23.push2 {n0 : Nat} {w w' : World} {v v' : Value} {L : List (List Nat)} {F : Nat → Value} {Y : Nat → Prop} {A : Option Addr} {n c : Nat} {s : List Nat} (h : Rows23 n0 w v L F Y) (hr : Buf n0 w (.slice A n c) s) (hoff : ∀ g, blk (.slice A n c) g → ¬ blk v g)
    (ho : w'.ownsRow n0 23 1 v' (L.length + 1) (lst F L.length ++ [.slice A n c])) (hc : Chg (blk v) w w') (hnew : ∀ g, g < w.heap.size → blk v' g → blk v g) :
    Rows23 n0 w' v' (L ++ [s]) (turn F L.length (.slice A n c)) (With Y (.slice A n c)) := by
  obtain ⟨hn, hA⟩ := buf_at hr
  have hnil : A = none → c = 0 := by
    obtain ⟨A', c', e, _, h2, _⟩ := hr.at
    injection e with e1 e2 e3
    subst e1 e3; exact h2
  have hl : (L ++ [s]).length = L.length + 1 := by simp
  refine ⟨?_, fun i hi => ?_, fun g hg => ?_, fun g hg hb => ?_⟩
  · rw [hl]
    have : lst (turn F L.length (.slice A n c)) (L.length + 1) = lst F L.length ++ [.slice A n c] := by
      rw [lst_succ, turn_same]
      congr 1
      exact lst_congr fun j hj => turn_other _ _ _ _ (by omega)
    rw [this]; exact ho
  · rw [hl] at hi
    by_cases e : i = L.length
    · subst e
      rw [turn_same]
      have : (L ++ [s]).getD L.length [] = s := by simp [List.getD_eq_getElem?_getD]
      rw [this]
      exact ⟨A, c, by rw [hn], hA.chg hc (fun a ha => hoff _ (by rw [ha]; rfl)), hnil, fun a ha => .inr (by rw [ha]; rfl)⟩
    · rw [turn_other _ _ _ _ e]
      have : (L ++ [s]).getD i [] = L.getD i [] := by rw [List.getD_eq_getElem?_getD, List.getElem?_append_left (by omega), ← List.getD_eq_getElem?_getD]
      rw [this]
      exact ((h.rows i (by omega)).keep hc h.off).mono (fun g hg => .inl hg)
  · rcases hg with hg | hg
    · exact ⟨(h.lt g hg).1, Nat.lt_of_lt_of_le (h.lt g hg).2 hc.size⟩
    · exact ⟨(row_lt hr hg).1, Nat.lt_of_lt_of_le (row_lt hr hg).2 hc.size⟩
  · rcases hg with hg | hg
    · exact h.off g hg (hnew g (h.lt g hg).2 hb)
    · exact hoff g hg (hnew g (row_lt hr hg).2 hb)
theorem bx_below {W W' : World} {g : Nat} {t : TypeId} {v : Value} (h : Boxed W g t v) (hb : Below W.heap.size W W') : Boxed W' g t v := (hb.block g h.lt).trans h
theorem bx_chg {W W' : World} {G : Nat → Prop} {g : Nat} {t : TypeId} {v : Value} (h : Boxed W g t v) (hb : Chg G W W') (hg : ¬ G g) : Boxed W' g t v := (hb.block g h.lt hg).trans h
theorem EncI.up {w : World} {l u : List Nat} {S : Value} {b o c : Nat} {pre : List Nat} {W W' : World} {v : Value} {F : Nat → Value} {Y : Nat → Prop} (h : EncI w l u S b o c pre W v F Y) (hb : Below W.heap.size W W') : EncI w l u S b o c pre W' v F Y :=
  ⟨bx_below h.at_ hb, bx_below h.n_ hb, bx_below h.out hb, bx_below h.s_ hb, bx_below h.k_ hb, h.rows.below hb, fun g hg => by
    obtain ⟨cs, t, fr, hc⟩ := h.cells g hg
    exact ⟨cs, t, fr, (hb.block g (Array.getElem?_eq_some_iff.1 hc).1).trans hc⟩, below_next0 h.below hb, h.room, fun i hi => own_below (h.bufs i hi) hb, h.apart, h.sub⟩
theorem buf_cells {n0 : Nat} {w : World} {v : Value} {l : List Nat} (h : Buf n0 w v l) {g : Nat} (hg : blk v g) : ∃ cs t fr, w.heap[g]? = some (.cells cs t fr) := by
  rcases h.2 with ⟨rfl, _⟩ | ⟨g', cap, cur, rfl, _, hgb, _⟩
  · cases hg
  · obtain rfl : g' = g := by cases hg; rfl
    exact ⟨_, _, _, hgb⟩
/-- a round's world -/
theorem enc_step {w : World} {l u : List Nat} {S : Value} {b o c : Nat} {pre : List Nat} {W W1 W3 : World} {v v' : Value} {F : Nat → Value} {Y : Nat → Prop} {x : Nat} {A : Option Addr} {n cp : Nat} (h : EncI w l u S b o c pre W v F Y) (hb1 : Below W.heap.size W W1) (hk1 : KeepsOthers W W1)
    (hr : Buf W.heap.size W1 (.slice A n cp) (le4 (if pre.length + 1 < u.length then nth u (pre.length + 1) else 0) ++ (l.drop (1004 * x)).take 1004))
    (ho : W3.ownsRow (w.heap.size + 5) 23 1 v' (pre.length + 1) (lst F pre.length ++ [.slice A n cp])) (hg : (W1.alloc (.cells #[.slice A n cp] 23)).grownBy W3 v.ownBlock) (hv : v'.ownBlock = v.ownBlock ∨ v'.ownBlock = some (W1.alloc (.cells #[.slice A n cp] 23)).heap.size) (hnc : n ≤ cp) :
    KeepsOthers W (W3.setCell ⟨w.heap.size + 1 + 1, 0, none⟩ v') ∧ KeepsTwo (w.heap.size + 1 + 1 + 1) (w.heap.size + 1 + 1 + 1 + 1) W (W3.setCell ⟨w.heap.size + 1 + 1, 0, none⟩ v') ∧ ∃ v F Y, EncI w l u S b o c (pre ++ [x]) (W3.setCell ⟨w.heap.size + 1 + 1, 0, none⟩ v') v F Y := by
  have h1 := h.up hb1
  have hb2 : Below W1.heap.size W1 (W1.alloc (.cells #[.slice A n cp] 23)) := below_alloc0 (Below.refl _ _) _
  have h2 := h1.up hb2
  have hr2 : Buf W.heap.size (W1.alloc (.cells #[.slice A n cp] 23)) (.slice A n cp) _ := hr.below hb2
  have hs1 := hb1.size
  have hs2 : (W1.alloc (.cells #[.slice A n cp] 23)).heap.size = W1.heap.size + 1 := by simp
  generalize hW2 : W1.alloc (.cells #[.slice A n cp] 23) = W2 at *
  have hn5 : w.heap.size + 5 ≤ W.heap.size := by have := h.k_.lt; omega
  have hc3 : Chg (blk v) W2 W3 := ⟨hg.os, hg.tape, hg.output, hg.size, fun k hk hF => hg.block k hk (fun e => hF (by unfold blk; exact e.symm))⟩
  have hvb : ∀ g, blk v g → w.heap.size + 5 ≤ g ∧ g < W2.heap.size := fun g hg => row_lt h2.rows.own hg
  have hvb' : ∀ g, blk v' g → w.heap.size + 5 ≤ g ∧ g < W3.heap.size := fun g hg => row_lt ho hg
  have hrow5 : Buf (w.heap.size + 5) W2 (.slice A n cp) _ := own_down hr2 hn5
  have hpush := h2.rows.push2 (v' := v') (w' := W3) hrow5 (fun g hg hgv => by
    have a1 := (row_lt hr2 hg).1
    have a2 := (row_lt h.rows.own hgv).2
    omega) (by rw [rowsOf_length]; exact ho) hc3 (fun g hgl hg' => by
    rcases hv with e | e
    · unfold blk at hg' ⊢; rw [← e]; exact hg'
    · unfold blk at hg'; rw [e] at hg'; cases hg'; omega)
  have c4 : Chg (fun g => g = w.heap.size + 1 + 1) W3 (W3.setCell ⟨w.heap.size + 1 + 1, 0, none⟩ v') := one_chg _ _ _ _
  have hout3 : Boxed W3 (w.heap.size + 1 + 1) 30 v := bx_chg h2.out hc3 (fun e => by have := hvb _ e; omega)
  have bx : ∀ {g t y}, Boxed W2 g t y → g < w.heap.size + 5 → g ≠ w.heap.size + 1 + 1 → Boxed (W3.setCell ⟨w.heap.size + 1 + 1, 0, none⟩ v') g t y := fun {g t y} hb hl hne => bx_chg (bx_chg hb hc3 (fun e => by have := hvb _ e; omega)) c4 (fun e => hne e)
  have hY3 : ∀ g, With Y (.slice A n cp) g → w.heap.size + 5 ≤ g := fun g hg => (hpush.lt g hg).1
  have hkeep : KeepsOthers W (W3.setCell ⟨w.heap.size + 1 + 1, 0, none⟩ v') := by
    refine ((hk1.trans (by rw [← hW2]; exact KeepsOthers.alloc W1 _)).trans (KeepsOthers.of_grownBy hg fun j o' ej hj => ?_)).trans (KeepsOthers.setCell _ _ _)
    rcases h2.rows.own.2 with ⟨rfl, _⟩ | ⟨g', cap, cur, rfl, _, hgb, _⟩
    · cases ej
    · obtain rfl : g' = j := by simpa [Value.ownBlock] using ej
      rw [hgb] at hj; cases hj; rfl
  refine ⟨hkeep, ⟨?_, ?_⟩, v', turn F (rowsOf l u pre).length (.slice A n cp), With Y (.slice A n cp), ?_⟩
  · exact (show _ = _ from bx h2.s_ (by omega) (by omega)).trans h.s_.symm
  · exact (show _ = _ from bx h2.k_ (by omega) (by omega)).trans h.k_.symm
  · refine ⟨bx h2.at_ (by omega) (by omega), bx h2.n_ (by omega) (by omega), hout3.set v', bx h2.s_ (by omega) (by omega), bx h2.k_ (by omega) (by omega), ?_, fun g hg' => ?_, ?_, fun i A' n' c' hi e => ?_, fun i hi => ?_, fun i j hi hj hij g hgi hgj => ?_, fun i g hi hgi => ?_⟩
    · rw [rowsOf_snoc]
      exact ⟨own_chg hpush.own c4 (fun g hg' e => by have := (row_lt hpush.own hg').1; omega), fun i hi => (hpush.rows i hi).keep c4 (fun g hg' e => by have := hY3 g hg'; omega), fun g hg' => ⟨hY3 g hg', Nat.lt_of_lt_of_le (hpush.lt g hg').2 c4.size⟩, hpush.off⟩
    · have hcl : ∃ cs t fr, W2.heap[g]? = some (.cells cs t fr) := by
        rcases hg' with hg' | hg'
        · exact h2.cells g hg'
        · exact buf_cells hr2 hg'
      obtain ⟨cs, t, fr, hcl⟩ := hcl
      have hlt := (Array.getElem?_eq_some_iff.1 hcl).1
      have hnv : ¬ blk v g := by
        rcases hg' with hg' | hg'
        · exact h2.rows.off g hg'
        · intro e
          have a1 := (row_lt hr2 hg').1
          have a2 := (row_lt h.rows.own e).2
          omega
      exact ⟨cs, t, fr, ((c4.block g (Nat.lt_of_lt_of_le hlt hc3.size) (fun e => by have := hY3 g hg'; omega)).trans (hc3.block g hlt hnv)).trans hcl⟩
    · exact (h2.below.trans (hc3.below (by omega) (fun g e => by have := (hvb g e).1; omega))).trans (c4.below (by have := hc3.size; omega) (fun g e => by omega))
    · rw [rowsOf_length] at e
      by_cases hi' : i = pre.length
      · subst hi'
        rw [turn_same] at e
        cases e; exact hnc
      · rw [turn_other _ _ _ _ hi'] at e
        exact h.room i A' n' c' (by rw [List.length_append, List.length_singleton] at hi; omega) e
    · rw [rowsOf_snoc, rowsOf_length]
      rw [List.length_append, List.length_singleton] at hi
      by_cases hi' : i = pre.length
      · subst hi'
        rw [turn_same]
        have e1 : (rowsOf l u pre ++ [le4 (if pre.length + 1 < u.length then nth u (pre.length + 1) else 0) ++ (l.drop (1004 * x)).take 1004]).getD pre.length [] = le4 (if pre.length + 1 < u.length then nth u (pre.length + 1) else 0) ++ (l.drop (1004 * x)).take 1004 := by
          rw [List.getD_eq_getElem?_getD, List.getElem?_append_right (by rw [rowsOf_length]; omega), rowsOf_length]; simp
        rw [e1]
        exact own_chg (own_chg hrow5 hc3 (fun g hg' hgv => by
          have a1 := (row_lt hr2 hg').1
          have a2 := (row_lt h.rows.own hgv).2
          omega)) c4 (fun g hg' e => by have := (row_lt hrow5 hg').1; omega)
      · rw [turn_other _ _ _ _ hi']
        have e1 : ∀ z, (rowsOf l u pre ++ [z]).getD i [] = (rowsOf l u pre).getD i [] := fun z => by
          rw [List.getD_eq_getElem?_getD, List.getElem?_append_left (by rw [rowsOf_length]; omega), ← List.getD_eq_getElem?_getD]
        rw [e1]
        exact own_chg (own_chg (h2.bufs i (by omega)) hc3 (fun g hg' hgv => h2.rows.off g (h2.sub i g (by omega) hg') hgv)) c4 (fun g hg' e => by have := (row_lt (h2.bufs i (by omega)) hg').1; omega)
    · rw [rowsOf_length] at hgi hgj
      rw [List.length_append, List.length_singleton] at hi hj
      by_cases hi' : i = pre.length
      · subst hi'
        rw [turn_same] at hgi
        rw [turn_other _ _ _ _ (Ne.symm hij)] at hgj
        have a1 := (row_lt hr2 hgi).1
        have a2 := (row_lt (h.bufs j (by omega)) hgj).2
        omega
      · rw [turn_other _ _ _ _ hi'] at hgi
        by_cases hj' : j = pre.length
        · subst hj'
          rw [turn_same] at hgj
          have a1 := (row_lt hr2 hgj).1
          have a2 := (row_lt (h.bufs i (by omega)) hgi).2
          omega
        · rw [turn_other _ _ _ _ hj'] at hgj
          exact h.apart i j (by omega) (by omega) hij g hgi hgj
    · rw [rowsOf_length] at hgi
      rw [List.length_append, List.length_singleton] at hi
      by_cases hi' : i = pre.length
      · subst hi'
        rw [turn_same] at hgi
        exact .inr hgi
      · rw [turn_other _ _ _ _ hi'] at hgi
        exact .inl (h.sub i g (by omega) hgi)
theorem Try.info5b : (Try.prog.info? 5).map (fun i => (i.zero, i.size, i.bytes)) = some (some (.int .u8 0), 1, 1) := by kernel_rfl
theorem Try.info23b : (Try.prog.info? 23).map (fun i => (i.zero, i.size, i.bytes)) = some (some (.slice none 0 0), 1, 24) := by kernel_rfl
theorem enc_box {w : World} {l u : List Nat} {S : Value} {b o c : Nat} {pre : List Nat} {W W2 W3 : World} {v : Value} {F : Nat → Value} {Y : Nat → Prop} (h : EncI w l u S b o c pre W v F Y) (hb2 : Below W.heap.size W W2) (hg : W2.grownBy W3 v.ownBlock) : Boxed W3 (w.heap.size + 1 + 1) 30 v :=
  ((h.up hb2).out).kept hg (fun e => by
    have := row_lt (h.up hb2).rows.own (show blk v (w.heap.size + 1 + 1) from e.symm)
    omega)
theorem part_cells {w W : World} {b o : Nat} {l : List Nat} (h : w.rangeAt b o (ns .u8 l)) (hl : 0 < l.length) (hb : Below w.heap.size w W) (x : Nat) : ∀ j u, (ns .u8 ((l.drop (1004 * x)).take 1004))[j]? = some u → W.cell? (Addr.add ⟨b, o + 1004 * x, none⟩ j) = some u := fun j u hu => by
  have hA : At W (some ⟨b, o, none⟩) (ns .u8 l) := (At.below (fun _ => ⟨b, o, rfl, h⟩) hb)
  obtain ⟨b', o', e, hr⟩ := hA.part (1004 * x) 1004 (by intro e; rw [e] at hu; simp at hu)
  cases e
  rw [Addr.add_mid]; exact hr j u hu
theorem opIn_append {F : Fence} {n : Nat} {P : Program} (w : World) {o : Oper} {a : Act} {Q : Exit → Act → World → Prop} {K : Act → World → Prop}
    (s x : Operand) (t : TypeId) (hop : o.op = Op.call { callee := Callee.builtin Builtin.append, args := #[s, x], argTypes := #[t, t] })
    (base : Nat) (e : TypeId) (i : TypeInfo) (z : Value) (size bytes : Nat) (h1 : P.underlying t = some (.slice e)) (h2 : P.info? e = some i) (h3 : i.zero = some z) (h4 : i.size = size) (h5 : i.bytes = bytes) (h6 : z.cells.size = size) (h7 : 0 < size)
    (v : Value) (k : Nat) (xs : List Value) (hs : a.eval s = v) (hown : w.ownsRow base e size v k xs) (ad : Addr) (m c : Nat) (news : List Value) (hx : a.eval x = .slice (some ad) m c) (hn : news.length = m * size)
    (hc : ∀ j u, news[j]? = some u → w.cell? (ad.add j) = some u) (h1c : ∀ u ∈ news, u.oneCell' = true) (b1 : k + m ≤ maxLen) (b2 : (k + m) * bytes ≤ 140737488355328) (b3 : base ≤ w.heap.size)
    (hK : ∀ v' w', w'.ownsRow base e size v' (k + m) (xs ++ news) → w.grownBy w' v.ownBlock → (v'.ownBlock = v.ownBlock ∨ v'.ownBlock = some w.heap.size) → K (a.put o.dst v') w') :
    Oper.wpIn F n P o a w K Q := by
  obtain ⟨v', w', hrun, r1, r2, _, r4⟩ := run_append_own_at (P := P) w base t o.type e i z size bytes h1 h2 h3 h4 h5 h6 h7 v k xs hown ad m c news hn hc h1c b1 b2 b3
  unfold Oper.wpIn
  refine ⟨?_, ?_⟩
  · simp [Oper.about, hop, resolve, Target.leads, Sem.run_pure]
  · rw [Oper.semAt_plain F _ _ (by rw [hop]; intro c hc'; cases hc')]
    simp [execOp, hop, resolve, invoke, builtin, hs, hx, hrun, Result.andThen]
    exact hK v' w' r1 r2 r4
theorem ite_of {c : Prop} [Decidable c] {A B : Prop} (h : c) (ha : A) : if c then A else B := by rw [if_pos h]; exact ha
theorem opIn_append_run {F : Fence} {n : Nat} {P : Program} {w w' : World} {o : Oper} {a : Act} {Q : Exit → Act → World → Prop} {K : Act → World → Prop} {v' : Value}
    (s x : Operand) (t : TypeId) (hop : o.op = Op.call { callee := Callee.builtin Builtin.append, args := #[s, x], argTypes := #[t, t] })
    (hrun : (Builtin.append_ #[t, t] o.type #[a.eval s, a.eval x]).run P w = .ok v' w') (hK : K (a.put o.dst v') w') : Oper.wpIn F n P o a w K Q := by
  unfold Oper.wpIn
  refine ⟨?_, ?_⟩
  · simp [Oper.about, hop, resolve, Target.leads, Sem.run_pure]
  · rw [Oper.semAt_plain F _ _ (by rw [hop]; intro c hc'; cases hc')]
    simp [execOp, hop, resolve, invoke, builtin, hrun, Result.andThen]
    exact hK
set_option maxRecDepth 100000 in
set_option maxHeartbeats 8000000 in
theorem encode_full (A B : Option Addr) (c cc : Nat) (l u : List Nat) (w : World) (hA : At w A (ns .u8 l)) (hB : At w B (ns .u32 u)) (hcap : l.length ≤ c) (hu : ∀ x, x ∈ u → x < 4294967296) (hok : encOk l u) :
    Calls Try.prog 34 #[.slice A l.length c, .slice B u.length cc] w (EncFull w l u) := by
  obtain ⟨hn0, hul, hno⟩ := hok
  obtain ⟨hl1, hl2, hne⟩ := need_yes hn0
  have hn9 := need_le l.length
  obtain ⟨N, hN⟩ : ∃ N, N = need l.length := ⟨_, rfl⟩
  have HND := Lib.hid (need_any l.length (by omega))
  rw [← hN] at HND hn0 hul hne hn9
  have HNO := Lib.hid (fun w' (h : Below w.heap.size w w') => holdsno_any B cc u w' (hB.below h) hu (by omega))
  rw [hno] at HNO
  obtain ⟨b, o, rfl, hcell⟩ := hA (by intro e; have : (ns .u8 l).length = 0 := by rw [e]; rfl
                                      rw [ns_length] at this; omega)
  have HC := Lib.hid hcell
  have HB := Lib.hid hB
  have HU := Lib.hid hu
  have HUL := Lib.hid hul
  have HNE := Lib.hid hne
  have HN := Lib.hid hN
  have hz1 : ((N : Int) == 0) = false := by simp; omega
  have hz2 : ¬ (N : Int) = 0 := by omega
  have hz3 : ((u.length : Int) != (N : Int)) = false := by simp; omega
  clear hcell hA hB hu hul hne hN hno hn0
  refine (callsIn_wide (n := 6)).1 ?_
  refine callsIn_of_wp_marks Try.func34 rfl trivial ?_ rfl
  simp only [Try.ntmps34, List.size_toArray, List.length_cons, List.length_nil, Nat.reduceAdd, Nat.reduceSub, Array.replicate_succ, Array.replicate_zero, List.push_toArray, List.append_toArray, List.nil_append, List.cons_append]
  gi_wp2_with (first
    | (refine ⟨trivial, ?_⟩; gi_at_call 42; refine (callsIn_wide.2 (HND.out _)).mono ?_; rintro e w' ⟨rfl, rfl⟩)
    | (refine ⟨trivial, ?_⟩; gi_at_call 90; refine (callsIn_wide.2 (HNO.out _ ?_)).mono ?_; (first | exact below_alloc0 (below_alloc0 (Below.refl _ _) _) _); rintro e w' ⟨rfl, rfl⟩)
    | (refine ⟨trivial, ?_⟩; gi_at_call 93; refine (chunk_in Fence.wide _ trivial rfl _ _ _ _).mono ?_; rintro e w' ⟨rfl, rfl⟩))
  have hfol : Try.prog.follows Departure.mixedOrders = true := by kernel_rfl
  obtain ⟨w5, hw5⟩ : ∃ w5, w5 = (((((w.alloc (Obj.cells #[Value.slice B u.length cc] 34)).alloc (Obj.cells #[Value.int IntKind.i64 (N : Int)] 3)).alloc (Obj.cells #[Value.slice none 0 0] 30)).alloc (Obj.cells #[Value.slice (some { block := b, off := o }) l.length c] 23)).alloc (Obj.cells #[Value.int IntKind.i64 1004] 3)) := ⟨_, rfl⟩
  rw [← hw5]
  have hi0 : EncI w l u (.slice B u.length cc) b o c [] w5 (.slice none 0 0) (fun _ => .slice none 0 0) (fun _ => False) := by
    have hz : ∀ (k : Nat) (W : World) (t : TypeId) (v : Value), W.heap.size = k → Boxed (W.alloc (.cells #[v] t)) k t v := fun k W t v e => by rw [← e]; exact Boxed.new W t v
    rw [hw5]
    refine ⟨((((hz w.heap.size w _ _ rfl).alloc _).alloc _).alloc _).alloc _, ?_, ((hz (w.heap.size + 1 + 1) _ _ _ (by simp)).alloc _).alloc _, (hz (w.heap.size + 1 + 1 + 1) _ _ _ (by simp)).alloc _, hz (w.heap.size + 1 + 1 + 1 + 1) _ _ _ (by simp), ?_, fun g hg => hg.elim, below_alloc0 (below_alloc0 (below_alloc0 (below_alloc0 (below_alloc0 (Below.refl _ _) _) _) _) _) _, fun i _ _ _ hi _ => by simp at hi, fun i hi => by simp at hi, fun i j hi => by simp at hi, fun i g hi => by simp at hi⟩
    · rw [HUL.out]; exact (((hz (w.heap.size + 1) _ _ _ (by simp)).alloc _).alloc _).alloc _
    · exact Rows23.nil _ _
  have hsz5 : w5.heap.size = w.heap.size + 5 := by rw [hw5]; simp
  have HI0 := Lib.hid hi0
  clear hw5 hi0
  refine wpIn_rangeFunc_ownF (w0 := w5) rfl (by omega) (gf := 149) (lb := #[Value.pointer (some { block := w.heap.size + 1 + 1 + 1, off := 0 }), Value.pointer (some { block := w.heap.size + 1 + 1 + 1 + 1, off := 0 })]) rfl trivial (enters_of Try.func149 (by kernel_rfl) rfl)
    (chunk_stops Fence.wide (6 - 1) trivial rfl (by omega) (w.heap.size + 1 + 1 + 1) (w.heap.size + 1 + 1 + 1 + 1) b o l.length c (by omega) hcap w5 (by omega) (by omega) HI0.out.s_.cell HI0.out.k_.cell)
    KeepsTwo.trans (fun W l' o o' hl h _ _ => KeepsTwo.put (w := w5) (by omega) (by omega) W l' o o' hl h) (Below.refl _ _) (fun _ => rfl)
    (fun (pre : List Nat) W => ∃ v F Y, EncI w l u (.slice B u.length cc) b o c pre W v F Y) (fun _ _ _ => False)
    (EncI.own (by omega)) (fun _ _ _ _ _ h _ _ => h) ⟨_, _, _, HI0.out⟩
    (fun x => { tmps := #[Value.slice (some { block := b, off := o }) l.length c, Value.slice B u.length cc, undef, Value.pointer (some { block := w.heap.size, off := 0 }), Value.slice none 0 0, Value.int IntKind.u16 0, Value.pointer (some { block := w.heap.size + 1, off := 0 }), Value.pointer (some { block := w.heap.size + 1 + 1, off := 0 }), chunkV b o l.length x, undef, undef, undef, Value.slice (some { block := b, off := o }) l.length c, Value.int IntKind.i64 (l.length : Int), Value.int IntKind.i64 (N : Int), Value.int IntKind.i64 (N : Int), Value.bool false, Value.bool false, Value.slice B u.length cc, Value.int IntKind.i64 (u.length : Int), Value.int IntKind.i64 (N : Int), Value.bool false, Value.bool false, Value.bool false, Value.slice B u.length cc, Value.bool false, Value.bool false, Value.slice (some { block := b, off := o }) l.length c, Value.func (Fn.func 149) #[] #[Value.pointer (some { block := w.heap.size + 1 + 1 + 1, off := 0 }), Value.pointer (some { block := w.heap.size + 1 + 1 + 1 + 1, off := 0 })], chunkV b o l.length x, undef, undef, undef, undef, undef, undef, undef, undef, undef, undef, undef, undef, undef, undef, undef, undef, undef, undef, undef, undef, undef, undef, undef, undef, undef, undef, undef, undef, undef], defers := [] }) ?assign ?body ?done ?stop
  case assign =>
    intro l' x W K hK
    gi_wp2
    exact hK
  case body =>
    rintro l' pre x W ⟨v, F, Y, hI⟩ hpl
    have c3 := hI.at_.cell
    have c6 := hI.n_.cell
    have c7 := hI.out.cell
    have f7 := hI.out.frozen
    have hrl : (rowsOf l u pre).length = pre.length := rowsOf_length _ _ _
    obtain ⟨vA, vc, rfl⟩ : ∃ vA vc, v = .slice vA pre.length vc := by
      rcases hI.rows.own.2 with ⟨rfl, h0⟩ | ⟨g', cap, cur, rfl, _⟩
      · refine ⟨none, 0, ?_⟩
        rw [← hrl]
        first | rw [h0] | rw [h0.1] | simp_all
      · exact ⟨_, cap, by rw [hrl]⟩
    have hpn : pre.length < N := by rw [HNE.out]; exact hpl
    obtain ⟨bb, oo, rfl, hbc⟩ := HB.out (by intro e; have : (ns .u32 u).length = 0 := by rw [e]; rfl
                                            rw [ns_length, HUL.out] at this; omega)
    have HBC := Lib.hid hbc
    have hj1 : IntKind.i64.wrap ((pre.length : Int) + 1) = (pre.length : Int) + 1 := by rw [IntKind.wrap_i64]; omega
    have HI := Lib.hid hI
    have HRL := Lib.hid hrl
    clear hI hpl hbc hrl
    by_cases hnx : pre.length + 1 < N
    · have e1 : (pre.length : Int) + 1 < (N : Int) := by omega
      have e2 : pre.length + 1 < u.length := by rw [HUL.out]; exact hnx
      have e2' : (pre.length : Int) + 1 < (u.length : Int) := by omega
      have e3 : (0 : Int) ≤ (pre.length : Int) + 1 := by omega
      have e4 : ((pre.length : Int) + 1).toNat = pre.length + 1 := by omega
      have hcb : W.cell? ⟨bb, oo + (pre.length + 1), none⟩ = some (.int .u32 (nth u (pre.length + 1) : Int)) := by
        have h1 : w.cell? ⟨bb, oo + (pre.length + 1), none⟩ = some (.int .u32 (nth u (pre.length + 1) : Int)) := HBC.out (pre.length + 1) _ (by simp [ns, nth_eq u (pre.length + 1) e2])
        have hlt : bb < w.heap.size := by
          unfold World.cell? at h1
          simp only at h1
          rcases hh : w.heap[bb]? with _ | ob
          · rw [hh] at h1; cases h1
          · exact (Array.getElem?_eq_some_iff.1 hh).1
        exact (HI.out.below.cell (p := ⟨bb, oo + (pre.length + 1), none⟩) hlt).trans h1
      have hxb := HU.out _ (nth_mem u (pre.length + 1) e2)
      obtain ⟨nx, hnx'⟩ : ∃ nx, nx = nth u (pre.length + 1) := ⟨_, rfl⟩
      rw [← hnx'] at hcb hxb
      have HNX := Lib.hid hnx'
      clear hnx'
      gi_wp2
      have hby : (#[Value.int IntKind.u8 ((nx : Int) % 256), Value.int IntKind.u8 ((nx : Int) / 256 % 256), Value.int IntKind.u8 ((nx : Int) / 65536 % 256), Value.int IntKind.u8 ((nx : Int) / 16777216)] : Array Value) = (ns .u8 (le4 (if pre.length + 1 < u.length then nth u (pre.length + 1) else 0))).toArray := by
        have h3 : nx / 16777216 % 256 = nx / 16777216 := by omega
        rw [if_pos e2, ← HNX.out]
        simp [le4, ns, h3]
      clear e1 e2' e3 e4 hcb hxb
      rw [hby]
      have hbuf : Buf W.heap.size (W.alloc (.cells (ns .u8 (le4 (if pre.length + 1 < u.length then nth u (pre.length + 1) else 0))).toArray 5)).drew (.slice (some ⟨W.heap.size, 0, none⟩) 4 4) (le4 (if pre.length + 1 < u.length then nth u (pre.length + 1) else 0)) :=
        (Buf.new (n0 := W.heap.size) W (le4 _) (Nat.le_refl _) (by simp [le4]) _ _ rfl (by simp [le4])).below (Below.drew (Below.refl _ _))
      have hbw : Below W.heap.size W (W.alloc (.cells (ns .u8 (le4 (if pre.length + 1 < u.length then nth u (pre.length + 1) else 0))).toArray 5)).drew := Below.drew (below_alloc0 (Below.refl _ _) _)
      have hko : KeepsOthers W (W.alloc (.cells (ns .u8 (le4 (if pre.length + 1 < u.length then nth u (pre.length + 1) else 0))).toArray 5)).drew := (KeepsOthers.alloc W _).trans (KeepsOthers.drew _)
      generalize hrw : le4 (if pre.length + 1 < u.length then nth u (pre.length + 1) else 0) = r4 at *
      have hr4 : r4.length = 4 := by rw [← hrw]; rfl
      have HRW := Lib.hid hrw
      clear hrw hby
      obtain ⟨i5, hi5, hz50, hz51, hz52⟩ := info_parts Try.info5b
      obtain ⟨i23, hi23, hz230, hz231, hz232⟩ := info_parts Try.info23b
      have hml : ((l.drop (1004 * x)).take 1004).length = min 1004 (l.length - 1004 * x) := by simp
      obtain ⟨v1, W1, hrun1, ho1, hg1, _, hn1⟩ := run_append_own_at (P := Try.prog) (W.alloc (.cells (ns .u8 r4).toArray 5)).drew W.heap.size 23 23 5 i5 _ 1 1 Try.underlying23 hi5 hz50 hz51 hz52 rfl (by decide) _ r4.length (ns .u8 r4) hbuf ⟨b, o + 1004 * x, none⟩ (min 1004 (l.length - 1004 * x)) (min 1004 (l.length - 1004 * x)) (ns .u8 ((l.drop (1004 * x)).take 1004)) (by rw [ns_length, hml]; omega) (part_cells HC.out (by omega) (HI.out.below.trans ((hbw.mono (by have := HI.out.below.size; exact this)))) x) (ns_one _ _) (by simp only [maxLen]; omega) (by omega) (by have := hbw.size; omega)
      have hbuf1 : Buf W.heap.size W1 v1 (r4 ++ (l.drop (1004 * x)).take 1004) := by
        unfold Buf; rw [List.length_append, ns_append, hml]; exact ho1
      obtain ⟨g1, cp1, rfl, _, _, hnc1, _⟩ := own_form ho1 (by omega)
      have hrun1' : Sem.run Try.prog (Builtin.append_ #[23, 23] 23 #[.slice (some ⟨W.heap.size, 0, none⟩) 4 4, chunkV b o l.length x]) (W.alloc (.cells (ns .u8 r4).toArray 5)).drew = .ok (.slice (some ⟨g1, 0, none⟩) (r4.length + min 1004 (l.length - 1004 * x)) cp1) W1 := hrun1
      have hbW1 : Below W.heap.size W W1 := hbw.trans (below_grown (Below.refl _ _) hg1 hbw.size (fun k e => by cases e; exact Nat.le_refl _))
      have hkW1 : KeepsOthers W W1 := hko.trans (KeepsOthers.of_grownBy hg1 fun j o' ej hj => by
        obtain ⟨cs, t, fr, hcs⟩ := buf_cells hbuf (show blk _ j from ej)
        rw [hcs] at hj; cases hj; rfl)
      have hb2 : Below W1.heap.size W1 (W1.alloc (.cells #[.slice (some ⟨g1, 0, none⟩) (r4.length + min 1004 (l.length - 1004 * x)) cp1] 23)) := below_alloc0 (Below.refl _ _) _
      have hbW2 := below_next0 hbW1 hb2
      have hI2 := HI.out.up hbW2
      have ho2 := hI2.rows.own
      rw [HRL.out] at ho2
      obtain ⟨v3, W3, hrun2, ho3, hg3, _, hn3⟩ := run_append_own_at (P := Try.prog) (W1.alloc (.cells #[.slice (some ⟨g1, 0, none⟩) (r4.length + min 1004 (l.length - 1004 * x)) cp1] 23)) (w.heap.size + 5) 30 30 23 i23 _ 1 24 Try.underlying30 hi23 hz230 hz231 hz232 rfl (by decide) _ pre.length _ ho2 ⟨W1.heap.size, 0, none⟩ 1 1 [.slice (some ⟨g1, 0, none⟩) (r4.length + min 1004 (l.length - 1004 * x)) cp1] rfl (fun j u' hu => by
        cases j with
        | zero =>
          have e : u' = .slice (some ⟨g1, 0, none⟩) (r4.length + min 1004 (l.length - 1004 * x)) cp1 := by simpa using hu.symm
          subst e
          exact cell_of_row _ _ 0 _ 23 (0, 0) (heap_alloc_new W1 _) |>.trans rfl
        | succ j => simp at hu) (by intro u' hu; have := List.mem_singleton.1 hu; subst this; rfl) (by simp only [maxLen]; omega) (by omega) (by have := HI.out.k_.lt; have := hbW2.size; omega)
      have hbox := enc_box HI.out hbW2 hg3
      have c7' := hbox.cell
      have f7' := hbox.frozen
      obtain ⟨g3, cp3, rfl, _⟩ := own_form ho3 (by omega)
      have hstep := enc_step (x := x) HI.out hbW1 hkW1 (by rw [HRW.out]; exact hbuf1) ho3 hg3 hn3 hnc1
      have HST := Lib.hid hstep
      have hrun2' : Sem.run Try.prog (Builtin.append_ #[30, 30] 30 #[.slice vA pre.length vc, .slice (some ⟨W1.heap.size, 0, none⟩) 1 1]) (W1.alloc (.cells #[.slice (some ⟨g1, 0, none⟩) (r4.length + min 1004 (l.length - 1004 * x)) cp1] 23)) = .ok (.slice (some ⟨g3, 0, none⟩) (pre.length + 1) cp3) W3 := hrun2
      have c7d : (W.alloc (.cells (ns .u8 r4).toArray 5)).drew.cell? ⟨w.heap.size + 1 + 1, 0, none⟩ = some (.slice vA pre.length vc) := (HI.out.up hbw).out.cell
      have c7e : W1.cell? ⟨w.heap.size + 1 + 1, 0, none⟩ = some (.slice vA pre.length vc) := (HI.out.up hbW1).out.cell
      have c7f : (W1.alloc (.cells #[.slice (some ⟨g1, 0, none⟩) (r4.length + min 1004 (l.length - 1004 * x)) cp1] 23)).cell? ⟨w.heap.size + 1 + 1, 0, none⟩ = some (.slice vA pre.length vc) := hI2.out.cell
      clear hnc1 hstep hrun1 hrun2 hbuf hbw hko hr4 hml ho1 hg1 hn1 hbuf1 hbW1 hkW1 hb2 hbW2 hI2 ho2 ho3 hg3 hn3 hbox hi5 hz50 hz51 hz52 hi23 hz230 hz231 hz232
      generalize (W.alloc (.cells (ns .u8 r4).toArray 5)) = Wa at *
      generalize r4.length + min 1004 (l.length - 1004 * x) = n1 at *
      refine wpIn_region_any hfol ?_
      change wpAnyIn _ _ _ _ _ _ _ _ _ (World.drew _)
      refine wpAnyIn_ready (rs := [0, 1, 2]) (by kernel_rfl) (by simp) ?_
      refine AllReadyIn.cons rfl (fun K hK => ?_) ?_
      · (go_simp; refine hK _ _ ?_; clear hK K)
        refine wpAnyIn_ready (rs := [1, 2]) (by kernel_rfl) (by simp) ?_
        refine AllReadyIn.cons rfl (fun K hK => ?_) ?_
        · (go_simp; refine hK _ _ ?_; clear hK K)
          refine wpAnyIn_ready (rs := [2]) (by kernel_rfl) (by simp) ?_
          refine AllReadyIn.cons rfl (fun K hK => ?_) ?_
          · (go_simp; refine hK _ _ ?_; clear hK K)
            refine wpAnyIn_ready (rs := [3]) (by kernel_rfl) (by simp) ?_
            refine AllReadyIn.cons rfl (fun K hK => ?_) ?_
            · (refine ite_of rfl ?_; refine opIn_append_run (.tmp 53) (.tmp 54) 23 rfl hrun1' ?_; go_simp; refine hK _ _ ?_; clear hK K)
              refine wpAnyIn_ready (rs := [4]) (by kernel_rfl) (by simp) ?_
              refine AllReadyIn.cons rfl (fun K hK => ?_) ?_
              · (go_simp; refine hK _ _ ?_; clear hK K)
                refine wpAnyIn_ready (rs := [5]) (by kernel_rfl) (by simp) ?_
                refine AllReadyIn.cons rfl (fun K hK => ?_) ?_
                · (refine ite_of rfl ?_; refine opIn_append_run (.tmp 52) (.tmp 56) 30 rfl hrun2' ?_; go_simp; refine hK _ _ ?_; clear hK K)
                  refine wpAnyIn_ready (rs := [6]) (by kernel_rfl) (by simp) ?_
                  refine AllReadyIn.cons rfl (fun K hK => ?_) ?_
                  · (go_simp; refine hK _ _ ?_; clear hK K)
                    refine wpAnyIn_done (by kernel_rfl) ?_ _
                    exact HST.out
                  exact AllReadyIn.nil
                exact AllReadyIn.nil
              exact AllReadyIn.nil
            exact AllReadyIn.nil
          exact AllReadyIn.nil
        refine AllReadyIn.cons rfl (fun K hK => ?_) ?_
        · (go_simp; refine hK _ _ ?_; clear hK K)
          refine wpAnyIn_ready (rs := [1]) (by kernel_rfl) (by simp) ?_
          refine AllReadyIn.cons rfl (fun K hK => ?_) ?_
          · (go_simp; refine hK _ _ ?_; clear hK K)
            refine wpAnyIn_ready (rs := [3]) (by kernel_rfl) (by simp) ?_
            refine AllReadyIn.cons rfl (fun K hK => ?_) ?_
            · (refine ite_of rfl ?_; refine opIn_append_run (.tmp 53) (.tmp 54) 23 rfl hrun1' ?_; go_simp; refine hK _ _ ?_; clear hK K)
              refine wpAnyIn_ready (rs := [4]) (by kernel_rfl) (by simp) ?_
              refine AllReadyIn.cons rfl (fun K hK => ?_) ?_
              · (go_simp; refine hK _ _ ?_; clear hK K)
                refine wpAnyIn_ready (rs := [5]) (by kernel_rfl) (by simp) ?_
                refine AllReadyIn.cons rfl (fun K hK => ?_) ?_
                · (refine ite_of rfl ?_; refine opIn_append_run (.tmp 52) (.tmp 56) 30 rfl hrun2' ?_; go_simp; refine hK _ _ ?_; clear hK K)
                  refine wpAnyIn_ready (rs := [6]) (by kernel_rfl) (by simp) ?_
                  refine AllReadyIn.cons rfl (fun K hK => ?_) ?_
                  · (go_simp; refine hK _ _ ?_; clear hK K)
                    refine wpAnyIn_done (by kernel_rfl) ?_ _
                    exact HST.out
                  exact AllReadyIn.nil
                exact AllReadyIn.nil
              exact AllReadyIn.nil
            exact AllReadyIn.nil
          exact AllReadyIn.nil
        exact AllReadyIn.nil
      refine AllReadyIn.cons rfl (fun K hK => ?_) ?_
      · (go_simp; refine hK _ _ ?_; clear hK K)
        refine wpAnyIn_ready (rs := [0, 2]) (by kernel_rfl) (by simp) ?_
        refine AllReadyIn.cons rfl (fun K hK => ?_) ?_
        · (go_simp; refine hK _ _ ?_; clear hK K)
          refine wpAnyIn_ready (rs := [2]) (by kernel_rfl) (by simp) ?_
          refine AllReadyIn.cons rfl (fun K hK => ?_) ?_
          · (go_simp; refine hK _ _ ?_; clear hK K)
            refine wpAnyIn_ready (rs := [3]) (by kernel_rfl) (by simp) ?_
            refine AllReadyIn.cons rfl (fun K hK => ?_) ?_
            · (refine ite_of rfl ?_; refine opIn_append_run (.tmp 53) (.tmp 54) 23 rfl hrun1' ?_; go_simp; refine hK _ _ ?_; clear hK K)
              refine wpAnyIn_ready (rs := [4]) (by kernel_rfl) (by simp) ?_
              refine AllReadyIn.cons rfl (fun K hK => ?_) ?_
              · (go_simp; refine hK _ _ ?_; clear hK K)
                refine wpAnyIn_ready (rs := [5]) (by kernel_rfl) (by simp) ?_
                refine AllReadyIn.cons rfl (fun K hK => ?_) ?_
                · (refine ite_of rfl ?_; refine opIn_append_run (.tmp 52) (.tmp 56) 30 rfl hrun2' ?_; go_simp; refine hK _ _ ?_; clear hK K)
                  refine wpAnyIn_ready (rs := [6]) (by kernel_rfl) (by simp) ?_
                  refine AllReadyIn.cons rfl (fun K hK => ?_) ?_
                  · (go_simp; refine hK _ _ ?_; clear hK K)
                    refine wpAnyIn_done (by kernel_rfl) ?_ _
                    exact HST.out
                  exact AllReadyIn.nil
                exact AllReadyIn.nil
              exact AllReadyIn.nil
            exact AllReadyIn.nil
          exact AllReadyIn.nil
        refine AllReadyIn.cons rfl (fun K hK => ?_) ?_
        · (go_simp; refine hK _ _ ?_; clear hK K)
          refine wpAnyIn_ready (rs := [0, 3]) (by kernel_rfl) (by simp) ?_
          refine AllReadyIn.cons rfl (fun K hK => ?_) ?_
          · (go_simp; refine hK _ _ ?_; clear hK K)
            refine wpAnyIn_ready (rs := [3]) (by kernel_rfl) (by simp) ?_
            refine AllReadyIn.cons rfl (fun K hK => ?_) ?_
            · (refine ite_of rfl ?_; refine opIn_append_run (.tmp 53) (.tmp 54) 23 rfl hrun1' ?_; go_simp; refine hK _ _ ?_; clear hK K)
              refine wpAnyIn_ready (rs := [4]) (by kernel_rfl) (by simp) ?_
              refine AllReadyIn.cons rfl (fun K hK => ?_) ?_
              · (go_simp; refine hK _ _ ?_; clear hK K)
                refine wpAnyIn_ready (rs := [5]) (by kernel_rfl) (by simp) ?_
                refine AllReadyIn.cons rfl (fun K hK => ?_) ?_
                · (refine ite_of rfl ?_; refine opIn_append_run (.tmp 52) (.tmp 56) 30 rfl hrun2' ?_; go_simp; refine hK _ _ ?_; clear hK K)
                  refine wpAnyIn_ready (rs := [6]) (by kernel_rfl) (by simp) ?_
                  refine AllReadyIn.cons rfl (fun K hK => ?_) ?_
                  · (go_simp; refine hK _ _ ?_; clear hK K)
                    refine wpAnyIn_done (by kernel_rfl) ?_ _
                    exact HST.out
                  exact AllReadyIn.nil
                exact AllReadyIn.nil
              exact AllReadyIn.nil
            exact AllReadyIn.nil
          refine AllReadyIn.cons rfl (fun K hK => ?_) ?_
          · (refine ite_of rfl ?_; refine opIn_append_run (.tmp 53) (.tmp 54) 23 rfl hrun1' ?_; go_simp; refine hK _ _ ?_; clear hK K)
            refine wpAnyIn_ready (rs := [0, 4]) (by kernel_rfl) (by simp) ?_
            refine AllReadyIn.cons rfl (fun K hK => ?_) ?_
            · (go_simp; refine hK _ _ ?_; clear hK K)
              refine wpAnyIn_ready (rs := [4]) (by kernel_rfl) (by simp) ?_
              refine AllReadyIn.cons rfl (fun K hK => ?_) ?_
              · (go_simp; refine hK _ _ ?_; clear hK K)
                refine wpAnyIn_ready (rs := [5]) (by kernel_rfl) (by simp) ?_
                refine AllReadyIn.cons rfl (fun K hK => ?_) ?_
                · (refine ite_of rfl ?_; refine opIn_append_run (.tmp 52) (.tmp 56) 30 rfl hrun2' ?_; go_simp; refine hK _ _ ?_; clear hK K)
                  refine wpAnyIn_ready (rs := [6]) (by kernel_rfl) (by simp) ?_
                  refine AllReadyIn.cons rfl (fun K hK => ?_) ?_
                  · (go_simp; refine hK _ _ ?_; clear hK K)
                    refine wpAnyIn_done (by kernel_rfl) ?_ _
                    exact HST.out
                  exact AllReadyIn.nil
                exact AllReadyIn.nil
              exact AllReadyIn.nil
            refine AllReadyIn.cons rfl (fun K hK => ?_) ?_
            · (go_simp; refine hK _ _ ?_; clear hK K)
              refine wpAnyIn_ready (rs := [0]) (by kernel_rfl) (by simp) ?_
              refine AllReadyIn.cons rfl (fun K hK => ?_) ?_
              · (go_simp; refine hK _ _ ?_; clear hK K)
                refine wpAnyIn_ready (rs := [5]) (by kernel_rfl) (by simp) ?_
                refine AllReadyIn.cons rfl (fun K hK => ?_) ?_
                · (refine ite_of rfl ?_; refine opIn_append_run (.tmp 52) (.tmp 56) 30 rfl hrun2' ?_; go_simp; refine hK _ _ ?_; clear hK K)
                  refine wpAnyIn_ready (rs := [6]) (by kernel_rfl) (by simp) ?_
                  refine AllReadyIn.cons rfl (fun K hK => ?_) ?_
                  · (go_simp; refine hK _ _ ?_; clear hK K)
                    refine wpAnyIn_done (by kernel_rfl) ?_ _
                    exact HST.out
                  exact AllReadyIn.nil
                exact AllReadyIn.nil
              exact AllReadyIn.nil
            exact AllReadyIn.nil
          exact AllReadyIn.nil
        exact AllReadyIn.nil
      refine AllReadyIn.cons rfl (fun K hK => ?_) ?_
      · (go_simp; refine hK _ _ ?_; clear hK K)
        refine wpAnyIn_ready (rs := [0, 1]) (by kernel_rfl) (by simp) ?_
        refine AllReadyIn.cons rfl (fun K hK => ?_) ?_
        · (go_simp; refine hK _ _ ?_; clear hK K)
          refine wpAnyIn_ready (rs := [1]) (by kernel_rfl) (by simp) ?_
          refine AllReadyIn.cons rfl (fun K hK => ?_) ?_
          · (go_simp; refine hK _ _ ?_; clear hK K)
            refine wpAnyIn_ready (rs := [3]) (by kernel_rfl) (by simp) ?_
            refine AllReadyIn.cons rfl (fun K hK => ?_) ?_
            · (refine ite_of rfl ?_; refine opIn_append_run (.tmp 53) (.tmp 54) 23 rfl hrun1' ?_; go_simp; refine hK _ _ ?_; clear hK K)
              refine wpAnyIn_ready (rs := [4]) (by kernel_rfl) (by simp) ?_
              refine AllReadyIn.cons rfl (fun K hK => ?_) ?_
              · (go_simp; refine hK _ _ ?_; clear hK K)
                refine wpAnyIn_ready (rs := [5]) (by kernel_rfl) (by simp) ?_
                refine AllReadyIn.cons rfl (fun K hK => ?_) ?_
                · (refine ite_of rfl ?_; refine opIn_append_run (.tmp 52) (.tmp 56) 30 rfl hrun2' ?_; go_simp; refine hK _ _ ?_; clear hK K)
                  refine wpAnyIn_ready (rs := [6]) (by kernel_rfl) (by simp) ?_
                  refine AllReadyIn.cons rfl (fun K hK => ?_) ?_
                  · (go_simp; refine hK _ _ ?_; clear hK K)
                    refine wpAnyIn_done (by kernel_rfl) ?_ _
                    exact HST.out
                  exact AllReadyIn.nil
                exact AllReadyIn.nil
              exact AllReadyIn.nil
            exact AllReadyIn.nil
          exact AllReadyIn.nil
        refine AllReadyIn.cons rfl (fun K hK => ?_) ?_
        · (go_simp; refine hK _ _ ?_; clear hK K)
          refine wpAnyIn_ready (rs := [0, 3]) (by kernel_rfl) (by simp) ?_
          refine AllReadyIn.cons rfl (fun K hK => ?_) ?_
          · (go_simp; refine hK _ _ ?_; clear hK K)
            refine wpAnyIn_ready (rs := [3]) (by kernel_rfl) (by simp) ?_
            refine AllReadyIn.cons rfl (fun K hK => ?_) ?_
            · (refine ite_of rfl ?_; refine opIn_append_run (.tmp 53) (.tmp 54) 23 rfl hrun1' ?_; go_simp; refine hK _ _ ?_; clear hK K)
              refine wpAnyIn_ready (rs := [4]) (by kernel_rfl) (by simp) ?_
              refine AllReadyIn.cons rfl (fun K hK => ?_) ?_
              · (go_simp; refine hK _ _ ?_; clear hK K)
                refine wpAnyIn_ready (rs := [5]) (by kernel_rfl) (by simp) ?_
                refine AllReadyIn.cons rfl (fun K hK => ?_) ?_
                · (refine ite_of rfl ?_; refine opIn_append_run (.tmp 52) (.tmp 56) 30 rfl hrun2' ?_; go_simp; refine hK _ _ ?_; clear hK K)
                  refine wpAnyIn_ready (rs := [6]) (by kernel_rfl) (by simp) ?_
                  refine AllReadyIn.cons rfl (fun K hK => ?_) ?_
                  · (go_simp; refine hK _ _ ?_; clear hK K)
                    refine wpAnyIn_done (by kernel_rfl) ?_ _
                    exact HST.out
                  exact AllReadyIn.nil
                exact AllReadyIn.nil
              exact AllReadyIn.nil
            exact AllReadyIn.nil
          refine AllReadyIn.cons rfl (fun K hK => ?_) ?_
          · (refine ite_of rfl ?_; refine opIn_append_run (.tmp 53) (.tmp 54) 23 rfl hrun1' ?_; go_simp; refine hK _ _ ?_; clear hK K)
            refine wpAnyIn_ready (rs := [0, 4]) (by kernel_rfl) (by simp) ?_
            refine AllReadyIn.cons rfl (fun K hK => ?_) ?_
            · (go_simp; refine hK _ _ ?_; clear hK K)
              refine wpAnyIn_ready (rs := [4]) (by kernel_rfl) (by simp) ?_
              refine AllReadyIn.cons rfl (fun K hK => ?_) ?_
              · (go_simp; refine hK _ _ ?_; clear hK K)
                refine wpAnyIn_ready (rs := [5]) (by kernel_rfl) (by simp) ?_
                refine AllReadyIn.cons rfl (fun K hK => ?_) ?_
                · (refine ite_of rfl ?_; refine opIn_append_run (.tmp 52) (.tmp 56) 30 rfl hrun2' ?_; go_simp; refine hK _ _ ?_; clear hK K)
                  refine wpAnyIn_ready (rs := [6]) (by kernel_rfl) (by simp) ?_
                  refine AllReadyIn.cons rfl (fun K hK => ?_) ?_
                  · (go_simp; refine hK _ _ ?_; clear hK K)
                    refine wpAnyIn_done (by kernel_rfl) ?_ _
                    exact HST.out
                  exact AllReadyIn.nil
                exact AllReadyIn.nil
              exact AllReadyIn.nil
            refine AllReadyIn.cons rfl (fun K hK => ?_) ?_
            · (go_simp; refine hK _ _ ?_; clear hK K)
              refine wpAnyIn_ready (rs := [0]) (by kernel_rfl) (by simp) ?_
              refine AllReadyIn.cons rfl (fun K hK => ?_) ?_
              · (go_simp; refine hK _ _ ?_; clear hK K)
                refine wpAnyIn_ready (rs := [5]) (by kernel_rfl) (by simp) ?_
                refine AllReadyIn.cons rfl (fun K hK => ?_) ?_
                · (refine ite_of rfl ?_; refine opIn_append_run (.tmp 52) (.tmp 56) 30 rfl hrun2' ?_; go_simp; refine hK _ _ ?_; clear hK K)
                  refine wpAnyIn_ready (rs := [6]) (by kernel_rfl) (by simp) ?_
                  refine AllReadyIn.cons rfl (fun K hK => ?_) ?_
                  · (go_simp; refine hK _ _ ?_; clear hK K)
                    refine wpAnyIn_done (by kernel_rfl) ?_ _
                    exact HST.out
                  exact AllReadyIn.nil
                exact AllReadyIn.nil
              exact AllReadyIn.nil
            exact AllReadyIn.nil
          exact AllReadyIn.nil
        exact AllReadyIn.nil
      exact AllReadyIn.nil
    · have e1 : ¬ (pre.length : Int) + 1 < (u.length : Int) := by have := HUL.out; omega
      gi_wp2
      have hby : (#[Value.int IntKind.u8 0, Value.int IntKind.u8 0, Value.int IntKind.u8 0, Value.int IntKind.u8 0] : Array Value) = (ns .u8 (le4 (if pre.length + 1 < u.length then nth u (pre.length + 1) else 0))).toArray := by
        rw [if_neg (by have := HUL.out; omega)]; rfl
      rw [hby]
      have hbuf : Buf W.heap.size (W.alloc (.cells (ns .u8 (le4 (if pre.length + 1 < u.length then nth u (pre.length + 1) else 0))).toArray 5)).drew (.slice (some ⟨W.heap.size, 0, none⟩) 4 4) (le4 (if pre.length + 1 < u.length then nth u (pre.length + 1) else 0)) :=
        (Buf.new (n0 := W.heap.size) W (le4 _) (Nat.le_refl _) (by simp [le4]) _ _ rfl (by simp [le4])).below (Below.drew (Below.refl _ _))
      have hbw : Below W.heap.size W (W.alloc (.cells (ns .u8 (le4 (if pre.length + 1 < u.length then nth u (pre.length + 1) else 0))).toArray 5)).drew := Below.drew (below_alloc0 (Below.refl _ _) _)
      have hko : KeepsOthers W (W.alloc (.cells (ns .u8 (le4 (if pre.length + 1 < u.length then nth u (pre.length + 1) else 0))).toArray 5)).drew := (KeepsOthers.alloc W _).trans (KeepsOthers.drew _)
      generalize hrw : le4 (if pre.length + 1 < u.length then nth u (pre.length + 1) else 0) = r4 at *
      have hr4 : r4.length = 4 := by rw [← hrw]; rfl
      have HRW := Lib.hid hrw
      clear hrw hby
      obtain ⟨i5, hi5, hz50, hz51, hz52⟩ := info_parts Try.info5b
      obtain ⟨i23, hi23, hz230, hz231, hz232⟩ := info_parts Try.info23b
      have hml : ((l.drop (1004 * x)).take 1004).length = min 1004 (l.length - 1004 * x) := by simp
      obtain ⟨v1, W1, hrun1, ho1, hg1, _, hn1⟩ := run_append_own_at (P := Try.prog) (W.alloc (.cells (ns .u8 r4).toArray 5)).drew W.heap.size 23 23 5 i5 _ 1 1 Try.underlying23 hi5 hz50 hz51 hz52 rfl (by decide) _ r4.length (ns .u8 r4) hbuf ⟨b, o + 1004 * x, none⟩ (min 1004 (l.length - 1004 * x)) (min 1004 (l.length - 1004 * x)) (ns .u8 ((l.drop (1004 * x)).take 1004)) (by rw [ns_length, hml]; omega) (part_cells HC.out (by omega) (HI.out.below.trans ((hbw.mono (by have := HI.out.below.size; exact this)))) x) (ns_one _ _) (by simp only [maxLen]; omega) (by omega) (by have := hbw.size; omega)
      have hbuf1 : Buf W.heap.size W1 v1 (r4 ++ (l.drop (1004 * x)).take 1004) := by
        unfold Buf; rw [List.length_append, ns_append, hml]; exact ho1
      obtain ⟨g1, cp1, rfl, _, _, hnc1, _⟩ := own_form ho1 (by omega)
      have hrun1' : Sem.run Try.prog (Builtin.append_ #[23, 23] 23 #[.slice (some ⟨W.heap.size, 0, none⟩) 4 4, chunkV b o l.length x]) (W.alloc (.cells (ns .u8 r4).toArray 5)).drew = .ok (.slice (some ⟨g1, 0, none⟩) (r4.length + min 1004 (l.length - 1004 * x)) cp1) W1 := hrun1
      have hbW1 : Below W.heap.size W W1 := hbw.trans (below_grown (Below.refl _ _) hg1 hbw.size (fun k e => by cases e; exact Nat.le_refl _))
      have hkW1 : KeepsOthers W W1 := hko.trans (KeepsOthers.of_grownBy hg1 fun j o' ej hj => by
        obtain ⟨cs, t, fr, hcs⟩ := buf_cells hbuf (show blk _ j from ej)
        rw [hcs] at hj; cases hj; rfl)
      have hb2 : Below W1.heap.size W1 (W1.alloc (.cells #[.slice (some ⟨g1, 0, none⟩) (r4.length + min 1004 (l.length - 1004 * x)) cp1] 23)) := below_alloc0 (Below.refl _ _) _
      have hbW2 := below_next0 hbW1 hb2
      have hI2 := HI.out.up hbW2
      have ho2 := hI2.rows.own
      rw [HRL.out] at ho2
      obtain ⟨v3, W3, hrun2, ho3, hg3, _, hn3⟩ := run_append_own_at (P := Try.prog) (W1.alloc (.cells #[.slice (some ⟨g1, 0, none⟩) (r4.length + min 1004 (l.length - 1004 * x)) cp1] 23)) (w.heap.size + 5) 30 30 23 i23 _ 1 24 Try.underlying30 hi23 hz230 hz231 hz232 rfl (by decide) _ pre.length _ ho2 ⟨W1.heap.size, 0, none⟩ 1 1 [.slice (some ⟨g1, 0, none⟩) (r4.length + min 1004 (l.length - 1004 * x)) cp1] rfl (fun j u' hu => by
        cases j with
        | zero =>
          have e : u' = .slice (some ⟨g1, 0, none⟩) (r4.length + min 1004 (l.length - 1004 * x)) cp1 := by simpa using hu.symm
          subst e
          exact cell_of_row _ _ 0 _ 23 (0, 0) (heap_alloc_new W1 _) |>.trans rfl
        | succ j => simp at hu) (by intro u' hu; have := List.mem_singleton.1 hu; subst this; rfl) (by simp only [maxLen]; omega) (by omega) (by have := HI.out.k_.lt; have := hbW2.size; omega)
      have hbox := enc_box HI.out hbW2 hg3
      have c7' := hbox.cell
      have f7' := hbox.frozen
      obtain ⟨g3, cp3, rfl, _⟩ := own_form ho3 (by omega)
      have hstep := enc_step (x := x) HI.out hbW1 hkW1 (by rw [HRW.out]; exact hbuf1) ho3 hg3 hn3 hnc1
      have HST := Lib.hid hstep
      have hrun2' : Sem.run Try.prog (Builtin.append_ #[30, 30] 30 #[.slice vA pre.length vc, .slice (some ⟨W1.heap.size, 0, none⟩) 1 1]) (W1.alloc (.cells #[.slice (some ⟨g1, 0, none⟩) (r4.length + min 1004 (l.length - 1004 * x)) cp1] 23)) = .ok (.slice (some ⟨g3, 0, none⟩) (pre.length + 1) cp3) W3 := hrun2
      have c7d : (W.alloc (.cells (ns .u8 r4).toArray 5)).drew.cell? ⟨w.heap.size + 1 + 1, 0, none⟩ = some (.slice vA pre.length vc) := (HI.out.up hbw).out.cell
      have c7e : W1.cell? ⟨w.heap.size + 1 + 1, 0, none⟩ = some (.slice vA pre.length vc) := (HI.out.up hbW1).out.cell
      have c7f : (W1.alloc (.cells #[.slice (some ⟨g1, 0, none⟩) (r4.length + min 1004 (l.length - 1004 * x)) cp1] 23)).cell? ⟨w.heap.size + 1 + 1, 0, none⟩ = some (.slice vA pre.length vc) := hI2.out.cell
      clear hnc1 hstep hrun1 hrun2 hbuf hbw hko hr4 hml ho1 hg1 hn1 hbuf1 hbW1 hkW1 hb2 hbW2 hI2 ho2 ho3 hg3 hn3 hbox hi5 hz50 hz51 hz52 hi23 hz230 hz231 hz232
      generalize (W.alloc (.cells (ns .u8 r4).toArray 5)) = Wa at *
      generalize r4.length + min 1004 (l.length - 1004 * x) = n1 at *
      refine wpIn_region_any hfol ?_
      change wpAnyIn _ _ _ _ _ _ _ _ _ (World.drew _)
      refine wpAnyIn_ready (rs := [0, 1, 2]) (by kernel_rfl) (by simp) ?_
      refine AllReadyIn.cons rfl (fun K hK => ?_) ?_
      · (go_simp; refine hK _ _ ?_; clear hK K)
        refine wpAnyIn_ready (rs := [1, 2]) (by kernel_rfl) (by simp) ?_
        refine AllReadyIn.cons rfl (fun K hK => ?_) ?_
        · (go_simp; refine hK _ _ ?_; clear hK K)
          refine wpAnyIn_ready (rs := [2]) (by kernel_rfl) (by simp) ?_
          refine AllReadyIn.cons rfl (fun K hK => ?_) ?_
          · (go_simp; refine hK _ _ ?_; clear hK K)
            refine wpAnyIn_ready (rs := [3]) (by kernel_rfl) (by simp) ?_
            refine AllReadyIn.cons rfl (fun K hK => ?_) ?_
            · (refine ite_of rfl ?_; refine opIn_append_run (.tmp 53) (.tmp 54) 23 rfl hrun1' ?_; go_simp; refine hK _ _ ?_; clear hK K)
              refine wpAnyIn_ready (rs := [4]) (by kernel_rfl) (by simp) ?_
              refine AllReadyIn.cons rfl (fun K hK => ?_) ?_
              · (go_simp; refine hK _ _ ?_; clear hK K)
                refine wpAnyIn_ready (rs := [5]) (by kernel_rfl) (by simp) ?_
                refine AllReadyIn.cons rfl (fun K hK => ?_) ?_
                · (refine ite_of rfl ?_; refine opIn_append_run (.tmp 52) (.tmp 56) 30 rfl hrun2' ?_; go_simp; refine hK _ _ ?_; clear hK K)
                  refine wpAnyIn_ready (rs := [6]) (by kernel_rfl) (by simp) ?_
                  refine AllReadyIn.cons rfl (fun K hK => ?_) ?_
                  · (go_simp; refine hK _ _ ?_; clear hK K)
                    refine wpAnyIn_done (by kernel_rfl) ?_ _
                    exact HST.out
                  exact AllReadyIn.nil
                exact AllReadyIn.nil
              exact AllReadyIn.nil
            exact AllReadyIn.nil
          exact AllReadyIn.nil
        refine AllReadyIn.cons rfl (fun K hK => ?_) ?_
        · (go_simp; refine hK _ _ ?_; clear hK K)
          refine wpAnyIn_ready (rs := [1]) (by kernel_rfl) (by simp) ?_
          refine AllReadyIn.cons rfl (fun K hK => ?_) ?_
          · (go_simp; refine hK _ _ ?_; clear hK K)
            refine wpAnyIn_ready (rs := [3]) (by kernel_rfl) (by simp) ?_
            refine AllReadyIn.cons rfl (fun K hK => ?_) ?_
            · (refine ite_of rfl ?_; refine opIn_append_run (.tmp 53) (.tmp 54) 23 rfl hrun1' ?_; go_simp; refine hK _ _ ?_; clear hK K)
              refine wpAnyIn_ready (rs := [4]) (by kernel_rfl) (by simp) ?_
              refine AllReadyIn.cons rfl (fun K hK => ?_) ?_
              · (go_simp; refine hK _ _ ?_; clear hK K)
                refine wpAnyIn_ready (rs := [5]) (by kernel_rfl) (by simp) ?_
                refine AllReadyIn.cons rfl (fun K hK => ?_) ?_
                · (refine ite_of rfl ?_; refine opIn_append_run (.tmp 52) (.tmp 56) 30 rfl hrun2' ?_; go_simp; refine hK _ _ ?_; clear hK K)
                  refine wpAnyIn_ready (rs := [6]) (by kernel_rfl) (by simp) ?_
                  refine AllReadyIn.cons rfl (fun K hK => ?_) ?_
                  · (go_simp; refine hK _ _ ?_; clear hK K)
                    refine wpAnyIn_done (by kernel_rfl) ?_ _
                    exact HST.out
                  exact AllReadyIn.nil
                exact AllReadyIn.nil
              exact AllReadyIn.nil
            exact AllReadyIn.nil
          exact AllReadyIn.nil
        exact AllReadyIn.nil
      refine AllReadyIn.cons rfl (fun K hK => ?_) ?_
      · (go_simp; refine hK _ _ ?_; clear hK K)
        refine wpAnyIn_ready (rs := [0, 2]) (by kernel_rfl) (by simp) ?_
        refine AllReadyIn.cons rfl (fun K hK => ?_) ?_
        · (go_simp; refine hK _ _ ?_; clear hK K)
          refine wpAnyIn_ready (rs := [2]) (by kernel_rfl) (by simp) ?_
          refine AllReadyIn.cons rfl (fun K hK => ?_) ?_
          · (go_simp; refine hK _ _ ?_; clear hK K)
            refine wpAnyIn_ready (rs := [3]) (by kernel_rfl) (by simp) ?_
            refine AllReadyIn.cons rfl (fun K hK => ?_) ?_
            · (refine ite_of rfl ?_; refine opIn_append_run (.tmp 53) (.tmp 54) 23 rfl hrun1' ?_; go_simp; refine hK _ _ ?_; clear hK K)
              refine wpAnyIn_ready (rs := [4]) (by kernel_rfl) (by simp) ?_
              refine AllReadyIn.cons rfl (fun K hK => ?_) ?_
              · (go_simp; refine hK _ _ ?_; clear hK K)
                refine wpAnyIn_ready (rs := [5]) (by kernel_rfl) (by simp) ?_
                refine AllReadyIn.cons rfl (fun K hK => ?_) ?_
                · (refine ite_of rfl ?_; refine opIn_append_run (.tmp 52) (.tmp 56) 30 rfl hrun2' ?_; go_simp; refine hK _ _ ?_; clear hK K)
                  refine wpAnyIn_ready (rs := [6]) (by kernel_rfl) (by simp) ?_
                  refine AllReadyIn.cons rfl (fun K hK => ?_) ?_
                  · (go_simp; refine hK _ _ ?_; clear hK K)
                    refine wpAnyIn_done (by kernel_rfl) ?_ _
                    exact HST.out
                  exact AllReadyIn.nil
                exact AllReadyIn.nil
              exact AllReadyIn.nil
            exact AllReadyIn.nil
          exact AllReadyIn.nil
        refine AllReadyIn.cons rfl (fun K hK => ?_) ?_
        · (go_simp; refine hK _ _ ?_; clear hK K)
          refine wpAnyIn_ready (rs := [0, 3]) (by kernel_rfl) (by simp) ?_
          refine AllReadyIn.cons rfl (fun K hK => ?_) ?_
          · (go_simp; refine hK _ _ ?_; clear hK K)
            refine wpAnyIn_ready (rs := [3]) (by kernel_rfl) (by simp) ?_
            refine AllReadyIn.cons rfl (fun K hK => ?_) ?_
            · (refine ite_of rfl ?_; refine opIn_append_run (.tmp 53) (.tmp 54) 23 rfl hrun1' ?_; go_simp; refine hK _ _ ?_; clear hK K)
              refine wpAnyIn_ready (rs := [4]) (by kernel_rfl) (by simp) ?_
              refine AllReadyIn.cons rfl (fun K hK => ?_) ?_
              · (go_simp; refine hK _ _ ?_; clear hK K)
                refine wpAnyIn_ready (rs := [5]) (by kernel_rfl) (by simp) ?_
                refine AllReadyIn.cons rfl (fun K hK => ?_) ?_
                · (refine ite_of rfl ?_; refine opIn_append_run (.tmp 52) (.tmp 56) 30 rfl hrun2' ?_; go_simp; refine hK _ _ ?_; clear hK K)
                  refine wpAnyIn_ready (rs := [6]) (by kernel_rfl) (by simp) ?_
                  refine AllReadyIn.cons rfl (fun K hK => ?_) ?_
                  · (go_simp; refine hK _ _ ?_; clear hK K)
                    refine wpAnyIn_done (by kernel_rfl) ?_ _
                    exact HST.out
                  exact AllReadyIn.nil
                exact AllReadyIn.nil
              exact AllReadyIn.nil
            exact AllReadyIn.nil
          refine AllReadyIn.cons rfl (fun K hK => ?_) ?_
          · (refine ite_of rfl ?_; refine opIn_append_run (.tmp 53) (.tmp 54) 23 rfl hrun1' ?_; go_simp; refine hK _ _ ?_; clear hK K)
            refine wpAnyIn_ready (rs := [0, 4]) (by kernel_rfl) (by simp) ?_
            refine AllReadyIn.cons rfl (fun K hK => ?_) ?_
            · (go_simp; refine hK _ _ ?_; clear hK K)
              refine wpAnyIn_ready (rs := [4]) (by kernel_rfl) (by simp) ?_
              refine AllReadyIn.cons rfl (fun K hK => ?_) ?_
              · (go_simp; refine hK _ _ ?_; clear hK K)
                refine wpAnyIn_ready (rs := [5]) (by kernel_rfl) (by simp) ?_
                refine AllReadyIn.cons rfl (fun K hK => ?_) ?_
                · (refine ite_of rfl ?_; refine opIn_append_run (.tmp 52) (.tmp 56) 30 rfl hrun2' ?_; go_simp; refine hK _ _ ?_; clear hK K)
                  refine wpAnyIn_ready (rs := [6]) (by kernel_rfl) (by simp) ?_
                  refine AllReadyIn.cons rfl (fun K hK => ?_) ?_
                  · (go_simp; refine hK _ _ ?_; clear hK K)
                    refine wpAnyIn_done (by kernel_rfl) ?_ _
                    exact HST.out
                  exact AllReadyIn.nil
                exact AllReadyIn.nil
              exact AllReadyIn.nil
            refine AllReadyIn.cons rfl (fun K hK => ?_) ?_
            · (go_simp; refine hK _ _ ?_; clear hK K)
              refine wpAnyIn_ready (rs := [0]) (by kernel_rfl) (by simp) ?_
              refine AllReadyIn.cons rfl (fun K hK => ?_) ?_
              · (go_simp; refine hK _ _ ?_; clear hK K)
                refine wpAnyIn_ready (rs := [5]) (by kernel_rfl) (by simp) ?_
                refine AllReadyIn.cons rfl (fun K hK => ?_) ?_
                · (refine ite_of rfl ?_; refine opIn_append_run (.tmp 52) (.tmp 56) 30 rfl hrun2' ?_; go_simp; refine hK _ _ ?_; clear hK K)
                  refine wpAnyIn_ready (rs := [6]) (by kernel_rfl) (by simp) ?_
                  refine AllReadyIn.cons rfl (fun K hK => ?_) ?_
                  · (go_simp; refine hK _ _ ?_; clear hK K)
                    refine wpAnyIn_done (by kernel_rfl) ?_ _
                    exact HST.out
                  exact AllReadyIn.nil
                exact AllReadyIn.nil
              exact AllReadyIn.nil
            exact AllReadyIn.nil
          exact AllReadyIn.nil
        exact AllReadyIn.nil
      refine AllReadyIn.cons rfl (fun K hK => ?_) ?_
      · (go_simp; refine hK _ _ ?_; clear hK K)
        refine wpAnyIn_ready (rs := [0, 1]) (by kernel_rfl) (by simp) ?_
        refine AllReadyIn.cons rfl (fun K hK => ?_) ?_
        · (go_simp; refine hK _ _ ?_; clear hK K)
          refine wpAnyIn_ready (rs := [1]) (by kernel_rfl) (by simp) ?_
          refine AllReadyIn.cons rfl (fun K hK => ?_) ?_
          · (go_simp; refine hK _ _ ?_; clear hK K)
            refine wpAnyIn_ready (rs := [3]) (by kernel_rfl) (by simp) ?_
            refine AllReadyIn.cons rfl (fun K hK => ?_) ?_
            · (refine ite_of rfl ?_; refine opIn_append_run (.tmp 53) (.tmp 54) 23 rfl hrun1' ?_; go_simp; refine hK _ _ ?_; clear hK K)
              refine wpAnyIn_ready (rs := [4]) (by kernel_rfl) (by simp) ?_
              refine AllReadyIn.cons rfl (fun K hK => ?_) ?_
              · (go_simp; refine hK _ _ ?_; clear hK K)
                refine wpAnyIn_ready (rs := [5]) (by kernel_rfl) (by simp) ?_
                refine AllReadyIn.cons rfl (fun K hK => ?_) ?_
                · (refine ite_of rfl ?_; refine opIn_append_run (.tmp 52) (.tmp 56) 30 rfl hrun2' ?_; go_simp; refine hK _ _ ?_; clear hK K)
                  refine wpAnyIn_ready (rs := [6]) (by kernel_rfl) (by simp) ?_
                  refine AllReadyIn.cons rfl (fun K hK => ?_) ?_
                  · (go_simp; refine hK _ _ ?_; clear hK K)
                    refine wpAnyIn_done (by kernel_rfl) ?_ _
                    exact HST.out
                  exact AllReadyIn.nil
                exact AllReadyIn.nil
              exact AllReadyIn.nil
            exact AllReadyIn.nil
          exact AllReadyIn.nil
        refine AllReadyIn.cons rfl (fun K hK => ?_) ?_
        · (go_simp; refine hK _ _ ?_; clear hK K)
          refine wpAnyIn_ready (rs := [0, 3]) (by kernel_rfl) (by simp) ?_
          refine AllReadyIn.cons rfl (fun K hK => ?_) ?_
          · (go_simp; refine hK _ _ ?_; clear hK K)
            refine wpAnyIn_ready (rs := [3]) (by kernel_rfl) (by simp) ?_
            refine AllReadyIn.cons rfl (fun K hK => ?_) ?_
            · (refine ite_of rfl ?_; refine opIn_append_run (.tmp 53) (.tmp 54) 23 rfl hrun1' ?_; go_simp; refine hK _ _ ?_; clear hK K)
              refine wpAnyIn_ready (rs := [4]) (by kernel_rfl) (by simp) ?_
              refine AllReadyIn.cons rfl (fun K hK => ?_) ?_
              · (go_simp; refine hK _ _ ?_; clear hK K)
                refine wpAnyIn_ready (rs := [5]) (by kernel_rfl) (by simp) ?_
                refine AllReadyIn.cons rfl (fun K hK => ?_) ?_
                · (refine ite_of rfl ?_; refine opIn_append_run (.tmp 52) (.tmp 56) 30 rfl hrun2' ?_; go_simp; refine hK _ _ ?_; clear hK K)
                  refine wpAnyIn_ready (rs := [6]) (by kernel_rfl) (by simp) ?_
                  refine AllReadyIn.cons rfl (fun K hK => ?_) ?_
                  · (go_simp; refine hK _ _ ?_; clear hK K)
                    refine wpAnyIn_done (by kernel_rfl) ?_ _
                    exact HST.out
                  exact AllReadyIn.nil
                exact AllReadyIn.nil
              exact AllReadyIn.nil
            exact AllReadyIn.nil
          refine AllReadyIn.cons rfl (fun K hK => ?_) ?_
          · (refine ite_of rfl ?_; refine opIn_append_run (.tmp 53) (.tmp 54) 23 rfl hrun1' ?_; go_simp; refine hK _ _ ?_; clear hK K)
            refine wpAnyIn_ready (rs := [0, 4]) (by kernel_rfl) (by simp) ?_
            refine AllReadyIn.cons rfl (fun K hK => ?_) ?_
            · (go_simp; refine hK _ _ ?_; clear hK K)
              refine wpAnyIn_ready (rs := [4]) (by kernel_rfl) (by simp) ?_
              refine AllReadyIn.cons rfl (fun K hK => ?_) ?_
              · (go_simp; refine hK _ _ ?_; clear hK K)
                refine wpAnyIn_ready (rs := [5]) (by kernel_rfl) (by simp) ?_
                refine AllReadyIn.cons rfl (fun K hK => ?_) ?_
                · (refine ite_of rfl ?_; refine opIn_append_run (.tmp 52) (.tmp 56) 30 rfl hrun2' ?_; go_simp; refine hK _ _ ?_; clear hK K)
                  refine wpAnyIn_ready (rs := [6]) (by kernel_rfl) (by simp) ?_
                  refine AllReadyIn.cons rfl (fun K hK => ?_) ?_
                  · (go_simp; refine hK _ _ ?_; clear hK K)
                    refine wpAnyIn_done (by kernel_rfl) ?_ _
                    exact HST.out
                  exact AllReadyIn.nil
                exact AllReadyIn.nil
              exact AllReadyIn.nil
            refine AllReadyIn.cons rfl (fun K hK => ?_) ?_
            · (go_simp; refine hK _ _ ?_; clear hK K)
              refine wpAnyIn_ready (rs := [0]) (by kernel_rfl) (by simp) ?_
              refine AllReadyIn.cons rfl (fun K hK => ?_) ?_
              · (go_simp; refine hK _ _ ?_; clear hK K)
                refine wpAnyIn_ready (rs := [5]) (by kernel_rfl) (by simp) ?_
                refine AllReadyIn.cons rfl (fun K hK => ?_) ?_
                · (refine ite_of rfl ?_; refine opIn_append_run (.tmp 52) (.tmp 56) 30 rfl hrun2' ?_; go_simp; refine hK _ _ ?_; clear hK K)
                  refine wpAnyIn_ready (rs := [6]) (by kernel_rfl) (by simp) ?_
                  refine AllReadyIn.cons rfl (fun K hK => ?_) ?_
                  · (go_simp; refine hK _ _ ?_; clear hK K)
                    refine wpAnyIn_done (by kernel_rfl) ?_ _
                    exact HST.out
                  exact AllReadyIn.nil
                exact AllReadyIn.nil
              exact AllReadyIn.nil
            exact AllReadyIn.nil
          exact AllReadyIn.nil
        exact AllReadyIn.nil
      exact AllReadyIn.nil
  case done =>
    rintro D ys W hD rfl ⟨v, F, Y, hI⟩ hK
    have c7 := hI.out.cell
    have HI := Lib.hid hI
    clear hI
    gi_wp2
    refine ⟨by simp, .inl ⟨_, _, rfl, run_takeDeferred hK, ?_⟩⟩
    refine ⟨_, results_tmp2 rfl _ _ _, ?_⟩
    obtain ⟨v2, F2, Y2, h2⟩ := (EncI.own (w := w) (l := l) (u := u) (S := .slice B u.length cc) (b := b) (o := o) (c := c) (B := w5.heap.size) (by omega)).putObj (.deferred none) ⟨v, F, Y, HI.out⟩ hD hK rfl
    have hv : v2 = v := by
      have e1 := h2.out
      have e2 : Boxed (W.putObj D (.deferred none)) (w.heap.size + 1 + 1) 30 v := ((grownBy_putObj' W D (.deferred none)).block _ HI.out.out.lt (fun e => by cases e; omega)).trans HI.out.out
      unfold Boxed at e1 e2
      rw [e1] at e2
      simpa using e2
    subst hv
    have hlr : (List.range ((l.length + 1003) / 1004)).length = need l.length := by rw [List.length_range, ← HNE.out, HN.out]
    have hra : rowsOf l u (List.range ((l.length + 1003) / 1004)) = encRows l u := by rw [← HNE.out, HN.out]; exact rowsOf_all l u (by rw [HUL.out]; exact HN.out)
    refine ⟨v2, F2, Y2, rfl, ?_, h2.below, fun i A' n' c' hi e => h2.room i A' n' c' (by rw [hlr]; exact hi) e, fun i hi => ?_, fun i j hi hj => h2.apart i j (by rw [hlr]; exact hi) (by rw [hlr]; exact hj), fun i g hi => h2.sub i g (by rw [hlr]; exact hi)⟩
    rotate_left
    · have := h2.bufs i (by rw [hlr]; exact hi)
      rw [hra] at this
      exact own_down this (by omega)
    have hr := h2.rows
    rw [hra] at hr
    exact ⟨own_down hr.own (by omega), hr.rows, fun g hg => ⟨by have := (hr.lt g hg).1; omega, (hr.lt g hg).2⟩, hr.off⟩
  case stop =>
    rintro D c' pre W _ _ h _
    exact h.elim
theorem encode_yes (A B : Option Addr) (c cc : Nat) (l u : List Nat) (w : World) (hA : At w A (ns .u8 l)) (hB : At w B (ns .u32 u)) (hcap : l.length ≤ c) (hu : ∀ x, x ∈ u → x < 4294967296) (hok : encOk l u) :
    Calls Try.prog 34 #[.slice A l.length c, .slice B u.length cc] w (EncGives w l u) :=
  (encode_full A B c cc l u w hA hB hcap hu hok).mono fun _ _ ⟨v, F, Y, h1, h2, h3, h4, _⟩ => ⟨v, F, Y, h1, h2, h3, h4⟩
end Go.Proofs.Ytfbjjblgcgjndaa

/- over.Encode (34) of a value that wants no pages. -/
namespace Go.Proofs.Ytfbjjblgcgjndaa
open Go.RowKit

set_option maxRecDepth 100000 in
set_option maxHeartbeats 1000000 in
theorem encode_zero (A B : Option Addr) (c cc : Nat) (l u : List Nat) (w : World) (hl : l.length ≤ 140737488355328) (h0 : need l.length = 0) :
    Calls Try.prog 34 #[.slice A l.length c, .slice B u.length cc] w fun e w' => e = .returned (.tuple #[.slice none 0 0, .int .u16 120]) ∧ Below w.heap.size w w' := by
  have HN := Lib.hid (need_any l.length hl)
  rw [h0] at HN
  clear h0
  go_enter Try.func34, Try.ntmps34
  go_wp2_with fail
  refine (HN.out _).mono ?_
  rintro e w1 ⟨rfl, rfl⟩
  go_wp2_with fail
  go_ret2
  exact ⟨rfl, below_alloc0 (below_alloc0 (Below.refl _ _) _) _⟩
end Go.Proofs.Ytfbjjblgcgjndaa
