/- Joined texts: Does3, Does4, Much2, Plays, DiskKn, Known7, DiskDo, Load, RDisk11, DiskLo. -/
import Derived.Laws.IdiomCopy
import Derived.Test.YtfbjjblgcgjndaaDk4
import Derived.Test.YtfbjjblgcgjndaaDk5
import Derived.Test.YtfbjjblgcgjndaaDk6
import Derived.Test.YtfbjjblgcgjndaaDk8
set_option linter.unusedVariables false
set_option linter.unusedSimpArgs false

/- Walk of the pair's does: a cut. -/
namespace Go.Proofs.Ytfbjjblgcgjndaa
open Go.RowKit

set_option maxRecDepth 100000 in
set_option maxHeartbeats 4000000 in
theorem does_4 {n0 : Nat} {w : World} {pp d r b : Nat} {D : Dsk} {K k : Nat} (h : PairX n0 w pp d r b D D K (fun _ => False)) (hs : Small D k) (hk : k ≤ 10000000) (hK : K ≤ 100000000) (a : ActD) (ha : ArgIn n0 w a) (hsm : a.data.l.length ≤ 2000000 ∧ a.keep.l.length ≤ 2000000) (hkd : a.kind % 9 = 4) :
    Calls Try.prog 129 #[.pointer (some ⟨pp, 0, none⟩), actV a] w (DoesGives n0 w pp d r b (K + 1) (k + 1)) := by
  have hn0 := h.n_le
  obtain ⟨w1, hw1⟩ : ∃ w1, w1 = w.alloc (.cells #[.int .u8 (a.kind : Int), .int .i64 a.num, .int .i64 a.of_, .slice a.data.A a.data.l.length a.data.c, .slice a.keep.A a.keep.l.length a.keep.c] 109) := ⟨_, rfl⟩
  obtain ⟨h1, hq, hb1⟩ := does_start h a w1 hw1
  have hsz : w.heap.size ≤ w1.heap.size := hb1.size
  have e0 : ((a.kind : Int) % 9 == 0) = false := by simp; omega
  have n0 : ¬ (a.kind : Int) % 9 = 0 := by omega
  have e1 : ((a.kind : Int) % 9 == 1) = false := by simp; omega
  have n1 : ¬ (a.kind : Int) % 9 = 1 := by omega
  have e2 : ((a.kind : Int) % 9 == 2) = false := by simp; omega
  have n2 : ¬ (a.kind : Int) % 9 = 2 := by omega
  have e3 : ((a.kind : Int) % 9 == 3) = false := by simp; omega
  have n3 : ¬ (a.kind : Int) % 9 = 3 := by omega
  have g1 : ((a.kind : Int) % 9 == 4) = true := by simp; omega
  have g2 : (a.kind : Int) % 9 = 4 := by omega
  have hki := ha.ok.kind
  have H1 := Lib.hid h1
  have HQ := Lib.hid hq
  have HA := Lib.hid (ha.step (Step.of_below (X := fun _ => False) hb1 hn0).2)
  have HB1 := Lib.hid (Step.of_below (X := fun _ => False) hb1 hn0).2
  have HS := Lib.hid hs
  have HSM := Lib.hid hsm
  have c0 : w1.cell? ⟨w.heap.size, 0, none⟩ = some (.int .u8 (a.kind : Int)) := RecAt.cell hq 0 (by omega)
  unfold actV
  obtain ⟨kd, hkk⟩ : ∃ kd, kd = a.kind := ⟨_, rfl⟩
  rw [← hkk] at e0 n0 e1 n1 e2 n2 e3 n3 g1 g2 hki hkd c0 hw1 ⊢
  have HW1 := Lib.hid hw1
  have HN0 := Lib.hid hn0
  have HKK := Lib.hid hkk
  clear h h1 hq hb1 ha hs hw1 hkk hsm hn0
  go_enter Try.func129, Try.ntmps129
  go_wp2_with fail
  rw [← HW1.out]
  go_wp2_with fail
  have q4 : w1.cell? ⟨w.heap.size, 4, none⟩ = some (.slice a.keep.A a.keep.l.length a.keep.c) := RecAt.cell HQ.out 4 (by omega)
  have HLT := Lib.hid (lentbo_any a.keep.A a.keep.c a.keep.l w1 (by have := HSM.out.2; omega) HA.out.ok.keep.lies HA.out.ok.keep.nil)
  go_wp2_with fail
  refine HLT.out.mono ?_
  rintro e w2 ⟨rfl, hl2, hb2⟩
  obtain ⟨g2', hg2⟩ : ∃ g2', g2' = w1.heap.size := ⟨_, rfl⟩
  rw [← hg2] at hl2
  have hx2 := (H1.out.also hb2 (Y := fun g => g = w1.heap.size) (fun g hg => ⟨by omega, by have := (Array.getElem?_eq_some_iff.1 hl2).1; omega⟩))
  rw [← hg2] at hx2
  have H2 := Lib.hid hx2
  have HQ2 := Lib.hid (HQ.out.below hb2)
  have HL2 := Lib.hid hl2
  have HB2 := Lib.hid (HB1.out.trans (Step.of_below (X := fun _ => False) hb2 H1.out.n_le).2)
  have HA2 := Lib.hid (HA.out.step (Step.of_below (X := fun _ => False) hb2 H1.out.n_le).2)
  rw [← hg2]
  have HG2 := Lib.hid hg2
  clear hl2 hb2 hx2 q4 c0 HLT hg2
  have p0 : w2.cell? ⟨pp, 0, none⟩ = some (.pointer (some ⟨d, 0, none⟩)) := H2.out.cells.1
  have HCU := Lib.hid (px_cut H2.out (some ⟨g2', 0, none⟩) (a.keep.l.length + 2) a.keep.l HL2.out.at (fun x hx => (by cases hx; exact .inr rfl)) HS.out (by omega))
  go_wp2_with fail
  refine HCU.out.mono ?_
  rintro e w4 ⟨rfl, h4, hs4⟩
  have HQ4 := Lib.hid (HQ2.out.step hs4 (.inl rfl))
  have H4 := Lib.hid h4
  have HL4 := Lib.hid (HL2.out.step hs4 (.inr rfl))
  have HB4 := Lib.hid (HB2.out.trans hs4.2)
  have HA4 := Lib.hid (HA2.out.step hs4.2)
  clear h4 hs4 p0 HCU
  go_wp2_with fail
  have p1 : w4.cell? ⟨pp, 1, none⟩ = some (.pointer (some ⟨r, 0, none⟩)) := H4.out.cells.2.1
  have q4 : w4.cell? ⟨w.heap.size, 4, none⟩ = some (.slice a.keep.A a.keep.l.length a.keep.c) := RecAt.cell HQ4.out 4 (by omega)
  have hwr := px_rcut (H4.out.below (below_drew0 (Below.refl _ w4))) a (HA4.out.step (Step.of_below (X := fun _ => False) (below_drew0 (Below.refl _ w4)) H4.out.n_le).2) HS.out (by omega)
  have H5 := Lib.hid hwr
  have HQ5 := Lib.hid (HQ4.out.below (below_drew0 (Below.refl _ w4)))
  have HL5 := Lib.hid (HL4.out.below (below_drew0 (Below.refl _ w4)))
  have HB5 := Lib.hid (below_drewN HB4.out 1)
  have HA5 := Lib.hid (HA4.out.step (Step.of_below (X := fun _ => False) (below_drew0 (Below.refl _ w4)) H4.out.n_le).2)
  clear hwr
  go_region_held3 (fun W' => W'.cell? ⟨pp, 1, none⟩ = some (.pointer (some ⟨r, 0, none⟩)) ∧ W'.cell? ⟨w.heap.size, 4, none⟩ = some (.slice a.keep.A a.keep.l.length a.keep.c)) (first | exact ⟨p1, q4⟩ | exact ⟨H6.out.cells.2.1, RecAt.cell HQ6.out 4 (by omega)⟩ | assumption)
    (first | (go_at_call 155; refine H5.out.mono ?_; rintro e w6 ⟨rfl, h6, hs6⟩; have HQ6 := Lib.hid (HQ5.out.step hs6 (.inl rfl)); have H6 := Lib.hid h6; have HS6 := Lib.hid hs6; clear h6 hs6))
  have HL6 := Lib.hid (HL5.out.step HS6.out (.inr rfl))
  have HB6 := Lib.hid (HB5.out.trans HS6.out.2)
  have HA6 := Lib.hid (HA5.out.step HS6.out.2)
  clear p1 q4 H5
  have q4 : w6.cell? ⟨w.heap.size, 4, none⟩ = some (.slice a.keep.A a.keep.l.length a.keep.c) := RecAt.cell HQ6.out 4 (by omega)
  have HWH := Lib.hid (wholebo_any g2' a.keep.A a.keep.c a.keep.l w6 (by have := HSM.out.2; omega) HL6.out HA6.out.ok.keep.lies)
  go_wp2_with fail
  refine HWH.out.mono ?_
  rintro e w7 ⟨rfl, hb7⟩
  have HB7 := Lib.hid (HB6.out.trans (Step.of_below (X := fun _ => False) hb7 H6.out.n_le).2)
  have H7 := Lib.hid (H6.out.below hb7)
  have HSP := Lib.hid (spoilbo_any g2' a.keep.l.length _ w7 (by have := HSM.out.2; omega) (HL6.out.below hb7) (by simp [bs]))
  clear hb7 q4 HWH
  go_wp2_with fail
  refine HSP.out.mono ?_
  rintro e w8 ⟨rfl, hg8⟩
  have hc8 : Chg (fun g => g = g2') w7 w8 := Chg.of_grown hg8 (fun g e => by cases e; rfl)
  have H8 := Lib.hid (H7.out.keep hc8 (fun g _ e => .inr e))
  have HB8 := Lib.hid (HB7.out.trans (hc8.below H7.out.n_le (fun g e => by have := HG2.out; have := H1.out.n_le; omega)))
  clear hg8 hc8
  go_wp2_with fail
  go_ret
  exact ⟨rfl, D.cut a.keep.l, (HS.out.cut _).mono (by omega), (H8.out.less (fun g h => h.elim)).moreK (by omega), HB8.out⟩
end Go.Proofs.Ytfbjjblgcgjndaa

/- Walk of the pair's does: a look at what waits, at what lasts. -/
namespace Go.Proofs.Ytfbjjblgcgjndaa
open Go.RowKit

set_option maxRecDepth 100000 in
set_option maxHeartbeats 4000000 in
theorem does_5 {n0 : Nat} {w : World} {pp d r b : Nat} {D : Dsk} {K k : Nat} (h : PairX n0 w pp d r b D D K (fun _ => False)) (hs : Small D k) (hk : k ≤ 10000000) (hK : K ≤ 100000000) (a : ActD) (ha : ArgIn n0 w a) (hsm : a.data.l.length ≤ 2000000 ∧ a.keep.l.length ≤ 2000000) (hkd : a.kind % 9 = 5) :
    Calls Try.prog 129 #[.pointer (some ⟨pp, 0, none⟩), actV a] w (DoesGives n0 w pp d r b (K + 1) (k + 1)) := by
  have hn0 := h.n_le
  obtain ⟨w1, hw1⟩ : ∃ w1, w1 = w.alloc (.cells #[.int .u8 (a.kind : Int), .int .i64 a.num, .int .i64 a.of_, .slice a.data.A a.data.l.length a.data.c, .slice a.keep.A a.keep.l.length a.keep.c] 109) := ⟨_, rfl⟩
  obtain ⟨h1, hq, hb1⟩ := does_start h a w1 hw1
  have hsz : w.heap.size ≤ w1.heap.size := hb1.size
  have e0 : ((a.kind : Int) % 9 == 0) = false := by simp; omega
  have n0 : ¬ (a.kind : Int) % 9 = 0 := by omega
  have e1 : ((a.kind : Int) % 9 == 1) = false := by simp; omega
  have n1 : ¬ (a.kind : Int) % 9 = 1 := by omega
  have e2 : ((a.kind : Int) % 9 == 2) = false := by simp; omega
  have n2 : ¬ (a.kind : Int) % 9 = 2 := by omega
  have e3 : ((a.kind : Int) % 9 == 3) = false := by simp; omega
  have n3 : ¬ (a.kind : Int) % 9 = 3 := by omega
  have e4 : ((a.kind : Int) % 9 == 4) = false := by simp; omega
  have n4 : ¬ (a.kind : Int) % 9 = 4 := by omega
  have g1 : ((a.kind : Int) % 9 == 5) = true := by simp; omega
  have g2 : (a.kind : Int) % 9 = 5 := by omega
  have hki := ha.ok.kind
  have H1 := Lib.hid h1
  have HQ := Lib.hid hq
  have HA := Lib.hid (ha.step (Step.of_below (X := fun _ => False) hb1 hn0).2)
  have HB1 := Lib.hid (Step.of_below (X := fun _ => False) hb1 hn0).2
  have HS := Lib.hid hs
  have HSM := Lib.hid hsm
  have c0 : w1.cell? ⟨w.heap.size, 0, none⟩ = some (.int .u8 (a.kind : Int)) := RecAt.cell hq 0 (by omega)
  unfold actV
  obtain ⟨kd, hkk⟩ : ∃ kd, kd = a.kind := ⟨_, rfl⟩
  rw [← hkk] at e0 n0 e1 n1 e2 n2 e3 n3 e4 n4 g1 g2 hki hkd c0 hw1 ⊢
  have HW1 := Lib.hid hw1
  have HN0 := Lib.hid hn0
  have HKK := Lib.hid hkk
  have p0 := h1.cells.1
  rw [hw1] at p0
  clear h h1 hq hb1 ha hs hw1 hkk hsm hn0
  go_enter Try.func129, Try.ntmps129
  go_wp2_with fail
  rw [← HW1.out]
  go_wp2_with fail
  obtain ⟨L, hL⟩ : ∃ L, L = D.cache.map (·.1) := ⟨_, rfl⟩
  have hLs : L.length ≤ 1000000000 := by rw [hL, List.length_map]; have := HS.out.1; omega
  have hca := px_pending H1.out HS.out (by omega)
  rw [← hL] at hca
  have HL := Lib.hid hL
  have H2 := Lib.hid hca
  clear hca hL c0 p0
  refine H2.out.mono ?_
  rintro e w3 ⟨A3, c3, rfl, hr3, hb3⟩
  have H3 := Lib.hid ((H1.out.also hb3 (Y := blk (.slice A3 L.length c3)) (fun g hg => row_lt hr3 hg)))
  have HR3 := Lib.hid hr3
  have HQ3 := Lib.hid (HQ.out.below hb3)
  have HB3 := Lib.hid (HB1.out.trans (Step.of_below (X := fun _ => False) hb3 H1.out.n_le).2)
  clear hb3 H2
  have p2 : w3.cell? ⟨pp, 2, none⟩ = some (.pointer (some ⟨b, 0, none⟩)) := H3.out.cells.2.2
  have HBK := Lib.hid (px_ints H3.out A3 L.length c3 (ns .i64 L) (fun _ => False) (fun g h => h.elim) (fun g hg => ⟨Nat.le_trans H1.out.n_le (row_lt hr3 hg).1, .inr hg⟩) (own_down hr3 H1.out.n_le) (by omega) (by omega))
  clear hr3
  go_wp2_with fail
  refine HBK.out.mono ?_
  rintro e w4 ⟨rfl, h4, hs4⟩
  have HA3 := Lib.hid ((ints_at HR3.out).chg hs4.1 (fun g hg e => e (.inr (by rw [hg]; rfl))))
  have H4 := Lib.hid h4
  have HQ4 := Lib.hid (HQ3.out.step hs4 (.inl rfl))
  have HB4 := Lib.hid (HB3.out.trans hs4.2)
  clear h4 hs4 p2 HBK
  have p1 : w4.cell? ⟨pp, 1, none⟩ = some (.pointer (some ⟨r, 0, none⟩)) := H4.out.cells.2.1
  have hcb := px_rpending H4.out HS.out (by omega)
  rw [← HL.out] at hcb
  have H5 := Lib.hid hcb
  clear hcb
  go_wp2_with fail
  refine H5.out.mono ?_
  rintro e w6 ⟨A6, c6, rfl, hr6, hb6⟩
  have HSE := Lib.hid (sameInts_eq A3 A6 L.length L.length c3 c6 L L w6 rfl rfl (by omega) rfl (HA3.out.below hb6) (ints_at hr6))
  have HB6 := Lib.hid (HB4.out.trans (Step.of_below (X := fun _ => False) hb6 H4.out.n_le).2)
  have H6 := Lib.hid (H4.out.below hb6)
  clear hr6 hb6 p1 H5
  go_wp2_with fail
  refine HSE.out.mono ?_
  rintro e w7 ⟨rfl, hb7⟩
  go_wp2_with fail
  go_ret
  exact ⟨rfl, D, HS.out.mono (by omega), H6.out.below hb7, HB6.out.trans (Step.of_below (X := fun _ => False) hb7 H6.out.n_le).2⟩
set_option maxRecDepth 100000 in
set_option maxHeartbeats 4000000 in
theorem does_6 {n0 : Nat} {w : World} {pp d r b : Nat} {D : Dsk} {K k : Nat} (h : PairX n0 w pp d r b D D K (fun _ => False)) (hs : Small D k) (hk : k ≤ 10000000) (hK : K ≤ 100000000) (a : ActD) (ha : ArgIn n0 w a) (hsm : a.data.l.length ≤ 2000000 ∧ a.keep.l.length ≤ 2000000) (hkd : a.kind % 9 = 6) :
    Calls Try.prog 129 #[.pointer (some ⟨pp, 0, none⟩), actV a] w (DoesGives n0 w pp d r b (K + 1) (k + 1)) := by
  have hn0 := h.n_le
  obtain ⟨w1, hw1⟩ : ∃ w1, w1 = w.alloc (.cells #[.int .u8 (a.kind : Int), .int .i64 a.num, .int .i64 a.of_, .slice a.data.A a.data.l.length a.data.c, .slice a.keep.A a.keep.l.length a.keep.c] 109) := ⟨_, rfl⟩
  obtain ⟨h1, hq, hb1⟩ := does_start h a w1 hw1
  have hsz : w.heap.size ≤ w1.heap.size := hb1.size
  have e0 : ((a.kind : Int) % 9 == 0) = false := by simp; omega
  have n0 : ¬ (a.kind : Int) % 9 = 0 := by omega
  have e1 : ((a.kind : Int) % 9 == 1) = false := by simp; omega
  have n1 : ¬ (a.kind : Int) % 9 = 1 := by omega
  have e2 : ((a.kind : Int) % 9 == 2) = false := by simp; omega
  have n2 : ¬ (a.kind : Int) % 9 = 2 := by omega
  have e3 : ((a.kind : Int) % 9 == 3) = false := by simp; omega
  have n3 : ¬ (a.kind : Int) % 9 = 3 := by omega
  have e4 : ((a.kind : Int) % 9 == 4) = false := by simp; omega
  have n4 : ¬ (a.kind : Int) % 9 = 4 := by omega
  have e5 : ((a.kind : Int) % 9 == 5) = false := by simp; omega
  have n5 : ¬ (a.kind : Int) % 9 = 5 := by omega
  have g1 : ((a.kind : Int) % 9 == 6) = true := by simp; omega
  have g2 : (a.kind : Int) % 9 = 6 := by omega
  have hki := ha.ok.kind
  have H1 := Lib.hid h1
  have HQ := Lib.hid hq
  have HA := Lib.hid (ha.step (Step.of_below (X := fun _ => False) hb1 hn0).2)
  have HB1 := Lib.hid (Step.of_below (X := fun _ => False) hb1 hn0).2
  have HS := Lib.hid hs
  have HSM := Lib.hid hsm
  have c0 : w1.cell? ⟨w.heap.size, 0, none⟩ = some (.int .u8 (a.kind : Int)) := RecAt.cell hq 0 (by omega)
  unfold actV
  obtain ⟨kd, hkk⟩ : ∃ kd, kd = a.kind := ⟨_, rfl⟩
  rw [← hkk] at e0 n0 e1 n1 e2 n2 e3 n3 e4 n4 e5 n5 g1 g2 hki hkd c0 hw1 ⊢
  have HW1 := Lib.hid hw1
  have HN0 := Lib.hid hn0
  have HKK := Lib.hid hkk
  have p0 := h1.cells.1
  rw [hw1] at p0
  clear h h1 hq hb1 ha hs hw1 hkk hsm hn0
  go_enter Try.func129, Try.ntmps129
  go_wp2_with fail
  rw [← HW1.out]
  go_wp2_with fail
  obtain ⟨L, hL⟩ : ∃ L, L = D.last.flatten := ⟨_, rfl⟩
  have hLs : L.length ≤ 1000000000 := by rw [hL]; have := H1.out.last_small; omega
  have hca := px_image H1.out
  rw [← hL] at hca
  have HL := Lib.hid hL
  have H2 := Lib.hid hca
  clear hca hL c0 p0
  refine H2.out.mono ?_
  rintro e w3 ⟨A3, c3, rfl, hr3, hb3⟩
  have H3 := Lib.hid ((H1.out.also hb3 (Y := blk (.slice A3 L.length c3)) (fun g hg => row_lt hr3 hg)))
  have HR3 := Lib.hid hr3
  have HQ3 := Lib.hid (HQ.out.below hb3)
  have HB3 := Lib.hid (HB1.out.trans (Step.of_below (X := fun _ => False) hb3 H1.out.n_le).2)
  clear hb3 H2
  have p2 : w3.cell? ⟨pp, 2, none⟩ = some (.pointer (some ⟨b, 0, none⟩)) := H3.out.cells.2.2
  have HBK := Lib.hid (px_bytes H3.out A3 L.length c3 (ns .u8 L) (fun _ => False) (fun g h => h.elim) (fun g hg => ⟨Nat.le_trans H1.out.n_le (row_lt hr3 hg).1, .inr hg⟩) (Rw.of (own_down hr3 H1.out.n_le)) (by omega) (by omega))
  clear hr3
  go_wp2_with fail
  refine HBK.out.mono ?_
  rintro e w4 ⟨rfl, h4, hs4⟩
  have HA3 := Lib.hid ((buf_at2 HR3.out).chg hs4.1 (fun g hg e => e (.inr (by rw [hg]; rfl))))
  have H4 := Lib.hid h4
  have HQ4 := Lib.hid (HQ3.out.step hs4 (.inl rfl))
  have HB4 := Lib.hid (HB3.out.trans hs4.2)
  clear h4 hs4 p2 HBK
  have p1 : w4.cell? ⟨pp, 1, none⟩ = some (.pointer (some ⟨r, 0, none⟩)) := H4.out.cells.2.1
  have hcb := px_rimage H4.out
  rw [← HL.out] at hcb
  have H5 := Lib.hid hcb
  clear hcb
  go_wp2_with fail
  refine H5.out.mono ?_
  rintro e w6 ⟨A6, c6, rfl, hr6, hb6⟩
  have HSE := Lib.hid (same_eq A3 A6 L.length L.length c3 c6 L L w6 rfl rfl (by omega) rfl (HA3.out.below hb6) (buf_at2 hr6))
  have HB6 := Lib.hid (HB4.out.trans (Step.of_below (X := fun _ => False) hb6 H4.out.n_le).2)
  have H6 := Lib.hid (H4.out.below hb6)
  clear hr6 hb6 p1 H5
  go_wp2_with fail
  refine HSE.out.mono ?_
  rintro e w7 ⟨rfl, hb7⟩
  go_wp2_with fail
  go_ret
  exact ⟨rfl, D, HS.out.mono (by omega), H6.out.below hb7, HB6.out.trans (Step.of_below (X := fun _ => False) hb7 H6.out.n_le).2⟩
end Go.Proofs.Ytfbjjblgcgjndaa

/- Contract of the disk laws' much: where it is not, each act's lists are small. -/
namespace Go.Proofs.Ytfbjjblgcgjndaa
open Go.RowKit

def MuchAll (l : List ActD) : Prop := ∀ a ∈ l, a.data.l.length ≤ 2000000 ∧ a.keep.l.length ≤ 2000000
def MuchGives2 (l : List ActD) (w : World) (e : Ending) (w' : World) : Prop := ∃ b, e = .returned (.bool b) ∧ (b = false → l.length ≤ 2000000 ∧ MuchAll l) ∧ Below w.heap.size w w'
def SumOk (l : List ActD) (k m : Nat) : Prop := ∀ i a, i < k → l[i]? = some a → a.data.l.length ≤ m ∧ a.keep.l.length ≤ m
theorem SumOk.zero (l : List ActD) : SumOk l 0 0 := fun i a hi => by omega
theorem SumOk.succ {l : List ActD} {k m m' x y : Nat} {a : ActD} (h : SumOk l k m) (ha : l[k]? = some a) (hx : x = a.data.l.length) (hy : y = a.keep.l.length) (h1 : m ≤ m') (h2 : x ≤ m') (h3 : y ≤ m') : SumOk l (k + 1) m' := fun i a' hi ha' => by
  by_cases e : i = k
  · subst e
    rw [ha] at ha'
    cases ha'
    omega
  · have := h i a' (by omega) ha'
    omega
theorem SumOk.all {l : List ActD} {m : Nat} (h : SumOk l l.length m) (hm : m ≤ 2000000) : MuchAll l := fun a ha => by
  obtain ⟨i, hi, e⟩ := List.getElem_of_mem ha
  have := h i a hi (by rw [List.getElem?_eq_getElem hi, e])
  omega
theorem act_mem2 {l : List ActD} {k : Nat} (h : k < l.length) : ∃ a, l[k]? = some a ∧ a ∈ l := ⟨l[k], List.getElem?_eq_getElem h, List.getElem_mem _⟩
set_option maxRecDepth 100000 in
set_option maxHeartbeats 1000000 in
theorem much2_any (pg : Nat) (s : Acts) (w : World) (hp : pg ≤ 16384) (hs : s.Ok w) : Calls Try.prog 61 #[.int .i64 (pg : Int), .slice s.A s.l.length s.c] w (MuchGives2 s.l w) := by
  obtain ⟨A, l, c⟩ := s
  have hsm := hs.small
  simp only at hsm ⊢
  have HAT := Lib.hid hs.lies
  have HAL := Lib.hid hs.all
  clear hs
  go_enter Try.func61, Try.ntmps61
  go_wp2_with fail
  go_loopw [5, 6] (fun n i wr => ∃ k : Nat, k ≤ l.length ∧ i = .int .i64 k ∧ (∃ m : Nat, n = .int .i64 (m : Int) ∧ k ≤ m ∧ m ≤ 1000000000000000 ∧ SumOk l k m) ∧ Below w.heap.size w wr) (fun _ i _ => l.length - (intOf i).toNat)
  case atStart => exact ⟨0, by omega, rfl, ⟨0, rfl, by omega, by omega, SumOk.zero l⟩, Below.refl _ _⟩
  case round =>
    obtain ⟨k, hk, rfl, ⟨m, rfl, hkm, hm, hso⟩, hb⟩ := hrel
    by_cases hlt : k < l.length ∧ m ≤ 2000000
    · obtain ⟨h1, h2⟩ := hlt
      obtain ⟨a, ha, hmem⟩ := act_mem2 h1
      have hok := HAL.out a hmem
      obtain ⟨b, o, rfl, hcell⟩ := act_cell (HAT.out.below hb) k a ha
      have c0 : wr.cell? ⟨b, o + k * 5, none⟩ = some (.int .u8 (a.kind : Int)) := hcell 0 (by omega)
      have c3 : wr.cell? ⟨b, o + k * 5 + 3, none⟩ = some (.slice a.data.A a.data.l.length a.data.c) := hcell 3 (by omega)
      have c4 : wr.cell? ⟨b, o + k * 5 + 4, none⟩ = some (.slice a.keep.A a.keep.l.length a.keep.c) := hcell 4 (by omega)
      have d1 := hok.data.small
      have d2 := hok.keep.small
      have d3 := hok.kind
      obtain ⟨x, hx⟩ : ∃ x, x = a.data.l.length := ⟨_, rfl⟩
      obtain ⟨y, hy⟩ : ∃ y, y = a.keep.l.length := ⟨_, rfl⟩
      have HSO := Lib.hid (fun (m' : Nat) (h1 : m ≤ m') (h2 : x ≤ m') (h3 : y ≤ m') => hso.succ ha hx hy h1 h2 h3)
      clear hso
      rw [← hx] at c3 d1
      rw [← hy] at c4 d2
      generalize a.kind = kd at *
      have h3 : (k : Int) < (l.length : Int) := by omega
      have h4 : (m : Int) ≤ 2000000 := by omega
      have e1 : IntKind.i64.wrap ((x : Int) + (y : Int)) = (x : Int) + (y : Int) := by rw [IntKind.wrap_i64]; omega
      have e2 : IntKind.i64.wrap ((x : Int) + (y : Int) + 1) = (x : Int) + (y : Int) + 1 := by rw [IntKind.wrap_i64]; omega
      have e3 : IntKind.i64.wrap ((m : Int) + ((x : Int) + (y : Int) + 1)) = (m : Int) + ((x : Int) + (y : Int) + 1) := by rw [IntKind.wrap_i64]; omega
      have HB := Lib.hid hb
      clear hb hcell hok ha hmem hx hy
      by_cases h6 : kd % 9 = 6
      · have g1 : ((kd : Int) % 9 == 6) = true := by simp; omega
        have g2 : (kd : Int) % 9 = 6 := by omega
        clear h6
        go_wp2_with fail
        go_quiet (fail)
        go_wp2_with fail
        case roundEnd => exact ⟨⟨k + 1, by omega, by go_num, ⟨m + (x + y + 1) + pg * 1024, by push_cast; rfl, by omega, by omega, HSO.out _ (by omega) (by omega) (by omega)⟩, below_drewN HB.out _⟩, by simp only [intOf]; omega⟩
      · have g1 : ((kd : Int) % 9 == 6) = false := by simp; omega
        have g2 : ¬ (kd : Int) % 9 = 6 := by omega
        clear h6
        go_wp2_with fail
        go_quiet (fail)
        go_wp2_with fail
        case roundEnd => exact ⟨⟨k + 1, by omega, by go_num, ⟨m + (x + y + 1), by push_cast; rfl, by omega, by omega, HSO.out _ (by omega) (by omega) (by omega)⟩, below_drewN HB.out _⟩, by simp only [intOf]; omega⟩
    · have hfin : ¬ (2000000 < m) → l.length ≤ 2000000 ∧ MuchAll l := fun h => by
        obtain rfl : k = l.length := by omega
        exact ⟨by omega, hso.all (by omega)⟩
      have HF := Lib.hid hfin
      clear hfin hso
      go_wp2_with fail
      · go_ret
        exact ⟨true, rfl, fun h => (by cases h), hb⟩
      · go_ret
        exact ⟨decide ((2000000 : Int) < (m : Int)), rfl, fun h => HF.out (by have := of_decide_eq_false h; omega), hb⟩
end Go.Proofs.Ytfbjjblgcgjndaa

/- Walk of the pair's plays. -/
namespace Go.Proofs.Ytfbjjblgcgjndaa
open Go.RowKit

theorem does_any {n0 : Nat} {w : World} {pp d r b : Nat} {D : Dsk} {K k : Nat} (h : PairX n0 w pp d r b D D K (fun _ => False)) (hs : Small D k) (hk : k ≤ 10000000) (hK : K ≤ 100000000) (a : ActD) (ha : ArgIn n0 w a) (hsm : a.data.l.length ≤ 2000000 ∧ a.keep.l.length ≤ 2000000) :
    Calls Try.prog 129 #[.pointer (some ⟨pp, 0, none⟩), actV a] w (DoesGives n0 w pp d r b (K + 1) (k + 1)) := by
  rcases (show a.kind % 9 = 0 ∨ a.kind % 9 = 1 ∨ a.kind % 9 = 2 ∨ a.kind % 9 = 3 ∨ a.kind % 9 = 4 ∨ a.kind % 9 = 5 ∨ a.kind % 9 = 6 ∨ a.kind % 9 = 7 ∨ a.kind % 9 = 8 by omega) with e | e | e | e | e | e | e | e | e
  · exact does_0 h hs hk hK a ha e
  · exact does_1 h hs hk hK a ha hsm e
  · exact does_2 h hs hk hK a ha hsm e
  · exact does_3 h hs hk hK a ha hsm e
  · exact does_4 h hs hk hK a ha hsm e
  · exact does_5 h hs hk hK a ha hsm e
  · exact does_6 h hs hk hK a ha hsm e
  · exact does_7 h hs hk hK a ha hsm e
  · exact does_8 h hs hk hK a ha hsm e
section
variable {n0 : Nat} {w : World} {pp d r b : Nat} {D E : Dsk} {K k : Nat} {X : Nat → Prop}
theorem px_dark (h : PairX n0 w pp d r b D E K X) : Calls Try.prog 54 #[.pointer (some ⟨d, 0, none⟩)] w fun e w' => e = .returned (.bool D.dark) ∧ w = w' := by
  obtain ⟨S, hd, _⟩ := h.disk
  exact dg_dark hd
theorem px_counts (h : PairX n0 w pp d r b D E K X) : Calls Try.prog 56 #[.pointer (some ⟨d, 0, none⟩)] w fun e w' => e = .returned (.agg #[.int .i64 (D.n 1), .int .i64 (D.n 2), .int .i64 (D.n 3)]) ∧ Below w.heap.size w w' := by
  obtain ⟨S, hd, _⟩ := h.disk
  exact dg_counts hd
theorem px_pages (h : PairX n0 w pp d r b D E K X) : Calls Try.prog 121 #[.pointer (some ⟨d, 0, none⟩)] w fun e w' => e = .returned (.int .i64 (D.pages : Int)) ∧ w = w' := by
  obtain ⟨S, hd, _⟩ := h.disk
  exact pages_any hd.disk
theorem px_rpages (h : PairX n0 w pp d r b D E K X) : Calls Try.prog 130 #[.pointer (some ⟨r, 0, none⟩)] w fun e w' => e = .returned (.int .i64 (E.pages : Int)) ∧ w = w' := by
  obtain ⟨S, hd, _⟩ := h.ref
  exact rpages_any hd
theorem px_own (h : PairX n0 w pp d r b D E K X) (hK : K ≤ 1000000000000) : Calls Try.prog 44 #[.pointer (some ⟨b, 0, none⟩)] w fun e w' => e = .returned (.bool true) ∧ (w'.cell? ⟨pp, 0, none⟩ = some (.pointer (some ⟨d, 0, none⟩)) ∧ w'.cell? ⟨pp, 1, none⟩ = some (.pointer (some ⟨r, 0, none⟩)) ∧ w'.cell? ⟨pp, 2, none⟩ = some (.pointer (some ⟨b, 0, none⟩))) ∧ Below n0 w w' := by
  have hn := h.n_le
  obtain ⟨Sd, Sr, B, h, _⟩ := h
  refine (own_ok h.book hn hK).mono fun e w' ⟨a, g, c⟩ => ?_
  have hr := h.rcd.keep g (fun e => h.sep.2.2.1 (e.elim id id))
  exact ⟨a, ⟨hr.cell 0 (by omega), hr.cell 1 (by omega), hr.cell 2 (by omega)⟩, c⟩
theorem px_rcells (h : PairX n0 w pp d r b D E K X) : w.cell? ⟨r, 2, none⟩ = some (.bool E.dark) ∧ w.cell? ⟨r, 5, none⟩ = some (.int .i64 (E.n 1)) ∧ w.cell? ⟨r, 6, none⟩ = some (.int .i64 (E.n 2)) ∧ w.cell? ⟨r, 7, none⟩ = some (.int .i64 (E.n 3)) := by
  obtain ⟨S, ⟨_, ⟨q, Y, hin, _⟩, _⟩, _⟩ := h.ref
  exact ⟨hin.rcd.cell 2 (by omega), hin.rcd.cell 5 (by omega), hin.rcd.cell 6 (by omega), hin.rcd.cell 7 (by omega)⟩
theorem px_six (h : PairX n0 w pp d r b D E K X) : w.cell? ⟨pp, 0, none⟩ = some (.pointer (some ⟨d, 0, none⟩)) ∧ w.cell? ⟨pp, 1, none⟩ = some (.pointer (some ⟨r, 0, none⟩)) ∧ w.cell? ⟨r, 2, none⟩ = some (.bool E.dark) ∧ w.cell? ⟨r, 5, none⟩ = some (.int .i64 (E.n 1)) ∧ w.cell? ⟨r, 6, none⟩ = some (.int .i64 (E.n 2)) ∧ w.cell? ⟨r, 7, none⟩ = some (.int .i64 (E.n 3)) :=
  ⟨h.cells.1, h.cells.2.1, px_rcells h⟩
end
def PlaysGives (n0 : Nat) (w : World) (e : Ending) (w' : World) : Prop := e = .returned (.bool true) ∧ Below n0 w w'
/-- behind i acts -/
def PlayAt (n0 : Nat) (w : World) (pp d r b K0 k0 i : Nat) (wr : World) : Prop := ∃ D, Small D (k0 + i) ∧ PairX n0 wr pp d r b D D (K0 + i) (fun _ => False) ∧ Below n0 w wr
set_option maxRecDepth 100000 in
set_option maxHeartbeats 4000000 in
theorem plays_any {n0 : Nat} {w : World} {pp d r b : Nat} {D : Dsk} {K0 : Nat} (h : PairX n0 w pp d r b D D K0 (fun _ => False)) (hs : Small D 0) (hK : K0 ≤ 1) (s : Acts) (w0 : World) (hw0 : s.Ok w0) (hle : w0.heap.size ≤ n0) (hb0 : Below w0.heap.size w0 w) (hl : s.l.length ≤ 2000000) (hsm : MuchAll s.l) :
    Calls Try.prog 62 #[.pointer (some ⟨pp, 0, none⟩), .slice s.A s.l.length s.c] w (PlaysGives n0 w) := by
  obtain ⟨A, l, c⟩ := s
  simp only at hl hsm ⊢
  have HW0 := Lib.hid hw0
  have HB0 := Lib.hid hb0
  have HSM := Lib.hid hsm
  have hstart : PlayAt n0 w pp d r b K0 0 0 w := ⟨D, hs, h, Below.refl _ _⟩
  have HST := Lib.hid hstart
  clear h hs hw0 hb0 hsm hstart
  go_enter Try.func62, Try.ntmps62
  go_wp2_with fail
  go_loopw [5] (fun i wr => ∃ j : Nat, j ≤ l.length ∧ i = .int .i64 j ∧ PlayAt n0 w pp d r b K0 0 j wr) (fun i _ => l.length - (intOf i).toNat)
  case atStart => exact ⟨0, by omega, rfl, HST.out⟩
  case round =>
    obtain ⟨j, hj, rfl, D', hs', h', hb'⟩ := hrel
    have hup : Below w0.heap.size w0 wr := HB0.out.trans ⟨hb'.os, hb'.tape, hb'.output, hb'.size, fun i hi => hb'.block i (Nat.lt_of_lt_of_le hi hle)⟩
    by_cases hlt : j < l.length
    · obtain ⟨a, ha, hmem⟩ := act_mem2 hlt
      have hai : ArgIn n0 wr a := ⟨w0, HW0.out.all a hmem, hle, hup⟩
      have hdo := does_any h' hs' (by omega) (by omega) a hai (HSM.out a hmem)
      obtain ⟨gb, go, hA, hcell⟩ := act_cell (HW0.out.lies.below hup) j a ha
      simp only at hA
      subst hA
      have c0 : wr.cell? ⟨gb, go + j * 5, none⟩ = some (.int .u8 (a.kind : Int)) := hcell 0 (by omega)
      have c1 : wr.cell? ⟨gb, go + j * 5 + 1, none⟩ = some (.int .i64 a.num) := hcell 1 (by omega)
      have c2 : wr.cell? ⟨gb, go + j * 5 + 2, none⟩ = some (.int .i64 a.of_) := hcell 2 (by omega)
      have c3 : wr.cell? ⟨gb, go + j * 5 + 3, none⟩ = some (.slice a.data.A a.data.l.length a.data.c) := hcell 3 (by omega)
      have c4 : wr.cell? ⟨gb, go + j * 5 + 4, none⟩ = some (.slice a.keep.A a.keep.l.length a.keep.c) := hcell 4 (by omega)
      have hjl : (j : Int) < (l.length : Int) := by omega
      have HDO := Lib.hid hdo
      have HB' := Lib.hid hb'
      unfold actV at HDO
      clear hup ha hai hdo hcell hs' h' hb' hmem
      go_wp2_with fail
      refine HDO.out.mono ?_
      rintro e w1 ⟨rfl, D1, hs1, h1, hb1⟩
      obtain ⟨p0, p1, p2⟩ := h1.cells
      obtain ⟨r2, r5, r6, r7⟩ := px_rcells h1
      have HDK := Lib.hid (px_dark (h1.below (below_drew0 (Below.refl _ w1))))
      have HCN := Lib.hid (px_counts (h1.below (below_drew0 (Below.refl _ w1))))
      have H1 := Lib.hid h1
      have HS1 := Lib.hid hs1
      have HB1 := Lib.hid (HB'.out.trans hb1)
      clear c0 c1 c2 c3 c4 HDO h1 hs1 hb1 p2
      go_wp2_with fail
      go_region_held3 (fun W' => W'.cell? ⟨pp, 0, none⟩ = some (.pointer (some ⟨d, 0, none⟩)) ∧ W'.cell? ⟨pp, 1, none⟩ = some (.pointer (some ⟨r, 0, none⟩)) ∧ W'.cell? ⟨r, 2, none⟩ = some (.bool D1.dark) ∧ W'.cell? ⟨r, 5, none⟩ = some (.int .i64 (D1.n 1)) ∧ W'.cell? ⟨r, 6, none⟩ = some (.int .i64 (D1.n 2)) ∧ W'.cell? ⟨r, 7, none⟩ = some (.int .i64 (D1.n 3)))
        (first | exact ⟨p0, p1, r2, r5, r6, r7⟩ | exact HX3.out | assumption)
        (first | (go_at_call 54; refine HDK.out.mono ?_; rintro e w2 ⟨rfl, rfl⟩) | (go_at_call 56; refine HCN.out.mono ?_; rintro e w3 ⟨rfl, hb3⟩; have H3 := Lib.hid (((H1.out.below (below_drew0 (Below.refl _ w1))).below hb3)); have HB3 := Lib.hid hb3; have HX3 := Lib.hid (px_six H3.out); clear hb3))
      go_wp2_with fail
      case roundEnd =>
        exact ⟨⟨j + 1, by omega, by go_num, D1, HS1.out, H3.out, (below_drewN HB1.out 1).trans (Step.of_below (X := fun _ => False) HB3.out (H1.out.below (below_drew0 (Below.refl _ w1))).n_le).2⟩, by simp only [intOf]; omega⟩
    · obtain ⟨p0, p1, p2⟩ := h'.cells
      have hjl : ¬ (j : Int) < (l.length : Int) := by omega
      have hd := h'.below (below_drew0 (Below.refl _ wr))
      have HPG := Lib.hid (px_pages hd)
      have HRP := Lib.hid (px_rpages hd)
      have HOW := Lib.hid (px_own hd (by omega))
      have HB' := Lib.hid (below_drewN hb' 1)
      clear h' hs' hb' hd hup
      go_wp2_with fail
      go_region_held3 (fun W' => W'.cell? ⟨pp, 0, none⟩ = some (.pointer (some ⟨d, 0, none⟩)) ∧ W'.cell? ⟨pp, 1, none⟩ = some (.pointer (some ⟨r, 0, none⟩)) ∧ W'.cell? ⟨pp, 2, none⟩ = some (.pointer (some ⟨b, 0, none⟩)))
        (first | exact ⟨p0, p1, p2⟩ | exact HX3.out | assumption)
        (first | (go_at_call 121; refine HPG.out.mono ?_; rintro e w2 ⟨rfl, rfl⟩) | (go_at_call 130; refine HRP.out.mono ?_; rintro e w2 ⟨rfl, rfl⟩) | (go_at_call 44; refine HOW.out.mono ?_; rintro e w3 ⟨rfl, hx3, hb3⟩; have HX3 := Lib.hid hx3; have HB3 := Lib.hid hb3; clear hb3 hx3))
      go_wp2_with fail
      go_ret
      exact ⟨rfl, HB'.out.trans HB3.out⟩
end Go.Proofs.Ytfbjjblgcgjndaa

/- The disk's first examples, as plain data. -/
namespace Go.Proofs.Ytfbjjblgcgjndaa
open Go.RowKit

def kn1 : Dsk := ((Dsk.new 2).write 0 (List.replicate 1024 97)).2
def kn2 : Dsk := (kn1.write 1 (List.replicate 1024 98)).2
def kn3 : Dsk := kn2.cut [true]
def kn4 : Dsk := (kn3.read 0).2.2
def kn5 : Dsk := (kn4.setFail 2 0).2
def kn6 : Dsk := (kn5.write 0 (List.replicate 128 99)).2
def kn7 : Dsk := (kn6.write 0 (List.replicate 128 100)).2
def kn8 : Dsk := (kn7.read 0).2.2
theorem kn_p : kn2.cache.map (·.1) = List.range 16 := by kernel_rfl
theorem kn_f : (kn3.read 0).1 = 0 := by kernel_rfl
theorem kn_x : (kn3.read 0).2.1 = List.replicate 128 97 ++ List.replicate 896 0 := by kernel_rfl
theorem kn_g : (kn5.write 0 (List.replicate 128 99)).1 = 6 := by kernel_rfl
theorem kn_h : (kn6.write 0 (List.replicate 128 100)).1 = 0 := by kernel_rfl
theorem kn_i : (kn7.read 0).1 = 0 := by kernel_rfl
theorem kn_y : (kn7.read 0).2.1 = List.replicate 128 100 ++ List.replicate 896 0 := by kernel_rfl
theorem kn_n : kn8.n 1 = 2 ∧ kn8.n 2 = 4 ∧ kn8.n 3 = 0 := ⟨by kernel_rfl, by kernel_rfl, by kernel_rfl⟩
theorem kn_c : kn1.cache.length = 8 ∧ kn2.cache.length = 16 ∧ kn3.cache.length = 0 ∧ kn5.cache.length = 0 ∧ kn6.cache.length = 0 ∧ kn7.cache.length = 1 := ⟨by kernel_rfl, by kernel_rfl, by kernel_rfl, by kernel_rfl, by kernel_rfl, by kernel_rfl⟩
theorem kn_m : kn1.n 2 = 1 ∧ kn3.n 1 = 0 ∧ kn5.n 2 = 2 ∧ kn6.n 2 = 3 ∧ kn7.n 1 = 1 := ⟨by kernel_rfl, by kernel_rfl, by kernel_rfl, by kernel_rfl, by kernel_rfl⟩
end Go.Proofs.Ytfbjjblgcgjndaa

/- Contract of the disk laws' known. -/
namespace Go.Proofs.Ytfbjjblgcgjndaa
open Go.RowKit

theorem kn_xl : (kn3.read 0).2.1.length = 1024 := by rw [kn_x]; kernel_rfl
theorem kn_yl : (kn7.read 0).2.1.length = 1024 := by rw [kn_y]; kernel_rfl
theorem kn_pl : (kn2.cache.map (·.1)).length = 16 := by rw [kn_p]; kernel_rfl
set_option maxRecDepth 100000 in
set_option maxHeartbeats 4000000 in
theorem known07_any (w : World) : Calls Try.prog 47 #[] w fun e w' => e = .returned (.bool true) ∧ Below w.heap.size w w' := by
  go_enter Try.func47, Try.ntmps47
  go_wp2_with fail
  refine (dg_newl 2 w (Nat.le_refl _) (by omega) (by omega)).mono ?_
  rintro e w1 ⟨pd, Sd1, rfl, hdd1, ht1, hb1⟩
  have hb01 := hb1
  clear hb1 ht1
  go_wp2_with fail
  refine (fill_any 1024 97 w1 (by omega) (by first | omega | assumption)).mono ?_
  rintro e w2 ⟨Aa, ca, rfl, hra2, hb2⟩
  have haad2 := (Aside.row hra2 hdd1.top).up (Nat.le_refl _)
  have hb02 := below_next0 hb01 hb2
  have hdd2 := hdd1.below hb2
  clear hb01 hdd1 hb2
  go_wp2_with fail
  refine (dg_writef hdd2 0 1024 97 Aa ca hra2 haad2 (by first | omega | assumption) (by omega) (by show 0 ≤ _; omega) (by show (0 : Int) ≤ _; omega)).mono ?_
  rintro e w3 ⟨he, Sd3, hdd3, hg3, hc3⟩
  obtain ⟨q3, rfl⟩ : ∃ q : Nat, e = .returned (.int .u16 (q : Nat)) := ⟨_, he⟩
  clear he
  replace hdd3 : DG w.heap.size w3 pd kn1 Sd3 := hdd3
  have hb03 := hdd2.after hb02 hc3
  have hra3 := own_aside hra2 haad2 hc3
  have haad3 := haad2.now hg3 hc3.size
  clear hdd2 hb02 hra2 haad2 hc3 hg3
  clear hra3 haad3
  go_wp2_with fail
  refine (fill_any 1024 98 w3 (by omega) (by first | omega | assumption)).mono ?_
  rintro e w4 ⟨Ab, cb, rfl, hrb4, hb4⟩
  have habd4 := (Aside.row hrb4 hdd3.top).up (Nat.le_refl _)
  have hb04 := below_next0 hb03 hb4
  have hdd4 := hdd3.below hb4
  clear hb03 hdd3 hb4
  go_wp2_with fail
  refine (dg_writef hdd4 1 1024 98 Ab cb hrb4 habd4 (by first | omega | assumption) (by omega) (by have := kn_c; omega) (by have := kn_m; omega)).mono ?_
  rintro e w5 ⟨he, Sd5, hdd5, hg5, hc5⟩
  obtain ⟨q5, rfl⟩ : ∃ q : Nat, e = .returned (.int .u16 (q : Nat)) := ⟨_, he⟩
  clear he
  replace hdd5 : DG w.heap.size w5 pd kn2 Sd5 := hdd5
  have hb05 := hdd4.after hb04 hc5
  have hrb5 := own_aside hrb4 habd4 hc5
  have habd5 := habd4.now hg5 hc5.size
  clear hdd4 hb04 hrb4 habd4 hc5 hg5
  clear hrb5 habd5
  go_wp2_with fail
  refine (dg_pending hdd5 (by have := kn_c; omega)).mono ?_
  rintro e w6 ⟨Ap, cp, he, hrp6, hb6⟩
  rw [kn_pl] at he hrp6
  rw [kn_p] at hrp6
  subst he
  have hapd6 := (Aside.row hrp6 hdd5.top).up (Nat.le_refl _)
  have hb06 := below_next0 hb05 hb6
  have hdd6 := hdd5.below hb6
  clear hb05 hdd5 hb6
  go_wp2_with fail
  obtain ⟨w7, hw7⟩ : ∃ v, w6.alloc (.cells #[.bool true] 4) = v := ⟨_, rfl⟩
  rw [hw7]
  have hb7 : Below w6.heap.size w6 w7 := by rw [← hw7]; exact below_alloc0 (Below.refl _ _) _
  have hat7 : At w7 (some ⟨w6.heap.size, 0, none⟩) [.bool true] := by rw [← hw7]; exact At.whole (heap_alloc_new w6 _)
  have hoff7d : ∀ a : Addr, some (⟨w6.heap.size, 0, none⟩ : Addr) = some a → ¬ Sd5 a.block := fun a e h => by cases e; exact Nat.lt_irrefl _ (hdd6.top _ h)
  have hb07 := below_next0 hb06 hb7
  have hdd7 := hdd6.below hb7
  have hrp7 := own_below hrp6 hb7
  have hapd7 := hapd6.up hb7.size
  clear hb06 hdd6 hrp6 hapd6 hb7 hw7
  refine (dg_cut hdd7 hdd7.new_n (some ⟨w6.heap.size, 0, none⟩) 1 [true] (by have := kn_c; omega) (fun w' hc' => hat7.chg hc' hoff7d)).mono ?_
  rintro e w8 ⟨rfl, Sd8, hdd8, hg8, hc8⟩
  replace hdd8 : DG w.heap.size w8 pd kn3 Sd8 := hdd8
  have hb08 := hdd7.after hb07 hc8
  have hrp8 := own_aside hrp7 hapd7 hc8
  have hapd8 := hapd7.now hg8 hc8.size
  clear hdd7 hb07 hrp7 hapd7 hc8 hg8
  go_wp2_with fail
  refine (dg_read hdd8 0 (by have := kn_c; omega) (by have := kn_m; omega)).mono ?_
  rintro e w9 ⟨Ax, he, hrx9, hdd9, hc9⟩
  have hg9 := Grows.refl w8 Sd8
  rw [kn_xl, kn_f] at he
  subst he
  replace hdd9 : DG w.heap.size w9 pd kn4 Sd8 := hdd9
  have hb09 := hdd8.after hb08 hc9
  have haxd9 := Aside.clip (n := 0) (c := 0) hrx9 hdd8.top
  have hrp9 := own_aside hrp8 hapd8 hc9
  have hapd9 := hapd8.now hg9 hc9.size
  clear hdd8 hb08 hrp8 hapd8 hc9 hg9
  go_wp2_with fail
  refine (dg_fail hdd9 hdd9.new_n 2 0 (by omega)).mono ?_
  rintro e w10 ⟨he, Sd10, hdd10, hg10, hc10⟩
  obtain ⟨q10, rfl⟩ : ∃ q : Nat, e = .returned (.int .u16 (q : Nat)) := ⟨_, he⟩
  clear he
  replace hdd10 : DG w.heap.size w10 pd kn5 Sd10 := hdd10
  have hb010 := hdd9.after hb09 hc10
  have hrp10 := own_aside hrp9 hapd9 hc10
  have hapd10 := hapd9.now hg10 hc10.size
  have hrx10 := hrx9.chg haxd9 hc10
  have haxd10 := haxd9.now hg10 hc10.size
  clear hdd9 hb09 hrp9 hapd9 hrx9 haxd9 hc10 hg10
  go_wp2_with fail
  refine (fill_any 128 99 w10 (by omega) (by first | omega | assumption)).mono ?_
  rintro e w11 ⟨Ac, cc, rfl, hrc11, hb11⟩
  have hacd11 := (Aside.row hrc11 hdd10.top).up (Nat.le_refl _)
  have hb011 := below_next0 hb010 hb11
  have hdd11 := hdd10.below hb11
  have hrp11 := own_below hrp10 hb11
  have hapd11 := hapd10.up hb11.size
  have hrx11 := hrx10.below hb11
  have haxd11 := haxd10.up hb11.size
  clear hb010 hdd10 hrp10 hapd10 hrx10 haxd10 hb11
  go_wp2_with fail
  refine (dg_writef hdd11 0 128 99 Ac cc hrc11 hacd11 (by first | omega | assumption) (by omega) (by have := kn_c; omega) (by have := kn_m; omega)).mono ?_
  rintro e w12 ⟨he, Sd12, hdd12, hg12, hc12⟩
  rw [kn_g] at he
  subst he
  replace hdd12 : DG w.heap.size w12 pd kn6 Sd12 := hdd12
  have hb012 := hdd11.after hb011 hc12
  have hrp12 := own_aside hrp11 hapd11 hc12
  have hapd12 := hapd11.now hg12 hc12.size
  have hrx12 := hrx11.chg haxd11 hc12
  have haxd12 := haxd11.now hg12 hc12.size
  have hrc12 := own_aside hrc11 hacd11 hc12
  have hacd12 := hacd11.now hg12 hc12.size
  clear hdd11 hb011 hrp11 hapd11 hrx11 haxd11 hrc11 hacd11 hc12 hg12
  clear hrc12 hacd12
  go_wp2_with fail
  refine (fill_any 128 100 w12 (by omega) (by first | omega | assumption)).mono ?_
  rintro e w13 ⟨Ae, ce, rfl, hre13, hb13⟩
  have haed13 := (Aside.row hre13 hdd12.top).up (Nat.le_refl _)
  have hb013 := below_next0 hb012 hb13
  have hdd13 := hdd12.below hb13
  have hrp13 := own_below hrp12 hb13
  have hapd13 := hapd12.up hb13.size
  have hrx13 := hrx12.below hb13
  have haxd13 := haxd12.up hb13.size
  clear hb012 hdd12 hrp12 hapd12 hrx12 haxd12 hb13
  go_wp2_with fail
  refine (dg_writef hdd13 0 128 100 Ae ce hre13 haed13 (by first | omega | assumption) (by omega) (by have := kn_c; omega) (by have := kn_m; omega)).mono ?_
  rintro e w14 ⟨he, Sd14, hdd14, hg14, hc14⟩
  rw [kn_h] at he
  subst he
  replace hdd14 : DG w.heap.size w14 pd kn7 Sd14 := hdd14
  have hb014 := hdd13.after hb013 hc14
  have hrp14 := own_aside hrp13 hapd13 hc14
  have hapd14 := hapd13.now hg14 hc14.size
  have hrx14 := hrx13.chg haxd13 hc14
  have haxd14 := haxd13.now hg14 hc14.size
  have hre14 := own_aside hre13 haed13 hc14
  have haed14 := haed13.now hg14 hc14.size
  clear hdd13 hb013 hrp13 hapd13 hrx13 haxd13 hre13 haed13 hc14 hg14
  clear hre14 haed14
  go_wp2_with fail
  refine (dg_read hdd14 0 (by have := kn_c; omega) (by have := kn_m; omega)).mono ?_
  rintro e w15 ⟨Ay, he, hry15, hdd15, hc15⟩
  have hg15 := Grows.refl w14 Sd14
  rw [kn_yl, kn_i] at he
  subst he
  replace hdd15 : DG w.heap.size w15 pd kn8 Sd14 := hdd15
  have hb015 := hdd14.after hb014 hc15
  have hayd15 := Aside.clip (n := 0) (c := 0) hry15 hdd14.top
  have hrp15 := own_aside hrp14 hapd14 hc15
  have hapd15 := hapd14.now hg15 hc15.size
  have hrx15 := hrx14.chg haxd14 hc15
  have haxd15 := haxd14.now hg15 hc15.size
  clear hdd14 hb014 hrp14 hapd14 hrx14 haxd14 hc15 hg15
  obtain ⟨bp, capp, hvp, _, _, _⟩ := own_form hrp15 (by omega)
  injection hvp with e1 e2 e3
  subst e1 e3
  clear e2
  have cp15 := own_cell hrp15 15 (by omega)
  rw [show nth (List.range 16) 15 = 15 from rfl] at cp15
  go_wp2_with fail
  refine (dg_counts hdd15).mono ?_
  rintro e w16 ⟨he, hb16⟩
  rw [kn_n.1, kn_n.2.1, kn_n.2.2] at he
  subst he
  have hb016 := below_next0 hb015 hb16
  have hdd16 := hdd15.below hb16
  have hrp16 := own_below hrp15 hb16
  have hapd16 := hapd15.up hb16.size
  have hrx16 := hrx15.below hb16
  have haxd16 := haxd15.up hb16.size
  have hry16 := hry15.below hb16
  have hayd16 := hayd15.up hb16.size
  clear hb015 hdd15 hrp15 hapd15 hrx15 haxd15 hry15 hayd15 hb16
  clear cp15
  clear hrp16 hapd16
  clear hdd16 haxd16 hayd16
  go_wp2_with fail
  refine (fill_any 128 97 w16 (by omega) (by first | omega | assumption)).mono ?_
  rintro e w17 ⟨Af, cf, rfl, hrf17, hb17⟩
  have hb017 := below_next0 hb016 hb17
  have hrx17 := hrx16.below hb17
  have hry17 := hry16.below hb17
  clear hb016 hrx16 hry16 hb17
  have hI18 := (buf_ok hrf17 (rep_bytes 128 97 (by omega)) (by rw [List.length_replicate]; omega)).2
  have HL18 := hI18.lies
  have HN18 := Lib.hid hI18.nil
  clear hI18
  obtain ⟨L18, hL18⟩ : ∃ L, L = List.replicate 128 97 := ⟨_, rfl⟩
  have hl18 : L18.length = 128 := by rw [hL18, List.length_replicate]
  rw [← hL18] at HL18 hrf17
  have HH18 := Lib.hid hL18
  have Hl18 := Lib.hid hl18
  replace HL18 := Lib.hid HL18
  clear hL18 hl18 hrf17
  go_wp2_with (first | (at_builtin; refine buf_append rfl (.tmp 83) (.tmp 84) rfl Try.underlying23 Try.info5 w17.heap.size (.slice none 0 0) [] rfl (Buf.nil _ _) Af 128 cf L18 rfl Hl18.out.symm HL18.out HN18.out (by have := Hl18.out; simp only [List.length_nil]; omega) (Nat.le_refl _) (Below.refl _ _) ?_; intro v18 w18 hru18 hb18 hn18; rw [List.nil_append] at hru18; obtain ⟨Au, cu, hv18⟩ := own_slice hru18; rw [Hl18.out] at hv18; subst hv18) | (at_builtin; refine buf_zeros rfl (.tmp 86) (.const (.int .i64 896)) rfl Try.underlying23 Try.underlying3 Try.info5 w17.heap.size (.slice Au 128 cu) L18 rfl hru18 896 896 rfl rfl (by have := Hl18.out; omega) hn18 hb18 ?_; intro v19 w19 hru19 hb19 hn19))
  clear hru18 hb18 hn18
  obtain ⟨Z19, hZ19⟩ : ∃ Z, Z = L18 ++ List.replicate 896 0 := ⟨_, rfl⟩
  have hz19 : Z19.length = 1024 := by rw [hZ19, List.length_append, List.length_replicate, Hl18.out]
  rw [← hZ19] at hru19
  have HZ19 := Lib.hid hZ19
  have Hz19 := Lib.hid hz19
  clear hZ19 hz19
  obtain ⟨Auz, cuz, hv19⟩ := own_slice hru19
  rw [Hz19.out] at hv19
  subst hv19
  have hb019 := below_next0 hb017 hb19
  have hrx19 := hrx17.below hb19
  have hry19 := hry17.below hb19
  clear hb017 hrx17 hry17 hb19 hn19
  go_wp2_with fail
  refine (fill_any 128 100 w19 (by omega) (by first | omega | assumption)).mono ?_
  rintro e w20 ⟨Ah, ch, rfl, hrh20, hb20⟩
  have hb020 := below_next0 hb019 hb20
  have hrx20 := hrx19.below hb20
  have hry20 := hry19.below hb20
  have hru20 := own_below hru19 hb20
  clear hb019 hrx19 hry19 hru19 hb20
  have hI21 := (buf_ok hrh20 (rep_bytes 128 100 (by omega)) (by rw [List.length_replicate]; omega)).2
  have HL21 := hI21.lies
  have HN21 := Lib.hid hI21.nil
  clear hI21
  obtain ⟨L21, hL21⟩ : ∃ L, L = List.replicate 128 100 := ⟨_, rfl⟩
  have hl21 : L21.length = 128 := by rw [hL21, List.length_replicate]
  rw [← hL21] at HL21 hrh20
  have HH21 := Lib.hid hL21
  have Hl21 := Lib.hid hl21
  replace HL21 := Lib.hid HL21
  clear hL21 hl21 hrh20
  go_wp2_with (first | (at_builtin; refine buf_append rfl (.tmp 88) (.tmp 89) rfl Try.underlying23 Try.info5 w20.heap.size (.slice none 0 0) [] rfl (Buf.nil _ _) Ah 128 ch L21 rfl Hl21.out.symm HL21.out HN21.out (by have := Hl21.out; simp only [List.length_nil]; omega) (Nat.le_refl _) (Below.refl _ _) ?_; intro v21 w21 hrv21 hb21 hn21; rw [List.nil_append] at hrv21; obtain ⟨Av, cv, hv21⟩ := own_slice hrv21; rw [Hl21.out] at hv21; subst hv21) | (at_builtin; refine buf_zeros rfl (.tmp 91) (.const (.int .i64 896)) rfl Try.underlying23 Try.underlying3 Try.info5 w20.heap.size (.slice Av 128 cv) L21 rfl hrv21 896 896 rfl rfl (by have := Hl21.out; omega) hn21 hb21 ?_; intro v22 w22 hrv22 hb22 hn22))
  clear hrv21 hb21 hn21
  obtain ⟨Z22, hZ22⟩ : ∃ Z, Z = L21 ++ List.replicate 896 0 := ⟨_, rfl⟩
  have hz22 : Z22.length = 1024 := by rw [hZ22, List.length_append, List.length_replicate, Hl21.out]
  rw [← hZ22] at hrv22
  have HZ22 := Lib.hid hZ22
  have Hz22 := Lib.hid hz22
  clear hZ22 hz22
  obtain ⟨Avz, cvz, hv22⟩ := own_slice hrv22
  rw [Hz22.out] at hv22
  subst hv22
  have hb022 := below_next0 hb020 hb22
  have hrx22 := hrx20.below hb22
  have hry22 := hry20.below hb22
  have hru22 := own_below hru20 hb22
  clear hb020 hrx20 hry20 hru20 hb22 hn22
  go_wp2_with fail
  refine (same_eq _ _ 1024 1024 1024 _ _ _ w22 kn_xl.symm Hz19.out.symm (by rw [kn_xl]; omega) (by rw [kn_x, HZ19.out, HH18.out]) hrx22.at (buf_at hru22).2).mono ?_
  rintro e w23 ⟨rfl, hb23⟩
  have hb023 := below_next0 hb022 hb23
  have hrx23 := hrx22.below hb23
  have hry23 := hry22.below hb23
  have hru23 := own_below hru22 hb23
  have hrv23 := own_below hrv22 hb23
  clear hb022 hrx22 hry22 hru22 hrv22 hb23
  go_wp2_with fail
  refine (same_eq _ _ 1024 1024 1024 _ _ _ w23 kn_yl.symm Hz22.out.symm (by rw [kn_yl]; omega) (by rw [kn_y, HZ22.out, HH21.out]) hry23.at (buf_at hrv23).2).mono ?_
  rintro e w24 ⟨rfl, hb24⟩
  have hb024 := below_next0 hb023 hb24
  have hrx24 := hrx23.below hb24
  have hry24 := hry23.below hb24
  have hru24 := own_below hru23 hb24
  have hrv24 := own_below hrv23 hb24
  clear hb023 hrx23 hry23 hru23 hrv23 hb24
  go_wp2
  go_ret
  exact ⟨rfl, hb024⟩
end Go.Proofs.Ytfbjjblgcgjndaa

/- Walk of DiskDoes. -/
namespace Go.Proofs.Ytfbjjblgcgjndaa
open Go.RowKit

theorem RD.lift {n0 n1 : Nat} {w : World} {p : Nat} {D : Dsk} {S : Nat → Prop} (h : RD n1 w p D S) (hn : n0 ≤ n1) : RD n0 w p D S := by
  obtain ⟨ok, ⟨q, Y, hin, hS⟩, hlt⟩ := h
  exact ⟨ok, ⟨q, Y, ⟨hin.rcd, own_down hin.last hn, hin.rows, own_down hin.cache hn, hin.crows, own_down hin.faults hn, Nat.le_trans hn hin.base, hin.sep, hin.apart, fun g hg => ⟨Nat.le_trans hn (hin.lt g hg).1, (hin.lt g hg).2⟩⟩, hS⟩, fun g hg => ⟨Nat.le_trans hn (hlt g hg).1, (hlt g hg).2⟩⟩
theorem acts_below {w w' : World} {s : Acts} (h : s.Ok w) (hb : Below w.heap.size w w') : s.Ok w' := ⟨h.lies.below hb, fun a ha => (h.all a ha).below hb, h.nil, h.le, h.small⟩
def bookCells : Array Value := #[.slice none 0 0, .slice none 0 0, .slice none 0 0, .slice none 0 0, .slice none 0 0, .slice none 0 0, .slice none 0 0, .slice none 0 0, .slice none 0 0, .slice none 0 0, .slice none 0 0, .slice none 0 0, .slice none 0 0, .slice none 0 0, .slice none 0 0, .slice none 0 0, .slice none 0 0, .slice none 0 0, .slice none 0 0, .slice none 0 0, .slice none 0 0, .slice none 0 0, .slice none 0 0]
/-- a book and a pair are made -/
theorem pair_made {n0 : Nat} {w : World} {d r : Nat} {D E : Dsk} {Sd Sr : Nat → Prop} (hd : DG n0 w d D Sd) (hr : RD n0 w r E Sr) (hs : ∀ g, Sd g → ¬ Sr g) (b pp : Nat) (w' : World) (hb : b = w.heap.size) (hpp : pp = w.heap.size + 1) (hw : w' = (w.alloc (.cells bookCells 67)).alloc (.cells #[.pointer (some ⟨d, 0, none⟩), .pointer (some ⟨r, 0, none⟩), .pointer (some ⟨b, 0, none⟩)] 103)) :
    PairX n0 w' pp d r b D E 0 (fun _ => False) ∧ Below w.heap.size w w' := by
  subst hb hpp hw
  have hbl : Below w.heap.size w ((w.alloc (.cells bookCells 67)).alloc (.cells #[.pointer (some ⟨d, 0, none⟩), .pointer (some ⟨r, 0, none⟩), .pointer (some ⟨w.heap.size, 0, none⟩)] 103)) := below_alloc0 (below_alloc0 (Below.refl _ _) _) _
  refine ⟨⟨Sd, Sr, fun g => g = w.heap.size, ⟨?_, by have := hd.new_n; omega, hd.below hbl, hr.below hbl, ?_, fun g hg => ⟨by have := hd.new_n; omega, by simp only [sz_alloc]; omega⟩, fun e => by have := hd.top _ e; omega, fun e => by have := hr.top _ e; omega, by omega, fun g hg => ⟨hs g hg, fun e => by have := hd.top _ hg; omega⟩, fun g hg e => by have := hr.top _ hg; omega⟩, fun g h => h.elim⟩, hbl⟩
  · refine RecAt.of (cs := #[.pointer (some ⟨d, 0, none⟩), .pointer (some ⟨r, 0, none⟩), .pointer (some ⟨w.heap.size, 0, none⟩)]) ?_ (by simp [lst, pcell, List.range_succ])
    have := heap_alloc_new (w.alloc (.cells bookCells 67)) (.cells #[.pointer (some ⟨d, 0, none⟩), .pointer (some ⟨r, 0, none⟩), .pointer (some ⟨w.heap.size, 0, none⟩)] 103)
    rwa [sz_alloc] at this
  · have h1 := BookOk.new n0 w hd.new_n
    rw [lst_nil_book] at h1
    exact (h1.below (below_alloc0 (Below.refl _ _) _)).mono (fun g _ _ e => e) (fun g _ _ e => e.elim)
set_option maxRecDepth 100000 in
set_option maxHeartbeats 4000000 in
theorem diskDoes_any (n : Int) (s : Acts) (w : World) (hn : -9223372036854775808 ≤ n ∧ n ≤ 9223372036854775807) (hs : s.Ok w) :
    Calls Try.prog 13 #[.int .i64 n, s.val] w fun e w' => e = .returned (.bool true) ∧ Below w.heap.size w w' := by
  obtain ⟨A, l, c⟩ := s
  have hsm := hs.small
  simp only at hsm
  unfold Acts.val
  simp only
  have HS := Lib.hid hs
  obtain ⟨hn1, hn2⟩ := hn
  clear hs
  by_cases hbig : (100 < n ∧ n ≤ 16384) ∧ 3 < l.length
  · obtain ⟨⟨h1, h2⟩, h3⟩ := hbig
    have h4 : (3 : Int) < (l.length : Int) := by omega
    go_enter Try.func13, Try.ntmps13
    go_wp2_with fail
    refine (known07_any w).mono ?_
    rintro e w1 ⟨rfl, hb1⟩
    go_wp2_with fail
    go_ret
    exact ⟨rfl, hb1⟩
  · by_cases hr : n < 1 ∨ 16384 < n
    · have HNO := Lib.hid (fun w => new_no n w hr)
      have HRNO := Lib.hid (fun w => rnew_no n w hr)
      clear hbig
      rcases hr with hr | hr
      · have h5 : ¬ 100 < n := by omega
        go_enter Try.func13, Try.ntmps13
        go_wp2_with fail
        refine (known07_any w).mono ?_
        rintro e w1 ⟨rfl, hb1⟩
        go_wp2_with fail
        refine (HNO.out w1).mono ?_
        rintro e w2 ⟨rfl, rfl⟩
        go_wp2_with fail
        refine (HRNO.out w1).mono ?_
        rintro e w2 ⟨rfl, rfl⟩
        go_wp2_with fail
        go_ret
        exact ⟨rfl, hb1⟩
      · have h5 : 100 < n := by omega
        have h6 : ¬ n ≤ 16384 := by omega
        go_enter Try.func13, Try.ntmps13
        go_wp2_with fail
        refine (known07_any w).mono ?_
        rintro e w1 ⟨rfl, hb1⟩
        go_wp2_with fail
        refine (HNO.out w1).mono ?_
        rintro e w2 ⟨rfl, rfl⟩
        go_wp2_with fail
        refine (HRNO.out w1).mono ?_
        rintro e w2 ⟨rfl, rfl⟩
        go_wp2_with fail
        go_ret
        exact ⟨rfl, hb1⟩
    · obtain ⟨m, rfl⟩ : ∃ m : Nat, n = (m : Int) := ⟨n.toNat, by omega⟩
      have HM := Lib.hid (show 1 ≤ m ∧ m ≤ 16384 by omega)
      by_cases h5 : 100 < (m : Int)
      · have h6 : (m : Int) ≤ 16384 := by omega
        have h7 : ¬ (3 : Int) < (l.length : Int) := by omega
        have h5' : 100 < m := by omega
        have h6' : m ≤ 16384 := by omega
        clear hbig hr hn1 hn2
        go_enter Try.func13, Try.ntmps13
        go_wp2_with fail
        refine (known07_any w).mono ?_
        rintro e w1 ⟨rfl, hb1⟩
        have HB1 := Lib.hid hb1
        clear hb1
        go_wp2_with fail
        refine (dg_newl (n0 := w.heap.size) m w1 HB1.out.size HM.out.1 HM.out.2).mono ?_
        rintro e w2 ⟨pd, Sd, rfl, hd, _, hb2⟩
        have HD := Lib.hid hd
        have HB2 := Lib.hid (below_next0 HB1.out hb2)
        clear hd hb2
        go_wp2_with fail
        refine (rnew_ok m w2 HM.out.1 HM.out.2).mono ?_
        rintro e w3 ⟨pr, rfl, hr3, hb3⟩
        have HR := Lib.hid (hr3.lift (n0 := w.heap.size) HB2.out.size)
        have HD3 := Lib.hid (HD.out.below hb3)
        have HSEP := Lib.hid (fun g (hg : Sd g) (e : w2.heap.size ≤ g ∧ g < w3.heap.size) => Nat.lt_irrefl _ (Nat.lt_of_lt_of_le (HD.out.top g hg) e.1))
        have HB3 := Lib.hid (below_next0 HB2.out hb3)
        clear hr3 hb3
        go_wp2_with fail
        refine (much2_any m ⟨A, l, c⟩ w3 HM.out.2 (acts_below HS.out HB3.out)).mono ?_
        rintro e w4 ⟨bb, rfl, hbb, hb4⟩
        cases bb with
        | true =>
          have hb5 := below_next0 HB3.out hb4
          clear hbb hb4
          go_wp2_with fail
          go_ret
          exact ⟨rfl, hb5⟩
        | false =>
          obtain ⟨hl, hma⟩ := hbb rfl
          have HMA := Lib.hid hma
          have HD4 := Lib.hid (HD3.out.below hb4)
          have HR4 := Lib.hid (HR.out.below hb4)
          have HB4 := Lib.hid (below_next0 HB3.out hb4)
          clear hbb hb4 hma
          go_wp2_with fail
          have hpm := pair_made HD4.out HR4.out HSEP.out w4.heap.size (w4.heap.size + 1) _ rfl rfl rfl
          have hpl := plays_any hpm.1 (Small.new m) (by omega) ⟨A, l, c⟩ w HS.out (Nat.le_refl _) (below_next0 HB4.out hpm.2) hl HMA.out
          have HPL := Lib.hid hpl
          have HPM := Lib.hid hpm.2
          clear hpm hpl
          refine HPL.out.mono ?_
          rintro e w5 ⟨rfl, hb5⟩
          go_wp2_with fail
          go_ret
          exact ⟨rfl, (below_next0 HB4.out HPM.out).trans hb5⟩
      · have h5' : ¬ 100 < m := by omega
        clear hbig hr hn1 hn2
        go_enter Try.func13, Try.ntmps13
        go_wp2_with fail
        refine (known07_any w).mono ?_
        rintro e w1 ⟨rfl, hb1⟩
        have HB1 := Lib.hid hb1
        clear hb1
        go_wp2_with fail
        refine (dg_newl (n0 := w.heap.size) m w1 HB1.out.size HM.out.1 HM.out.2).mono ?_
        rintro e w2 ⟨pd, Sd, rfl, hd, _, hb2⟩
        have HD := Lib.hid hd
        have HB2 := Lib.hid (below_next0 HB1.out hb2)
        clear hd hb2
        go_wp2_with fail
        refine (rnew_ok m w2 HM.out.1 HM.out.2).mono ?_
        rintro e w3 ⟨pr, rfl, hr3, hb3⟩
        have HR := Lib.hid (hr3.lift (n0 := w.heap.size) HB2.out.size)
        have HD3 := Lib.hid (HD.out.below hb3)
        have HSEP := Lib.hid (fun g (hg : Sd g) (e : w2.heap.size ≤ g ∧ g < w3.heap.size) => Nat.lt_irrefl _ (Nat.lt_of_lt_of_le (HD.out.top g hg) e.1))
        have HB3 := Lib.hid (below_next0 HB2.out hb3)
        clear hr3 hb3
        go_wp2_with fail
        refine (much2_any m ⟨A, l, c⟩ w3 HM.out.2 (acts_below HS.out HB3.out)).mono ?_
        rintro e w4 ⟨bb, rfl, hbb, hb4⟩
        cases bb with
        | true =>
          have hb5 := below_next0 HB3.out hb4
          clear hbb hb4
          go_wp2_with fail
          go_ret
          exact ⟨rfl, hb5⟩
        | false =>
          obtain ⟨hl, hma⟩ := hbb rfl
          have HMA := Lib.hid hma
          have HD4 := Lib.hid (HD3.out.below hb4)
          have HR4 := Lib.hid (HR.out.below hb4)
          have HB4 := Lib.hid (below_next0 HB3.out hb4)
          clear hbb hb4 hma
          go_wp2_with fail
          have hpm := pair_made HD4.out HR4.out HSEP.out w4.heap.size (w4.heap.size + 1) _ rfl rfl rfl
          have hpl := plays_any hpm.1 (Small.new m) (by omega) ⟨A, l, c⟩ w HS.out (Nat.le_refl _) (below_next0 HB4.out hpm.2) hl HMA.out
          have HPL := Lib.hid hpl
          have HPM := Lib.hid hpm.2
          clear hpm hpl
          refine HPL.out.mono ?_
          rintro e w5 ⟨rfl, hb5⟩
          go_wp2_with fail
          go_ret
          exact ⟨rfl, (below_next0 HB4.out HPM.out).trans hb5⟩
end Go.Proofs.Ytfbjjblgcgjndaa

/- Contract of the disk's Load. -/
namespace Go.Proofs.Ytfbjjblgcgjndaa
open Go.RowKit Go.Maps

def part128 (l : List Nat) (i : Nat) : List Nat := (l.drop (128 * i)).take 128
theorem part128_len {l : List Nat} {i : Nat} (h : 128 * (i + 1) ≤ l.length) : (part128 l i).length = 128 := by
  unfold part128; rw [List.length_take, List.length_drop]; omega
/-- the first j sectors are laid -/
def loaded (img : List Nat) (n : Nat) : Nat → List (List Nat)
  | 0 => List.replicate n zeroSect
  | j + 1 => (loaded img n j).set j (part128 img j)
theorem loaded_length (img : List Nat) (n j : Nat) : (loaded img n j).length = n := by
  induction j with
  | zero => simp [loaded]
  | succ j ih => simp [loaded, ih]
theorem getD_set8 {α : Type} (l : List α) (i j : Nat) (x d : α) : (l.set i x).getD j d = if j = i ∧ i < l.length then x else l.getD j d := by
  rw [List.getD_eq_getElem?_getD, List.getD_eq_getElem?_getD, List.getElem?_set]
  by_cases h : i = j
  · subst h
    by_cases h2 : i < l.length
    · simp [h2]
    · simp [h2]
  · rw [if_neg h, if_neg (fun e => h e.1.symm)]
theorem loaded_get (img : List Nat) (n j i : Nat) (hj : j ≤ n) (hi : i < j) : (loaded img n j).getD i [] = part128 img i := by
  induction j with
  | zero => omega
  | succ j ih =>
    rw [loaded, getD_set8, loaded_length]
    by_cases e : i = j
    · rw [if_pos ⟨e, by omega⟩, e]
    · rw [if_neg (fun h => e h.1)]; exact ih (by omega) (by omega)
theorem loaded_all (img : List Nat) (n : Nat) : loaded img n n = (List.range n).map (part128 img) := by
  apply List.ext_getElem
  · rw [loaded_length]; simp
  · intro i h1 h2
    rw [loaded_length] at h1
    have := loaded_get img n n i (Nat.le_refl _) h1
    rw [List.getD_eq_getElem?_getD, List.getElem?_eq_getElem (by rw [loaded_length]; exact h1)] at this
    simpa using this
theorem parts_flat (l : List Nat) (n : Nat) (h : 128 * n ≤ l.length) : ((List.range n).map (part128 l)).flatten = l.take (128 * n) := by
  induction n with
  | zero => simp
  | succ n ih =>
    rw [List.range_succ, List.map_append, List.flatten_append, ih (by omega)]
    simp only [List.map_cons, List.map_nil, List.flatten_cons, List.flatten_nil, List.append_nil, part128]
    rw [show 128 * (n + 1) = 128 * n + 128 by omega, List.take_add]
theorem loaded_ok {img : List Nat} (hb : Bytes img) {n j : Nat} (hj : j ≤ n) (h : 128 * n ≤ img.length) : ∀ s ∈ loaded img n j, sectOk s := by
  induction j with
  | zero => intro s hs; rw [(List.mem_replicate.1 hs).2]; exact zeroSect_ok
  | succ j ih =>
    intro s hs
    rcases List.mem_or_eq_of_mem_set hs with hs | rfl
    · exact ih (by omega) s hs
    · exact ⟨part128_len (by omega), (hb.drop _).take _⟩
def Dsk.loads (img : List Nat) (p j : Nat) : Dsk := { Dsk.new p with last := loaded img (8 * p) j }
def Dsk.load (img : List Nat) : Dsk := Dsk.loads img (img.length / 1024) (8 * (img.length / 1024))
theorem Dsk.load_flat (img : List Nat) (h : img.length % 1024 = 0) : (Dsk.load img).last.flatten = img := by
  show (loaded img _ _).flatten = img
  rw [loaded_all, parts_flat img _ (by omega), List.take_of_length_le (by omega)]
theorem Dsk.loads_ok {img : List Nat} (hb : Bytes img) {p j : Nat} (h1 : 1 ≤ p) (h2 : p ≤ 16384) (hj : j ≤ 8 * p) (hl : 1024 * p ≤ img.length) : (Dsk.loads img p j).Ok :=
  ⟨loaded_ok hb hj (by omega), fun x hx => by simp [Dsk.loads, Dsk.new] at hx, ⟨p, loaded_length _ _ _, h1, h2⟩, by simp [Dsk.loads, Dsk.new], fun j => by simp [Dsk.loads, Dsk.new], fun j => by simp [Dsk.loads, Dsk.new]⟩
theorem DG.lay {n0 : Nat} {w : World} {p : Nat} {D : Dsk} {S : Nat → Prop} (h : DG n0 w p D S) (i : Nat) (hi : i < D.last.length) (s : List Nat) (hs : sectOk s) :
    ∃ b, w.cell? ⟨p, 0, none⟩ = some (.slice (some ⟨b, 0, none⟩) D.last.length D.last.length) ∧ S b ∧ (∀ j, j < 128 → (w.cell? ⟨b, i * 128 + j, none⟩).isSome = true ∧ w.frozen? ⟨b, i * 128 + j, none⟩ = false) ∧
      DG n0 (w.setCells b (i * 128) (ns .u8 s)) p { D with last := D.last.set i s } S ∧ Chg S w (w.setCells b (i * 128) (ns .u8 s)) := by
  obtain ⟨⟨ok, q, M, hin, hft⟩, hlt⟩ := h
  obtain ⟨h1, h2⟩ := hin.lay (fun s hs => (ok.last s hs).1) i hi s hs.1
  have hSb := hft q.b (.inr (.inl rfl))
  refine ⟨q.b, hin.rcd.cell 0 (by omega), hSb, fun j hj => ?_, ⟨⟨⟨?_, fun x hx => by rw [List.length_set]; exact ok.cache x hx, ?_, ok.trip, ok.f, ok.n⟩, q, M, h1, hft⟩, fun g hg => ⟨(hlt g hg).1, Nat.lt_of_lt_of_le (hlt g hg).2 h2.size⟩⟩, h2.mono (fun g _ e => by rw [show g = q.b from e]; exact hSb)⟩
  · have := hin.last.there (i * 128 + j) (by have : (i + 1) * 128 ≤ D.last.length * 128 := Nat.mul_le_mul_right _ hi; omega)
    simpa using this
  · intro t ht
    rcases List.mem_or_eq_of_mem_set ht with ht | rfl
    · exact ok.last t ht
    · exact hs
  · obtain ⟨k, a, b⟩ := ok.pages
    exact ⟨k, by rw [← a]; exact List.length_set .., b⟩
theorem At.cellj {w : World} {A : Option Addr} {xs : List Value} (h : At w A xs) (hne : xs ≠ []) : ∃ b o, A = some ⟨b, o, none⟩ ∧ w.rangeAt b o xs := h hne
theorem wpList_copyrun {P : Program} (w : World) {ops : Array Oper} {rest : List Oper} {o : Oper} {a : Act} {Q : Exit → Act → World → Prop} (hgd : o.guard = none) (d s : Operand) (t t' : TypeId)
    (ho : o.op = .call { callee := .builtin .copy, args := #[d, s], argTypes := #[t, t'] }) (v u : Value) (hd : a.eval d = v) (hs : a.eval s = u) {v' : Value} {w' : World}
    (hr : (Builtin.copy_ #[t, t'] o.type #[v, u]).run P w = .ok v' w') (h : wpList P ops Q rest (a.put o.dst v') w') : wpList P ops Q (o :: rest) a w := by
  refine wpList_plain hgd fun _ hK => ?_
  unfold Oper.wp execOp
  simp only [ho, resolve, invoke, builtin, Sem.run_bind, Sem.run_pure, Result.andThen_ok, List.map_toArray, List.map_cons, List.map_nil, hd, hs, hr]
  exact hK _ _ h
def LoadGives (img : List Nat) (w : World) (e : Ending) (w' : World) : Prop :=
  (∃ p S, e = .returned (.tuple #[.pointer (some ⟨p, 0, none⟩), .int .u16 0]) ∧ DG w.heap.size w' p (Dsk.load img) S ∧ Below w.heap.size w w' ∧ img.length % 1024 = 0 ∧ 1 ≤ img.length / 1024 ∧ img.length / 1024 ≤ 16384)
def LoadFails (w : World) (e : Ending) (w' : World) : Prop := e = .returned (.tuple #[.pointer none, .int .u16 70]) ∧ Below w.heap.size w w'
set_option maxRecDepth 100000 in
theorem load_no (r : Inner) (w : World) (hs : r.l.length ≤ 100000000) (h : r.l.length % 1024 ≠ 0 ∨ r.l.length / 1024 < 1 ∨ 16384 < r.l.length / 1024) : Calls Try.prog 63 #[.slice r.A r.l.length r.c] w (LoadFails w) := by
  by_cases h1 : r.l.length % 1024 = 0
  · have h2 : r.l.length / 1024 < 1 ∨ 16384 < r.l.length / 1024 := by omega
    have hN := Lib.hid (new_no ((r.l.length / 1024 : Nat) : Int) w (by omega))
    have a1 : ((r.l.length : Int) % 1024 != 0) = false := by simp; omega
    have a2 : (r.l.length : Int) / 1024 = ((r.l.length / 1024 : Nat) : Int) := by omega
    generalize r.l.length / 1024 = p at *
    go_enter Try.func63, Try.ntmps63
    go_wp2_with fail
    refine hN.out.mono ?_
    rintro e w1 ⟨rfl, rfl⟩
    go_wp2_with fail
    go_ret2
    exact ⟨rfl, Below.refl _ _⟩
  · have a1 : ((r.l.length : Int) % 1024 != 0) = true := by simp; omega
    have a2 : ¬ (r.l.length : Int) % 1024 = 0 := by omega
    go_enter Try.func63, Try.ntmps63
    go_wp2_with fail
    go_ret2
    exact ⟨rfl, Below.refl _ _⟩
set_option maxRecDepth 100000 in
set_option maxHeartbeats 2000000 in
theorem load_yes (r : Inner) (w : World) (hr : r.Ok w) (p : Nat) (hp : r.l.length = 1024 * p) (h1 : 1 ≤ p) (h2 : p ≤ 16384) : Calls Try.prog 63 #[.slice r.A r.l.length r.c] w (LoadGives r.l w) := by
  obtain ⟨A, img, c⟩ := r
  simp only at hp ⊢
  have hbb := hr.bytes
  have hle := hr.le
  simp only at hbb hle
  obtain ⟨gi, oi, rfl, hrg⟩ := hr.lies (by intro e; have := congrArg List.length e; simp [ns] at this; simp [this] at hp; omega)
  have hAT : At w (some ⟨gi, oi, none⟩) (ns .u8 img) := hr.lies
  obtain ⟨n, hn⟩ : ∃ n, n = img.length := ⟨_, rfl⟩
  have a1 : ((n : Int) % 1024 != 0) = false := by simp; omega
  have a2 : (n : Int) / 1024 = (p : Int) := by omega
  have a3 : ¬ ((n : Int) % 1024 ≠ 0) := by omega
  have hnb : n ≤ 16777216 := by omega
  have hnc : n ≤ c := by omega
  rw [← hn]
  have HN := Lib.hid hn
  have HP := Lib.hid hp
  have HB := Lib.hid hbb
  have HAT := Lib.hid hAT
  clear hn hp hbb hAT hrg hr hle
  go_enter Try.func63, Try.ntmps63
  go_wp2_with fail
  refine (dg_newl p w (Nat.le_refl _) h1 h2).mono ?_
  rintro e w1 ⟨pd, S, rfl, hd, _, hb⟩
  have hd0 : DG w.heap.size w1 pd (Dsk.loads img p 0) S := hd
  obtain ⟨N, hN⟩ : ∃ N, N = 8 * p := ⟨_, rfl⟩
  have hNb : N ≤ 131072 := by omega
  have c0 : ∃ b, w1.cell? ⟨pd, 0, none⟩ = some (.slice (some ⟨b, 0, none⟩) N N) := by
    obtain ⟨b, h, _⟩ := hd0.lay 0 (by show 0 < (loaded img (8 * p) 0).length; rw [loaded_length]; omega) (part128 img 0) ⟨part128_len (by have := HP.out; omega), (HB.out.drop _).take _⟩
    refine ⟨b, ?_⟩
    rw [show (Dsk.loads img p 0).last.length = N by rw [hN]; exact loaded_length _ _ _] at h
    exact h
  obtain ⟨b0, c0⟩ := c0
  have HD0 := Lib.hid hd0
  have HBB := Lib.hid hb
  have HN8 := Lib.hid hN
  clear hd hd0 hb hN
  go_wp2_with fail
  go_loopw [26] (fun i wr => ∃ j : Nat, j ≤ N ∧ i = .int .i64 j ∧ DG w.heap.size wr pd (Dsk.loads img p j) S ∧ Below w.heap.size w wr) (fun i _ => N - (intOf i).toNat)
  case atStart => exact ⟨0, by omega, rfl, HD0.out, HBB.out⟩
  case round =>
    clear HD0 HBB c0
    obtain ⟨j, hj, rfl, hd, hb⟩ := hrel
    by_cases hlt : j < N
    · have hjn : 128 * (j + 1) ≤ n := by have := HN8.out; have := HP.out; have := HN.out; omega
      have hso : sectOk (part128 img j) := ⟨part128_len (by have := HN.out; omega), (HB.out.drop _).take _⟩
      have hbr : Below wr.heap.size wr wr.drew := below_drew0 (Below.refl _ wr)
      obtain ⟨b, c1, hSb, hcf, hd2, hc2⟩ := (hd.below hbr).lay j (by show j < (loaded img (8 * p) j).length; rw [loaded_length, ← HN8.out]; exact hlt) (part128 img j) hso
      rw [show (Dsk.loads img p j).last.length = N by rw [HN8.out]; exact loaded_length _ _ _] at c1
      have c2 : wr.cell? ⟨pd, 0, none⟩ = some (.slice (some ⟨b, 0, none⟩) N N) := c1
      have hsrc := (HAT.out.below (below_next0 hb hbr)).part (j * 128) 128
      rw [show (img.drop (j * 128)).take 128 = part128 img j by unfold part128; rw [Nat.mul_comm]] at hsrc
      have hb2 := (hd.below hbr).after (below_next0 hb hbr) hc2
      have hk0 : (j : Int) < (N : Int) := by omega
      have hk1 : IntKind.i64.wrap ((j : Int) * 128) = (j : Int) * 128 := by rw [IntKind.wrap_i64]; omega
      have hk3 : ((j : Int) * 128).toNat = j * 128 := by omega
      have hk5 : 0 ≤ (j : Int) * 128 := by omega
      have hk6 : (j : Int) * 128 ≤ (n : Int) := by omega
      have hk7 : ¬ c = j * 128 := by omega
      have hk8 : j * 128 ≤ n := by omega
      have HSRC := Lib.hid hsrc
      have HCF := Lib.hid hcf
      have HD2 := Lib.hid hd2
      have HB2 := Lib.hid hb2
      have HSO := Lib.hid hso
      have HJN := Lib.hid hjn
      clear hsrc hcf hd2 hb2 hso hd hb hc2 c1 hbr hjn
      go_wp2_with fail
      go_still_tail 11, (by kernel_rfl)
      change wpList _ _ _ _ _ wr.drew
      have hcopy := run_copy_cells (P := Try.prog) wr.drew 23 23 3 5 b (j * 128) 128 128 ⟨gi, oi + j * 128, none⟩ (n - j * 128) (c - j * 128) (ns .u8 (part128 img j)) Try.underlying23 (by kernel_rfl) (by rw [ns_length, HSO.out.1]; have := HJN.out; exact (Nat.min_eq_right (by omega)).symm)
        (fun q v hv => by
          obtain ⟨b', o', e, hr⟩ := HSRC.out (by intro e; have := congrArg List.length e; rw [ns_length] at this; have h2 := HSO.out.1; rw [h2] at this; simp at this)
          cases e
          rw [Addr.add_mid]
          exact hr q v hv) (fun q hq => (HCF.out q (by rw [ns_length, HSO.out.1] at hq; exact hq)).1) (fun q hq => (HCF.out q (by rw [ns_length, HSO.out.1] at hq; exact hq)).2) (ns_one _ _)
      refine wpList_copyrun _ rfl (.tmp 35) (.tmp 39) 23 23 rfl _ _ rfl rfl hcopy ?_
      clear hcopy
      go_wp2_with fail
      case roundEnd =>
        exact ⟨⟨j + 1, by omega, by go_num, HD2.out, HB2.out⟩, by simp only [intOf]; omega⟩
    · obtain rfl : N = j := by omega
      have hld : Dsk.loads img p N = Dsk.load img := by
        unfold Dsk.load
        rw [show img.length / 1024 = p by have := HP.out; omega, HN8.out]
      rw [hld] at hd
      have HD9 := Lib.hid hd
      clear hd hld
      go_wp2_with fail
      go_ret2
      exact ⟨pd, S, rfl, HD9.out, hb, by have := HP.out; omega, by have := HP.out; omega, by have := HP.out; omega⟩
end Go.Proofs.Ytfbjjblgcgjndaa

/- Contract of the reference disk's Load. -/
namespace Go.Proofs.Ytfbjjblgcgjndaa
open Go.RowKit

theorem rload_no (r : Inner) (w : World) (hs : r.l.length ≤ 100000000) (h : r.l.length % 1024 ≠ 0 ∨ r.l.length / 1024 < 1 ∨ 16384 < r.l.length / 1024) : Calls Try.prog 64 #[.slice r.A r.l.length r.c] w fun e w' => e = .returned (.tuple #[.pointer none, .int .u16 70]) ∧ w = w' := by
  obtain ⟨A, img, c⟩ := r
  simp only at hs h ⊢
  generalize img.length = n at *
  by_cases h0 : n = 0
  · have a0 : (n : Int) = 0 := by omega
    go_enter Try.func64, Try.ntmps64
    go_wp2
    go_ret2
    exact ⟨rfl, rfl⟩
  · have a0 : ¬ (n : Int) = 0 := by omega
    by_cases h1 : n % 1024 = 0
    · have a1 : ((n : Int) % 1024 != 0) = false := by simp; omega
      have a2 : (n : Int) % 1024 = 0 := by omega
      have a3 : 16777216 < (n : Int) := by omega
      go_enter Try.func64, Try.ntmps64
      go_wp2
      go_ret2
      exact ⟨rfl, rfl⟩
    · have a1 : ((n : Int) % 1024 != 0) = true := by simp; omega
      have a2 : ¬ (n : Int) % 1024 = 0 := by omega
      go_enter Try.func64, Try.ntmps64
      go_wp2
      go_ret2
      exact ⟨rfl, rfl⟩
/-- the sectors of an image, k of them laid -/
def Parts23 (n0 : Nat) (w : World) (v : Value) (img : List Nat) (k : Nat) : Prop := ∃ L F Y, L = (List.range k).map (part128 img) ∧ Rows23 n0 w v L F Y
theorem Parts23.below {n0 : Nat} {w w' : World} {v : Value} {img : List Nat} {k : Nat} (h : Parts23 n0 w v img k) (hb : Below w.heap.size w w') : Parts23 n0 w' v img k := by
  obtain ⟨L, F, Y, hL, h⟩ := h
  exact ⟨L, F, Y, hL, h.below hb⟩
theorem Parts23.own {n0 : Nat} {w : World} {v : Value} {img : List Nat} {k : Nat} (h : Parts23 n0 w v img k) : ∃ A c us, v = .slice A k c ∧ w.ownsRow n0 23 1 (.slice A k c) k us ∧
    ∀ w' v' A2 n2 c2, Buf n0 w (.slice A2 n2 c2) (part128 img k) → (∀ g, blk (.slice A2 n2 c2) g → ¬ blk v g) → w'.ownsRow n0 23 1 v' (k + 1) (us ++ [.slice A2 n2 c2]) → (w.grownBy w' v.ownBlock ∧ v'.ownBlock = v.ownBlock) ∨ (w.grownBy w' none ∧ ∃ g, v'.ownBlock = some g ∧ w.heap.size ≤ g) → Parts23 n0 w' v' img (k + 1) := by
  obtain ⟨L, F, Y, hL, h⟩ := h
  have ho := h.own
  have hk : L.length = k := by rw [hL]; simp
  have ho2 := ho
  rw [hk] at ho2
  obtain ⟨A, c, e⟩ := own_slice ho2
  refine ⟨A, c, lst F L.length, e, by rw [← e]; rw [hk]; exact ho2, fun w' v' A2 n2 c2 hr hoff ho' hor => ?_⟩
  refine ⟨L ++ [part128 img k], _, _, ?_, h.push hr hoff (by rw [hk]; rw [hk] at ho'; exact ho') hor⟩
  rw [hL, List.range_succ, List.map_append]; rfl
theorem Parts23.disk {n0 : Nat} {w : World} {A : Option Addr} {img : List Nat} {p c : Nat} (h : Parts23 n0 w (.slice A (8 * p) c) img (8 * p)) (hn : n0 ≤ w.heap.size) (hb : Bytes img) (h1 : 1 ≤ p) (h2 : p ≤ 16384) (hl : img.length = 1024 * p) :
    RD n0 (madeWorld w A (8 * p) c) (w.heap.size + 1) (Dsk.load img) (fun g => n0 ≤ g ∧ g < w.heap.size + 2) ∧ Below w.heap.size w (madeWorld w A (8 * p) c) := by
  obtain ⟨L, F, Y, hL, h⟩ := h
  have hp : img.length / 1024 = p := by omega
  have hlast : (Dsk.load img).last = L := by
    show loaded img (8 * (img.length / 1024)) (8 * (img.length / 1024)) = L
    rw [hp, loaded_all, hL]
  have hl2 : (Dsk.load img).last.length = 8 * p := by rw [hlast, hL]; simp
  have ok : (Dsk.load img).Ok := by
    unfold Dsk.load
    rw [hp]
    exact Dsk.loads_ok hb h1 h2 (Nat.le_refl _) (by omega)
  have := Rows23.disk (n0 := n0) (w := w) (A := A) (c := c) (D := Dsk.load img) (F := F) (Y := Y) (by rw [hl2, hlast]; exact h) hn ok rfl rfl rfl (fun _ => rfl) (fun _ => rfl)
  rw [hl2] at this
  exact this
/-- a part is taken over, and boxed -/
theorem part_step {n0 : Nat} {w wr w4 : World} {v : Value} {img : List Nat} {k : Nat} {A1 : Option Addr} {c1 : Nat} (h : Parts23 n0 wr v img k) (hb : Below n0 w wr) (hn : n0 = w.heap.size) (hl : (part128 img k).length = 128) (ho : w4.ownsRow n0 5 1 (.slice A1 128 c1) 128 ([] ++ ns .u8 (part128 img k)))
    (hor : (wr.grownBy w4 (Value.slice none 0 0).ownBlock ∧ (Value.slice A1 128 c1).ownBlock = (Value.slice none 0 0).ownBlock) ∨ (wr.grownBy w4 none ∧ ∃ g, (Value.slice A1 128 c1).ownBlock = some g ∧ wr.heap.size ≤ g)) :
    Parts23 n0 (w4.alloc (.cells #[.slice A1 128 c1] 23)) v img k ∧
    Buf n0 (w4.alloc (.cells #[.slice A1 128 c1] 23)) (.slice A1 128 c1) (part128 img k) ∧
    At (w4.alloc (.cells #[.slice A1 128 c1] 23)) (some ⟨w4.heap.size, 0, none⟩) [.slice A1 128 c1] ∧
    n0 ≤ (w4.alloc (.cells #[.slice A1 128 c1] 23)).heap.size ∧
    (∀ g, blk (.slice A1 128 c1) g → ¬ blk v g) ∧
    Below n0 w (w4.alloc (.cells #[.slice A1 128 c1] 23)) := by
  subst hn
  have hg : wr.grownBy w4 none := by
    rcases hor with ⟨x, _⟩ | ⟨x, _⟩
    · exact x
    · exact x
  have hb4 := below_of_grown hg
  have hba := below_alloc0 hb4 (.cells #[.slice A1 128 c1] 23)
  have hB := below_next0 hb hba
  have hz : Buf w.heap.size w4 (.slice A1 128 c1) (part128 img k) := by
    unfold Buf
    rw [hl]
    exact ho
  refine ⟨h.below hba, hz.below (below_alloc0 (Below.refl _ _) _), At.box w4 _ 23 w4.heap.size rfl, hB.size, fun g hg' e => ?_, hB⟩
  obtain ⟨A, c, us, rfl, ho2, _⟩ := h.own
  have h1 := (row_lt ho2 e).2
  rcases hor with ⟨_, x⟩ | ⟨_, g2, x, y⟩
  · have h2 : (Value.slice A1 128 c1).ownBlock = some g := hg'
    rw [x] at h2; cases h2
  · have h2 : (Value.slice A1 128 c1).ownBlock = some g := hg'
    rw [x] at h2
    cases h2
    omega
set_option maxRecDepth 100000 in
set_option maxHeartbeats 2000000 in
theorem rload_yes (r : Inner) (w : World) (hr : r.Ok w) (p : Nat) (hp : r.l.length = 1024 * p) (h1 : 1 ≤ p) (h2 : p ≤ 16384) : Calls Try.prog 64 #[.slice r.A r.l.length r.c] w (RMade w (Dsk.load r.l)) := by
  obtain ⟨A, img, c⟩ := r
  simp only at hp ⊢
  have hbb := hr.bytes
  have hle := hr.le
  simp only at hbb hle
  obtain ⟨gi, oi, rfl, hrg⟩ := hr.lies (by intro e; have := congrArg List.length e; simp [ns] at this; simp [this] at hp; omega)
  have hAT : At w (some ⟨gi, oi, none⟩) (ns .u8 img) := hr.lies
  obtain ⟨n, hn⟩ : ∃ n, n = img.length := ⟨_, rfl⟩
  have a0 : ¬ (n : Int) = 0 := by omega
  have a1 : ((n : Int) % 1024 != 0) = false := by simp; omega
  have a2 : (n : Int) % 1024 = 0 := by omega
  have a3 : ¬ 16777216 < (n : Int) := by omega
  have hnb : n ≤ 16777216 := by omega
  have hnc : n ≤ c := by omega
  rw [← hn]
  have HN := Lib.hid hn
  have HP := Lib.hid hp
  have HBY := Lib.hid hbb
  have HAT := Lib.hid hAT
  clear hn hp hbb hAT hrg hr hle
  go_enter Try.func64, Try.ntmps64
  go_wp2_with fail
  go_loopw [4, 5] (fun v i wr => ∃ k : Nat, k ≤ 8 * p ∧ i = .int .i64 ((128 * k : Nat) : Int) ∧ Parts23 w.heap.size wr v img k ∧ Below w.heap.size w wr) (fun _ i _ => 1024 * p - (intOf i).toNat)
  case atStart => exact ⟨0, by omega, rfl, ⟨_, _, _, rfl, Rows23.nil _ _⟩, Below.refl _ _⟩
  case round =>
    obtain ⟨k, hk, rfl, hv, hb⟩ := hrel
    obtain ⟨A, c9, us, rfl, ho, _⟩ := hv.own
    have HV := Lib.hid hv
    have HO := Lib.hid ho
    have HB := Lib.hid hb
    clear hv ho hb
    obtain ⟨m, hm⟩ : ∃ m, m = 128 * k := ⟨_, rfl⟩
    rw [← hm]
    have HM := Lib.hid hm
    by_cases hlt : k < 8 * p
    · have hb1 : m + 128 ≤ n := by have := HN.out; have := HP.out; omega
      clear hm
      have h3 : (m : Int) < (n : Int) := by omega
      have hk5 : 0 ≤ (m : Int) := by omega
      have hk6 : (m : Int) + 128 ≤ (c : Int) := by omega
      have hk7 : ¬ c = m := by omega
      have hPL := Lib.hid (part128_len (l := img) (i := k) (by have := HM.out; have := HN.out; omega))
      have hsrc := (HAT.out.below HB.out).part m 128
      rw [show (img.drop m).take 128 = part128 img k by unfold part128; rw [HM.out]] at hsrc
      have HSRC := Lib.hid hsrc
      clear hsrc
      go_wp2_with (first
        | (at_builtin; go_loud (refine wp_append2 rfl (.tmp 28) (.tmp 33) 23 5 (.int .u8 0) 1 1 rfl Try.underlying23 Try.info5 rfl (by decide) w.heap.size (.slice none 0 0) 0 [] rfl (World.ownsRow_nil _ _ _ _) (some ⟨gi, oi + m, none⟩) 128 (c - m) (ns .u8 (part128 img k)) (show Value.slice (some ⟨gi, oi + m, none⟩) (m + 128 - m) (c - m) = _ by rw [Nat.add_sub_cancel_left]) (by rw [ns_length, hPL.out]) HSRC.out (by simp) (ns_one _ _) (by omega) (by omega) HB.out.size ?_)
           intro v4 w4 ho4 hor4
           obtain ⟨A4, c4, rfl⟩ := own_slice ho4
           obtain ⟨F1, F2, F3, F4, F5, F6⟩ := part_step HV.out HB.out rfl hPL.out ho4 hor4
           have G6 := Lib.hid F6
           have G1 := Lib.hid F1
           have G2 := Lib.hid F2
           have G3 := Lib.hid F3
           have G4 := Lib.hid F4
           have G5 := Lib.hid F5
           clear F1 F2 F3 F4 F5 F6 ho4 hor4
           rw [Nat.zero_add])
        | (at_builtin; go_loud (obtain ⟨A7, c7, us7, e7, ho7, st7⟩ := G1.out.own; refine wp_append2 rfl (.tmp 27) (.tmp 35) 30 23 (.slice none 0 0) 1 24 rfl Try.underlying30 Try.info23 rfl (by decide) w.heap.size (.slice A k c9) k us7 rfl (by rw [e7]; exact ho7) (some ⟨w4.heap.size, 0, none⟩) 1 1 _ rfl rfl G3.out (by simp) (by simp [Value.oneCell']) (by omega) (by omega) G4.out ?_); intro v1 w1 ho1 hor1; have hz1 := st7 w1 v1 _ _ _ G2.out G5.out ho1 hor1; have hb1 := G4.out; have Z2 := Lib.hid (push_chg hor1); have Z1 := Lib.hid hz1; have Z4 := Lib.hid ho1; have Z3 := Lib.hid (fun g hg => own_base ho7 g hg); clear ho1 hor1 hz1 st7))
      obtain ⟨A1, c11, rfl⟩ := own_slice Z4.out
      case roundEnd =>
        exact ⟨⟨k + 1, by omega, by have := HM.out; go_num, Z1.out, G6.out.trans (Z2.out.below G4.out Z3.out)⟩, by have := HM.out; have := HN.out; have := HP.out; simp only [intOf]; omega⟩
    · obtain rfl : 8 * p = k := by omega
      have h3 : ¬ (m : Int) < (n : Int) := by have := HN.out; have := HP.out; omega
      have hM := HV.out.disk HB.out.size HBY.out h1 h2 HP.out
      have HMM := Lib.hid hM
      clear hM hm
      go_wp2_with (go_at_call 128; refine (made_any _ A (8 * p) c9).mono ?_; rintro e5 w5 ⟨rfl, rfl⟩)
      all_goals go_ret2
      exact RMade.of HB.out HMM.out
end Go.Proofs.Ytfbjjblgcgjndaa

/- Walk of DiskLoads. -/
namespace Go.Proofs.Ytfbjjblgcgjndaa
open Go.RowKit

theorem DG.lift {n0 n1 : Nat} {w : World} {p : Nat} {D : Dsk} {S : Nat → Prop} (h : DG n1 w p D S) (hn : n0 ≤ n1) : DG n0 w p D S :=
  ⟨h.disk.lift hn, fun g hg => ⟨Nat.le_trans hn (h.lt g hg).1, (h.lt g hg).2⟩⟩
theorem Small.load (img : List Nat) : Small (Dsk.load img) 0 := ⟨Nat.zero_le _, fun j => by simp [Dsk.load, Dsk.loads, Dsk.new]⟩
/-- the spoiled block is none of theirs -/
theorem spoil_keep {g : Nat} {w w' : World} (hg : w.grownBy w' (some g)) : Chg (fun x => x = g) w w' := Chg.of_grown hg (fun x e => by cases e; rfl)
set_option maxRecDepth 100000 in
set_option maxHeartbeats 4000000 in
theorem diskLoads_any (r : Inner) (s : Acts) (w : World) (hr : r.Ok w) (hs : s.Ok w) :
    Calls Try.prog 14 #[r.val, s.val] w fun e w' => e = .returned (.bool true) ∧ Below w.heap.size w w' := by
  obtain ⟨A, l, c⟩ := s
  obtain ⟨A0, img, c0⟩ := r
  have hsm := hs.small
  have hism := hr.small
  simp only at hsm hism
  unfold Acts.val Inner.val
  simp only
  have HS := Lib.hid hs
  have HR := Lib.hid hr
  obtain ⟨n, hn⟩ : ∃ n, n = img.length := ⟨_, rfl⟩
  rw [← hn] at hism ⊢
  have HN := Lib.hid hn
  clear hs hr hn
  by_cases hbig : (2000000 < n ∧ n ≤ 16777216) ∨ 20000000 < n
  · by_cases h1 : (2000000 : Int) < (n : Int)
    · by_cases h2 : (n : Int) ≤ 16777216
      · clear hbig
        go_enter Try.func14, Try.ntmps14
        go_wp2_with fail
        refine (known07_any w).mono ?_
        rintro e w1 ⟨rfl, hb1⟩
        go_wp2_with fail
        go_ret
        exact ⟨rfl, hb1⟩
      · have h3 : (20000000 : Int) < (n : Int) := by omega
        clear hbig
        go_enter Try.func14, Try.ntmps14
        go_wp2_with fail
        refine (known07_any w).mono ?_
        rintro e w1 ⟨rfl, hb1⟩
        go_wp2_with fail
        go_ret
        exact ⟨rfl, hb1⟩
    · omega
  · have hnb : n ≤ 20000000 := by omega
    have h3 : ¬ (20000000 : Int) < (n : Int) := by omega
    have hgo : ∀ (P : Prop), ((¬ (2000000 : Int) < (n : Int)) → P) → ((2000000 : Int) < (n : Int) ∧ ¬ (n : Int) ≤ 16777216 → P) → P := fun P a b => by
      by_cases h : (2000000 : Int) < (n : Int)
      · exact b ⟨h, by omega⟩
      · exact a h
    by_cases hok : n % 1024 = 0 ∧ 1 ≤ n / 1024 ∧ n / 1024 ≤ 16384
    · obtain ⟨k1, k2, k3⟩ := hok
      have h1 : ¬ (2000000 : Int) < (n : Int) := by omega
      obtain ⟨m, hm⟩ : ∃ m, m = n / 1024 := ⟨_, rfl⟩
      have hnm : n = 1024 * m := by omega
      have hq1 : (n : Int) / 1024 = (m : Int) := by omega
      rw [← hm] at k2 k3
      have HNM := Lib.hid hnm
      clear hbig hgo hm hnm k1
      go_enter Try.func14, Try.ntmps14
      go_wp2_with fail
      refine (known07_any w).mono ?_
      rintro e w1 ⟨rfl, hb1⟩
      have hr1 := HR.out.below hb1
      have HLT := Lib.hid (lent_any A0 c0 img w1 (by have := HN.out; omega) hr1.lies hr1.nil)
      rw [← HN.out] at HLT
      have HB1 := Lib.hid hb1
      clear hb1 hr1
      go_wp2_with fail
      refine HLT.out.mono ?_
      rintro e w2 ⟨rfl, hl2, hb2⟩
      have hok2 : Inner.Ok w2 ⟨some ⟨w1.heap.size, 0, none⟩, img, img.length + 2⟩ := ⟨hl2.at, fun e => (by cases e), (by simp only; omega), HR.out.small, HR.out.bytes⟩
      have HLD := Lib.hid (load_yes ⟨some ⟨w1.heap.size, 0, none⟩, img, img.length + 2⟩ w2 hok2 m (by simp only; have := HN.out; have := HNM.out; omega) k2 k3)
      simp only at HLD
      rw [← HN.out] at HLD
      have hz2 : w1.heap.size < w2.heap.size := (Array.getElem?_eq_some_iff.1 hl2).1
      obtain ⟨g, hg⟩ : ∃ g, g = w1.heap.size := ⟨_, rfl⟩
      rw [← hg] at HLD hl2 hz2 ⊢
      have HG := Lib.hid hg
      have HL2 := Lib.hid hl2
      have HZ2 := Lib.hid hz2
      have HB2 := Lib.hid (below_next0 HB1.out hb2)
      clear hl2 hb2 HLT hok2 hg hz2
      go_wp2_with fail
      refine HLD.out.mono ?_
      rintro e w3 ⟨pd, Sd, rfl, hd, hb3, _, _, _⟩
      have HD := Lib.hid hd
      have HB3 := Lib.hid (below_next0 HB2.out hb3)
      have HL3 := Lib.hid (HL2.out.below hb3)
      have HRL := Lib.hid (rload_yes ⟨A0, img, c0⟩ w3 (HR.out.below HB3.out) m (by simp only; have := HN.out; have := HNM.out; omega) k2 k3)
      simp only at HRL
      rw [← HN.out] at HRL
      clear hd hb3 HLD
      go_wp2_with fail
      refine HRL.out.mono ?_
      rintro e w4 ⟨pr, rfl, hr4, hb4⟩
      have HD4 := Lib.hid (HD.out.below hb4)
      have HSEP := Lib.hid (fun x (hx : Sd x) (e : w3.heap.size ≤ x ∧ x < w4.heap.size) => Nat.lt_irrefl _ (Nat.lt_of_lt_of_le (HD.out.top x hx) e.1))
      have HR4 := Lib.hid hr4
      have HB4 := Lib.hid (below_next0 HB3.out hb4)
      have HL4 := Lib.hid (HL3.out.below hb4)
      have HZ3 := Lib.hid (show w2.heap.size ≤ w3.heap.size ∧ True from ⟨by have := HD.out.new_n; omega, trivial⟩)
      have HWH := Lib.hid (whole_any g A0 c0 img w4 (by have := HN.out; omega) (HL3.out.below hb4) (HR.out.below (below_next0 HB3.out hb4)).lies)
      rw [← HN.out] at HWH
      clear hr4 hb4 HRL
      go_wp2_with fail
      refine HWH.out.mono ?_
      rintro e w5 ⟨rfl, hb5⟩
      have HSP := Lib.hid (spoil_any g img.length _ w5 (by have := HN.out; omega) (HL4.out.below hb5) (by simp [ns]))
      rw [← HN.out] at HSP
      have HD5 := Lib.hid (HD4.out.below hb5)
      have HR5 := Lib.hid (HR4.out.below hb5)
      have HB5 := Lib.hid (below_next0 HB4.out hb5)
      clear hb5 HWH
      go_wp2_with fail
      refine HSP.out.mono ?_
      rintro e w6 ⟨rfl, hg6⟩
      have hc6 := spoil_keep hg6
      have HD6 := Lib.hid ((HD5.out.keep hc6 (fun x hx e => by have := (HD.out.lt x hx).1; have := HZ2.out; omega)).lift (n0 := w.heap.size) HB2.out.size)
      have HR6 := Lib.hid ((HR5.out.keep hc6 (fun x hx e => by have := HZ2.out; have := HZ3.out.1; have := hx.1; omega)).lift (n0 := w.heap.size) HB3.out.size)
      have HB6 := Lib.hid (HB5.out.trans (hc6.below HB5.out.size (fun x hx => by have := HG.out; have := HB1.out.size; omega)))
      clear hg6 hc6 HSP
      by_cases h40 : 40 < l.length
      · have h40' : (40 : Int) < (l.length : Int) := by omega
        go_wp2_with fail
        go_ret
        exact ⟨rfl, HB6.out⟩
      · have h40' : ¬ (40 : Int) < (l.length : Int) := by omega
        go_wp2_with fail
        refine (much2_any m ⟨A, l, c⟩ w6 k3 (acts_below HS.out HB6.out)).mono ?_
        rintro e w7 ⟨bb, rfl, hbb, hb7⟩
        cases bb with
        | true =>
          have hb8 := below_next0 HB6.out hb7
          clear hbb hb7
          go_wp2_with fail
          go_ret
          exact ⟨rfl, hb8⟩
        | false =>
          obtain ⟨hl, hma⟩ := hbb rfl
          have HMA := Lib.hid hma
          have hpm := pair_made (HD6.out.below hb7) (HR6.out.below hb7) HSEP.out w7.heap.size (w7.heap.size + 1) _ rfl rfl rfl
          have HB7 := Lib.hid (below_next0 HB6.out hb7)
          obtain ⟨w8, hw8⟩ : ∃ w8, w8 = (w7.alloc (.cells bookCells 67)).alloc (.cells #[.pointer (some ⟨pd, 0, none⟩), .pointer (some ⟨pr, 0, none⟩), .pointer (some ⟨w7.heap.size, 0, none⟩)] 103) := ⟨_, rfl⟩
          rw [← hw8] at hpm
          unfold bookCells at hw8
          have HW8 := Lib.hid hw8
          have HP8 := Lib.hid hpm.1
          have HB8 := Lib.hid (below_next0 HB7.out hpm.2)
          have p2 := hpm.1.cells.2.2
          clear hbb hb7 hma hpm hw8
          go_wp2_with fail
          rw [← HW8.out]
          have him := px_image HP8.out
          rw [Dsk.load_flat img (by have := HNM.out; have := HN.out; omega)] at him
          have HIM := Lib.hid him
          clear him
          refine HIM.out.mono ?_
          rintro e w9 ⟨A9, c9, rfl, hr9, hb9⟩
          have HP9 := Lib.hid (HP8.out.also hb9 (Y := blk (.slice A9 img.length c9)) (fun g hg => row_lt hr9 hg))
          have HR9 := Lib.hid hr9
          have HB9 := Lib.hid (below_next0 HB8.out hb9)
          have q2 : w9.cell? ⟨w7.heap.size + 1, 2, none⟩ = some (.pointer (some ⟨w7.heap.size, 0, none⟩)) := HP9.out.cells.2.2
          have HBK := Lib.hid (px_bytes HP9.out A9 img.length c9 (ns .u8 img) (fun _ => False) (fun g h => h.elim) (fun g hg => ⟨Nat.le_trans HP8.out.n_le (row_lt hr9 hg).1, .inr hg⟩) (Rw.of (own_down hr9 HP8.out.n_le)) (by have := HN.out; omega) (by omega))
          rw [← HN.out] at HBK
          clear hr9 hb9 p2 HIM
          rw [← HN.out]
          go_wp2_with fail
          refine HBK.out.mono ?_
          rintro e w10 ⟨rfl, h10, hs10⟩
          have HA9 := Lib.hid ((buf_at2 HR9.out).chg hs10.1 (fun g hg e => e (.inr (by rw [hg]; rfl))))
          have HP10 := Lib.hid h10
          have HB10 := Lib.hid (HB9.out.trans hs10.2)
          have HSE := Lib.hid (same_eq A9 A0 n n c9 c0 img img w10 HN.out HN.out (by have := HN.out; omega) rfl HA9.out (HR.out.below HB10.out).lies)
          clear h10 hs10 q2 HBK
          go_wp2_with fail
          refine HSE.out.mono ?_
          rintro e w11 ⟨rfl, hb11⟩
          have hb := HB10.out.trans (Step.of_below (X := fun _ => False) hb11 HP10.out.n_le).2
          have HPL := Lib.hid (plays_any (HP10.out.below hb11) (Small.load img) (by omega) ⟨A, l, c⟩ w HS.out (Nat.le_refl _) hb hl HMA.out)
          have HB11 := Lib.hid hb
          clear hb hb11 HSE
          go_wp2_with fail
          refine HPL.out.mono ?_
          rintro e w12 ⟨rfl, hb12⟩
          go_wp2_with fail
          go_ret
          exact ⟨rfl, HB11.out.trans hb12⟩
    · have hno : img.length % 1024 ≠ 0 ∨ img.length / 1024 < 1 ∨ 16384 < img.length / 1024 := by rw [← HN.out]; omega
      have HNO := Lib.hid hno
      clear hbig hok hno
      refine hgo _ (fun h1 => ?_) (fun h1 => ?_)
      · clear hgo
        have HR2 := HR
        go_enter Try.func14, Try.ntmps14
        go_wp2_with fail
        refine (known07_any w).mono ?_
        rintro e w1 ⟨rfl, hb1⟩
        have hr1 := HR.out.below hb1
        have HLT := Lib.hid (lent_any A0 c0 img w1 (by have := HN.out; omega) hr1.lies hr1.nil)
        rw [← HN.out] at HLT
        have HB1 := Lib.hid hb1
        clear hb1 hr1
        go_wp2_with fail
        refine HLT.out.mono ?_
        rintro e w2 ⟨rfl, hl2, hb2⟩
        have HLD := Lib.hid (load_no ⟨some ⟨w1.heap.size, 0, none⟩, img, img.length + 2⟩ w2 (by simp only; have := HN.out; omega) HNO.out)
        simp only at HLD
        rw [← HN.out] at HLD
        obtain ⟨g, hg⟩ : ∃ g, g = w1.heap.size := ⟨_, rfl⟩
        rw [← hg] at HLD hl2 ⊢
        have HG := Lib.hid hg
        have HL2 := Lib.hid hl2
        have HB2 := Lib.hid (below_next0 HB1.out hb2)
        clear hl2 hb2 HLT hg
        go_wp2_with fail
        refine HLD.out.mono ?_
        rintro e w3 ⟨rfl, hb3⟩
        have HL3 := Lib.hid (HL2.out.below hb3)
        have HB3 := Lib.hid (below_next0 HB2.out hb3)
        have HRL := Lib.hid (rload_no ⟨A0, img, c0⟩ w3 (by simp only; have := HN.out; omega) HNO.out)
        simp only at HRL
        rw [← HN.out] at HRL
        have HWH := Lib.hid (whole_any g A0 c0 img w3 (by have := HN.out; omega) HL3.out (HR.out.below HB3.out).lies)
        rw [← HN.out] at HWH
        clear hb3 HLD
        go_wp2_with fail
        refine HRL.out.mono ?_
        rintro e w4 ⟨rfl, rfl⟩
        go_wp2_with fail
        refine HWH.out.mono ?_
        rintro e w5 ⟨rfl, hb5⟩
        have HSP := Lib.hid (spoil_any g img.length _ w5 (by have := HN.out; omega) (HL3.out.below hb5) (by simp [ns]))
        rw [← HN.out] at HSP
        have HB5 := Lib.hid (below_next0 HB3.out hb5)
        clear hb5 HWH
        go_wp2_with fail
        refine HSP.out.mono ?_
        rintro e w6 ⟨rfl, hg6⟩
        have hb6 := HB5.out.trans ((spoil_keep hg6).below HB5.out.size (fun x hx => by have := HG.out; have := HB1.out.size; omega))
        clear hg6
        go_wp2_with fail
        go_ret
        exact ⟨rfl, hb6⟩
      · obtain ⟨h1, h2⟩ := h1
        clear hgo
        have HR2 := HR
        go_enter Try.func14, Try.ntmps14
        go_wp2_with fail
        refine (known07_any w).mono ?_
        rintro e w1 ⟨rfl, hb1⟩
        have hr1 := HR.out.below hb1
        have HLT := Lib.hid (lent_any A0 c0 img w1 (by have := HN.out; omega) hr1.lies hr1.nil)
        rw [← HN.out] at HLT
        have HB1 := Lib.hid hb1
        clear hb1 hr1
        go_wp2_with fail
        refine HLT.out.mono ?_
        rintro e w2 ⟨rfl, hl2, hb2⟩
        have HLD := Lib.hid (load_no ⟨some ⟨w1.heap.size, 0, none⟩, img, img.length + 2⟩ w2 (by simp only; have := HN.out; omega) HNO.out)
        simp only at HLD
        rw [← HN.out] at HLD
        obtain ⟨g, hg⟩ : ∃ g, g = w1.heap.size := ⟨_, rfl⟩
        rw [← hg] at HLD hl2 ⊢
        have HG := Lib.hid hg
        have HL2 := Lib.hid hl2
        have HB2 := Lib.hid (below_next0 HB1.out hb2)
        clear hl2 hb2 HLT hg
        go_wp2_with fail
        refine HLD.out.mono ?_
        rintro e w3 ⟨rfl, hb3⟩
        have HL3 := Lib.hid (HL2.out.below hb3)
        have HB3 := Lib.hid (below_next0 HB2.out hb3)
        have HRL := Lib.hid (rload_no ⟨A0, img, c0⟩ w3 (by simp only; have := HN.out; omega) HNO.out)
        simp only at HRL
        rw [← HN.out] at HRL
        have HWH := Lib.hid (whole_any g A0 c0 img w3 (by have := HN.out; omega) HL3.out (HR.out.below HB3.out).lies)
        rw [← HN.out] at HWH
        clear hb3 HLD
        go_wp2_with fail
        refine HRL.out.mono ?_
        rintro e w4 ⟨rfl, rfl⟩
        go_wp2_with fail
        refine HWH.out.mono ?_
        rintro e w5 ⟨rfl, hb5⟩
        have HSP := Lib.hid (spoil_any g img.length _ w5 (by have := HN.out; omega) (HL3.out.below hb5) (by simp [ns]))
        rw [← HN.out] at HSP
        have HB5 := Lib.hid (below_next0 HB3.out hb5)
        clear hb5 HWH
        go_wp2_with fail
        refine HSP.out.mono ?_
        rintro e w6 ⟨rfl, hg6⟩
        have hb6 := HB5.out.trans ((spoil_keep hg6).below HB5.out.size (fun x hx => by have := HG.out; have := HB1.out.size; omega))
        clear hg6
        go_wp2_with fail
        go_ret
        exact ⟨rfl, hb6⟩
end Go.Proofs.Ytfbjjblgcgjndaa
