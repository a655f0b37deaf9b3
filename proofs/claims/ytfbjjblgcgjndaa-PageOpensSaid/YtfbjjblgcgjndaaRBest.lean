/- Contract of the reference's Best. -/
import Derived.Test.YtfbjjblgcgjndaaNewest
set_option linter.unusedVariables false
set_option linter.unusedSimpArgs false
namespace Go.Proofs.Ytfbjjblgcgjndaa
open Go.RowKit

/-- what the reference's GetMeta tells, yes and no in one -/
def GetSaid (l : List Nat) (w : World) (e : Ending) (w' : World) : Prop :=
  ∃ M f, e = .returned (.tuple #[Meta.val M, .int .u16 (f : Nat)]) ∧ ((f = 0 ∧ IsMeta l ∧ M = metaOf l) ∨ (f = 80 ∧ ¬ IsMeta l ∧ M = Meta.zero)) ∧ M.gen < 18446744073709551616 ∧ Below w.heap.size w w'
theorem rget_both (A : Option Addr) (c : Nat) (l : List Nat) (w : World) (hs : l.length ≤ 1000000000) (hA : At w A (ns .u8 l)) (hb : Bytes l) (hcl : l.length ≤ c) : Calls Try.prog 74 #[.slice A l.length c] w (GetSaid l w) := by
  by_cases hm : IsMeta l
  · refine (rget_yes A c l w hs hA hb hcl hm).mono ?_
    rintro e w1 ⟨rfl, hb1⟩
    exact ⟨_, 0, rfl, .inl ⟨rfl, hm, rfl⟩, (metaOf_ok l hb).gen, hb1⟩
  · refine (rget_no A c l w hs hA hb hcl hm).mono ?_
    rintro e w1 ⟨rfl, hb1⟩
    exact ⟨_, 80, rfl, .inr ⟨rfl, hm, rfl⟩, by decide, hb1⟩
theorem get_both (r : Inner) (w : World) (h : r.Ok w) : Calls Try.prog 73 #[.slice r.A r.l.length r.c] w (GetSaid r.l w) := by
  by_cases hm : IsMeta r.l
  · refine (get_yes r w h hm).mono ?_
    rintro e w1 ⟨rfl, hb1⟩
    exact ⟨_, 0, rfl, .inl ⟨rfl, hm, rfl⟩, (metaOf_ok r.l h.bytes).gen, hb1⟩
  · refine (get_no r w h hm).mono ?_
    rintro e w1 ⟨rfl, hb1⟩
    exact ⟨_, 80, rfl, .inr ⟨rfl, hm, rfl⟩, by decide, hb1⟩

theorem meta_pos {l : List Nat} (h : IsMeta l) : 0 < (metaOf l).gen ∧ metaOf l ≠ Meta.zero := h.2.1.pos
/-- which of two counts -/
theorem best_first (a b : List Nat) (ha : IsMeta a) (pa : (metaOf a).gen % 2 = 0) (h : ¬ IsMeta b ∨ (metaOf b).gen % 2 ≠ 1 ∨ (metaOf b).gen < (metaOf a).gen) : bestOf a b = metaOf a ∧ bestErr a b = 0 := by
  have h0 := meta_pos ha
  have h1 : bestOf a b = metaOf a := by
    unfold bestOf
    have : step Meta.zero 0 a = metaOf a := by unfold step; rw [if_pos ⟨ha, pa, by simpa [Meta.zero] using h0.1⟩]
    rw [this]
    unfold step
    rw [if_neg]
    rintro ⟨x, y, z⟩
    rcases h with h | h | h
    · exact h x
    · exact h y
    · omega
  exact ⟨h1, by unfold bestErr; rw [h1, if_pos h0.2]⟩
theorem best_second (a b : List Nat) (hb : IsMeta b) (pb : (metaOf b).gen % 2 = 1) (h : ¬ IsMeta a ∨ (metaOf a).gen % 2 ≠ 0 ∨ ¬ (metaOf b).gen < (metaOf a).gen) : bestOf a b = metaOf b ∧ bestErr a b = 0 := by
  have h0 := meta_pos hb
  have h1 : bestOf a b = metaOf b := by
    unfold bestOf
    by_cases hs : IsMeta a ∧ (metaOf a).gen % 2 = 0 ∧ Meta.zero.gen < (metaOf a).gen
    · have : step Meta.zero 0 a = metaOf a := by unfold step; rw [if_pos hs]
      rw [this]
      unfold step
      rw [if_pos]
      refine ⟨hb, pb, ?_⟩
      rcases h with h | h | h
      · exact absurd hs.1 h
      · exact absurd hs.2.1 h
      · have := hs.2.1; omega
    · have : step Meta.zero 0 a = Meta.zero := by unfold step; rw [if_neg hs]
      rw [this]
      unfold step
      rw [if_pos ⟨hb, pb, by simpa [Meta.zero] using h0.1⟩]
  exact ⟨h1, by unfold bestErr; rw [h1, if_pos h0.2]⟩
theorem best_neither (a b : List Nat) (ha : ¬ IsMeta a ∨ (metaOf a).gen % 2 ≠ 0) (hb : ¬ IsMeta b ∨ (metaOf b).gen % 2 ≠ 1) : bestOf a b = Meta.zero ∧ bestErr a b = if a.take 4 = magic ∨ b.take 4 = magic then 151 else 150 := by
  have h1 : bestOf a b = Meta.zero := by
    unfold bestOf
    have : step Meta.zero 0 a = Meta.zero := by
      unfold step; rw [if_neg]; rintro ⟨x, y, _⟩
      rcases ha with h | h
      · exact h x
      · exact h y
    rw [this]
    unfold step; rw [if_neg]; rintro ⟨x, y, _⟩
    rcases hb with h | h
    · exact h x
    · exact h y
  exact ⟨h1, by unfold bestErr; rw [h1, if_neg (by simp)]⟩
theorem str_magic : str magic = ⟨#[67, 77, 69, 84]⟩ := rfl
/-- a text against the four first letters -/
theorem magic_test (l : List Nat) (hl : Bytes l) : ((str (l.take 4)).toList == ([67, 77, 69, 84] : List UInt8)) = decide (l.take 4 = magic) := by
  rw [show ([67, 77, 69, 84] : List UInt8) = (str magic).toList from by rw [str_list]; rfl]; exact str_beq _ _ (hl.take 4) (by decide)
theorem magic_len {l : List Nat} (h : l.length < 4) : ¬ l.take 4 = magic := by
  intro e
  have := congrArg List.length e
  rw [List.length_take] at this
  simp [magic] at this
  omega

set_option maxRecDepth 100000 in
set_option maxHeartbeats 4000000 in
theorem rbest_any (a b : Inner) (w : World) (ha : a.Ok w) (hb : b.Ok w) (hsa : a.l.length ≤ 1000000000) (hsb : b.l.length ≤ 1000000000) :
    Calls Try.prog 76 #[.slice a.A a.l.length a.c, .slice b.A b.l.length b.c] w fun e w' => e = .returned (.tuple #[(bestOf a.l b.l).val, .int .u16 (bestErr a.l b.l : Int)]) ∧ Below w.heap.size w w' := by
  have hZ0 := MetaBox.new w Meta.zero
  have hb0 := below_alloc0 (Below.refl w.heap.size w) (.cells Meta.zero.cells 116)
  go_enter Try.func76, Try.ntmps76
  go_wp2_with fail
  change Calls _ _ _ (w.alloc (.cells Meta.zero.cells 116)) _
  generalize w.alloc (.cells Meta.zero.cells 116) = w0 at *
  have ha0 := ha.below hb0
  refine (rget_both a.A a.c a.l w0 hsa ha0.lies ha.bytes ha.le).mono ?_
  rintro e w1 ⟨M, f1, rfl, hM, hMg, hb1⟩
  have hZ1 := hZ0.below hb1 (box_lt hZ0)
  replace hb1 := below_next0 hb0 hb1
  have HM := Lib.hid hM
  clear hM hZ0 hb0 ha0
  simp only [Meta.val, Meta.cells]
  go_upto_region 2 with (fail)
  change Code.wp _ _ _ _ (w1.alloc (.cells M.cells 116))
  have hX2 := MetaBox.new w1 M
  have hZ2 := hZ1.old (.cells M.cells 116)
  have hb2 := below_alloc0 hb1 (.cells M.cells 116)
  clear hZ1
  have hl1 : w.heap.size ≤ w1.heap.size := hb1.size
  generalize w1.heap.size = z1 at *
  generalize w1.alloc (.cells M.cells 116) = w2 at *
  clear hb1
  have hb02 := hb.below hb2
  go_wp2_with fail
  refine (rget_both b.A b.c b.l w2 hsb hb02.lies hb.bytes hb.le).mono ?_
  rintro e w3 ⟨N, f2, rfl, hN, hNg, hb3⟩
  have hZ3 := hZ2.below hb3 (box_lt hZ2)
  have hX3 := hX2.below hb3 (box_lt hX2)
  replace hb3 := below_next0 hb2 hb3
  have HN := Lib.hid hN
  clear hN hZ2 hX2 hb2 hb02
  simp only [Meta.val, Meta.cells]
  go_upto_region 3 with (fail)
  change Code.wp _ _ _ _ (w3.alloc (.cells N.cells 116))
  have hY4 := MetaBox.new w3 N
  have hZ4 := hZ3.old (.cells N.cells 116)
  have hX4 := hX3.old (.cells N.cells 116)
  have hb4 := below_alloc0 hb3 (.cells N.cells 116)
  have hl3 : w.heap.size ≤ w3.heap.size := hb3.size
  clear hZ3 hX3 hb3
  generalize w3.heap.size = z3 at *
  generalize w3.alloc (.cells N.cells 116) = w4 at *
  have ha4 := ha.below hb4
  have hb44 := hb.below hb4
  obtain ⟨c0, c1, c2, c3, c4⟩ := meta_cells hX4
  obtain ⟨d0, d1, d2, d3, d4⟩ := meta_cells hY4
  obtain ⟨t0, t1, t2, t3, t4⟩ := meta_cells hZ4
  obtain ⟨e0, e1, e2, e3, e4⟩ := hZ4.frozen
  have HZ := Lib.hid hZ4
  have HA := Lib.hid ha4
  have HB := Lib.hid hb44
  clear hX4 hY4 hZ4 ha4 hb44
  have HL1 := Lib.hid hl1
  have HL3 := Lib.hid hl3
  clear hl1 hl3
  have h1 : (f1 = 0 ∧ Hid (IsMeta a.l ∧ M = metaOf a.l) ∧ M.gen % 2 = 0) ∨ (f1 = 0 ∧ Hid (IsMeta a.l ∧ M = metaOf a.l) ∧ M.gen % 2 = 1) ∨ (f1 = 80 ∧ Hid (¬ IsMeta a.l)) := by
    rcases HM.out with ⟨x, y, z⟩ | ⟨x, y, z⟩
    · rcases Nat.mod_two_eq_zero_or_one M.gen with h | h
      · exact .inl ⟨x, ⟨y, z⟩, h⟩
      · exact .inr (.inl ⟨x, ⟨y, z⟩, h⟩)
    · exact .inr (.inr ⟨x, y⟩)
  have h2 : (f2 = 0 ∧ Hid (IsMeta b.l ∧ N = metaOf b.l) ∧ N.gen % 2 = 1) ∨ (f2 = 0 ∧ Hid (IsMeta b.l ∧ N = metaOf b.l) ∧ N.gen % 2 = 0) ∨ (f2 = 80 ∧ Hid (¬ IsMeta b.l)) := by
    rcases HN.out with ⟨x, y, z⟩ | ⟨x, y, z⟩
    · rcases Nat.mod_two_eq_zero_or_one N.gen with h | h
      · exact .inr (.inl ⟨x, ⟨y, z⟩, h⟩)
      · exact .inl ⟨x, ⟨y, z⟩, h⟩
    · exact .inr (.inr ⟨x, y⟩)
  clear HM HN
  rcases h1 with h1 | h1 | h1
  · obtain ⟨rfl, HA1, pa⟩ := h1
    have pa1 : ((M.gen : Int) % 2 == 0) = true := by simp; omega
    have pa2 : (M.gen % 2 == 0) = true := by simp; omega
    have PA := Lib.hid pa
    clear pa
    rcases h2 with h2 | h2 | h2
    · obtain ⟨rfl, HB1, pb⟩ := h2
      have pb1 : ((N.gen : Int) % 2 == 1) = true := by simp; omega
      have pb2 : (N.gen % 2 == 1) = true := by simp; omega
      have PB := Lib.hid pb
      clear pb
      by_cases hg : N.gen < M.gen
      · have hbest := best_first a.l b.l HA1.out.1 (by rw [← HA1.out.2]; exact PA.out) (.inr (.inr (by rw [← HA1.out.2, ← HB1.out.2]; exact hg)))
        have g1 : (N.gen : Int) < (M.gen : Int) := by omega
        have HBE := Lib.hid hbest
        clear hbest hg
        go_wp2_with fail
        try go_quiet (fail)
        try go_wp2_with fail
        refine bodyPost_ret (results_box rfl _ w.heap.size M _ _ rfl rfl (setBox_box HZ.out)) rfl ⟨?_, setBox_below M (by first | exact hb4 | exact below_drewN hb4 _) (Nat.le_refl _)⟩
        rw [HBE.out.1, HBE.out.2, ← HA1.out.2]; rfl
      · have hbest := best_second a.l b.l HB1.out.1 (by rw [← HB1.out.2]; exact PB.out) (.inr (.inr (by rw [← HA1.out.2, ← HB1.out.2]; exact hg)))
        have g1 : ¬ (N.gen : Int) < (M.gen : Int) := by omega
        have HBE := Lib.hid hbest
        clear hbest hg
        go_wp2_with fail
        try go_quiet (fail)
        try go_wp2_with fail
        refine bodyPost_ret (results_box rfl _ w.heap.size N _ _ rfl rfl (setBox_box HZ.out)) rfl ⟨?_, setBox_below N (by first | exact hb4 | exact below_drewN hb4 _) (Nat.le_refl _)⟩
        rw [HBE.out.1, HBE.out.2, ← HB1.out.2]; rfl
    · obtain ⟨rfl, HB1, pb⟩ := h2
      have pb1 : ((N.gen : Int) % 2 == 1) = false := by simp; omega
      have pb2 : (N.gen % 2 == 1) = false := by simp; omega
      have PB := Lib.hid pb
      clear pb
      have hbest := best_first a.l b.l HA1.out.1 (by rw [← HA1.out.2]; exact PA.out) (.inr (.inl (by rw [← HB1.out.2]; have := PB.out; omega)))
      have HBE := Lib.hid hbest
      clear hbest
      go_wp2_with fail
      try go_quiet (fail)
      try go_wp2_with fail
      refine bodyPost_ret (results_box rfl _ w.heap.size M _ _ rfl rfl (setBox_box HZ.out)) rfl ⟨?_, setBox_below M (by first | exact hb4 | exact below_drewN hb4 _) (Nat.le_refl _)⟩
      rw [HBE.out.1, HBE.out.2, ← HA1.out.2]; rfl
    · obtain ⟨rfl, HB1⟩ := h2
      have hbest := best_first a.l b.l HA1.out.1 (by rw [← HA1.out.2]; exact PA.out) (.inl HB1.out)
      have HBE := Lib.hid hbest
      clear hbest
      go_wp2_with fail
      try go_quiet (fail)
      try go_wp2_with fail
      refine bodyPost_ret (results_box rfl _ w.heap.size M _ _ rfl rfl (setBox_box HZ.out)) rfl ⟨?_, setBox_below M (by first | exact hb4 | exact below_drewN hb4 _) (Nat.le_refl _)⟩
      rw [HBE.out.1, HBE.out.2, ← HA1.out.2]; rfl
  · obtain ⟨rfl, HA1, pa⟩ := h1
    have pa1 : ((M.gen : Int) % 2 == 0) = false := by simp; omega
    have pa2 : (M.gen % 2 == 0) = false := by simp; omega
    have PA := Lib.hid pa
    clear pa
    rcases h2 with h2 | h2 | h2
    · obtain ⟨rfl, HB1, pb⟩ := h2
      have pb1 : ((N.gen : Int) % 2 == 1) = true := by simp; omega
      have pb2 : (N.gen % 2 == 1) = true := by simp; omega
      have PB := Lib.hid pb
      clear pb
      have hbest := best_second a.l b.l HB1.out.1 (by rw [← HB1.out.2]; exact PB.out) (.inr (.inl (by rw [← HA1.out.2]; have := PA.out; omega)))
      have HBE := Lib.hid hbest
      clear hbest
      go_wp2_with fail
      try go_quiet (fail)
      try go_wp2_with fail
      refine bodyPost_ret (results_box rfl _ w.heap.size N _ _ rfl rfl (setBox_box HZ.out)) rfl ⟨?_, setBox_below N (by first | exact hb4 | exact below_drewN hb4 _) (Nat.le_refl _)⟩
      rw [HBE.out.1, HBE.out.2, ← HB1.out.2]; rfl
    · obtain ⟨rfl, HB1, pb⟩ := h2
      have pb1 : ((N.gen : Int) % 2 == 1) = false := by simp; omega
      have pb2 : (N.gen % 2 == 1) = false := by simp; omega
      have PB := Lib.hid pb
      clear pb
      have hbest := best_neither a.l b.l (.inr (by rw [← HA1.out.2]; have := PA.out; omega)) (.inr (by rw [← HB1.out.2]; have := PB.out; omega))
      have HBE := Lib.hid hbest
      clear hbest
      by_cases xl : a.l.length < 4
      · have xm := Lib.hid (magic_len xl)
        by_cases yl : b.l.length < 4
        · have ym := Lib.hid (magic_len yl)
          go_wp2_with fail
          try go_quiet (fail)
          try go_wp2_with fail
          rw [setBox_zero]
          refine bodyPost_ret (results_box rfl _ w.heap.size Meta.zero _ _ rfl rfl (setBox_box HZ.out)) rfl ⟨?_, setBox_below Meta.zero (by first | exact hb4 | exact below_drewN hb4 _) (Nat.le_refl _)⟩
          rw [HBE.out.1, HBE.out.2, if_neg (by rintro (h | h); exact xm.out h; exact ym.out h)]; rfl
        · by_cases ye : b.l.take 4 = magic
          · have ym := Lib.hid ye
            have y4 : 4 ≤ b.l.length := by omega
            have yc : (4 : Int) ≤ (b.c : Int) := by have := hb.le; omega
            have ky := fun nn => conv_str (P := Try.prog) (w4.drewN nn) b.A b.c (b.l.take 4) 4 (by rw [List.length_take]; omega) ((HB.out.lies.takes 4).below (below_drewN (Below.refl _ _) nn)) Try.underlying23 Try.underlying5 Try.underlying9
            have ky' := conv_str (P := Try.prog) w4 b.A b.c (b.l.take 4) 4 (by rw [List.length_take]; omega) (HB.out.lies.takes 4) Try.underlying23 Try.underlying5 Try.underlying9
            have my := magic_test b.l hb.bytes
            rw [decide_eq_true ye] at my
            clear ye
            go_wp2_with fail
            try go_quiet (fail)
            try go_wp2_with fail
            rw [setBox_zero]
            refine bodyPost_ret (results_box rfl _ w.heap.size Meta.zero _ _ rfl rfl (setBox_box HZ.out)) rfl ⟨?_, setBox_below Meta.zero (by first | exact hb4 | exact below_drewN hb4 _) (Nat.le_refl _)⟩
            rw [HBE.out.1, HBE.out.2, if_pos (.inr ym.out)]; rfl
          · have ym := Lib.hid ye
            have y4 : 4 ≤ b.l.length := by omega
            have yc : (4 : Int) ≤ (b.c : Int) := by have := hb.le; omega
            have ky := fun nn => conv_str (P := Try.prog) (w4.drewN nn) b.A b.c (b.l.take 4) 4 (by rw [List.length_take]; omega) ((HB.out.lies.takes 4).below (below_drewN (Below.refl _ _) nn)) Try.underlying23 Try.underlying5 Try.underlying9
            have ky' := conv_str (P := Try.prog) w4 b.A b.c (b.l.take 4) 4 (by rw [List.length_take]; omega) (HB.out.lies.takes 4) Try.underlying23 Try.underlying5 Try.underlying9
            have my := magic_test b.l hb.bytes
            rw [decide_eq_false ye] at my
            clear ye
            go_wp2_with fail
            try go_quiet (fail)
            try go_wp2_with fail
            rw [setBox_zero]
            refine bodyPost_ret (results_box rfl _ w.heap.size Meta.zero _ _ rfl rfl (setBox_box HZ.out)) rfl ⟨?_, setBox_below Meta.zero (by first | exact hb4 | exact below_drewN hb4 _) (Nat.le_refl _)⟩
            rw [HBE.out.1, HBE.out.2, if_neg (by rintro (h | h); exact xm.out h; exact ym.out h)]; rfl
      · by_cases xe : a.l.take 4 = magic
        · have xm := Lib.hid xe
          have x4 : 4 ≤ a.l.length := by omega
          have xc : (4 : Int) ≤ (a.c : Int) := by have := ha.le; omega
          have kx := fun nn => conv_str (P := Try.prog) (w4.drewN nn) a.A a.c (a.l.take 4) 4 (by rw [List.length_take]; omega) ((HA.out.lies.takes 4).below (below_drewN (Below.refl _ _) nn)) Try.underlying23 Try.underlying5 Try.underlying9
          have kx' := conv_str (P := Try.prog) w4 a.A a.c (a.l.take 4) 4 (by rw [List.length_take]; omega) (HA.out.lies.takes 4) Try.underlying23 Try.underlying5 Try.underlying9
          have mx := magic_test a.l ha.bytes
          rw [decide_eq_true xe] at mx
          clear xe
          go_wp2_with fail
          try go_quiet (fail)
          try go_wp2_with fail
          rw [setBox_zero]
          refine bodyPost_ret (results_box rfl _ w.heap.size Meta.zero _ _ rfl rfl (setBox_box HZ.out)) rfl ⟨?_, setBox_below Meta.zero (by first | exact hb4 | exact below_drewN hb4 _) (Nat.le_refl _)⟩
          rw [HBE.out.1, HBE.out.2, if_pos (.inl xm.out)]; rfl
        · have xm := Lib.hid xe
          have x4 : 4 ≤ a.l.length := by omega
          have xc : (4 : Int) ≤ (a.c : Int) := by have := ha.le; omega
          have kx := fun nn => conv_str (P := Try.prog) (w4.drewN nn) a.A a.c (a.l.take 4) 4 (by rw [List.length_take]; omega) ((HA.out.lies.takes 4).below (below_drewN (Below.refl _ _) nn)) Try.underlying23 Try.underlying5 Try.underlying9
          have kx' := conv_str (P := Try.prog) w4 a.A a.c (a.l.take 4) 4 (by rw [List.length_take]; omega) (HA.out.lies.takes 4) Try.underlying23 Try.underlying5 Try.underlying9
          have mx := magic_test a.l ha.bytes
          rw [decide_eq_false xe] at mx
          clear xe
          by_cases yl : b.l.length < 4
          · have ym := Lib.hid (magic_len yl)
            go_wp2_with fail
            try go_quiet (fail)
            try go_wp2_with fail
            rw [setBox_zero]
            refine bodyPost_ret (results_box rfl _ w.heap.size Meta.zero _ _ rfl rfl (setBox_box HZ.out)) rfl ⟨?_, setBox_below Meta.zero (by first | exact hb4 | exact below_drewN hb4 _) (Nat.le_refl _)⟩
            rw [HBE.out.1, HBE.out.2, if_neg (by rintro (h | h); exact xm.out h; exact ym.out h)]; rfl
          · by_cases ye : b.l.take 4 = magic
            · have ym := Lib.hid ye
              have y4 : 4 ≤ b.l.length := by omega
              have yc : (4 : Int) ≤ (b.c : Int) := by have := hb.le; omega
              have ky := fun nn => conv_str (P := Try.prog) (w4.drewN nn) b.A b.c (b.l.take 4) 4 (by rw [List.length_take]; omega) ((HB.out.lies.takes 4).below (below_drewN (Below.refl _ _) nn)) Try.underlying23 Try.underlying5 Try.underlying9
              have ky' := conv_str (P := Try.prog) w4 b.A b.c (b.l.take 4) 4 (by rw [List.length_take]; omega) (HB.out.lies.takes 4) Try.underlying23 Try.underlying5 Try.underlying9
              have my := magic_test b.l hb.bytes
              rw [decide_eq_true ye] at my
              clear ye
              go_wp2_with fail
              try go_quiet (fail)
              try go_wp2_with fail
              rw [setBox_zero]
              refine bodyPost_ret (results_box rfl _ w.heap.size Meta.zero _ _ rfl rfl (setBox_box HZ.out)) rfl ⟨?_, setBox_below Meta.zero (by first | exact hb4 | exact below_drewN hb4 _) (Nat.le_refl _)⟩
              rw [HBE.out.1, HBE.out.2, if_pos (.inr ym.out)]; rfl
            · have ym := Lib.hid ye
              have y4 : 4 ≤ b.l.length := by omega
              have yc : (4 : Int) ≤ (b.c : Int) := by have := hb.le; omega
              have ky := fun nn => conv_str (P := Try.prog) (w4.drewN nn) b.A b.c (b.l.take 4) 4 (by rw [List.length_take]; omega) ((HB.out.lies.takes 4).below (below_drewN (Below.refl _ _) nn)) Try.underlying23 Try.underlying5 Try.underlying9
              have ky' := conv_str (P := Try.prog) w4 b.A b.c (b.l.take 4) 4 (by rw [List.length_take]; omega) (HB.out.lies.takes 4) Try.underlying23 Try.underlying5 Try.underlying9
              have my := magic_test b.l hb.bytes
              rw [decide_eq_false ye] at my
              clear ye
              go_wp2_with fail
              try go_quiet (fail)
              try go_wp2_with fail
              rw [setBox_zero]
              refine bodyPost_ret (results_box rfl _ w.heap.size Meta.zero _ _ rfl rfl (setBox_box HZ.out)) rfl ⟨?_, setBox_below Meta.zero (by first | exact hb4 | exact below_drewN hb4 _) (Nat.le_refl _)⟩
              rw [HBE.out.1, HBE.out.2, if_neg (by rintro (h | h); exact xm.out h; exact ym.out h)]; rfl
    · obtain ⟨rfl, HB1⟩ := h2
      have hbest := best_neither a.l b.l (.inr (by rw [← HA1.out.2]; have := PA.out; omega)) (.inl HB1.out)
      have HBE := Lib.hid hbest
      clear hbest
      by_cases xl : a.l.length < 4
      · have xm := Lib.hid (magic_len xl)
        by_cases yl : b.l.length < 4
        · have ym := Lib.hid (magic_len yl)
          go_wp2_with fail
          try go_quiet (fail)
          try go_wp2_with fail
          rw [setBox_zero]
          refine bodyPost_ret (results_box rfl _ w.heap.size Meta.zero _ _ rfl rfl (setBox_box HZ.out)) rfl ⟨?_, setBox_below Meta.zero (by first | exact hb4 | exact below_drewN hb4 _) (Nat.le_refl _)⟩
          rw [HBE.out.1, HBE.out.2, if_neg (by rintro (h | h); exact xm.out h; exact ym.out h)]; rfl
        · by_cases ye : b.l.take 4 = magic
          · have ym := Lib.hid ye
            have y4 : 4 ≤ b.l.length := by omega
            have yc : (4 : Int) ≤ (b.c : Int) := by have := hb.le; omega
            have ky := fun nn => conv_str (P := Try.prog) (w4.drewN nn) b.A b.c (b.l.take 4) 4 (by rw [List.length_take]; omega) ((HB.out.lies.takes 4).below (below_drewN (Below.refl _ _) nn)) Try.underlying23 Try.underlying5 Try.underlying9
            have ky' := conv_str (P := Try.prog) w4 b.A b.c (b.l.take 4) 4 (by rw [List.length_take]; omega) (HB.out.lies.takes 4) Try.underlying23 Try.underlying5 Try.underlying9
            have my := magic_test b.l hb.bytes
            rw [decide_eq_true ye] at my
            clear ye
            go_wp2_with fail
            try go_quiet (fail)
            try go_wp2_with fail
            rw [setBox_zero]
            refine bodyPost_ret (results_box rfl _ w.heap.size Meta.zero _ _ rfl rfl (setBox_box HZ.out)) rfl ⟨?_, setBox_below Meta.zero (by first | exact hb4 | exact below_drewN hb4 _) (Nat.le_refl _)⟩
            rw [HBE.out.1, HBE.out.2, if_pos (.inr ym.out)]; rfl
          · have ym := Lib.hid ye
            have y4 : 4 ≤ b.l.length := by omega
            have yc : (4 : Int) ≤ (b.c : Int) := by have := hb.le; omega
            have ky := fun nn => conv_str (P := Try.prog) (w4.drewN nn) b.A b.c (b.l.take 4) 4 (by rw [List.length_take]; omega) ((HB.out.lies.takes 4).below (below_drewN (Below.refl _ _) nn)) Try.underlying23 Try.underlying5 Try.underlying9
            have ky' := conv_str (P := Try.prog) w4 b.A b.c (b.l.take 4) 4 (by rw [List.length_take]; omega) (HB.out.lies.takes 4) Try.underlying23 Try.underlying5 Try.underlying9
            have my := magic_test b.l hb.bytes
            rw [decide_eq_false ye] at my
            clear ye
            go_wp2_with fail
            try go_quiet (fail)
            try go_wp2_with fail
            rw [setBox_zero]
            refine bodyPost_ret (results_box rfl _ w.heap.size Meta.zero _ _ rfl rfl (setBox_box HZ.out)) rfl ⟨?_, setBox_below Meta.zero (by first | exact hb4 | exact below_drewN hb4 _) (Nat.le_refl _)⟩
            rw [HBE.out.1, HBE.out.2, if_neg (by rintro (h | h); exact xm.out h; exact ym.out h)]; rfl
      · by_cases xe : a.l.take 4 = magic
        · have xm := Lib.hid xe
          have x4 : 4 ≤ a.l.length := by omega
          have xc : (4 : Int) ≤ (a.c : Int) := by have := ha.le; omega
          have kx := fun nn => conv_str (P := Try.prog) (w4.drewN nn) a.A a.c (a.l.take 4) 4 (by rw [List.length_take]; omega) ((HA.out.lies.takes 4).below (below_drewN (Below.refl _ _) nn)) Try.underlying23 Try.underlying5 Try.underlying9
          have kx' := conv_str (P := Try.prog) w4 a.A a.c (a.l.take 4) 4 (by rw [List.length_take]; omega) (HA.out.lies.takes 4) Try.underlying23 Try.underlying5 Try.underlying9
          have mx := magic_test a.l ha.bytes
          rw [decide_eq_true xe] at mx
          clear xe
          go_wp2_with fail
          try go_quiet (fail)
          try go_wp2_with fail
          rw [setBox_zero]
          refine bodyPost_ret (results_box rfl _ w.heap.size Meta.zero _ _ rfl rfl (setBox_box HZ.out)) rfl ⟨?_, setBox_below Meta.zero (by first | exact hb4 | exact below_drewN hb4 _) (Nat.le_refl _)⟩
          rw [HBE.out.1, HBE.out.2, if_pos (.inl xm.out)]; rfl
        · have xm := Lib.hid xe
          have x4 : 4 ≤ a.l.length := by omega
          have xc : (4 : Int) ≤ (a.c : Int) := by have := ha.le; omega
          have kx := fun nn => conv_str (P := Try.prog) (w4.drewN nn) a.A a.c (a.l.take 4) 4 (by rw [List.length_take]; omega) ((HA.out.lies.takes 4).below (below_drewN (Below.refl _ _) nn)) Try.underlying23 Try.underlying5 Try.underlying9
          have kx' := conv_str (P := Try.prog) w4 a.A a.c (a.l.take 4) 4 (by rw [List.length_take]; omega) (HA.out.lies.takes 4) Try.underlying23 Try.underlying5 Try.underlying9
          have mx := magic_test a.l ha.bytes
          rw [decide_eq_false xe] at mx
          clear xe
          by_cases yl : b.l.length < 4
          · have ym := Lib.hid (magic_len yl)
            go_wp2_with fail
            try go_quiet (fail)
            try go_wp2_with fail
            rw [setBox_zero]
            refine bodyPost_ret (results_box rfl _ w.heap.size Meta.zero _ _ rfl rfl (setBox_box HZ.out)) rfl ⟨?_, setBox_below Meta.zero (by first | exact hb4 | exact below_drewN hb4 _) (Nat.le_refl _)⟩
            rw [HBE.out.1, HBE.out.2, if_neg (by rintro (h | h); exact xm.out h; exact ym.out h)]; rfl
          · by_cases ye : b.l.take 4 = magic
            · have ym := Lib.hid ye
              have y4 : 4 ≤ b.l.length := by omega
              have yc : (4 : Int) ≤ (b.c : Int) := by have := hb.le; omega
              have ky := fun nn => conv_str (P := Try.prog) (w4.drewN nn) b.A b.c (b.l.take 4) 4 (by rw [List.length_take]; omega) ((HB.out.lies.takes 4).below (below_drewN (Below.refl _ _) nn)) Try.underlying23 Try.underlying5 Try.underlying9
              have ky' := conv_str (P := Try.prog) w4 b.A b.c (b.l.take 4) 4 (by rw [List.length_take]; omega) (HB.out.lies.takes 4) Try.underlying23 Try.underlying5 Try.underlying9
              have my := magic_test b.l hb.bytes
              rw [decide_eq_true ye] at my
              clear ye
              go_wp2_with fail
              try go_quiet (fail)
              try go_wp2_with fail
              rw [setBox_zero]
              refine bodyPost_ret (results_box rfl _ w.heap.size Meta.zero _ _ rfl rfl (setBox_box HZ.out)) rfl ⟨?_, setBox_below Meta.zero (by first | exact hb4 | exact below_drewN hb4 _) (Nat.le_refl _)⟩
              rw [HBE.out.1, HBE.out.2, if_pos (.inr ym.out)]; rfl
            · have ym := Lib.hid ye
              have y4 : 4 ≤ b.l.length := by omega
              have yc : (4 : Int) ≤ (b.c : Int) := by have := hb.le; omega
              have ky := fun nn => conv_str (P := Try.prog) (w4.drewN nn) b.A b.c (b.l.take 4) 4 (by rw [List.length_take]; omega) ((HB.out.lies.takes 4).below (below_drewN (Below.refl _ _) nn)) Try.underlying23 Try.underlying5 Try.underlying9
              have ky' := conv_str (P := Try.prog) w4 b.A b.c (b.l.take 4) 4 (by rw [List.length_take]; omega) (HB.out.lies.takes 4) Try.underlying23 Try.underlying5 Try.underlying9
              have my := magic_test b.l hb.bytes
              rw [decide_eq_false ye] at my
              clear ye
              go_wp2_with fail
              try go_quiet (fail)
              try go_wp2_with fail
              rw [setBox_zero]
              refine bodyPost_ret (results_box rfl _ w.heap.size Meta.zero _ _ rfl rfl (setBox_box HZ.out)) rfl ⟨?_, setBox_below Meta.zero (by first | exact hb4 | exact below_drewN hb4 _) (Nat.le_refl _)⟩
              rw [HBE.out.1, HBE.out.2, if_neg (by rintro (h | h); exact xm.out h; exact ym.out h)]; rfl
  · obtain ⟨rfl, HA1⟩ := h1
    rcases h2 with h2 | h2 | h2
    · obtain ⟨rfl, HB1, pb⟩ := h2
      have pb1 : ((N.gen : Int) % 2 == 1) = true := by simp; omega
      have pb2 : (N.gen % 2 == 1) = true := by simp; omega
      have PB := Lib.hid pb
      clear pb
      have hbest := best_second a.l b.l HB1.out.1 (by rw [← HB1.out.2]; exact PB.out) (.inl HA1.out)
      have HBE := Lib.hid hbest
      clear hbest
      go_wp2_with fail
      try go_quiet (fail)
      try go_wp2_with fail
      refine bodyPost_ret (results_box rfl _ w.heap.size N _ _ rfl rfl (setBox_box HZ.out)) rfl ⟨?_, setBox_below N (by first | exact hb4 | exact below_drewN hb4 _) (Nat.le_refl _)⟩
      rw [HBE.out.1, HBE.out.2, ← HB1.out.2]; rfl
    · obtain ⟨rfl, HB1, pb⟩ := h2
      have pb1 : ((N.gen : Int) % 2 == 1) = false := by simp; omega
      have pb2 : (N.gen % 2 == 1) = false := by simp; omega
      have PB := Lib.hid pb
      clear pb
      have hbest := best_neither a.l b.l (.inl HA1.out) (.inr (by rw [← HB1.out.2]; have := PB.out; omega))
      have HBE := Lib.hid hbest
      clear hbest
      by_cases xl : a.l.length < 4
      · have xm := Lib.hid (magic_len xl)
        by_cases yl : b.l.length < 4
        · have ym := Lib.hid (magic_len yl)
          go_wp2_with fail
          try go_quiet (fail)
          try go_wp2_with fail
          rw [setBox_zero]
          refine bodyPost_ret (results_box rfl _ w.heap.size Meta.zero _ _ rfl rfl (setBox_box HZ.out)) rfl ⟨?_, setBox_below Meta.zero (by first | exact hb4 | exact below_drewN hb4 _) (Nat.le_refl _)⟩
          rw [HBE.out.1, HBE.out.2, if_neg (by rintro (h | h); exact xm.out h; exact ym.out h)]; rfl
        · by_cases ye : b.l.take 4 = magic
          · have ym := Lib.hid ye
            have y4 : 4 ≤ b.l.length := by omega
            have yc : (4 : Int) ≤ (b.c : Int) := by have := hb.le; omega
            have ky := fun nn => conv_str (P := Try.prog) (w4.drewN nn) b.A b.c (b.l.take 4) 4 (by rw [List.length_take]; omega) ((HB.out.lies.takes 4).below (below_drewN (Below.refl _ _) nn)) Try.underlying23 Try.underlying5 Try.underlying9
            have ky' := conv_str (P := Try.prog) w4 b.A b.c (b.l.take 4) 4 (by rw [List.length_take]; omega) (HB.out.lies.takes 4) Try.underlying23 Try.underlying5 Try.underlying9
            have my := magic_test b.l hb.bytes
            rw [decide_eq_true ye] at my
            clear ye
            go_wp2_with fail
            try go_quiet (fail)
            try go_wp2_with fail
            rw [setBox_zero]
            refine bodyPost_ret (results_box rfl _ w.heap.size Meta.zero _ _ rfl rfl (setBox_box HZ.out)) rfl ⟨?_, setBox_below Meta.zero (by first | exact hb4 | exact below_drewN hb4 _) (Nat.le_refl _)⟩
            rw [HBE.out.1, HBE.out.2, if_pos (.inr ym.out)]; rfl
          · have ym := Lib.hid ye
            have y4 : 4 ≤ b.l.length := by omega
            have yc : (4 : Int) ≤ (b.c : Int) := by have := hb.le; omega
            have ky := fun nn => conv_str (P := Try.prog) (w4.drewN nn) b.A b.c (b.l.take 4) 4 (by rw [List.length_take]; omega) ((HB.out.lies.takes 4).below (below_drewN (Below.refl _ _) nn)) Try.underlying23 Try.underlying5 Try.underlying9
            have ky' := conv_str (P := Try.prog) w4 b.A b.c (b.l.take 4) 4 (by rw [List.length_take]; omega) (HB.out.lies.takes 4) Try.underlying23 Try.underlying5 Try.underlying9
            have my := magic_test b.l hb.bytes
            rw [decide_eq_false ye] at my
            clear ye
            go_wp2_with fail
            try go_quiet (fail)
            try go_wp2_with fail
            rw [setBox_zero]
            refine bodyPost_ret (results_box rfl _ w.heap.size Meta.zero _ _ rfl rfl (setBox_box HZ.out)) rfl ⟨?_, setBox_below Meta.zero (by first | exact hb4 | exact below_drewN hb4 _) (Nat.le_refl _)⟩
            rw [HBE.out.1, HBE.out.2, if_neg (by rintro (h | h); exact xm.out h; exact ym.out h)]; rfl
      · by_cases xe : a.l.take 4 = magic
        · have xm := Lib.hid xe
          have x4 : 4 ≤ a.l.length := by omega
          have xc : (4 : Int) ≤ (a.c : Int) := by have := ha.le; omega
          have kx := fun nn => conv_str (P := Try.prog) (w4.drewN nn) a.A a.c (a.l.take 4) 4 (by rw [List.length_take]; omega) ((HA.out.lies.takes 4).below (below_drewN (Below.refl _ _) nn)) Try.underlying23 Try.underlying5 Try.underlying9
          have kx' := conv_str (P := Try.prog) w4 a.A a.c (a.l.take 4) 4 (by rw [List.length_take]; omega) (HA.out.lies.takes 4) Try.underlying23 Try.underlying5 Try.underlying9
          have mx := magic_test a.l ha.bytes
          rw [decide_eq_true xe] at mx
          clear xe
          go_wp2_with fail
          try go_quiet (fail)
          try go_wp2_with fail
          rw [setBox_zero]
          refine bodyPost_ret (results_box rfl _ w.heap.size Meta.zero _ _ rfl rfl (setBox_box HZ.out)) rfl ⟨?_, setBox_below Meta.zero (by first | exact hb4 | exact below_drewN hb4 _) (Nat.le_refl _)⟩
          rw [HBE.out.1, HBE.out.2, if_pos (.inl xm.out)]; rfl
        · have xm := Lib.hid xe
          have x4 : 4 ≤ a.l.length := by omega
          have xc : (4 : Int) ≤ (a.c : Int) := by have := ha.le; omega
          have kx := fun nn => conv_str (P := Try.prog) (w4.drewN nn) a.A a.c (a.l.take 4) 4 (by rw [List.length_take]; omega) ((HA.out.lies.takes 4).below (below_drewN (Below.refl _ _) nn)) Try.underlying23 Try.underlying5 Try.underlying9
          have kx' := conv_str (P := Try.prog) w4 a.A a.c (a.l.take 4) 4 (by rw [List.length_take]; omega) (HA.out.lies.takes 4) Try.underlying23 Try.underlying5 Try.underlying9
          have mx := magic_test a.l ha.bytes
          rw [decide_eq_false xe] at mx
          clear xe
          by_cases yl : b.l.length < 4
          · have ym := Lib.hid (magic_len yl)
            go_wp2_with fail
            try go_quiet (fail)
            try go_wp2_with fail
            rw [setBox_zero]
            refine bodyPost_ret (results_box rfl _ w.heap.size Meta.zero _ _ rfl rfl (setBox_box HZ.out)) rfl ⟨?_, setBox_below Meta.zero (by first | exact hb4 | exact below_drewN hb4 _) (Nat.le_refl _)⟩
            rw [HBE.out.1, HBE.out.2, if_neg (by rintro (h | h); exact xm.out h; exact ym.out h)]; rfl
          · by_cases ye : b.l.take 4 = magic
            · have ym := Lib.hid ye
              have y4 : 4 ≤ b.l.length := by omega
              have yc : (4 : Int) ≤ (b.c : Int) := by have := hb.le; omega
              have ky := fun nn => conv_str (P := Try.prog) (w4.drewN nn) b.A b.c (b.l.take 4) 4 (by rw [List.length_take]; omega) ((HB.out.lies.takes 4).below (below_drewN (Below.refl _ _) nn)) Try.underlying23 Try.underlying5 Try.underlying9
              have ky' := conv_str (P := Try.prog) w4 b.A b.c (b.l.take 4) 4 (by rw [List.length_take]; omega) (HB.out.lies.takes 4) Try.underlying23 Try.underlying5 Try.underlying9
              have my := magic_test b.l hb.bytes
              rw [decide_eq_true ye] at my
              clear ye
              go_wp2_with fail
              try go_quiet (fail)
              try go_wp2_with fail
              rw [setBox_zero]
              refine bodyPost_ret (results_box rfl _ w.heap.size Meta.zero _ _ rfl rfl (setBox_box HZ.out)) rfl ⟨?_, setBox_below Meta.zero (by first | exact hb4 | exact below_drewN hb4 _) (Nat.le_refl _)⟩
              rw [HBE.out.1, HBE.out.2, if_pos (.inr ym.out)]; rfl
            · have ym := Lib.hid ye
              have y4 : 4 ≤ b.l.length := by omega
              have yc : (4 : Int) ≤ (b.c : Int) := by have := hb.le; omega
              have ky := fun nn => conv_str (P := Try.prog) (w4.drewN nn) b.A b.c (b.l.take 4) 4 (by rw [List.length_take]; omega) ((HB.out.lies.takes 4).below (below_drewN (Below.refl _ _) nn)) Try.underlying23 Try.underlying5 Try.underlying9
              have ky' := conv_str (P := Try.prog) w4 b.A b.c (b.l.take 4) 4 (by rw [List.length_take]; omega) (HB.out.lies.takes 4) Try.underlying23 Try.underlying5 Try.underlying9
              have my := magic_test b.l hb.bytes
              rw [decide_eq_false ye] at my
              clear ye
              go_wp2_with fail
              try go_quiet (fail)
              try go_wp2_with fail
              rw [setBox_zero]
              refine bodyPost_ret (results_box rfl _ w.heap.size Meta.zero _ _ rfl rfl (setBox_box HZ.out)) rfl ⟨?_, setBox_below Meta.zero (by first | exact hb4 | exact below_drewN hb4 _) (Nat.le_refl _)⟩
              rw [HBE.out.1, HBE.out.2, if_neg (by rintro (h | h); exact xm.out h; exact ym.out h)]; rfl
    · obtain ⟨rfl, HB1⟩ := h2
      have hbest := best_neither a.l b.l (.inl HA1.out) (.inl HB1.out)
      have HBE := Lib.hid hbest
      clear hbest
      by_cases xl : a.l.length < 4
      · have xm := Lib.hid (magic_len xl)
        by_cases yl : b.l.length < 4
        · have ym := Lib.hid (magic_len yl)
          go_wp2_with fail
          try go_quiet (fail)
          try go_wp2_with fail
          rw [setBox_zero]
          refine bodyPost_ret (results_box rfl _ w.heap.size Meta.zero _ _ rfl rfl (setBox_box HZ.out)) rfl ⟨?_, setBox_below Meta.zero (by first | exact hb4 | exact below_drewN hb4 _) (Nat.le_refl _)⟩
          rw [HBE.out.1, HBE.out.2, if_neg (by rintro (h | h); exact xm.out h; exact ym.out h)]; rfl
        · by_cases ye : b.l.take 4 = magic
          · have ym := Lib.hid ye
            have y4 : 4 ≤ b.l.length := by omega
            have yc : (4 : Int) ≤ (b.c : Int) := by have := hb.le; omega
            have ky := fun nn => conv_str (P := Try.prog) (w4.drewN nn) b.A b.c (b.l.take 4) 4 (by rw [List.length_take]; omega) ((HB.out.lies.takes 4).below (below_drewN (Below.refl _ _) nn)) Try.underlying23 Try.underlying5 Try.underlying9
            have ky' := conv_str (P := Try.prog) w4 b.A b.c (b.l.take 4) 4 (by rw [List.length_take]; omega) (HB.out.lies.takes 4) Try.underlying23 Try.underlying5 Try.underlying9
            have my := magic_test b.l hb.bytes
            rw [decide_eq_true ye] at my
            clear ye
            go_wp2_with fail
            try go_quiet (fail)
            try go_wp2_with fail
            rw [setBox_zero]
            refine bodyPost_ret (results_box rfl _ w.heap.size Meta.zero _ _ rfl rfl (setBox_box HZ.out)) rfl ⟨?_, setBox_below Meta.zero (by first | exact hb4 | exact below_drewN hb4 _) (Nat.le_refl _)⟩
            rw [HBE.out.1, HBE.out.2, if_pos (.inr ym.out)]; rfl
          · have ym := Lib.hid ye
            have y4 : 4 ≤ b.l.length := by omega
            have yc : (4 : Int) ≤ (b.c : Int) := by have := hb.le; omega
            have ky := fun nn => conv_str (P := Try.prog) (w4.drewN nn) b.A b.c (b.l.take 4) 4 (by rw [List.length_take]; omega) ((HB.out.lies.takes 4).below (below_drewN (Below.refl _ _) nn)) Try.underlying23 Try.underlying5 Try.underlying9
            have ky' := conv_str (P := Try.prog) w4 b.A b.c (b.l.take 4) 4 (by rw [List.length_take]; omega) (HB.out.lies.takes 4) Try.underlying23 Try.underlying5 Try.underlying9
            have my := magic_test b.l hb.bytes
            rw [decide_eq_false ye] at my
            clear ye
            go_wp2_with fail
            try go_quiet (fail)
            try go_wp2_with fail
            rw [setBox_zero]
            refine bodyPost_ret (results_box rfl _ w.heap.size Meta.zero _ _ rfl rfl (setBox_box HZ.out)) rfl ⟨?_, setBox_below Meta.zero (by first | exact hb4 | exact below_drewN hb4 _) (Nat.le_refl _)⟩
            rw [HBE.out.1, HBE.out.2, if_neg (by rintro (h | h); exact xm.out h; exact ym.out h)]; rfl
      · by_cases xe : a.l.take 4 = magic
        · have xm := Lib.hid xe
          have x4 : 4 ≤ a.l.length := by omega
          have xc : (4 : Int) ≤ (a.c : Int) := by have := ha.le; omega
          have kx := fun nn => conv_str (P := Try.prog) (w4.drewN nn) a.A a.c (a.l.take 4) 4 (by rw [List.length_take]; omega) ((HA.out.lies.takes 4).below (below_drewN (Below.refl _ _) nn)) Try.underlying23 Try.underlying5 Try.underlying9
          have kx' := conv_str (P := Try.prog) w4 a.A a.c (a.l.take 4) 4 (by rw [List.length_take]; omega) (HA.out.lies.takes 4) Try.underlying23 Try.underlying5 Try.underlying9
          have mx := magic_test a.l ha.bytes
          rw [decide_eq_true xe] at mx
          clear xe
          go_wp2_with fail
          try go_quiet (fail)
          try go_wp2_with fail
          rw [setBox_zero]
          refine bodyPost_ret (results_box rfl _ w.heap.size Meta.zero _ _ rfl rfl (setBox_box HZ.out)) rfl ⟨?_, setBox_below Meta.zero (by first | exact hb4 | exact below_drewN hb4 _) (Nat.le_refl _)⟩
          rw [HBE.out.1, HBE.out.2, if_pos (.inl xm.out)]; rfl
        · have xm := Lib.hid xe
          have x4 : 4 ≤ a.l.length := by omega
          have xc : (4 : Int) ≤ (a.c : Int) := by have := ha.le; omega
          have kx := fun nn => conv_str (P := Try.prog) (w4.drewN nn) a.A a.c (a.l.take 4) 4 (by rw [List.length_take]; omega) ((HA.out.lies.takes 4).below (below_drewN (Below.refl _ _) nn)) Try.underlying23 Try.underlying5 Try.underlying9
          have kx' := conv_str (P := Try.prog) w4 a.A a.c (a.l.take 4) 4 (by rw [List.length_take]; omega) (HA.out.lies.takes 4) Try.underlying23 Try.underlying5 Try.underlying9
          have mx := magic_test a.l ha.bytes
          rw [decide_eq_false xe] at mx
          clear xe
          by_cases yl : b.l.length < 4
          · have ym := Lib.hid (magic_len yl)
            go_wp2_with fail
            try go_quiet (fail)
            try go_wp2_with fail
            rw [setBox_zero]
            refine bodyPost_ret (results_box rfl _ w.heap.size Meta.zero _ _ rfl rfl (setBox_box HZ.out)) rfl ⟨?_, setBox_below Meta.zero (by first | exact hb4 | exact below_drewN hb4 _) (Nat.le_refl _)⟩
            rw [HBE.out.1, HBE.out.2, if_neg (by rintro (h | h); exact xm.out h; exact ym.out h)]; rfl
          · by_cases ye : b.l.take 4 = magic
            · have ym := Lib.hid ye
              have y4 : 4 ≤ b.l.length := by omega
              have yc : (4 : Int) ≤ (b.c : Int) := by have := hb.le; omega
              have ky := fun nn => conv_str (P := Try.prog) (w4.drewN nn) b.A b.c (b.l.take 4) 4 (by rw [List.length_take]; omega) ((HB.out.lies.takes 4).below (below_drewN (Below.refl _ _) nn)) Try.underlying23 Try.underlying5 Try.underlying9
              have ky' := conv_str (P := Try.prog) w4 b.A b.c (b.l.take 4) 4 (by rw [List.length_take]; omega) (HB.out.lies.takes 4) Try.underlying23 Try.underlying5 Try.underlying9
              have my := magic_test b.l hb.bytes
              rw [decide_eq_true ye] at my
              clear ye
              go_wp2_with fail
              try go_quiet (fail)
              try go_wp2_with fail
              rw [setBox_zero]
              refine bodyPost_ret (results_box rfl _ w.heap.size Meta.zero _ _ rfl rfl (setBox_box HZ.out)) rfl ⟨?_, setBox_below Meta.zero (by first | exact hb4 | exact below_drewN hb4 _) (Nat.le_refl _)⟩
              rw [HBE.out.1, HBE.out.2, if_pos (.inr ym.out)]; rfl
            · have ym := Lib.hid ye
              have y4 : 4 ≤ b.l.length := by omega
              have yc : (4 : Int) ≤ (b.c : Int) := by have := hb.le; omega
              have ky := fun nn => conv_str (P := Try.prog) (w4.drewN nn) b.A b.c (b.l.take 4) 4 (by rw [List.length_take]; omega) ((HB.out.lies.takes 4).below (below_drewN (Below.refl _ _) nn)) Try.underlying23 Try.underlying5 Try.underlying9
              have ky' := conv_str (P := Try.prog) w4 b.A b.c (b.l.take 4) 4 (by rw [List.length_take]; omega) (HB.out.lies.takes 4) Try.underlying23 Try.underlying5 Try.underlying9
              have my := magic_test b.l hb.bytes
              rw [decide_eq_false ye] at my
              clear ye
              go_wp2_with fail
              try go_quiet (fail)
              try go_wp2_with fail
              rw [setBox_zero]
              refine bodyPost_ret (results_box rfl _ w.heap.size Meta.zero _ _ rfl rfl (setBox_box HZ.out)) rfl ⟨?_, setBox_below Meta.zero (by first | exact hb4 | exact below_drewN hb4 _) (Nat.le_refl _)⟩
              rw [HBE.out.1, HBE.out.2, if_neg (by rintro (h | h); exact xm.out h; exact ym.out h)]; rfl
end Go.Proofs.Ytfbjjblgcgjndaa
