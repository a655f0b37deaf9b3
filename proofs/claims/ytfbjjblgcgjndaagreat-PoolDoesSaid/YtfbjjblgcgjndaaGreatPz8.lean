/- Joined texts: Known10, PoolDo. -/
import Derived.StillTailTactics
import Derived.BigQuiet
import Derived.Deep.CutRange
import Derived.Deep.LoopGhost
import Derived.Test.YtfbjjblgcgjndaaGreatPz7
set_option linter.unusedVariables false
set_option linter.unusedSimpArgs false

/- Walk of the pool laws' known. -/
namespace Go.Proofs.YtfbjjblgcgjndaaGreat
open Go.RowKit Go.Maps

theorem calm_miss {most : Nat} {D : Dsk} {L : List Hand} {n k : Nat} {p : List Nat} (hc : D.Calm) (hn : n < D.pages) (hf : findPage n L = none) (hh : Holds D n (some (k, p))) : plRead most D L n = ⟨k, p, 0, D.go 1, usePage most ⟨n, k, p⟩ L⟩ := by
  have hr := hc.read n hn
  obtain ⟨h1, h2⟩ := hh
  have h1' : D.secs (8 * n) 8 = sealed k n p := h1
  obtain ⟨o1, o2, o3⟩ := open_sealed (n := n) h2
  simp only at o1 o2 o3
  unfold plRead
  rw [if_neg (by omega), hf]
  simp only
  rw [hr]
  simp only [ne_eq, not_true_eq_false, if_false]
  rw [h1', if_pos o1, o2, o3]
theorem calm_hit {most : Nat} {D : Dsk} {L : List Hand} {n : Nat} {x : Hand} (hn : n < D.pages) (hf : findPage n L = some x) : plRead most D L n = ⟨x.kind, x.pay, 0, D, forget n L ++ [x]⟩ := by
  unfold plRead
  rw [if_neg (by omega), hf]
theorem calm_write {most : Nat} {D : Dsk} {L : List Hand} {n k : Nat} {p : List Nat} (hc : D.Calm) (hn : n < D.pages) (hs : SealOk k p) : plWrite most D L n k p = ⟨0, (D.go 2).put (8 * n) (sealed k n p) 8, usePage most ⟨n, k, p⟩ L⟩ := by
  have hl := sealed_length k n p hs.2.2
  have hw := hc.write n hn (sealed k n p) (.inl hl)
  unfold plWrite
  rw [if_pos hs, if_neg (by omega), hw, hl]
  simp
theorem put_pages (D : Dsk) (k a : Nat) (b : List Nat) (j : Nat) : ((D.go k).put a b j).pages = D.pages := rfl
theorem go_pages (D : Dsk) (k : Nat) : (D.go k).pages = D.pages := rfl
theorem small_put {D : Dsk} {j : Nat} (h : Small D j) (a : Nat) (b : List Nat) : Small ((D.go 2).put a b 8) (j + 1) :=
  h.more (by show (D.cache ++ puts a b 8).length ≤ _; rw [List.length_append, puts_length]; omega) (turn_le D.n 2)
section
variable {n0 : Nat} {w : World} {P d most : Nat} {D : Dsk} {L : List Hand} {c j : Nat} {X : Nat → Prop}
/-- a page of one byte is written -/
theorem lit_write (h : PoolX n0 w P d most D L c X) (n k v : Nat) (N K V : Int) (fr : Nat × Nat) (hN : N = (n : Int)) (hK : K = (k : Int)) (hV : V = (v : Int)) (hn : n < D.pages) (hk : 1 ≤ k ∧ k ≤ 4) (hv : v < 256) (hc : D.Calm) (hs : Small D j) (hj : j ≤ 10000000) (hm : most ≤ 9223372036854775807) (hcc : c ≤ 100000000) :
    Calls Tryz.prog 17 #[.pointer (some ⟨P, 0, none⟩), .int .u32 N, .int .u8 K, .slice (some ⟨w.heap.size, 0, none⟩) 1 1] (w.alloc (.cells #[.int .u8 V] 5 fr))
      fun e w' => e = .returned (.int .u16 0) ∧ PoolX n0 w' P d most ((D.go 2).put (8 * n) (sealed k n [v]) 8) (usePage most ⟨n, k, [v]⟩ L) (c + 1) X ∧ Step n0 X w w' := by
  subst hN hK hV
  have hpb : D.pages ≤ 16384 := by
    obtain ⟨q, a, _, b⟩ := h.ok.pages
    unfold Dsk.pages; omega
  have hb := below_alloc0 (Below.refl w.heap.size w) (.cells #[.int .u8 (v : Int)] 5 fr)
  have h2 := h.also hb (Y := fun g => g = w.heap.size) (fun g hg => ⟨by omega, by simp; omega⟩)
  have hA : At (w.alloc (.cells #[.int .u8 (v : Int)] 5 fr)) (some ⟨w.heap.size, 0, none⟩) (ns .u8 [v]) := At.whole (xs := ns .u8 [v]) (heap_alloc_new w _)
  have hw := plwrite_any h2 n k (by omega) (by omega) [v] (some ⟨w.heap.size, 0, none⟩) 1 1 rfl (fun w' hw' => hA.chg hw'.1 (fun a ha e => e (.inr (by cases ha; rfl)))) (fun e => by cases e) (fun x hx => by simp at hx; omega) (hs.c (by omega)) (hs.m (by omega) 2) hm (by omega)
  rw [calm_write hc hn ⟨hk.1, hk.2, by simp⟩] at hw
  refine hw.mono ?_
  rintro e w' ⟨rfl, a, b⟩
  exact ⟨rfl, a.less (fun g hg => .inl hg), (Step.of_below (X := X) hb h.n_le).trans b (fun g hg => .inl hg)⟩
/-- a page at hand is read -/
theorem hit_read (h : PoolX n0 w P d most D L c X) (n : Nat) (N : Int) (hN : N = (n : Int)) (hn : n < D.pages) (x : Hand) (hf : findPage n L = some x) :
    Calls Tryz.prog 12 #[.pointer (some ⟨P, 0, none⟩), .int .u32 N] w (PlRead n0 w P d most c X ⟨x.kind, x.pay, 0, D, forget n L ++ [x]⟩) := by
  subst hN
  have hpb : D.pages ≤ 16384 := by
    obtain ⟨q, a, _, b⟩ := h.ok.pages
    unfold Dsk.pages; omega
  exact plread_hit h n (by omega) hn x hf
theorem miss_read (h : PoolX n0 w P d most D L c X) (n k : Nat) (p : List Nat) (N : Int) (hN : N = (n : Int)) (hn : n < D.pages) (hf : findPage n L = none) (hc : D.Calm) (hh : Holds D n (some (k, p))) (hs : Small D j) (hj : j ≤ 10000000) (hm : most ≤ 9223372036854775807) (hcc : c ≤ 100000000) :
    Calls Tryz.prog 12 #[.pointer (some ⟨P, 0, none⟩), .int .u32 N] w (PlRead n0 w P d most c X ⟨k, p, 0, D.go 1, usePage most ⟨n, k, p⟩ L⟩) := by
  subst hN
  have hpb : D.pages ≤ 16384 := by
    obtain ⟨q, a, _, b⟩ := h.ok.pages
    unfold Dsk.pages; omega
  have := plread_any h n (by omega) (hs.c (by omega)) (hs.m (by omega) 1) hm (by omega)
  rw [calm_miss hc hn hf hh] at this
  exact this
theorem plcounts_any (h : PoolX n0 w P d most D L c X) : Calls Tryz.prog 29 #[.pointer (some ⟨d, 0, none⟩)] w fun e w' => e = .returned (.agg #[.int .i64 (D.n 1), .int .i64 (D.n 2), .int .i64 (D.n 3)]) ∧ Below w.heap.size w w' := by
  obtain ⟨S, hd, _⟩ := h.disk
  exact dg_counts hd
end
/-- a page written ahead is still there -/
theorem holds_put {D : Dsk} {n m k : Nat} {p : List Nat} (hs : SealOk k p) : Holds ((D.go 2).put (8 * n) (sealed k n p) 8) n (some (k, p)) := by
  refine ⟨?_, hs⟩
  rw [page_put _ _ _ _ (sealed_length _ _ _ hs.2.2), if_pos rfl]
theorem holds_put_other {D : Dsk} {n m k : Nat} {p : List Nat} {o : Option (Nat × List Nat)} (hs : SealOk k p) (h : Holds D m o) (hm : m ≠ n) : Holds ((D.go 2).put (8 * n) (sealed k n p) 8) m o := by
  refine h.same ?_
  rw [page_put _ _ _ _ (sealed_length _ _ _ hs.2.2), if_neg hm]
  exact (show SameD D (D.go 2) from ⟨rfl, rfl⟩).page m
theorem field89 (a b c : Int) (w : World) : (Instr.field 83 (.agg #[.int .i64 a, .int .i64 b, .int .i64 c]) 0).run Tryz.prog w = .ok (.int .i64 a) w := by kernel_rfl
set_option maxRecDepth 100000 in
set_option maxHeartbeats 4000000 in
theorem known10_any (w : World) : Calls Tryz.prog 4 #[] w fun e w' => e = .returned (.bool true) ∧ Below w.heap.size w w' := by
  have kc := fun (w : World) (C : Array Value) (n c : Nat) => Lib.run_convert_bytes_const (P := Tryz.prog) w 22 5 C n c Tryz.underlying22 Tryz.underlying5
  have kf := field89
  go_enter Tryz.func4, Tryz.ntmps4
  go_wp2_with fail
  refine (dg_newl (n0 := w.heap.size) 9 w (Nat.le_refl _) (by omega) (by omega)).mono ?_
  rintro e w1 ⟨pd, Sd, rfl, hd, _, hb1⟩
  have HD := Lib.hid hd
  have HB1 := Lib.hid hb1
  clear hd hb1
  go_wp2_with fail
  refine (pnew_ok HD.out (X := fun _ => False) (fun g hg => hg.elim) 2 (by omega) (by omega)).mono ?_
  rintro e w2 ⟨P, rfl, hx2, hb2⟩
  have hb02 := below_next0 HB1.out hb2
  have HX2 := Lib.hid hx2
  have HB2 := Lib.hid hb02
  clear hx2 hb2 hb02
  obtain ⟨D0, hD0⟩ : ∃ D, D = Dsk.new 9 := ⟨_, rfl⟩
  have hc0 : D0.Calm := by rw [hD0]; exact Dsk.new_calm 9
  have hp0 : D0.pages = 9 := by rw [hD0]; exact Dsk.new_pages 9
  have hs0 : Small D0 0 := by rw [hD0]; exact Small.new 9
  have hn1 : D0.n 1 = 0 := by rw [hD0]; rfl
  rw [← hD0] at HX2
  have HC0 := Lib.hid hc0
  have HP0 := Lib.hid hp0
  have HS0 := Lib.hid hs0
  have HN1 := Lib.hid hn1
  clear hD0 hc0 hp0 hs0 hn1
  have hsl : ∀ v, SealOk 1 [v] := fun v => ⟨by omega, by omega, by simp⟩
  have HSL := Lib.hid hsl
  clear hsl
  go_wp2_with fail
  refine (lit_write HX2.out 2 1 97 _ _ _ _ rfl rfl rfl (by rw [HP0.out]; omega) (by omega) (by omega) HC0.out HS0.out (by omega) (by omega) (by omega)).mono ?_
  rintro e w3 ⟨rfl, hx3, hs3⟩
  obtain ⟨D1, hD1⟩ : ∃ D1, D1 = (D0.go 2).put (8 * 2) (sealed 1 2 [97]) 8 := ⟨_, rfl⟩
  have HC1 := Lib.hid (show D1.Calm by rw [hD1]; exact (HC0.out.go 2).put _ _ _)
  have HP1 := Lib.hid (show D1.pages = 9 by rw [hD1]; exact HP0.out)
  have HS1 := Lib.hid (show Small D1 1 by rw [hD1]; exact small_put HS0.out _ _)
  have HN1' := Lib.hid (show D1.n 1 = 0 by rw [hD1]; exact HN1.out)
  rw [← hD1] at hx3
  have HX3 := Lib.hid (show PoolX w.heap.size w3 P pd 2 D1 [⟨2, 1, [97]⟩] 1 (fun _ => False) from hx3)
  have HB3 := Lib.hid (HB2.out.trans hs3.2)
  clear hx3 hs3 hD1 HX2
  go_wp2_with fail
  refine (lit_write HX3.out 3 1 98 _ _ _ _ rfl rfl rfl (by rw [HP1.out]; omega) (by omega) (by omega) HC1.out HS1.out (by omega) (by omega) (by omega)).mono ?_
  rintro e w4 ⟨rfl, hx4, hs4⟩
  obtain ⟨D2, hD2⟩ : ∃ D2, D2 = (D1.go 2).put (8 * 3) (sealed 1 3 [98]) 8 := ⟨_, rfl⟩
  have HC2 := Lib.hid (show D2.Calm by rw [hD2]; exact (HC1.out.go 2).put _ _ _)
  have HP2 := Lib.hid (show D2.pages = 9 by rw [hD2]; exact HP1.out)
  have HS2 := Lib.hid (show Small D2 2 by rw [hD2]; exact small_put HS1.out _ _)
  have HN2 := Lib.hid (show D2.n 1 = 0 by rw [hD2]; exact HN1'.out)
  have HH2 := Lib.hid (show Holds D2 3 (some (1, [98])) by rw [hD2]; exact holds_put (m := 3) (HSL.out 98))
  rw [← hD2] at hx4
  have HX4 := Lib.hid (show PoolX w.heap.size w4 P pd 2 D2 [⟨2, 1, [97]⟩, ⟨3, 1, [98]⟩] 2 (fun _ => False) from hx4)
  have HB4 := Lib.hid (HB3.out.trans hs4.2)
  clear hx4 hs4 hD2 HX3
  go_wp2_with fail
  refine (hit_read HX4.out 2 _ rfl (by rw [HP2.out]; omega) ⟨2, 1, [97]⟩ rfl).mono ?_
  rintro e w5 ⟨A5, c5, rfl, hv5, hx5, hs5⟩
  have HX5 := Lib.hid (show PoolX w.heap.size w5 P pd 2 D2 [⟨3, 1, [98]⟩, ⟨2, 1, [97]⟩] 3 (blk (.slice A5 1 c5)) from hx5.less (fun g hg => .inr hg))
  have HV5 := Lib.hid (show Buf w4.heap.size w5 (.slice A5 1 c5) [97] from hv5)
  have HB5 := Lib.hid (HB4.out.trans hs5.2)
  clear hx5 hs5 hv5 HX4
  have hcn := plcounts_any HX5.out
  rw [HN2.out] at hcn
  have HCN := Lib.hid hcn
  clear hcn
  go_wp2_with fail
  refine HCN.out.mono ?_
  rintro e w6 ⟨rfl, hb6⟩
  have HX6 := Lib.hid (HX5.out.below hb6)
  have HV6 := Lib.hid (HV5.out.below hb6)
  have HB6 := Lib.hid (HB5.out.trans (Step.of_below (X := fun _ => False) hb6 HX5.out.n_le).2)
  clear hb6 HX5 HV5 HCN
  go_wp2_with fail
  refine (lit_write HX6.out 4 1 99 _ _ _ _ rfl rfl rfl (by rw [HP2.out]; omega) (by omega) (by omega) HC2.out HS2.out (by omega) (by omega) (by omega)).mono ?_
  rintro e w7 ⟨rfl, hx7, hs7⟩
  obtain ⟨D3, hD3⟩ : ∃ D3, D3 = (D2.go 2).put (8 * 4) (sealed 1 4 [99]) 8 := ⟨_, rfl⟩
  have HC3 := Lib.hid (show D3.Calm by rw [hD3]; exact (HC2.out.go 2).put _ _ _)
  have HP3 := Lib.hid (show D3.pages = 9 by rw [hD3]; exact HP2.out)
  have HS3 := Lib.hid (show Small D3 3 by rw [hD3]; exact small_put HS2.out _ _)
  have HN3 := Lib.hid (show D3.n 1 = 0 by rw [hD3]; exact HN2.out)
  have HH3 := Lib.hid (show Holds D3 3 (some (1, [98])) by rw [hD3]; exact holds_put_other (HSL.out 99) HH2.out (by omega))
  rw [← hD3] at hx7
  have HX7 := Lib.hid (show PoolX w.heap.size w7 P pd 2 D3 [⟨2, 1, [97]⟩, ⟨4, 1, [99]⟩] 4 (blk (.slice A5 1 c5)) from hx7)
  have HV7 := Lib.hid (show Buf w4.heap.size w7 (.slice A5 1 c5) [97] from own_chg HV6.out hs7.1 (fun g hg e => e hg))
  have HB7 := Lib.hid (HB6.out.trans hs7.2)
  clear hx7 hs7 hD3 HX6 HV6
  have HHA := Lib.hid (show Calls Tryz.prog 32 #[.pointer (some ⟨P, 0, none⟩), .int .u32 3] w7 fun x w' => x = .returned (.bool false) ∧ w7 = w' from plhas_any HX7.out 3 (by omega))
  go_wp2_with fail
  refine HHA.out.mono ?_
  rintro e w8 ⟨rfl, rfl⟩
  clear HHA
  go_wp2_with fail
  refine (miss_read HX7.out 3 1 [98] _ rfl (by rw [HP3.out]; omega) rfl HC3.out HH3.out HS3.out (by omega) (by omega) (by omega)).mono ?_
  rintro e w9 ⟨A9, c9, rfl, hv9, hx9, hs9⟩
  have HX9 := Lib.hid (show PoolX w.heap.size w9 P pd 2 (D3.go 1) [⟨4, 1, [99]⟩, ⟨3, 1, [98]⟩] 5 (fun _ => False) from hx9.less (fun g hg => hg.elim))
  have HV9 := Lib.hid (show Buf w7.heap.size w9 (.slice A9 1 c9) [98] from hv9)
  have HW9 := Lib.hid (show Buf w4.heap.size w9 (.slice A5 1 c5) [97] from own_chg HV7.out hs9.1 (fun g hg e => e hg))
  have HB9 := Lib.hid (HB7.out.trans hs9.2)
  have HN9 := Lib.hid (show (D3.go 1).n 1 = 1 by show turn D3.n 1 (D3.n 1 + 1) 1 = 1; rw [turn_same, HN3.out]; rfl)
  clear hx9 hs9 hv9 HX7 HV7
  have q1 := conv_str (P := Tryz.prog) w9 A5 c5 [97] 1 rfl (buf_at HW9.out).2 Tryz.underlying22 Tryz.underlying5 Tryz.underlying9
  have q2 := conv_str (P := Tryz.prog) w9 A9 c9 [98] 1 rfl (buf_at HV9.out).2 Tryz.underlying22 Tryz.underlying5 Tryz.underlying9
  have HHB := Lib.hid (show Calls Tryz.prog 32 #[.pointer (some ⟨P, 0, none⟩), .int .u32 2] w9 fun x w' => x = .returned (.bool false) ∧ w9 = w' from plhas_any HX9.out 2 (by omega))
  have HLN := Lib.hid (show Calls Tryz.prog 30 #[.pointer (some ⟨P, 0, none⟩)] w9 fun x w' => x = .returned (.int .i64 2) ∧ w9 = w' from pllen_any HX9.out)
  have hcn := plcounts_any HX9.out
  rw [HN9.out] at hcn
  have HCN := Lib.hid hcn
  clear hcn
  have s1 : (str [97]).toList = [97] := by rw [str_list]; rfl
  have s2 : (str [98]).toList = [98] := by rw [str_list]; rfl
  go_wp2_with fail
  refine HHB.out.mono ?_
  rintro e w10 ⟨rfl, rfl⟩
  go_wp2_with fail
  refine HLN.out.mono ?_
  rintro e w10 ⟨rfl, rfl⟩
  go_wp2_with fail
  refine HCN.out.mono ?_
  rintro e w10 ⟨rfl, hb10⟩
  go_wp2_with fail
  go_ret
  exact ⟨rfl, HB9.out.trans (Step.of_below (X := fun _ => False) hb10 HX9.out.n_le).2⟩
end Go.Proofs.YtfbjjblgcgjndaaGreat

/- Walk of PoolDoes. -/
namespace Go.Proofs.YtfbjjblgcgjndaaGreat
open Go.RowKit Go.Maps

theorem cell_lt {w : World} {g o : Nat} {v : Value} (h : w.cell? ⟨g, o, none⟩ = some v) : g < w.heap.size := by
  unfold World.cell? at h
  by_cases hg : g < w.heap.size
  · exact hg
  · rw [show w.heap[g]? = none from Array.getElem?_eq_none (by omega)] at h
    cases h
set_option maxRecDepth 100000 in
set_option maxHeartbeats 16000000 in
theorem poolDoes_any (n m : Int) (s : Inner) (t : PActs) (w : World) (hn : -9223372036854775808 ≤ n ∧ n ≤ 9223372036854775807) (hm : -9223372036854775808 ≤ m ∧ m ≤ 9223372036854775807) (hs : s.Ok w) (ht : t.Ok w) :
    Calls Tryz.prog 3 #[.int .i64 n, .int .i64 m, .slice s.A s.l.length s.c, t.val] w fun e w' => e = .returned (.bool true) ∧ Below w.heap.size w w' := by
  obtain ⟨AI, img, ci⟩ := s
  obtain ⟨A, l, c⟩ := t
  have hsm := ht.small
  have hism := hs.small
  simp only at hsm hism
  unfold PActs.val
  simp only
  have HS := Lib.hid ht
  have HI := Lib.hid hs
  obtain ⟨hn1, hn2⟩ := hn
  obtain ⟨hm1, hm2⟩ := hm
  clear hs ht
  by_cases hr : n < 1 ∨ 60 < n
  · rcases hr with hr | hr
    · have h5 : ¬ 60 < n := by omega
      go_enter Tryz.func3, Tryz.ntmps3
      go_wp2_with fail
      refine (known10_any w).mono ?_
      rintro e w1 ⟨rfl, hb1⟩
      go_wp2_with fail
      go_ret
      exact ⟨rfl, hb1⟩
    · go_enter Tryz.func3, Tryz.ntmps3
      go_wp2_with fail
      refine (known10_any w).mono ?_
      rintro e w1 ⟨rfl, hb1⟩
      go_wp2_with fail
      go_ret
      exact ⟨rfl, hb1⟩
  · have h5 : ¬ 60 < n := by omega
    have h6 : ¬ n < 1 := by omega
    obtain ⟨N, rfl⟩ := Int.eq_ofNat_of_zero_le (show 0 ≤ n by omega)
    have HN := Lib.hid (show 1 ≤ N ∧ N ≤ 60 by omega)
    clear hr
    by_cases hbig : 200000 < img.length
    · have h7 : (200000 : Int) < (img.length : Int) := by omega
      go_enter Tryz.func3, Tryz.ntmps3
      go_wp2_with fail
      refine (known10_any w).mono ?_
      rintro e w1 ⟨rfl, hb1⟩
      go_wp2_with fail
      go_ret
      exact ⟨rfl, hb1⟩
    · have h7 : ¬ (200000 : Int) < (img.length : Int) := by omega
      go_enter Tryz.func3, Tryz.ntmps3
      go_wp2_with fail
      refine (known10_any w).mono ?_
      rintro e w1 ⟨rfl, hb1⟩
      have HB1 := Lib.hid hb1
      have HS1 := Lib.hid (HS.out.below hb1)
      clear hb1
      go_wp2_with fail
      refine (much10_any ⟨A, l, c⟩ w1 HS1.out).mono ?_
      rintro e w2 ⟨b, rfl, hfew, hb2⟩
      have HB2 := Lib.hid (below_next0 HB1.out hb2)
      clear hb2
      cases b with
      | true =>
        go_wp2_with fail
        go_ret
        exact ⟨rfl, HB2.out⟩
      | false =>
        have hfw := hfew rfl
        simp only at hfw
        have hl2 := hfw.1
        have HFW := Lib.hid hfw.2
        clear hfew hfw
        go_wp2_with fail
        refine (dg_newl (n0 := w.heap.size) N w2 HB2.out.size HN.out.1 (by have := HN.out; omega)).mono ?_
        rintro e w3 ⟨d, Sd, rfl, hd, _, hb3⟩
        have HD := Lib.hid hd
        have HB3 := Lib.hid (below_next0 HB2.out hb3)
        clear hd hb3
        go_wp2_with fail
        refine (rnew_ok N w3 HN.out.1 (by have := HN.out; omega)).mono ?_
        rintro e w4 ⟨r, rfl, hr4, hb4⟩
        have himg : ImgAt w.heap.size w d r N 0 w4 := ⟨_, Sd, _, HD.out.below hb4, hr4.lift (n0 := w.heap.size) HB3.out.size, fun g hg e => by have := HD.out.top g hg; have := e.1; omega, Dsk.new_pages N, Small.new N, below_next0 HB3.out hb4⟩
        have HIMG := Lib.hid himg
        clear hr4 hb4 himg HB1 HB2 HB3 HD
        go_upto_region 9 with fail
        rename_i Ko hKo Ki hKi
        have HKI := Lib.hid hKi
        clear hKi
        go_wp2_with fail
        refine HKI.out _ _ ?_
        clear HKI Ki
        go_cut [] from 69 to 99 (fun wx => ∃ k, k ≤ 60 ∧ ImgAt w.heap.size w d r N k wx)
        case first =>
          clear hKo
          have hN60 := HN.out.2
          go_wp2_with fail
          go_loopg [13] (img.length + 1024) (fun gk i wr => ∃ k : Nat, gk = img.length + 1024 - 1024 * k ∧ i = .int .i64 ((1024 * k : Nat) : Int) ∧ k ≤ N ∧ 1024 * k ≤ img.length ∧ ImgAt w.heap.size w d r N k wr)
          case atStart => exact ⟨0, rfl, rfl, by omega, by omega, HIMG.out⟩
          case round =>
            obtain ⟨k, rfl, rfl, hkN, hkl, hi⟩ := hrel
            obtain ⟨I, hI⟩ : ∃ I, I = 1024 * k := ⟨_, rfl⟩
            have HIX := Lib.hid hI
            have HIM := Lib.hid hi
            rw [← hI] at hkl ⊢
            have hI2 : I ≤ 200000 := by omega
            have hq : ((I : Int)).tdiv 1024 = (k : Int) := by rw [Int.tdiv_eq_ediv_of_nonneg (by omega), hI]; omega
            have hq2 : ((I : Int)) / 1024 = (k : Int) := by rw [hI]; omega
            have hw1 : IntKind.i64.wrap ((I : Int) + 1024) = (I : Int) + 1024 := by rw [IntKind.wrap_i64]; omega
            clear hI hi HIMG
            by_cases hc : I + 1024 ≤ img.length
            · have hc1 : (I : Int) + 1024 ≤ (img.length : Int) := by omega
              by_cases hkp : k < N
              · have hk1 : (k : Int) < (N : Int) := by omega
                obtain ⟨g, o, hA, hrd⟩ := HI.out.lies (by intro e; have := congrArg List.length e; simp [ns] at this; rw [this] at hc; simp at hc)
                simp only at hA
                subst hA
                have hgl : g < w.heap.size := by
                  have := hrd 0 _ (List.getElem?_eq_getElem (show 0 < (ns .u8 img).length by simp [ns]; omega))
                  exact cell_lt this
                have hlen : ((img.drop I).take 1024).length = 1024 := by rw [List.length_take, List.length_drop]; omega
                have hci : img.length ≤ ci := HI.out.le
                have hcall := HIM.out.disk (by omega) ⟨some ⟨g, o + I, none⟩, (img.drop I).take 1024, ci - I⟩ (fun w' hw' => ⟨(HI.out.lies.below hw').part I 1024, (fun e => by cases e), by simp only; omega, by simp only; omega, (HI.out.bytes.drop I).take 1024⟩) (fun a ha => by cases ha; exact hgl) k
                simp only at hcall
                rw [hlen] at hcall
                have HCALL := Lib.hid hcall
                have hI0 : (0 : Int) ≤ (I : Int) := by omega
                have hcI : ¬ ci = I := by omega
                have hcc : (I : Int) + 1024 ≤ (ci : Int) := by omega
                clear hcall hrd hlen
                go_wp2_with fail
                refine HCALL.out.mono ?_
                rintro e w5 ⟨⟨v5, rfl⟩, hcall2⟩
                have HCALL2 := Lib.hid hcall2
                clear hcall2
                go_wp2_with fail
                refine HCALL2.out.mono ?_
                rintro e w6 ⟨⟨v6, rfl⟩, hi6⟩
                have HI6 := Lib.hid hi6
                clear hi6
                go_wp2_with fail
                go_roundg (img.length + 1024 - 1024 * (k + 1))
                case measure => have := HIX.out; omega
                case rel => exact ⟨k + 1, rfl, by rw [HIX.out]; congr 1, by omega, by have := HIX.out; omega, HI6.out⟩
              · have hk1 : ¬ (k : Int) < (N : Int) := by omega
                go_wp2_with fail
                go_meet
                case rel => exact ⟨k, by omega, HIM.out⟩
            · have hc1 : ¬ (I : Int) + 1024 ≤ (img.length : Int) := by omega
              go_wp2_with fail
              go_meet
              case rel => exact ⟨k, by omega, HIM.out⟩
        case rest =>
          obtain ⟨k0, hk0, hi0⟩ := hcut
          obtain ⟨D, Sd, Sr, hd, hr, hsep, hpg, hsm0, hb⟩ := hi0
          have HD := Lib.hid hd
          have HR := Lib.hid hr
          have HSEP := Lib.hid hsep
          have HPG := Lib.hid hpg
          have HSM := Lib.hid hsm0
          have HB := Lib.hid hb
          clear hd hr hsep hpg hsm0 hb HIMG
          by_cases hmn : m < 1
          · have HNO := Lib.hid (fun v w => pnew_no v m w hmn)
            have HRNO := Lib.hid (fun v w => rpnew_no v m w hmn)
            refine hKo _ _ ?_
            clear hKo
            go_wp2_with fail
            refine (HNO.out _ _).mono ?_
            rintro e w5 ⟨rfl, rfl⟩
            go_wp2_with fail
            refine (HRNO.out _ _).mono ?_
            rintro e w5 ⟨rfl, rfl⟩
            go_wp2_with fail
            go_ret
            exact ⟨rfl, HB.out⟩
          · obtain ⟨M, rfl⟩ := Int.eq_ofNat_of_zero_le (show 0 ≤ m by omega)
            have hM1 : 1 ≤ M := by omega
            have hM2 : M ≤ 9223372036854775807 := by omega
            refine hKo _ _ ?_
            clear hKo hmn
            go_wp2_with fail
            refine (pnew_ok HD.out (X := Sr) (fun g hg => ⟨HR.out.top g hg, fun e => HSEP.out g e hg⟩) M hM1 hM2).mono ?_
            rintro e w5 ⟨P, rfl, hp, hb5⟩
            have HP := Lib.hid hp
            have HR5 := Lib.hid (HR.out.below hb5)
            have HB5 := Lib.hid (below_next0 HB.out hb5)
            clear hp hb5
            go_wp2_with fail
            refine (rpnew_run r M w5 hM1 hM2).mono ?_
            rintro e w6 ⟨rfl, hw6⟩
            obtain ⟨⟨Z6, hq6⟩, hb6⟩ := quad_made2 HP.out HR5.out hw6
            have HQ6 := Lib.hid hq6
            have HB6 := Lib.hid (below_next0 HB5.out hb6)
            have HSM6 := Lib.hid (show Small D (60 + 0) from HSM.out.mono (by omega))
            clear hw6 hq6 hb6 HP HR5 HB5 HSEP HSM HR HD
            generalize w5.heap.size = q at *
            go_wp2_with fail
            generalize w6.heap.size = b at *
            go_loopg [19] l.length (fun gk i wr => ∃ j : Nat, j ≤ l.length ∧ gk = l.length - j ∧ i = .int .i64 j ∧ DoesAt w.heap.size w P d q r b M N j wr)
            case atStart => exact ⟨0, by omega, by omega, rfl, D, [], Z6, ⟨HPG.out, HSM6.out, by simp, by simp⟩, HQ6.out, HB6.out⟩
            case round =>
              clear HQ6 HB6 HSM6
              obtain ⟨j, hj, rfl, rfl, D0, L0, Z0, hfit, hq, hb⟩ := hrel
              by_cases hlt : j < l.length
              · have hji : (j : Int) < (l.length : Int) := by omega
                obtain ⟨a, ha, hmem⟩ := pact_mem hlt
                obtain ⟨gb, go, hA, hcell⟩ := pact_cell (HS.out.lies.below hb) j a ha
                simp only at hA
                subst hA
                have c0 : wr.cell? ⟨gb, go + j * 6, none⟩ = some (.int .u8 (a.kind : Int)) := hcell 0 (by omega)
                have c1 : wr.cell? ⟨gb, go + j * 6 + 1, none⟩ = some (.int .u32 (a.num : Int)) := hcell 1 (by omega)
                have c2 : wr.cell? ⟨gb, go + j * 6 + 2, none⟩ = some (.int .u8 (a.of_ : Int)) := hcell 2 (by omega)
                have c3 : wr.cell? ⟨gb, go + j * 6 + 3, none⟩ = some (.int .i64 a.n) := hcell 3 (by omega)
                have c4 : wr.cell? ⟨gb, go + j * 6 + 4, none⟩ = some (.slice a.data.A a.data.l.length a.data.c) := hcell 4 (by omega)
                have c5 : wr.cell? ⟨gb, go + j * 6 + 5, none⟩ = some (.slice a.keep.A a.keep.l.length a.keep.c) := hcell 5 (by omega)
                have HAO := Lib.hid (HS.out.all a hmem)
                have HDL := Lib.hid (HFW.out a hmem)
                have HQ := Lib.hid hq
                have HB := Lib.hid hb
                have HFIT := Lib.hid hfit
                clear hcell ha hmem hq hb hfit
                go_upto_region 25 with fail
                obtain ⟨w7, hw7⟩ : ∃ w7, w7 = wr.alloc (.cells #[.int .u8 (a.kind : Int), .int .u32 (a.num : Int), .int .u8 (a.of_ : Int), .int .i64 a.n, .slice a.data.A a.data.l.length a.data.c, .slice a.keep.A a.keep.l.length a.keep.c] 70) := ⟨_, rfl⟩
                rw [← hw7]
                obtain ⟨hq7, hb7, hz7⟩ := pact_box wr a w7 hw7
                have HBX := Lib.hid hq7
                have HQ7 := Lib.hid ((HQ.out.also hb7 (Y := fun g => g = wr.heap.size) (fun g hg => ⟨by omega, by omega⟩)).less (X' := fun g => g = wr.heap.size) (fun g hg => .inr hg))
                have HB7 := Lib.hid (below_next0 HB.out hb7)
                have HGX := Lib.hid (show w.heap.size ≤ wr.heap.size ∧ wr.heap.size < w7.heap.size from ⟨HQ.out.n_le, by omega⟩)
                generalize wr.heap.size = gx at *
                have b0 : w7.cell? ⟨gx, 0, none⟩ = some (.int .u8 (a.kind : Int)) := RecAt.cell HBX.out 0 (by omega)
                clear hw7 hq7 hb7 hz7 c0 c1 c2 c3 c4 c5 HQ HB
                have hki := HAO.out.kind
                have HKN := Lib.hid HAO.out.num
                rename_i Ko hKo Ki hKi
                have HKI := Lib.hid hKi
                clear hKi
                go_wp2_with fail
                refine HKI.out _ _ ?_
                clear HKI Ki
                go_cut [] from 130 to 299 (fun wx => DoesAt w.heap.size w P d q r b M N (j + 1) wx)
                case first =>
                  clear hKo
                  rcases (show a.kind % 9 = 0 ∨ a.kind % 9 = 1 ∨ a.kind % 9 = 2 ∨ a.kind % 9 = 3 ∨ a.kind % 9 = 4 ∨ a.kind % 9 = 5 ∨ a.kind % 9 = 6 ∨ a.kind % 9 = 7 ∨ a.kind % 9 = 8 by omega) with hk | hk | hk | hk | hk | hk | hk | hk | hk
                  · as_aux_lemma =>
                      have g0 : ((a.kind : Int) % 9 == 0) = true := by simp; omega
                      have h0 : (a.kind : Int) % 9 = 0 := by omega
                      clear hk
                      have HLE := Lib.hid (plRead_len (most := M) (D := D0) HQ7.out.hands a.num)
                      have HFT := Lib.hid (HFIT.out.read hM1 a.num)
                      have HR1 := Lib.hid (qx_read HQ7.out a.num HKN.out HFIT.out.small (by omega) hM2 (by omega))
                      have HR2 := Lib.hid (fun (wv : World) (Z X : Nat → Prop) (D1 : Dsk) (L1 : List Hand) (c1 : Nat) (h : QuadX w.heap.size wv P d q r b M D1 L1 D0 L0 c1 j Z X) => qx_rread h a.num HKN.out HFIT.out.small (by omega) hM1 hM2 HFIT.out.len (Nat.le_trans HFIT.out.few (by omega)))
                      have b1 : w7.cell? ⟨gx, 1, none⟩ = some (.int .u32 (a.num : Int)) := RecAt.cell HBX.out 1 (by omega)
                      generalize plRead M D0 L0 a.num = rd at *
                      obtain ⟨rk, rp, re, rD, rL⟩ := rd
                      simp only at HLE HFT HR1 HR2
                      go_wp2_with fail
                      refine HR1.out.mono ?_
                      rintro e w8 ⟨A8, p8, rfl, hb8, hx8, hs8⟩
                      have HV8 := Lib.hid hb8
                      have HX8 := Lib.hid hx8
                      have HB8 := Lib.hid (HB7.out.trans hs8.2)
                      have HBX8 := Lib.hid (HBX.out.step hs8 rfl)
                      have b1' : w8.cell? ⟨gx, 1, none⟩ = some (.int .u32 (a.num : Int)) := RecAt.cell HBX8.out 1 (by omega)
                      clear hb8 hx8 hs8 b0 b1 HR1
                      simp only at HV8 HX8
                      go_wp2_with fail
                      refine (HR2.out _ _ _ _ _ _ HX8.out).mono ?_
                      rintro e w9 ⟨A9, p9, Z9, rfl, hr9, hx9, hs9⟩
                      have HV9 := Lib.hid hr9
                      have HX9 := Lib.hid hx9
                      have HB9 := Lib.hid (HB8.out.trans hs9.2)
                      have HW8 := Lib.hid (own_chg HV8.out hs9.1 (fun g hg e => e (.inr hg)))
                      clear hr9 hx9 hs9 b1' HR2 HX8
                      simp only at HV9 HX9
                      have hbk := qx_bytes HX9.out A8 rp.length p8 (ns .u8 rp) (fun g => g = gx) (fun g hg => ⟨.inl hg, fun e => by have := row_lt HV8.out e; have := HGX.out; omega⟩) (fun g hg => ⟨by have := row_lt HV8.out hg; have := HGX.out; omega, .inr hg⟩) (Rw.of (own_down HW8.out (Nat.le_trans HGX.out.1 (Nat.le_of_lt HGX.out.2)))) (by have := HLE.out; omega) (by omega)
                      have HBK := Lib.hid hbk
                      clear hbk
                      go_wp2_with fail
                      refine HBK.out.mono ?_
                      rintro e w10 ⟨rfl, hx10, hs10⟩
                      have HB10 := Lib.hid (HB9.out.trans hs10.2)
                      have HX10 := Lib.hid hx10
                      have hat8 := (buf_at HW8.out).2.chg hs10.1 (fun g hg e => e (.inl (.inr (by rw [hg]; rfl))))
                      obtain ⟨A9', p9', e9, hat9, hn9, hz9⟩ := HV9.out
                      injection e9 with e91 e92 e93
                      subst e91 e93
                      have hat9' := hat9.chg hs10.1 (fun g hg e => e (.inr (hz9 g hg)))
                      have HSE := Lib.hid (same_eq A8 A9 rp.length rp.length p8 p9 rp rp w10 rfl rfl (by have := HLE.out; omega) rfl hat8 hat9')
                      clear hx10 hs10 hat8 hat9 hat9' hn9 hz9 HBK
                      have z1 : ((rk : Int) != (rk : Int)) = false := by simp
                      have z2 : ((re : Int) != (re : Int)) = false := by simp
                      go_wp2_with fail
                      refine HSE.out.mono ?_
                      rintro e w11 ⟨rfl, hb11⟩
                      have HX11 := Lib.hid (HX10.out.below hb11)
                      have HB11 := Lib.hid (HB10.out.trans (Step.of_below (X := fun _ => False) hb11 HX10.out.n_le).2)
                      clear hb11
                      go_wp2_with fail
                      go_meet
                      case rel => exact .of HFT.out HX11.out (by omega) (by omega) HB11.out
                  · as_aux_lemma =>
                      have g0 : ((a.kind : Int) % 9 == 0) = false := by simp; omega
                      have h0 : ¬ (a.kind : Int) % 9 = 0 := by omega
                      have g1 : ((a.kind : Int) % 9 == 1) = true := by simp; omega
                      have h1 : (a.kind : Int) % 9 = 1 := by omega
                      clear hk
                      have HLE := Lib.hid (plRead_len (most := M) (D := D0) HQ7.out.hands a.num)
                      have HFT := Lib.hid (HFIT.out.read hM1 a.num)
                      have HR1 := Lib.hid (qx_read HQ7.out a.num HKN.out HFIT.out.small (by omega) hM2 (by omega))
                      have HR2 := Lib.hid (fun (wv : World) (Z X : Nat → Prop) (D1 : Dsk) (L1 : List Hand) (c1 : Nat) (h : QuadX w.heap.size wv P d q r b M D1 L1 D0 L0 c1 j Z X) => qx_rread h a.num HKN.out HFIT.out.small (by omega) hM1 hM2 HFIT.out.len (Nat.le_trans HFIT.out.few (by omega)))
                      have b1 : w7.cell? ⟨gx, 1, none⟩ = some (.int .u32 (a.num : Int)) := RecAt.cell HBX.out 1 (by omega)
                      generalize plRead M D0 L0 a.num = rd at *
                      obtain ⟨rk, rp, re, rD, rL⟩ := rd
                      simp only at HLE HFT HR1 HR2
                      go_wp2_with fail
                      refine HR1.out.mono ?_
                      rintro e w8 ⟨A8, p8, rfl, hb8, hx8, hs8⟩
                      have HV8 := Lib.hid hb8
                      have HX8 := Lib.hid hx8
                      have HB8 := Lib.hid (HB7.out.trans hs8.2)
                      have HBX8 := Lib.hid (HBX.out.step hs8 rfl)
                      have b1' : w8.cell? ⟨gx, 1, none⟩ = some (.int .u32 (a.num : Int)) := RecAt.cell HBX8.out 1 (by omega)
                      clear hb8 hx8 hs8 b0 b1 HR1
                      simp only at HV8 HX8
                      go_wp2_with fail
                      refine (HR2.out _ _ _ _ _ _ HX8.out).mono ?_
                      rintro e w9 ⟨A9, p9, Z9, rfl, hr9, hx9, hs9⟩
                      have HV9 := Lib.hid hr9
                      have HX9 := Lib.hid hx9
                      have HB9 := Lib.hid (HB8.out.trans hs9.2)
                      have HW8 := Lib.hid (own_chg HV8.out hs9.1 (fun g hg e => e (.inr hg)))
                      clear hr9 hx9 hs9 b1' HR2 HX8
                      simp only at HV9 HX9
                      have hbk := qx_bytes HX9.out A8 rp.length p8 (ns .u8 rp) (fun g => g = gx) (fun g hg => ⟨.inl hg, fun e => by have := row_lt HV8.out e; have := HGX.out; omega⟩) (fun g hg => ⟨by have := row_lt HV8.out hg; have := HGX.out; omega, .inr hg⟩) (Rw.of (own_down HW8.out (Nat.le_trans HGX.out.1 (Nat.le_of_lt HGX.out.2)))) (by have := HLE.out; omega) (by omega)
                      have HBK := Lib.hid hbk
                      clear hbk
                      go_wp2_with fail
                      refine HBK.out.mono ?_
                      rintro e w10 ⟨rfl, hx10, hs10⟩
                      have HB10 := Lib.hid (HB9.out.trans hs10.2)
                      have HX10 := Lib.hid hx10
                      have hat8 := (buf_at HW8.out).2.chg hs10.1 (fun g hg e => e (.inl (.inr (by rw [hg]; rfl))))
                      obtain ⟨A9', p9', e9, hat9, hn9, hz9⟩ := HV9.out
                      injection e9 with e91 e92 e93
                      subst e91 e93
                      have hat9' := hat9.chg hs10.1 (fun g hg e => e (.inr (hz9 g hg)))
                      have HSE := Lib.hid (same_eq A8 A9 rp.length rp.length p8 p9 rp rp w10 rfl rfl (by have := HLE.out; omega) rfl hat8 hat9')
                      clear hx10 hs10 hat8 hat9 hat9' hn9 hz9 HBK
                      have z1 : ((rk : Int) != (rk : Int)) = false := by simp
                      have z2 : ((re : Int) != (re : Int)) = false := by simp
                      go_wp2_with fail
                      refine HSE.out.mono ?_
                      rintro e w11 ⟨rfl, hb11⟩
                      have HX11 := Lib.hid (HX10.out.below hb11)
                      have HB11 := Lib.hid (HB10.out.trans (Step.of_below (X := fun _ => False) hb11 HX10.out.n_le).2)
                      clear hb11
                      go_wp2_with fail
                      go_meet
                      case rel => exact .of HFT.out HX11.out (by omega) (by omega) HB11.out
                  · as_aux_lemma =>
                      have g0 : ((a.kind : Int) % 9 == 0) = false := by simp; omega
                      have h0 : ¬ (a.kind : Int) % 9 = 0 := by omega
                      have g1 : ((a.kind : Int) % 9 == 1) = false := by simp; omega
                      have h1 : ¬ (a.kind : Int) % 9 = 1 := by omega
                      have g2 : ((a.kind : Int) % 9 == 2) = true := by simp; omega
                      have h2 : (a.kind : Int) % 9 = 2 := by omega
                      clear hk
                      have HLE := Lib.hid (plRead_len (most := M) (D := D0) HQ7.out.hands a.num)
                      have HFT := Lib.hid (HFIT.out.read hM1 a.num)
                      have HR1 := Lib.hid (qx_read HQ7.out a.num HKN.out HFIT.out.small (by omega) hM2 (by omega))
                      have HR2 := Lib.hid (fun (wv : World) (Z X : Nat → Prop) (D1 : Dsk) (L1 : List Hand) (c1 : Nat) (h : QuadX w.heap.size wv P d q r b M D1 L1 D0 L0 c1 j Z X) => qx_rread h a.num HKN.out HFIT.out.small (by omega) hM1 hM2 HFIT.out.len (Nat.le_trans HFIT.out.few (by omega)))
                      have b1 : w7.cell? ⟨gx, 1, none⟩ = some (.int .u32 (a.num : Int)) := RecAt.cell HBX.out 1 (by omega)
                      generalize plRead M D0 L0 a.num = rd at *
                      obtain ⟨rk, rp, re, rD, rL⟩ := rd
                      simp only at HLE HFT HR1 HR2
                      go_wp2_with fail
                      refine HR1.out.mono ?_
                      rintro e w8 ⟨A8, p8, rfl, hb8, hx8, hs8⟩
                      have HV8 := Lib.hid hb8
                      have HX8 := Lib.hid hx8
                      have HB8 := Lib.hid (HB7.out.trans hs8.2)
                      have HBX8 := Lib.hid (HBX.out.step hs8 rfl)
                      have b1' : w8.cell? ⟨gx, 1, none⟩ = some (.int .u32 (a.num : Int)) := RecAt.cell HBX8.out 1 (by omega)
                      clear hb8 hx8 hs8 b0 b1 HR1
                      simp only at HV8 HX8
                      go_wp2_with fail
                      refine (HR2.out _ _ _ _ _ _ HX8.out).mono ?_
                      rintro e w9 ⟨A9, p9, Z9, rfl, hr9, hx9, hs9⟩
                      have HV9 := Lib.hid hr9
                      have HX9 := Lib.hid hx9
                      have HB9 := Lib.hid (HB8.out.trans hs9.2)
                      have HW8 := Lib.hid (own_chg HV8.out hs9.1 (fun g hg e => e (.inr hg)))
                      clear hr9 hx9 hs9 b1' HR2 HX8
                      simp only at HV9 HX9
                      have hbk := qx_bytes HX9.out A8 rp.length p8 (ns .u8 rp) (fun g => g = gx) (fun g hg => ⟨.inl hg, fun e => by have := row_lt HV8.out e; have := HGX.out; omega⟩) (fun g hg => ⟨by have := row_lt HV8.out hg; have := HGX.out; omega, .inr hg⟩) (Rw.of (own_down HW8.out (Nat.le_trans HGX.out.1 (Nat.le_of_lt HGX.out.2)))) (by have := HLE.out; omega) (by omega)
                      have HBK := Lib.hid hbk
                      clear hbk
                      go_wp2_with fail
                      refine HBK.out.mono ?_
                      rintro e w10 ⟨rfl, hx10, hs10⟩
                      have HB10 := Lib.hid (HB9.out.trans hs10.2)
                      have HX10 := Lib.hid hx10
                      have hat8 := (buf_at HW8.out).2.chg hs10.1 (fun g hg e => e (.inl (.inr (by rw [hg]; rfl))))
                      obtain ⟨A9', p9', e9, hat9, hn9, hz9⟩ := HV9.out
                      injection e9 with e91 e92 e93
                      subst e91 e93
                      have hat9' := hat9.chg hs10.1 (fun g hg e => e (.inr (hz9 g hg)))
                      have HSE := Lib.hid (same_eq A8 A9 rp.length rp.length p8 p9 rp rp w10 rfl rfl (by have := HLE.out; omega) rfl hat8 hat9')
                      clear hx10 hs10 hat8 hat9 hat9' hn9 hz9 HBK
                      have z1 : ((rk : Int) != (rk : Int)) = false := by simp
                      have z2 : ((re : Int) != (re : Int)) = false := by simp
                      go_wp2_with fail
                      refine HSE.out.mono ?_
                      rintro e w11 ⟨rfl, hb11⟩
                      have HX11 := Lib.hid (HX10.out.below hb11)
                      have HB11 := Lib.hid (HB10.out.trans (Step.of_below (X := fun _ => False) hb11 HX10.out.n_le).2)
                      clear hb11
                      go_wp2_with fail
                      go_meet
                      case rel => exact .of HFT.out HX11.out (by omega) (by omega) HB11.out
                  · as_aux_lemma =>
                      have g0 : ((a.kind : Int) % 9 == 0) = false := by simp; omega
                      have h0 : ¬ (a.kind : Int) % 9 = 0 := by omega
                      have g1 : ((a.kind : Int) % 9 == 1) = false := by simp; omega
                      have h1 : ¬ (a.kind : Int) % 9 = 1 := by omega
                      have g2 : ((a.kind : Int) % 9 == 2) = false := by simp; omega
                      have h2 : ¬ (a.kind : Int) % 9 = 2 := by omega
                      have g3 : ((a.kind : Int) % 9 == 3) = true := by simp; omega
                      have h3 : (a.kind : Int) % 9 = 3 := by omega
                      clear hk
                      have HFT := Lib.hid (HFIT.out.write hM1 a.num a.of_ a.data.l)
                      have hof := HAO.out.of_
                      have HOF := Lib.hid hof
                      have b4 : w7.cell? ⟨gx, 4, none⟩ = some (.slice a.data.A a.data.l.length a.data.c) := RecAt.cell HBX.out 4 (by omega)
                      have HDO := Lib.hid (fun (w' : World) (h : Below w.heap.size w w') => HAO.out.data.below h)
                      have HLT := Lib.hid (lent_any a.data.A a.data.c a.data.l w7 (by have := HDL.out; omega) (HDO.out w7 HB7.out).lies (HDO.out w7 HB7.out).nil)
                      have HW1 := Lib.hid (fun (wv : World) (Z X : Nat → Prop) (g : Nat) (h : QuadX w.heap.size wv P d q r b M D0 L0 D0 L0 j j Z X) (hl : LentB wv g a.data.l) (hX : X g) => qx_write h a.num a.of_ HKN.out HOF.out a.data.l (some ⟨g, 0, none⟩) (a.data.l.length + 2) a.data.l.length rfl hl.at (fun x hx => by cases hx; exact hX) (fun e => by cases e) (HDO.out w7 HB7.out).bytes HFIT.out.small (by omega) hM2 (by omega))
                      have HW2 := Lib.hid (fun (w8 : World) (hb8 : Below w.heap.size w w8) (Z X : Nat → Prop) (D1 : Dsk) (L1 : List Hand) (c1 : Nat) (h : QuadX w.heap.size w8 P d q r b M D1 L1 D0 L0 c1 j Z X) => qx_rwrite h a.num a.of_ HKN.out HOF.out a.data (fun w' hw' => HDO.out w' (hb8.trans hw')) HFIT.out.small (by omega) hM1 hM2 HFIT.out.len (Nat.le_trans HFIT.out.few (by omega)))
                      generalize plWrite M D0 L0 a.num a.of_ a.data.l = wr2 at *
                      obtain ⟨we, wD, wL⟩ := wr2
                      simp only at HFT HW1 HW2
                      go_wp2_with fail
                      refine HLT.out.mono ?_
                      rintro e w8 ⟨rfl, hl8, hb8⟩
                      obtain ⟨g2, hg2⟩ : ∃ g2, g2 = w7.heap.size := ⟨_, rfl⟩
                      have hx8 := (HQ7.out.also hb8 (Y := fun g => g = w7.heap.size) (fun g hg => ⟨by omega, by have := (Array.getElem?_eq_some_iff.1 hl8).1; omega⟩))
                      rw [← hg2] at hl8 hx8 ⊢
                      have HX8 := Lib.hid hx8
                      have HL8 := Lib.hid hl8
                      have HB8 := Lib.hid (HB7.out.trans (Step.of_below (X := fun _ => False) hb8 HQ7.out.n_le).2)
                      have HBX8 := Lib.hid (HBX.out.below hb8)
                      have HG2 := Lib.hid hg2
                      have HGN := Lib.hid (show w.heap.size ≤ g2 by have := HGX.out; omega)
                      clear hl8 hb8 hx8 b4 b0 HLT hg2
                      have b1 : w8.cell? ⟨gx, 1, none⟩ = some (.int .u32 (a.num : Int)) := RecAt.cell HBX8.out 1 (by omega)
                      have b2 : w8.cell? ⟨gx, 2, none⟩ = some (.int .u8 (a.of_ : Int)) := RecAt.cell HBX8.out 2 (by omega)
                      go_wp2_with fail
                      refine (HW1.out _ _ _ _ HX8.out HL8.out (.inr rfl)).mono ?_
                      rintro e w9 ⟨rfl, Z9, hx9, hs9⟩
                      have HX9 := Lib.hid hx9
                      have HL9 := Lib.hid (HL8.out.step hs9 (.inr rfl))
                      have HBX9 := Lib.hid (HBX8.out.step hs9 (.inl rfl))
                      have HB9 := Lib.hid (HB8.out.trans hs9.2)
                      clear hx9 hs9 b1 b2 HW1 HX8
                      have b4 : w9.cell? ⟨gx, 4, none⟩ = some (.slice a.data.A a.data.l.length a.data.c) := RecAt.cell HBX9.out 4 (by omega)
                      have HWH := Lib.hid (whole_any g2 a.data.A a.data.c a.data.l w9 (by have := HDL.out; omega) HL9.out (HDO.out w9 HB9.out).lies)
                      go_wp2_with fail
                      refine HWH.out.mono ?_
                      rintro e w10 ⟨rfl, hb10⟩
                      have HX10 := Lib.hid (HX9.out.below hb10)
                      have HB10 := Lib.hid (HB9.out.trans (Step.of_below (X := fun _ => False) hb10 HX9.out.n_le).2)
                      have HBX10 := Lib.hid (HBX9.out.below hb10)
                      have HSP := Lib.hid (spoil_any g2 a.data.l.length _ w10 (by have := HDL.out; omega) (HL9.out.below hb10) (by simp [ns]))
                      clear hb10 b4 HWH HX9
                      go_wp2_with fail
                      refine HSP.out.mono ?_
                      rintro e w11 ⟨rfl, hg11⟩
                      have hc11 : Chg (fun g => g = g2) w10 w11 := Chg.of_grown hg11 (fun g e => by cases e; rfl)
                      have HX11 := Lib.hid (HX10.out.keep hc11 (fun g _ e => .inr e))
                      have HB11 := Lib.hid (HB10.out.trans (hc11.below HX10.out.n_le (fun g e => by rw [e]; exact HGN.out)))
                      have HBX11 := Lib.hid (RecAt.keep HBX10.out hc11 (fun e => by have := HGX.out; have := HG2.out; omega))
                      clear hg11 hc11 HSP HX10
                      have b1 : w11.cell? ⟨gx, 1, none⟩ = some (.int .u32 (a.num : Int)) := RecAt.cell HBX11.out 1 (by omega)
                      have b2 : w11.cell? ⟨gx, 2, none⟩ = some (.int .u8 (a.of_ : Int)) := RecAt.cell HBX11.out 2 (by omega)
                      have b4 : w11.cell? ⟨gx, 4, none⟩ = some (.slice a.data.A a.data.l.length a.data.c) := RecAt.cell HBX11.out 4 (by omega)
                      have z1 : ((we : Int) != (we : Int)) = false := by simp
                      go_wp2_with fail
                      refine (HW2.out w11 HB11.out _ _ _ _ _ HX11.out).mono ?_
                      rintro e w12 ⟨rfl, Z12, hx12, hs12⟩
                      have HX12 := Lib.hid hx12
                      have HB12 := Lib.hid (HB11.out.trans hs12.2)
                      clear hx12 hs12 b1 b2 b4 HW2
                      go_wp2_with fail
                      go_meet
                      case rel => exact .of HFT.out HX12.out (by omega) (by omega) HB12.out
                  · as_aux_lemma =>
                      have g0 : ((a.kind : Int) % 9 == 0) = false := by simp; omega
                      have h0 : ¬ (a.kind : Int) % 9 = 0 := by omega
                      have g1 : ((a.kind : Int) % 9 == 1) = false := by simp; omega
                      have h1 : ¬ (a.kind : Int) % 9 = 1 := by omega
                      have g2 : ((a.kind : Int) % 9 == 2) = false := by simp; omega
                      have h2 : ¬ (a.kind : Int) % 9 = 2 := by omega
                      have g3 : ((a.kind : Int) % 9 == 3) = false := by simp; omega
                      have h3 : ¬ (a.kind : Int) % 9 = 3 := by omega
                      have g4 : ((a.kind : Int) % 9 == 4) = true := by simp; omega
                      have h4 : (a.kind : Int) % 9 = 4 := by omega
                      clear hk
                      have HFT := Lib.hid (HFIT.out.write hM1 a.num a.of_ a.data.l)
                      have hof := HAO.out.of_
                      have HOF := Lib.hid hof
                      have b4 : w7.cell? ⟨gx, 4, none⟩ = some (.slice a.data.A a.data.l.length a.data.c) := RecAt.cell HBX.out 4 (by omega)
                      have HDO := Lib.hid (fun (w' : World) (h : Below w.heap.size w w') => HAO.out.data.below h)
                      have HLT := Lib.hid (lent_any a.data.A a.data.c a.data.l w7 (by have := HDL.out; omega) (HDO.out w7 HB7.out).lies (HDO.out w7 HB7.out).nil)
                      have HW1 := Lib.hid (fun (wv : World) (Z X : Nat → Prop) (g : Nat) (h : QuadX w.heap.size wv P d q r b M D0 L0 D0 L0 j j Z X) (hl : LentB wv g a.data.l) (hX : X g) => qx_write h a.num a.of_ HKN.out HOF.out a.data.l (some ⟨g, 0, none⟩) (a.data.l.length + 2) a.data.l.length rfl hl.at (fun x hx => by cases hx; exact hX) (fun e => by cases e) (HDO.out w7 HB7.out).bytes HFIT.out.small (by omega) hM2 (by omega))
                      have HW2 := Lib.hid (fun (w8 : World) (hb8 : Below w.heap.size w w8) (Z X : Nat → Prop) (D1 : Dsk) (L1 : List Hand) (c1 : Nat) (h : QuadX w.heap.size w8 P d q r b M D1 L1 D0 L0 c1 j Z X) => qx_rwrite h a.num a.of_ HKN.out HOF.out a.data (fun w' hw' => HDO.out w' (hb8.trans hw')) HFIT.out.small (by omega) hM1 hM2 HFIT.out.len (Nat.le_trans HFIT.out.few (by omega)))
                      generalize plWrite M D0 L0 a.num a.of_ a.data.l = wr2 at *
                      obtain ⟨we, wD, wL⟩ := wr2
                      simp only at HFT HW1 HW2
                      go_wp2_with fail
                      refine HLT.out.mono ?_
                      rintro e w8 ⟨rfl, hl8, hb8⟩
                      obtain ⟨g2, hg2⟩ : ∃ g2, g2 = w7.heap.size := ⟨_, rfl⟩
                      have hx8 := (HQ7.out.also hb8 (Y := fun g => g = w7.heap.size) (fun g hg => ⟨by omega, by have := (Array.getElem?_eq_some_iff.1 hl8).1; omega⟩))
                      rw [← hg2] at hl8 hx8 ⊢
                      have HX8 := Lib.hid hx8
                      have HL8 := Lib.hid hl8
                      have HB8 := Lib.hid (HB7.out.trans (Step.of_below (X := fun _ => False) hb8 HQ7.out.n_le).2)
                      have HBX8 := Lib.hid (HBX.out.below hb8)
                      have HG2 := Lib.hid hg2
                      have HGN := Lib.hid (show w.heap.size ≤ g2 by have := HGX.out; omega)
                      clear hl8 hb8 hx8 b4 b0 HLT hg2
                      have b1 : w8.cell? ⟨gx, 1, none⟩ = some (.int .u32 (a.num : Int)) := RecAt.cell HBX8.out 1 (by omega)
                      have b2 : w8.cell? ⟨gx, 2, none⟩ = some (.int .u8 (a.of_ : Int)) := RecAt.cell HBX8.out 2 (by omega)
                      go_wp2_with fail
                      refine (HW1.out _ _ _ _ HX8.out HL8.out (.inr rfl)).mono ?_
                      rintro e w9 ⟨rfl, Z9, hx9, hs9⟩
                      have HX9 := Lib.hid hx9
                      have HL9 := Lib.hid (HL8.out.step hs9 (.inr rfl))
                      have HBX9 := Lib.hid (HBX8.out.step hs9 (.inl rfl))
                      have HB9 := Lib.hid (HB8.out.trans hs9.2)
                      clear hx9 hs9 b1 b2 HW1 HX8
                      have b4 : w9.cell? ⟨gx, 4, none⟩ = some (.slice a.data.A a.data.l.length a.data.c) := RecAt.cell HBX9.out 4 (by omega)
                      have HWH := Lib.hid (whole_any g2 a.data.A a.data.c a.data.l w9 (by have := HDL.out; omega) HL9.out (HDO.out w9 HB9.out).lies)
                      go_wp2_with fail
                      refine HWH.out.mono ?_
                      rintro e w10 ⟨rfl, hb10⟩
                      have HX10 := Lib.hid (HX9.out.below hb10)
                      have HB10 := Lib.hid (HB9.out.trans (Step.of_below (X := fun _ => False) hb10 HX9.out.n_le).2)
                      have HBX10 := Lib.hid (HBX9.out.below hb10)
                      have HSP := Lib.hid (spoil_any g2 a.data.l.length _ w10 (by have := HDL.out; omega) (HL9.out.below hb10) (by simp [ns]))
                      clear hb10 b4 HWH HX9
                      go_wp2_with fail
                      refine HSP.out.mono ?_
                      rintro e w11 ⟨rfl, hg11⟩
                      have hc11 : Chg (fun g => g = g2) w10 w11 := Chg.of_grown hg11 (fun g e => by cases e; rfl)
                      have HX11 := Lib.hid (HX10.out.keep hc11 (fun g _ e => .inr e))
                      have HB11 := Lib.hid (HB10.out.trans (hc11.below HX10.out.n_le (fun g e => by rw [e]; exact HGN.out)))
                      have HBX11 := Lib.hid (RecAt.keep HBX10.out hc11 (fun e => by have := HGX.out; have := HG2.out; omega))
                      clear hg11 hc11 HSP HX10
                      have b1 : w11.cell? ⟨gx, 1, none⟩ = some (.int .u32 (a.num : Int)) := RecAt.cell HBX11.out 1 (by omega)
                      have b2 : w11.cell? ⟨gx, 2, none⟩ = some (.int .u8 (a.of_ : Int)) := RecAt.cell HBX11.out 2 (by omega)
                      have b4 : w11.cell? ⟨gx, 4, none⟩ = some (.slice a.data.A a.data.l.length a.data.c) := RecAt.cell HBX11.out 4 (by omega)
                      have z1 : ((we : Int) != (we : Int)) = false := by simp
                      go_wp2_with fail
                      refine (HW2.out w11 HB11.out _ _ _ _ _ HX11.out).mono ?_
                      rintro e w12 ⟨rfl, Z12, hx12, hs12⟩
                      have HX12 := Lib.hid hx12
                      have HB12 := Lib.hid (HB11.out.trans hs12.2)
                      clear hx12 hs12 b1 b2 b4 HW2
                      go_wp2_with fail
                      go_meet
                      case rel => exact .of HFT.out HX12.out (by omega) (by omega) HB12.out
                  · as_aux_lemma =>
                      have g0 : ((a.kind : Int) % 9 == 0) = false := by simp; omega
                      have h0 : ¬ (a.kind : Int) % 9 = 0 := by omega
                      have g1 : ((a.kind : Int) % 9 == 1) = false := by simp; omega
                      have h1 : ¬ (a.kind : Int) % 9 = 1 := by omega
                      have g2 : ((a.kind : Int) % 9 == 2) = false := by simp; omega
                      have h2 : ¬ (a.kind : Int) % 9 = 2 := by omega
                      have g3 : ((a.kind : Int) % 9 == 3) = false := by simp; omega
                      have h3 : ¬ (a.kind : Int) % 9 = 3 := by omega
                      have g4 : ((a.kind : Int) % 9 == 4) = false := by simp; omega
                      have h4 : ¬ (a.kind : Int) % 9 = 4 := by omega
                      have g5 : ((a.kind : Int) % 9 == 5) = true := by simp; omega
                      have h5 : (a.kind : Int) % 9 = 5 := by omega
                      clear hk
                      have b1 : w7.cell? ⟨gx, 1, none⟩ = some (.int .u32 (a.num : Int)) := RecAt.cell HBX.out 1 (by omega)
                      go_wp2_with fail
                      refine (qx_forget HQ7.out a.num HKN.out).mono ?_
                      rintro e w8 ⟨rfl, Z8, hx8, hs8⟩
                      have HX8 := Lib.hid hx8
                      have HB8 := Lib.hid (HB7.out.trans hs8.2)
                      have b1' : w8.cell? ⟨gx, 1, none⟩ = some (.int .u32 (a.num : Int)) := RecAt.cell (HBX.out.step hs8 rfl) 1 (by omega)
                      clear hx8 hs8 b0 b1
                      go_wp2_with fail
                      refine (qx_rforget HX8.out a.num HKN.out (Nat.le_trans HFIT.out.few (by omega))).mono ?_
                      rintro e w9 ⟨rfl, Z9, hx9, hs9⟩
                      have HX9 := Lib.hid hx9
                      have HB9 := Lib.hid (HB8.out.trans hs9.2)
                      clear hx9 hs9 b1'
                      go_wp2_with fail
                      go_meet
                      case rel => exact .of (HFIT.out.forget a.num) HX9.out (by omega) (by omega) HB9.out
                  · as_aux_lemma =>
                      have g0 : ((a.kind : Int) % 9 == 0) = false := by simp; omega
                      have h0 : ¬ (a.kind : Int) % 9 = 0 := by omega
                      have g1 : ((a.kind : Int) % 9 == 1) = false := by simp; omega
                      have h1 : ¬ (a.kind : Int) % 9 = 1 := by omega
                      have g2 : ((a.kind : Int) % 9 == 2) = false := by simp; omega
                      have h2 : ¬ (a.kind : Int) % 9 = 2 := by omega
                      have g3 : ((a.kind : Int) % 9 == 3) = false := by simp; omega
                      have h3 : ¬ (a.kind : Int) % 9 = 3 := by omega
                      have g4 : ((a.kind : Int) % 9 == 4) = false := by simp; omega
                      have h4 : ¬ (a.kind : Int) % 9 = 4 := by omega
                      have g5 : ((a.kind : Int) % 9 == 5) = false := by simp; omega
                      have h5 : ¬ (a.kind : Int) % 9 = 5 := by omega
                      have g6 : ((a.kind : Int) % 9 == 6) = true := by simp; omega
                      have h6 : (a.kind : Int) % 9 = 6 := by omega
                      clear hk
                      have HFT := Lib.hid HFIT.out.sync
                      have HR1 := Lib.hid (qx_sync HQ7.out HFIT.out.small (by omega))
                      have HR2 := Lib.hid (fun (wv : World) (Z X : Nat → Prop) (D1 : Dsk) (L1 : List Hand) (c1 : Nat) (h : QuadX w.heap.size wv P d q r b M D1 L1 D0 L0 c1 j Z X) => qx_rsync h HFIT.out.small (by omega))
                      generalize D0.sync = sy at *
                      obtain ⟨se, sD⟩ := sy
                      simp only at HFT HR1 HR2
                      have z1 : ((se : Int) != (se : Int)) = false := by simp
                      go_wp2_with fail
                      refine HR1.out.mono ?_
                      rintro e w8 ⟨rfl, Z8, hx8, hs8⟩
                      have HX8 := Lib.hid hx8
                      have HB8 := Lib.hid (HB7.out.trans hs8.2)
                      clear hx8 hs8 b0 HR1
                      go_wp2_with fail
                      refine (HR2.out _ _ _ _ _ _ HX8.out).mono ?_
                      rintro e w9 ⟨rfl, Z9, hx9, hs9⟩
                      have HX9 := Lib.hid hx9
                      have HB9 := Lib.hid (HB8.out.trans hs9.2)
                      clear hx9 hs9 HR2
                      go_wp2_with fail
                      go_meet
                      case rel => exact .of HFT.out HX9.out (by omega) (by omega) HB9.out
                  · as_aux_lemma =>
                      have g0 : ((a.kind : Int) % 9 == 0) = false := by simp; omega
                      have h0 : ¬ (a.kind : Int) % 9 = 0 := by omega
                      have g1 : ((a.kind : Int) % 9 == 1) = false := by simp; omega
                      have h1 : ¬ (a.kind : Int) % 9 = 1 := by omega
                      have g2 : ((a.kind : Int) % 9 == 2) = false := by simp; omega
                      have h2 : ¬ (a.kind : Int) % 9 = 2 := by omega
                      have g3 : ((a.kind : Int) % 9 == 3) = false := by simp; omega
                      have h3 : ¬ (a.kind : Int) % 9 = 3 := by omega
                      have g4 : ((a.kind : Int) % 9 == 4) = false := by simp; omega
                      have h4 : ¬ (a.kind : Int) % 9 = 4 := by omega
                      have g5 : ((a.kind : Int) % 9 == 5) = false := by simp; omega
                      have h5 : ¬ (a.kind : Int) % 9 = 5 := by omega
                      have g6 : ((a.kind : Int) % 9 == 6) = false := by simp; omega
                      have h6 : ¬ (a.kind : Int) % 9 = 6 := by omega
                      have g7 : ((a.kind : Int) % 9 == 7) = true := by simp; omega
                      have h7 : (a.kind : Int) % 9 = 7 := by omega
                      clear hk
                      have hof := HAO.out.of_
                      have han := HAO.out.n
                      have HFT := Lib.hid (HFIT.out.fail (IntKind.i64.wrap ((a.of_ : Int).tmod 4)) a.n)
                      have HR1 := Lib.hid (qx_fail (HQ7.out.below (below_drew0 (Below.refl _ w7))) (IntKind.i64.wrap ((a.of_ : Int).tmod 4)) a.n HAO.out.n.2)
                      have HR2 := Lib.hid (fun (wv : World) (Z X : Nat → Prop) (D1 : Dsk) (L1 : List Hand) (c1 : Nat) (h : QuadX w.heap.size wv P d q r b M D1 L1 D0 L0 c1 j Z X) => qx_rfail h (IntKind.i64.wrap ((a.of_ : Int).tmod 4)) a.n HAO.out.n.2)
                      have b2 : w7.cell? ⟨gx, 2, none⟩ = some (.int .u8 (a.of_ : Int)) := RecAt.cell HBX.out 2 (by omega)
                      have b3 : w7.cell? ⟨gx, 3, none⟩ = some (.int .i64 a.n) := RecAt.cell HBX.out 3 (by omega)
                      have HBD := Lib.hid (below_drewN HB7.out 1)
                      have HBXD := Lib.hid (HBX.out.below (below_drew0 (Below.refl _ w7)))
                      generalize D0.setFail (IntKind.i64.wrap ((a.of_ : Int).tmod 4)) a.n = sy at *
                      obtain ⟨se, sD⟩ := sy
                      simp only at HFT HR1 HR2
                      have z1 : ((se : Int) != (se : Int)) = false := by simp
                      clear b0
                      go_wp2_with fail
                      go_region_held3 (fun W' => W'.cell? ⟨gx, 2, none⟩ = some (.int .u8 (a.of_ : Int)) ∧ W'.cell? ⟨gx, 3, none⟩ = some (.int .i64 a.n)) (first | exact ⟨b2, b3⟩ | exact ⟨RecAt.cell HBX9.out 2 (by omega), RecAt.cell HBX9.out 3 (by omega)⟩ | exact ⟨RecAt.cell HBX8.out 2 (by omega), RecAt.cell HBX8.out 3 (by omega)⟩ | assumption)
                        (first
                          | (go_at_call 25; refine HR1.out.mono ?_; rintro e w8 ⟨rfl, Z8, hx8, hs8⟩; have HX8 := Lib.hid hx8; have HB8 := Lib.hid (HBD.out.trans hs8.2); have HBX8 := Lib.hid (HBXD.out.step hs8 rfl); clear hx8 hs8)
                          | (go_at_call 26; refine (HR2.out _ _ _ _ _ _ HX8.out).mono ?_; rintro e w9 ⟨rfl, Z9, hx9, hs9⟩; have HX9 := Lib.hid hx9; have HB9 := Lib.hid (HB8.out.trans hs9.2); have HBX9 := Lib.hid (HBX8.out.step hs9 rfl); clear hx9 hs9))
                      go_wp2_with fail
                      go_meet
                      case rel => exact .of HFT.out HX9.out (by omega) (by omega) HB9.out
                  · as_aux_lemma =>
                      have g0 : ((a.kind : Int) % 9 == 0) = false := by simp; omega
                      have h0 : ¬ (a.kind : Int) % 9 = 0 := by omega
                      have g1 : ((a.kind : Int) % 9 == 1) = false := by simp; omega
                      have h1 : ¬ (a.kind : Int) % 9 = 1 := by omega
                      have g2 : ((a.kind : Int) % 9 == 2) = false := by simp; omega
                      have h2 : ¬ (a.kind : Int) % 9 = 2 := by omega
                      have g3 : ((a.kind : Int) % 9 == 3) = false := by simp; omega
                      have h3 : ¬ (a.kind : Int) % 9 = 3 := by omega
                      have g4 : ((a.kind : Int) % 9 == 4) = false := by simp; omega
                      have h4 : ¬ (a.kind : Int) % 9 = 4 := by omega
                      have g5 : ((a.kind : Int) % 9 == 5) = false := by simp; omega
                      have h5 : ¬ (a.kind : Int) % 9 = 5 := by omega
                      have g6 : ((a.kind : Int) % 9 == 6) = false := by simp; omega
                      have h6 : ¬ (a.kind : Int) % 9 = 6 := by omega
                      have g7 : ((a.kind : Int) % 9 == 7) = false := by simp; omega
                      have h7 : ¬ (a.kind : Int) % 9 = 7 := by omega
                      clear hk
                      have HKO := Lib.hid (fun (w' : World) (h : Below w.heap.size w w') => (HAO.out.keep.below h))
                      have b5 : w7.cell? ⟨gx, 5, none⟩ = some (.slice a.keep.A a.keep.l.length a.keep.c) := RecAt.cell HBX.out 5 (by omega)
                      have HFT := Lib.hid (HFIT.out.cut a.keep.l)
                      have hg0 : ((a.kind : Int) % 9 == 8) = true := by simp; omega
                      go_wp2_with fail
                      refine (qx_cut HQ7.out a.keep.A a.keep.c a.keep.l (fun w' hw' => (HKO.out w' (HB7.out.trans hw')).lies) HFIT.out.small (by omega)).mono ?_
                      rintro e w8 ⟨rfl, Z8, hx8, hs8⟩
                      have HX8 := Lib.hid hx8
                      have HB8 := Lib.hid (HB7.out.trans hs8.2)
                      have b5' : w8.cell? ⟨gx, 5, none⟩ = some (.slice a.keep.A a.keep.l.length a.keep.c) := RecAt.cell (HBX.out.step hs8 rfl) 5 (by omega)
                      clear hx8 hs8 b0 b5
                      go_wp2_with fail
                      refine (qx_rcut HX8.out a.keep.A a.keep.c a.keep.l (fun w' hw' => (HKO.out w' (HB8.out.trans hw')).lies) (Nat.le_trans (HKO.out w8 HB8.out).small (by omega)) HFIT.out.small (by omega)).mono ?_
                      rintro e w9 ⟨rfl, Z9, hx9, hs9⟩
                      have HX9 := Lib.hid hx9
                      have HB9 := Lib.hid (HB8.out.trans hs9.2)
                      clear hx9 hs9 b5'
                      go_wp2_with fail
                      go_meet
                      case rel => exact .of HFT.out HX9.out (by omega) (by omega) HB9.out
                case rest =>
                  as_aux_lemma =>
                    clear HBX HQ7 HB7 HFIT HKN HAO HDL HGX b0
                    obtain ⟨D1, L1, Z1, hfit1, hq1, hb1⟩ := hcut
                    have HFIT1 := Lib.hid hfit1
                    obtain ⟨A1, cap1, l1, hlist⟩ := qx_list hq1
                    obtain ⟨r5, r6, r7⟩ := qx_counted hq1
                    have HQD := Lib.hid (hq1.below (below_drew0 (Below.refl _ wc)))
                    have HCO := Lib.hid (qx_counts HQD.out)
                    have hpgs := hfit1.pages
                    have HBD := Lib.hid (below_drewN hb1 1)
                    have HL0 := Lib.hid hlist
                    have HLEN := Lib.hid (show L1.length ≤ 200 from Nat.le_trans hfit1.few (by omega))
                    clear hq1 hb1 hfit1 hlist
                    have z1 : ((D1.n 1) != (D1.n 1)) = false := by simp
                    refine hKo _ _ ?_
                    clear hKo
                    go_wp2_with fail
                    go_region_held3 (fun W' => W'.cell? ⟨r, 5, none⟩ = some (.int .i64 (D1.n 1)) ∧ W'.cell? ⟨r, 6, none⟩ = some (.int .i64 (D1.n 2)) ∧ W'.cell? ⟨r, 7, none⟩ = some (.int .i64 (D1.n 3)) ∧ W'.cell? ⟨q, 2, none⟩ = some (.slice A1 L1.length cap1)) (first | exact ⟨r5, r6, r7, l1⟩ | exact HK8.out | assumption)
                      (first
                        | (go_at_call 29; refine HCO.out.mono ?_; rintro e w8 ⟨rfl, hb8⟩; have HB8 := Lib.hid hb8; have HX8 := Lib.hid (HQD.out.below hb8); have HK8 := Lib.hid (show w8.cell? ⟨r, 5, none⟩ = some (.int .i64 (D1.n 1)) ∧ w8.cell? ⟨r, 6, none⟩ = some (.int .i64 (D1.n 2)) ∧ w8.cell? ⟨r, 7, none⟩ = some (.int .i64 (D1.n 3)) ∧ w8.cell? ⟨q, 2, none⟩ = some (.slice A1 L1.length cap1) from ⟨(Chg.of_below (F := fun _ => False) hb8).cell r5 (fun h => h), (Chg.of_below (F := fun _ => False) hb8).cell r6 (fun h => h), (Chg.of_below (F := fun _ => False) hb8).cell r7 (fun h => h), (Chg.of_below (F := fun _ => False) hb8).cell l1 (fun h => h)⟩); clear hb8)
                        | (go_at_call 30; refine (qx_len HX8.out).mono ?_; rintro e w9 ⟨rfl, rfl⟩)
                        | (go_at_call 31; refine (qx_pages HX8.out).mono ?_; rintro e w10 ⟨rfl, rfl⟩))
                    have HLI := Lib.hid (show ∀ i x, L1[i]? = some x → x.num < 4294967296 ∧ ∃ g o, A1 = some ⟨g, o, none⟩ ∧ w8.cell? ⟨g, o + i * 3, none⟩ = some (.int .u32 (x.num : Int)) from fun i x hx => by
                      obtain ⟨y1, g, o, y2, y3⟩ := HL0.out i x hx
                      exact ⟨y1, g, o, y2, (Chg.of_below (F := fun _ => False) HB8.out).cell (show wc.drew.cell? _ = _ from y3) (fun h => h)⟩)
                    have l2 := HK8.out.2.2.2
                    have HBW := Lib.hid (HBD.out.trans (Step.of_below (X := fun _ => False) HB8.out HQD.out.n_le).2)
                    clear r5 r6 r7 l1 HCO HQD HK8 HBD HB8 HL0
                    go_wp2_with fail
                    go_loopg [30] L1.length (fun gk i wr => ∃ k : Nat, gk = L1.length - k ∧ i = .int .i64 k ∧ k ≤ L1.length ∧ wr = w8)
                    case atStart => exact ⟨0, by omega, rfl, by omega, rfl⟩
                    case round =>
                      obtain ⟨k, rfl, rfl, hkl, rfl⟩ := hrel
                      have hL200 := HLEN.out
                      by_cases hk : k < L1.length
                      · have hki : (k : Int) < (L1.length : Int) := by omega
                        have hk0 : (0 : Int) ≤ (k : Int) := by omega
                        obtain ⟨x, hx⟩ : ∃ x, L1[k]? = some x := ⟨L1[k], List.getElem?_eq_getElem hk⟩
                        obtain ⟨hxn, g, o, rfl, hcx⟩ := HLI.out k x hx
                        have his : isHand x.num L1 = true := by
                          unfold isHand
                          rw [List.any_eq_true]
                          exact ⟨x, List.mem_of_getElem? hx, by simp⟩
                        have HHA := Lib.hid (qx_has HX8.out x.num hxn)
                        rw [his] at HHA
                        clear hx his
                        go_wp2_with fail
                        refine HHA.out.mono ?_
                        rintro e w9 ⟨rfl, rfl⟩
                        go_wp2_with fail
                        go_roundg (L1.length - (k + 1))
                        case measure => omega
                        case rel => exact ⟨k + 1, rfl, by go_num, by omega, rfl⟩
                      · have hki : ¬ (k : Int) < (L1.length : Int) := by omega
                        go_wp2_with fail
                        go_roundg (l.length - (j + 1))
                        case measure => omega
                        case rel => exact ⟨j + 1, by omega, rfl, by go_num, D1, L1, Z1, HFIT1.out, HX8.out, HBW.out⟩
              · obtain rfl : j = l.length := by omega
                have HQ := Lib.hid hq
                have HB := Lib.hid hb
                have HIM := Lib.hid (qx_image hq)
                have HRI := Lib.hid (fun (wv : World) (h : QuadX w.heap.size wv P d q r b M D0 L0 D0 L0 l.length l.length Z0 (fun _ => False)) => qx_rimage h)
                have hpb : D0.last.flatten.length ≤ 140737488355328 := by
                  obtain ⟨X1, hp1, _⟩ := hq.pool
                  have ok := hp1.ok
                  rw [rows_length (m := 128) (fun s hs => (ok.last s hs).1)]
                  obtain ⟨p, h1, h2, h3⟩ := ok.pages
                  omega
                generalize D0.last.flatten = FL at *
                clear hq hb
                go_wp2_with fail
                refine HIM.out.mono ?_
                rintro e w8 ⟨A8, p8, rfl, hr8, hb8⟩
                have HX8 := Lib.hid (HQ.out.below hb8)
                have HR8 := Lib.hid hr8
                have HB8 := Lib.hid (HB.out.trans (Step.of_below (X := fun _ => False) hb8 HQ.out.n_le).2)
                clear hr8 hb8
                go_wp2_with fail
                refine (HRI.out _ HX8.out).mono ?_
                rintro e w9 ⟨A9, p9, rfl, hr9, hb9⟩
                have HX9 := Lib.hid (HX8.out.below hb9)
                have HB9 := Lib.hid (HB8.out.trans (Step.of_below (X := fun _ => False) hb9 HX8.out.n_le).2)
                have HSE := Lib.hid (same_eq A8 A9 FL.length FL.length p8 p9 FL FL w9 rfl rfl hpb rfl ((buf_at HR8.out).2.below hb9) (buf_at hr9).2)
                clear hr9 hb9
                go_wp2_with fail
                refine HSE.out.mono ?_
                rintro e w10 ⟨rfl, hb10⟩
                have HX10 := Lib.hid (HX9.out.below hb10)
                have HB10 := Lib.hid (HB9.out.trans (Step.of_below (X := fun _ => False) hb10 HX9.out.n_le).2)
                clear hb10
                go_wp2_with fail
                refine (qx_own HX10.out (by omega)).mono ?_
                rintro e w11 ⟨rfl, hb11⟩
                go_wp2_with fail
                go_ret
                exact ⟨rfl, HB10.out.trans hb11⟩
end Go.Proofs.YtfbjjblgcgjndaaGreat
