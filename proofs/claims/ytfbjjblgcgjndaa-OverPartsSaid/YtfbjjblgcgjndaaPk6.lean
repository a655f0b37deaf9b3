/- Joined texts: Pool4, Step, Pool5, Page1, Page2, Page3, Page4, Page5, Page6, Meta1, Meta2. -/
import Derived.Defers
import Derived.Recover
import Derived.IntWalk
import Derived.Deep.AppendSrc
import Derived.Test.YtfbjjblgcgjndaaPk1
import Derived.Test.YtfbjjblgcgjndaaPk4
import Derived.Test.YtfbjjblgcgjndaaPk5
set_option linter.unusedVariables false
set_option linter.unusedSimpArgs false

/- Contract of the pool's put: the walk. -/
namespace Go.Proofs.Ytfbjjblgcgjndaa
open Go.RowKit Go.Maps

def PlPut (n0 : Nat) (w : World) (P d most : Nat) (T : Nat → Prop) (L : List Hand) (c : Nat) (x : Ending) (w' : World) : Prop := x = .returned (.tuple #[]) ∧ PNow n0 w P d most T L c w'
theorem forget_num {n : Nat} {L : List Hand} : ∀ x, x ∈ forget n L → x.num ≠ n := fun x hx => by
  unfold forget at hx
  have := (List.mem_filter.1 hx).2
  simpa using this
/-- what put has laid, ahead of its last look -/
theorem put_laid {n0 : Nat} {w w1 w5 : World} {P d most e mb nb c b : Nat} {bl : List Nat} {hd : Nat → Hand} {x : Hand} {nx pv : Nat → Nat} {dat : Nat → Nat → Value} {M : DataW Unit} {Y Z T : Nat → Prop} (hT : ∀ g, T g → n0 ≤ g ∧ g < w1.heap.size) (hf : ∀ g, pfoot P e mb bl Y g → T g) (hn0 : n0 ≤ w1.heap.size) (hw : Chg T w w1) (hb : b ∉ e :: bl) (hbn : w1.heap.size ≤ b) (hZ : ∀ g, Z g → w1.heap.size ≤ g)
    (hin : PoolIn n0 w5 P d most e mb (nb + 1) (bl ++ [b]) (turn hd b x) nx pv dat M (fun g => Y g ∨ Z g)) (hc : Chg (fun g => g = mb ∨ g ∈ e :: bl) w1 w5) (hnb : nb ≤ c) :
    PoolAt n0 w5 P d most (bl.map hd ++ [x]) (c + 1) (fun g => T g ∨ (w1.heap.size ≤ g ∧ g < w5.heap.size)) ∧ Grows w T (fun g => T g ∨ (w1.heap.size ≤ g ∧ g < w5.heap.size)) ∧ Chg T w w5 := by
  have hbnm : b ∉ bl := fun hx => hb (List.mem_cons_of_mem _ hx)
  refine ⟨⟨⟨e, mb, nb + 1, bl ++ [b], turn hd b x, nx, pv, dat, M, _, hin, ?_, by omega, fun g hg => ?_⟩, fun g hg => ?_⟩, fun g hg => ?_, hw.trans hc (fun g _ hg => ?_)⟩
  · rw [List.map_append]
    congr 1
    · exact List.map_congr_left fun y hy => (turn_other _ _ _ _ (by rintro rfl; exact hbnm hy)).symm
    · simp [turn_same]
  · rcases hg with hg | hg | hg | hg
    · exact .inl (hf g (.inl hg))
    · exact .inl (hf g (.inr (.inl hg)))
    · simp only [List.mem_cons, List.mem_append, List.not_mem_nil, or_false] at hg
      rcases hg with hg | hg | hg
      · exact .inl (hf g (.inr (.inr (.inl (by rw [hg]; simp)))))
      · exact .inl (hf g (.inr (.inr (.inl (by simp [hg])))))
      · refine .inr ⟨by omega, ?_⟩
        have := (hin.ring.node b (by simp)).lt
        omega
    · rcases hg with hg | hg
      · exact .inl (hf g (.inr (.inr (.inr hg))))
      · exact .inr ⟨hZ g hg, (hin.base.2.2.2 g (.inr hg)).2⟩
  · rcases hg with hg | hg
    · exact ⟨(hT g hg).1, Nat.lt_of_lt_of_le (hT g hg).2 hc.size⟩
    · exact ⟨by omega, hg.2⟩
  · rcases hg with hg | hg
    · exact .inl hg
    · exact .inr (Nat.le_trans hw.size hg.1)
  · rcases hg with hg | hg
    · exact hf g (.inr (.inl hg))
    · exact hf g (.inr (.inr (.inl hg)))
set_option maxRecDepth 100000 in
set_option maxHeartbeats 4000000 in
theorem plput_any {n0 : Nat} {w : World} {P d most : Nat} {L : List Hand} {c : Nat} {T : Nat → Prop} (h : PoolAt n0 w P d most L c T) (x : Hand) (hx : x.Ok) (A : Option Addr) (cap : Nat) (hA : ∀ w', Chg T w w' → At w' A (ns .u8 x.pay)) (hnil : A = none → cap = 0) (hm : most ≤ 4611686018427387904) (hc : c ≤ 1000000000) :
    Calls Try.prog 144 #[.pointer (some ⟨P, 0, none⟩), .int .u32 (x.num : Int), .int .u8 (x.kind : Int), .slice A x.pay.length cap] w (PlPut n0 w P d most T (usePage most x L) (c + 1)) := by
  have HF := Lib.hid (forget_any h x.num hx.num)
  have hxn := hx.num
  have HX := Lib.hid hx
  have HA := Lib.hid hA
  have HNIL := Lib.hid hnil
  have HK := Lib.hid (pool_key hx.num)
  have HN0 := Lib.hid h.n_le
  obtain ⟨n, k, pay⟩ := x
  simp only at HF hxn HA HK ⊢
  have hpl : pay.length ≤ 1008 := hx.len
  obtain ⟨m, hmm⟩ : ∃ m, m = pay.length := ⟨_, rfl⟩
  rw [← hmm] at hpl ⊢
  have HMM := Lib.hid hmm
  clear h hx hA hnil hmm
  go_enter Try.func144, Try.ntmps144
  go_wp2_with fail
  refine HF.out.mono ?_
  rintro e0 w1 ⟨rfl, h1, hc1⟩
  obtain ⟨⟨e, mb, nb, bl, hd, nx, pv, dat, M, Y, hin, hL, hnb, hft⟩, hT⟩ := h1
  have HC1 := Lib.hid hc1
  have HIN := Lib.hid hin
  have HL := Lib.hid hL
  have HFT := Lib.hid hft
  have HT := Lib.hid hT
  have hcl := clone_any A cap m pay w1 HMM.out (by have := HMM.out; omega) (HA.out w1 hc1) HNIL.out
  have HCL := Lib.hid hcl
  clear hc1 hin hL hft hT hcl HF
  go_wp2_with fail
  refine HCL.out.mono ?_
  rintro e0 w2 ⟨v, rfl, hv, hb12, hs12⟩
  obtain ⟨A2, c2, hv2⟩ : ∃ A2 c2, v = .slice A2 m c2 := by
    obtain ⟨A2, c2, e', _⟩ := hv.at
    exact ⟨A2, c2, by rw [e', HMM.out]⟩
  subst hv2
  have HV := Lib.hid hv
  have HB12 := Lib.hid hb12
  obtain ⟨w3, hw3⟩ : ∃ w3, w3 = w2.alloc (.cells #[.pointer none, .pointer none, .int .u32 (n : Int), .int .u8 (k : Int), .slice A2 m c2] 203) := ⟨_, rfl⟩
  have p2 : w3.cell? ⟨P, 2, none⟩ = some (.map (some mb)) := by
    rw [hw3]
    exact (HIN.out.rcd.keep (G := fun _ => False) (.of_below (below_alloc0 hb12 _)) (fun h => h)).cell 2 (by omega)
  have HM3 := Lib.hid (show w3.ownsMap Try.prog 22 ptrElem mb nb M from map_chg2 HIN.out.map (G := fun _ => False) (.of_below (by rw [hw3]; exact below_alloc0 hb12 _)) (fun h => h))
  obtain ⟨b, hb⟩ : ∃ b, b = w2.heap.size := ⟨_, rfl⟩
  have HW3 := Lib.hid hw3
  have HB := Lib.hid hb
  clear hv hb12 hs12 hw3 hb HCL
  go_upto_region 2 with (fail)
  rw [← HW3.out, ← HB.out]
  go_wp2_with (at_mapUpdate; refine wpList_mapUpdate_own _ rfl _ _ _ 204 rfl 22 199 pool_keyed Try.under204 ptrElem mb nb M rfl HM3.out (by simp only [maxLen]; omega) _ _ (numKey n) rfl rfl HK.out (.lit (.int .i64 (b : Int))) [] (ptrElem_mk b) ?_; intro w4 hown4 hgrow4)
  have HW3' := Lib.hid (show w3 = w2.alloc (.cells #[.pointer none, .pointer none, .int .u32 (n : Int), .int .u8 (k : Int), .slice A2 pay.length c2] 203) by rw [← HMM.out]; exact HW3.out)
  have HV' := Lib.hid (show Buf w1.heap.size w2 (.slice A2 pay.length c2) pay by rw [← HMM.out]; exact HV.out)
  obtain ⟨r1, r2, r3, r4, r5, r6, r7⟩ := HIN.out.ready (n := n) (k := k) HB12.out HB.out HW3'.out hgrow4
  have HIA := Lib.hid (in_any r1 r2 r3 r4 r5 (fun i h2 h5 => by rw [turn_same]))
  have HR4 := Lib.hid r4
  have HM4 := Lib.hid hown4
  have HG4 := Lib.hid hgrow4
  clear r1 r2 r3 r4 r5 r6 r7 hown4 hgrow4 p2
  refine HIA.out.mono ?_
  rintro e0 w5 ⟨rfl, hi5, hc5⟩
  obtain ⟨hin5, hc15⟩ := HIN.out.added ⟨n, k, pay⟩ rfl HX.out (fun c hc => forget_num (L := L) (hd c) (by rw [HL.out]; exact List.mem_map.2 ⟨c, hc, rfl⟩)) HB12.out HV'.out HB.out HW3'.out HG4.out HM4.out hi5 hc5
  have q1 : w5.cell? ⟨P, 1, none⟩ = some (.int .i64 (most : Int)) := hin5.rcd.cell 1 (by omega)
  have q2 : w5.cell? ⟨P, 2, none⟩ = some (.map (some mb)) := hin5.rcd.cell 2 (by omega)
  have q3 : w5.cell? ⟨P, 3, none⟩ = some (.pointer (some ⟨e, 0, none⟩)) := hin5.rcd.cell 3 (by omega)
  have hlen : (Builtin.len_ #[204] 3 #[.map (some mb)]).run Try.prog w5.drew = .ok (.int .i64 ((bl.length + 1 : Nat) : Int)) w5.drew := by
    have := (hin5.map.drew).len Try.under204 3
    rw [hin5.mfor.size] at this
    simpa using this
  obtain ⟨hp5, hg5, hcw5⟩ := put_laid (w := w) (x := ⟨n, k, pay⟩) HT.out HFT.out (Nat.le_trans HN0.out HC1.out.size) HC1.out HR4.out (by rw [HB.out]; exact HB12.out.size) (fun g hg => (row_lt HV'.out hg).1) hin5 hc15 hnb
  rw [← HL.out] at hp5
  have HIN5 := Lib.hid hin5
  have HP5 := Lib.hid hp5
  have HG5 := Lib.hid hg5
  have HCW5 := Lib.hid hcw5
  have hbl : bl.length ≤ 1000000001 := by have h1 := HIN.out.map.size_le; rw [HIN.out.mfor.size] at h1; omega
  clear hi5 hc5 hin5 hc15 hp5 hg5 hcw5 HIA
  have hul : (forget n L ++ [(⟨n, k, pay⟩ : Hand)]).length = bl.length + 1 := by rw [HL.out]; simp
  have HUL := Lib.hid hul
  clear hul
  by_cases hbig : most < bl.length + 1
  · have hbig' : (most : Int) < ((bl.length + 1 : Nat) : Int) := by omega
    obtain ⟨f, rest, hfr⟩ : ∃ f rest, bl ++ [b] = f :: rest := by
      cases hq : bl ++ [b] with
      | nil => simp at hq
      | cons f rest => exact ⟨f, rest, rfl⟩
    have hin6 := HIN5.out
    rw [hfr] at hin6
    have hlk := hin6.ring.link.1
    have q4 : w5.cell? ⟨e, 1, none⟩ = some (.pointer (some ⟨f, 0, none⟩)) := by
      have := (hin6.ring.node e (by simp)).cell 1 (by omega)
      rw [this]
      show some (Value.pointer (some ⟨_, 0, none⟩)) = _
      rw [hlk]
    have hdf := hin6.dat f (by simp)
    have q5 : w5.cell? ⟨f, 2, none⟩ = some (.int .u32 (((turn hd b ⟨n, k, pay⟩ f).num : Nat) : Int)) := by
      have := (hin6.ring.node f (by simp)).cell 2 (by omega)
      rw [this]
      show some (turn dat b _ f 2) = _
      rw [hdf.1]
    have hfo := PoolIn.forget_one (l1 := []) (l2 := rest) hin6
    have hfl : (turn hd b ⟨n, k, pay⟩ f).num < 4294967296 := hdf.2.2.2.num
    have hmap : forget n L ++ [(⟨n, k, pay⟩ : Hand)] = (f :: rest).map (turn hd b ⟨n, k, pay⟩) := by
      rw [← hfr, List.map_append, HL.out]
      congr 1
      · exact List.map_congr_left fun y hy => (turn_other _ _ _ _ (by rintro rfl; exact HR4.out (List.mem_cons_of_mem _ hy))).symm
      · simp [turn_same]
    have hdrop : forget (turn hd b ⟨n, k, pay⟩ f).num (forget n L ++ [(⟨n, k, pay⟩ : Hand)]) = (forget n L ++ [(⟨n, k, pay⟩ : Hand)]).drop 1 := by
      rw [hmap]
      have : ([] ++ f :: rest) = f :: rest := rfl
      rw [this] at hfo
      rw [hfo]; rfl
    have hfg := forget_any (HP5.out.below (below_drew0 (Below.refl _ w5))) (turn hd b ⟨n, k, pay⟩ f).num hfl
    rw [hdrop] at hfg
    have HFG := Lib.hid hfg
    generalize (turn hd b ⟨n, k, pay⟩ f).num = fn at *
    clear hin6 hlk hdf hfo hmap hdrop hfg hfr hfl
    go_wp2_with fail
    go_region
    go_wp2_with fail
    refine HFG.out.mono ?_
    rintro e0 w6 ⟨rfl, h6, hc6⟩
    have H6 := Lib.hid h6
    have HC6 := Lib.hid hc6
    clear h6 hc6
    go_wp2_with fail
    go_end0
    refine ⟨rfl, _, ?_, HG5.out, ?_⟩
    · unfold usePage
      simp only
      rw [if_pos (by rw [HUL.out]; exact hbig)]
      exact H6.out
    · exact (HCW5.out.drew).trans HC6.out (fun g hl hg => by
        rcases hg with hg | hg
        · exact hg
        · have := HC1.out.size; omega)
  · have hbig' : ¬ (most : Int) < ((bl.length + 1 : Nat) : Int) := by omega
    go_wp2_with fail
    go_region
    go_wp2_with fail
    go_end0
    refine ⟨rfl, _, ?_, HG5.out, HCW5.out.drew⟩
    unfold usePage
    simp only
    rw [if_neg (by rw [HUL.out]; exact hbig)]
    exact HP5.out.below (below_drew0 (Below.refl _ w5))
end Go.Proofs.Ytfbjjblgcgjndaa

/- A step that leaves some blocks as they are. -/
namespace Go.Proofs.Ytfbjjblgcgjndaa
open Go.RowKit

/-- a step that leaves X -/
def Step (n0 : Nat) (X : Nat → Prop) (w w' : World) : Prop := Chg (fun g => ¬ X g) w w' ∧ Below n0 w w'
theorem Step.trans {n0 : Nat} {X Y : Nat → Prop} {w w1 w2 : World} (h : Step n0 X w w1) (k : Step n0 Y w1 w2) (hY : ∀ g, X g → Y g) : Step n0 X w w2 :=
  ⟨h.1.trans k.1 (fun g _ hg e => hg (hY g e)), h.2.trans k.2⟩
theorem Step.of_below {n0 : Nat} {X : Nat → Prop} {w w' : World} (h : Below w.heap.size w w') (hn : n0 ≤ w.heap.size) : Step n0 X w w' :=
  ⟨.of_below h, ⟨h.os, h.tape, h.output, h.size, fun i hi => h.block i (Nat.lt_of_lt_of_le hi hn)⟩⟩
end Go.Proofs.Ytfbjjblgcgjndaa

/- The pool over its disk: New, within, Sync; what a step leaves of both. -/
namespace Go.Proofs.Ytfbjjblgcgjndaa
open Go.RowKit Go.Maps

structure PoolOk (n0 : Nat) (w : World) (P d most : Nat) (D : Dsk) (L : List Hand) (c : Nat) (S T : Nat → Prop) : Prop where
  disk : DG n0 w d D S
  pool : PoolAt n0 w P d most L c T
  sep : ∀ g, S g → ¬ T g
/-- a pool and its disk, and blocks X aside of them -/
def PoolX (n0 : Nat) (w : World) (P d most : Nat) (D : Dsk) (L : List Hand) (c : Nat) (X : Nat → Prop) : Prop :=
  ∃ S T, PoolOk n0 w P d most D L c S T ∧ ∀ g, X g → g < w.heap.size ∧ ¬ S g ∧ ¬ T g
section
variable {n0 : Nat} {w w' : World} {P d most : Nat} {D : Dsk} {L : List Hand} {c : Nat} {X : Nat → Prop}
theorem PoolX.n_le (h : PoolX n0 w P d most D L c X) : n0 ≤ w.heap.size := by
  obtain ⟨S, T, h, _⟩ := h
  exact h.disk.new_n
theorem PoolX.less (h : PoolX n0 w P d most D L c X) {X' : Nat → Prop} (hX : ∀ g, X' g → X g) : PoolX n0 w P d most D L c X' := by
  obtain ⟨S, T, h, hx⟩ := h
  exact ⟨S, T, h, fun g hg => hx g (hX g hg)⟩
theorem PoolAt.moreC {n0 : Nat} {w : World} {P d most : Nat} {L : List Hand} {c c' : Nat} {T : Nat → Prop} (h : PoolAt n0 w P d most L c T) (hc : c ≤ c') : PoolAt n0 w P d most L c' T := by
  obtain ⟨⟨e, mb, nb, bl, hd, nx, pv, dat, M, Y, h1, h2, h3, h4⟩, h5⟩ := h
  exact ⟨⟨e, mb, nb, bl, hd, nx, pv, dat, M, Y, h1, h2, by omega, h4⟩, h5⟩
theorem PoolX.moreC (h : PoolX n0 w P d most D L c X) {c' : Nat} (hc : c ≤ c') : PoolX n0 w P d most D L c' X := by
  obtain ⟨S, T, h, hx⟩ := h
  exact ⟨S, T, ⟨h.disk, h.pool.moreC hc, h.sep⟩, hx⟩
theorem PoolX.keep (h : PoolX n0 w P d most D L c X) {G : Nat → Prop} (hc : Chg G w w') (hG : ∀ g, g < w.heap.size → G g → X g) : PoolX n0 w' P d most D L c X := by
  obtain ⟨S, T, h, hx⟩ := h
  have hc' : Chg (fun g => G g ∧ g < w.heap.size) w w' := ⟨hc.os, hc.tape, hc.output, hc.size, fun k hk hF => hc.block k hk (fun e => hF ⟨e, hk⟩)⟩
  have hG' : ∀ g, G g ∧ g < w.heap.size → X g := fun g hg => hG g hg.2 hg.1
  exact ⟨S, T, ⟨h.disk.keep hc' (fun g hg e => (hx g (hG' g e)).2.1 hg), h.pool.keep hc' (fun g hg e => (hx g (hG' g e)).2.2 hg), h.sep⟩, fun g hg => ⟨Nat.lt_of_lt_of_le (hx g hg).1 hc.size, (hx g hg).2⟩⟩
theorem PoolX.below (h : PoolX n0 w P d most D L c X) (hb : Below w.heap.size w w') : PoolX n0 w' P d most D L c X :=
  h.keep (G := fun _ => False) (.of_below hb) (fun _ _ h => h.elim)
theorem PoolX.also (h : PoolX n0 w P d most D L c X) (hb : Below w.heap.size w w') {Y : Nat → Prop} (hY : ∀ g, Y g → w.heap.size ≤ g ∧ g < w'.heap.size) : PoolX n0 w' P d most D L c (fun g => X g ∨ Y g) := by
  obtain ⟨S, T, h, hx⟩ := h
  refine ⟨S, T, ⟨h.disk.below hb, h.pool.below hb, h.sep⟩, fun g hg => ?_⟩
  rcases hg with hg | hg
  · exact ⟨Nat.lt_of_lt_of_le (hx g hg).1 hb.size, (hx g hg).2⟩
  · obtain ⟨a, b⟩ := hY g hg
    exact ⟨b, fun e => by have := h.disk.top g e; omega, fun e => by have := (h.pool.2 g e).2; omega⟩
theorem PoolX.cell0 (h : PoolX n0 w P d most D L c X) : w.cell? ⟨P, 0, none⟩ = some (.pointer (some ⟨d, 0, none⟩)) ∧ w.cell? ⟨P, 1, none⟩ = some (.int .i64 (most : Int)) := by
  obtain ⟨S, T, h, _⟩ := h
  obtain ⟨⟨e, mb, nb, bl, hd, nx, pv, dat, M, Y, h1, _⟩, _⟩ := h.pool
  exact ⟨h1.rcd.cell 0 (by omega), h1.rcd.cell 1 (by omega)⟩
theorem PoolX.ok (h : PoolX n0 w P d most D L c X) : D.Ok := by
  obtain ⟨S, T, h, _⟩ := h
  exact h.disk.ok
/-- the disk is worked on -/
theorem PoolX.disk (h : PoolX n0 w P d most D L c X) : ∃ S, DG n0 w d D S ∧ (∀ g, X g → ¬ S g) ∧ (∀ w' D', Now n0 w d S D' w' → PoolX n0 w' P d most D' L c X ∧ Step n0 X w w') ∧
    ∀ w' D' (Y : Nat → Prop), DG n0 w' d D' S → Chg S w w' → (∀ g, Y g → w.heap.size ≤ g ∧ g < w'.heap.size) → PoolX n0 w' P d most D' L c (fun g => X g ∨ Y g) ∧ Step n0 X w w' := by
  obtain ⟨S, T, h, hx⟩ := h
  have hn : n0 ≤ w.heap.size := h.disk.new_n
  have st : ∀ w', Chg S w w' → Step n0 X w w' := fun w' hc => ⟨hc.mono (fun g _ e hg => (hx g hg).2.1 e), hc.below hn (fun g hg => (h.disk.lt g hg).1)⟩
  have rest : ∀ w' D' S', DG n0 w' d D' S' → Grows w S S' → Chg S w w' → PoolOk n0 w' P d most D' L c S' T := fun w' D' S' hd hg hc =>
    ⟨hd, h.pool.keep hc (fun g hg' e => h.sep g e hg'), fun g hg' e => by
      rcases hg g hg' with a | a
      · exact h.sep g a e
      · have := (h.pool.2 g e).2; omega⟩
  refine ⟨S, h.disk, fun g hg => (hx g hg).2.1, fun w' D' hN => ?_, fun w' D' Y hd hc hY => ?_⟩
  · obtain ⟨S', hd, hg, hc⟩ := hN
    refine ⟨⟨S', T, rest w' D' S' hd hg hc, fun g hg' => ?_⟩, st w' hc⟩
    obtain ⟨a1, a2, a3⟩ := hx g hg'
    exact ⟨Nat.lt_of_lt_of_le a1 hc.size, fun e => (hg g e).elim a2 (fun e => by omega), a3⟩
  · refine ⟨⟨S, T, rest w' D' S hd (Grows.refl _ _) hc, fun g hg' => ?_⟩, st w' hc⟩
    rcases hg' with hg' | hg'
    · exact ⟨Nat.lt_of_lt_of_le (hx g hg').1 hc.size, (hx g hg').2⟩
    · obtain ⟨a, b⟩ := hY g hg'
      exact ⟨b, fun e => by have := h.disk.top g e; omega, fun e => by have := (h.pool.2 g e).2; omega⟩
/-- the pool's own memory is worked on -/
theorem PoolX.pool (h : PoolX n0 w P d most D L c X) : ∃ T, PoolAt n0 w P d most L c T ∧ (∀ g, X g → ¬ T g) ∧ (∀ g, T g → n0 ≤ g) ∧ ∀ w' L' c', PNow n0 w P d most T L' c' w' → PoolX n0 w' P d most D L' c' X ∧ Step n0 X w w' := by
  obtain ⟨S, T, h, hx⟩ := h
  have hn : n0 ≤ w.heap.size := h.disk.new_n
  refine ⟨T, h.pool, fun g hg => (hx g hg).2.2, fun g hg => (h.pool.2 g hg).1, fun w' L' c' hN => ?_⟩
  obtain ⟨T', hp, hg, hc⟩ := hN
  refine ⟨⟨S, T', ⟨h.disk.keep hc (fun g hs e => h.sep g hs e), hp, fun g hs e => ?_⟩, fun g hg' => ?_⟩, hc.mono (fun g _ e hg => (hx g hg).2.2 e), hc.below hn (fun g hg => (h.pool.2 g hg).1)⟩
  · rcases hg g e with a | a
    · exact h.sep g hs a
    · have := h.disk.top g hs; omega
  · obtain ⟨a1, a2, a3⟩ := hx g hg'
    exact ⟨Nat.lt_of_lt_of_le a1 hc.size, a2, fun e => (hg g e).elim a3 (fun e => by omega)⟩
set_option maxRecDepth 100000 in
theorem within_any (h : PoolX n0 w P d most D L c X) (n : Nat) (hn : n < 4294967296) : Calls Try.prog 143 #[.pointer (some ⟨P, 0, none⟩), .int .u32 (n : Int)] w fun e w' => e = .returned (.bool (decide (n < D.pages))) ∧ w = w' := by
  have c0 := h.cell0.1
  obtain ⟨S, T, h, _⟩ := h
  have HP := Lib.hid (pages_any h.disk.disk)
  have hpb : D.pages ≤ 16384 := by
    obtain ⟨k, a, _, b⟩ := h.disk.ok.pages
    unfold Dsk.pages; omega
  clear h
  generalize D.pages = N at *
  go_enter Try.func143, Try.ntmps143
  go_wp2_with fail
  refine HP.out.mono ?_
  rintro e w1 ⟨rfl, rfl⟩
  go_wp2_with fail
  go_ret
  exact ⟨by simp, rfl⟩
def PlSync (n0 : Nat) (w : World) (P d most : Nat) (D : Dsk) (L : List Hand) (c : Nat) (X : Nat → Prop) (q : Nat) (e : Ending) (w' : World) : Prop := e = .returned (.int .u16 (q : Nat)) ∧ PoolX n0 w' P d most D L c X ∧ Step n0 X w w'
set_option maxRecDepth 100000 in
theorem plsync_any (h : PoolX n0 w P d most D L c X) (hc : D.cache.length ≤ 1000000000000) (hn : D.n 3 ≤ 4611686018427387904) : Calls Try.prog 86 #[.pointer (some ⟨P, 0, none⟩)] w (PlSync n0 w P d most D.sync.2 L c X D.sync.1) := by
  have c0 := h.cell0.1
  obtain ⟨S, hd, _, hst, _⟩ := h.disk
  have HS := Lib.hid (dg_sync hd hd.new_n hc hn)
  have HST := Lib.hid hst
  clear h hd hst
  generalize D.sync = q at *
  go_enter Try.func86, Try.ntmps86
  go_wp2_with fail
  refine HS.out.mono ?_
  rintro e w1 ⟨rfl, hN⟩
  have hfin := HST.out w1 _ hN
  have HF := Lib.hid hfin
  clear hN hfin
  go_wp2_with fail
  go_ret
  exact ⟨rfl, HF.out.1, HF.out.2⟩
end
theorem pnew_no (dv : Value) (m : Int) (w : World) (h : m < 1) : Calls Try.prog 79 #[dv, .int .i64 m] w fun e w' => e = .returned (.tuple #[.pointer none, .int .u16 1]) ∧ w = w' := by
  go_enter Try.func79, Try.ntmps79
  go_wp2
  go_ret2
  exact ⟨rfl, rfl⟩
def pnewWorld (w : World) (d m : Nat) : World := ((w.alloc (.cells #[.pointer (some ⟨w.heap.size, 0, none⟩), .pointer (some ⟨w.heap.size, 0, none⟩), .int .u32 0, .int .u8 0, .slice none 0 0] 203)).alloc (.map #[] 0)).alloc (.cells #[.pointer (some ⟨d, 0, none⟩), .int .i64 (m : Int), .map (some (w.heap.size + 1)), .pointer (some ⟨w.heap.size, 0, none⟩)] 206)
set_option maxRecDepth 100000 in
theorem pnew_run (d m : Nat) (w : World) (h : 1 ≤ m) (hm : m ≤ 4611686018427387904) : Calls Try.prog 79 #[.pointer (some ⟨d, 0, none⟩), .int .i64 (m : Int)] w fun e w' => e = .returned (.tuple #[.pointer (some ⟨w.heap.size + 2, 0, none⟩), .int .u16 0]) ∧ w' = pnewWorld w d m := by
  have h1 : ¬ (m : Int) < 1 := by omega
  have hmm := @run_makeMap Try.prog
  go_enter Try.func79, Try.ntmps79
  go_wp2_with fail
  go_ret2
  refine ⟨?_, ?_⟩
  · simp
  · unfold pnewWorld
    simp
theorem pnew_at (d m : Nat) (w : World) {n0 : Nat} (hn : n0 ≤ w.heap.size) : PoolAt n0 (pnewWorld w d m) (w.heap.size + 2) d m [] 0 (fun g => w.heap.size ≤ g ∧ g < w.heap.size + 3) ∧ Below w.heap.size w (pnewWorld w d m) := by
  have hb : Below w.heap.size w (pnewWorld w d m) := by unfold pnewWorld; exact below_alloc0 (below_alloc0 (below_alloc0 (Below.refl _ _) _) _) _
  have hs : (pnewWorld w d m).heap.size = w.heap.size + 3 := by unfold pnewWorld; simp only [sz_alloc]
  have e0 : (pnewWorld w d m).heap[w.heap.size]? = some (.cells #[.pointer (some ⟨w.heap.size, 0, none⟩), .pointer (some ⟨w.heap.size, 0, none⟩), .int .u32 0, .int .u8 0, .slice none 0 0] 203 (0, 0)) := by
    unfold pnewWorld; simp only [hp_alloc, sz_alloc]; rw [if_neg (by omega), if_neg (by omega), if_pos trivial]
  have e2 : (pnewWorld w d m).heap[w.heap.size + 2]? = some (.cells #[.pointer (some ⟨d, 0, none⟩), .int .i64 (m : Int), .map (some (w.heap.size + 1)), .pointer (some ⟨w.heap.size, 0, none⟩)] 206 (0, 0)) := by
    unfold pnewWorld; simp only [hp_alloc, sz_alloc]; first | rw [if_pos trivial] | rw [if_pos rfl]
  have hm : (pnewWorld w d m).ownsMap Try.prog 22 ptrElem (w.heap.size + 1) 0 (.map []) := by
    have := World.ownsMap_made (w.alloc (.cells #[.pointer (some ⟨w.heap.size, 0, none⟩), .pointer (some ⟨w.heap.size, 0, none⟩), .int .u32 0, .int .u8 0, .slice none 0 0] 203)) Try.prog 22 ptrElem
    rw [sz_alloc] at this
    unfold pnewWorld
    exact this.alloc _
  refine ⟨⟨⟨w.heap.size, w.heap.size + 1, 0, [], fun _ => ⟨0, 0, []⟩, fun _ => w.heap.size, fun _ => w.heap.size, fun _ => fun i => if i = 2 then .int .u32 0 else if i = 3 then .int .u8 0 else .slice none 0 0, .map [], fun _ => False, ⟨RecAt.of e2 (by simp [lst, lcell, List.range_succ]), ⟨⟨rfl, rfl⟩, by simp, fun b hb' => ?_⟩, fun b hb' => by simp at hb', fun b c hb' => by simp at hb', hm, MapFor.nil _, ⟨by omega, by omega, fun b hb' => by simp at hb'; omega, fun g hg => hg.elim⟩, by omega, by simp, by simp, fun g hg => hg.elim⟩, rfl, Nat.le_refl _, fun g hg => ?_⟩, fun g hg => ⟨Nat.le_trans hn hg.1, by rw [hs]; exact hg.2⟩⟩, hb⟩
  · have : b = w.heap.size := by simpa using hb'
    subst this
    exact RecAt.of e0 (by simp [lst, ncell, List.range_succ])
  · show w.heap.size ≤ g ∧ g < w.heap.size + 3
    rcases hg with hg | hg | hg | hg
    · omega
    · omega
    · simp at hg; omega
    · exact hg.elim
def PlNew (n0 : Nat) (w : World) (d m : Nat) (D : Dsk) (X : Nat → Prop) (e : Ending) (w' : World) : Prop := ∃ P, e = .returned (.tuple #[.pointer (some ⟨P, 0, none⟩), .int .u16 0]) ∧ PoolX n0 w' P d m D [] 0 X ∧ Below w.heap.size w w'
theorem pnew_ok {n0 : Nat} {w : World} {d : Nat} {D : Dsk} {S X : Nat → Prop} (h : DG n0 w d D S) (hX : ∀ g, X g → g < w.heap.size ∧ ¬ S g) (m : Nat) (h1 : 1 ≤ m) (hm : m ≤ 4611686018427387904) :
    Calls Try.prog 79 #[.pointer (some ⟨d, 0, none⟩), .int .i64 (m : Int)] w (PlNew n0 w d m D X) := by
  refine (pnew_run d m w h1 hm).mono ?_
  rintro e w' ⟨rfl, rfl⟩
  obtain ⟨hp, hb⟩ := pnew_at d m w h.new_n
  exact ⟨_, rfl, ⟨S, _, ⟨h.below hb, hp, fun g hg e => by have := h.top g hg; have := e.1; omega⟩, fun g hg => ⟨Nat.lt_of_lt_of_le (hX g hg).1 hb.size, (hX g hg).2, fun e => by have := (hX g hg).1; have := e.1; omega⟩⟩, hb⟩
end Go.Proofs.Ytfbjjblgcgjndaa

/- Contracts of page.low, page.filled, page.Seal and their like in the reference. -/
namespace Go.Proofs.Ytfbjjblgcgjndaa
open Go.RowKit

theorem pow256 (k : Nat) : (256 : Nat) ^ (k + 1) = 256 ^ k * 256 := Nat.pow_succ ..
theorem div256 (n k : Nat) : n / 256 ^ k / 256 = n / 256 ^ (k + 1) := by rw [Nat.div_div_eq_div_mul, Nat.pow_succ]

set_option maxRecDepth 100000 in
set_option maxHeartbeats 1000000 in
theorem low_any (n0 : Nat) (v : Value) (l : List Nat) (n many : Nat) (w : World) (hn0 : n0 ≤ w.heap.size) (hv : Buf n0 w v l) (hl : l.length ≤ 1000000) (hn : n < 18446744073709551616) (hm : many ≤ 8) :
    Calls Try.prog 131 #[v, .int .u64 (n : Int), .int .i64 (many : Int)] w fun e w' => ∃ v', e = .returned v' ∧ Buf n0 w' v' (l ++ le n many) ∧ Below n0 w w' ∧ n0 ≤ w'.heap.size := by
  go_enter Try.func131, Try.ntmps131
  go_wp2
  go_loopw [0, 1, 8] (fun b x i wr => ∃ k : Nat, k ≤ many ∧ i = .int .i64 k ∧ x = .int .u64 ((n / 256 ^ k : Nat) : Int) ∧ Buf n0 wr b (l ++ le n k) ∧ Below n0 w wr ∧ n0 ≤ wr.heap.size) (fun _ _ i _ => many - (intOf i).toNat)
  case atStart => exact ⟨0, by omega, rfl, by simp, by simpa [le] using hv, Below.refl _ _, hn0⟩
  case round =>
    clear hv
    obtain ⟨k, hk, rfl, rfl, hv, hb, hs⟩ := hrel
    have hx : n / 256 ^ k < 18446744073709551616 := Nat.lt_of_le_of_lt (Nat.div_le_self _ _) hn
    have hnext := Lib.hid (div256 n k)
    have hles := Lib.hid (le_succ n k)
    have hlen : (l ++ le n k).length = l.length + k := by simp [le_length]
    have HL := Lib.hid hlen
    clear hlen
    generalize n / 256 ^ k = x at hx hnext hles
    by_cases hlt : k < many
    · go_wp2_with (at_builtin; go_loud (refine buf_append (w0 := w) rfl (.tmp 10) (.tmp 13) rfl Try.underlying23 Try.info5 n0 u0 (l ++ le n k) rfl (Buf.below hv (below_alloc0 (Below.refl _ _) _)) (some ⟨wr.heap.size, 0, none⟩) 1 1 [x % 256] rfl rfl ?_ (by simp) (by rw [HL.out]; simp; omega) (by simp; omega) (hb.alloc hs _) ?_); rotate_left; intro v1 w1 hv1 hb1 hs1)
      · go_roundw
        case rel => exact ⟨k + 1, by omega, by go_num, by rw [← hnext.out]; go_num, by rw [hles.out, ← List.append_assoc]; exact hv1, hb1, hs1⟩
        case measure => simp [intOf]; omega
      · have := At.box wr (.int .u8 ((x % 256 : Nat) : Int)) 5 wr.heap.size rfl
        exact this
    · obtain rfl : k = many := by omega
      go_wp2
      go_ret
      exact ⟨_, rfl, hv, hb, hs⟩
set_option maxRecDepth 100000 in
set_option maxHeartbeats 1000000 in
theorem put_any (n0 : Nat) (v : Value) (l : List Nat) (n many : Nat) (w : World) (hn0 : n0 ≤ w.heap.size) (hv : Buf n0 w v l) (hl : l.length ≤ 1000000) (hn : n < 18446744073709551616) (hm : many ≤ 8) :
    Calls Try.prog 133 #[v, .int .u64 (n : Int), .int .i64 (many : Int)] w fun e w' => ∃ v', e = .returned v' ∧ Buf n0 w' v' (l ++ le n many) ∧ Below n0 w w' ∧ n0 ≤ w'.heap.size := by
  go_enter Try.func133, Try.ntmps133
  go_wp2
  go_loopw [0, 1, 7] (fun b x i wr => ∃ k : Nat, k ≤ many ∧ i = .int .i64 k ∧ x = .int .u64 ((n / 256 ^ k : Nat) : Int) ∧ Buf n0 wr b (l ++ le n k) ∧ Below n0 w wr ∧ n0 ≤ wr.heap.size) (fun _ _ i _ => many - (intOf i).toNat)
  case atStart => exact ⟨0, by omega, rfl, by simp, by simpa [le] using hv, Below.refl _ _, hn0⟩
  case round =>
    clear hv
    obtain ⟨k, hk, rfl, rfl, hv, hb, hs⟩ := hrel
    have hx : n / 256 ^ k < 18446744073709551616 := Nat.lt_of_le_of_lt (Nat.div_le_self _ _) hn
    have hnext := Lib.hid (div256 n k)
    have hles := Lib.hid (le_succ n k)
    have hlen : (l ++ le n k).length = l.length + k := by simp [le_length]
    have HL := Lib.hid hlen
    clear hlen
    generalize n / 256 ^ k = x at hx hnext hles
    by_cases hlt : k < many
    · go_wp2_with (at_builtin; go_loud (refine buf_append (w0 := w) rfl (.tmp 13) (.tmp 17) rfl Try.underlying23 Try.info5 n0 u0 (l ++ le n k) rfl (Buf.below hv (below_alloc0 (Below.refl _ _) _)) (some ⟨wr.heap.size, 0, none⟩) 1 1 [x % 256] rfl rfl ?_ (by simp) (by rw [HL.out]; simp; omega) (by simp; omega) (hb.alloc hs _) ?_); rotate_left; intro v1 w1 hv1 hb1 hs1)
      · go_roundw
        case rel => exact ⟨k + 1, by omega, by go_num, by rw [← hnext.out]; go_num, by rw [hles.out, ← List.append_assoc]; exact hv1, hb1, hs1⟩
        case measure => simp [intOf]; omega
      · have := At.box wr (.int .u8 ((x % 256 : Nat) : Int)) 5 wr.heap.size rfl
        exact this
    · obtain rfl : k = many := by omega
      go_wp2
      go_ret
      exact ⟨_, rfl, hv, hb, hs⟩
theorem crc_sum_lt (l : List Nat) (h : Bytes l) : Crc.sum l < 4294967296 := Crc.inv_lt _
/-- a slice's length -/
def sliceLen : Value → Nat
  | .slice _ n _ => n
  | _ => 0
/-- filled up to a length, and the sum behind -/
def fill (l : List Nat) (n : Nat) : List Nat := l ++ List.replicate (n - l.length) 0
theorem fill_length (l : List Nat) (n : Nat) (h : l.length ≤ n) : (fill l n).length = n := by simp [fill]; omega
theorem fill_bytes (l : List Nat) (n : Nat) (h : Bytes l) : Bytes (fill l n) := h.append (Bytes.zeros _)
def closed (l : List Nat) : List Nat := l ++ le (Crc.sum l) 4
theorem closed_length (l : List Nat) : (closed l).length = l.length + 4 := by simp [closed, le_length]
theorem closed_bytes (l : List Nat) (h : Bytes l) : Bytes (closed l) := h.append (le_bytes _ _)

/-- the facts of a filled list, its content out of sight -/
theorem fill_facts (l : List Nat) (n : Nat) (hB : Bytes l) (hl : l.length ≤ n) : ∃ f g s, closed (fill l n) = g ∧ g = f ++ le s 4 ∧ s < 4294967296 ∧ f.length = n ∧ Bytes f ∧ s = Crc.sum f ∧ f = l ++ List.replicate (n - l.length) 0 :=
  ⟨fill l n, _, Crc.sum (fill l n), rfl, rfl, crc_sum_lt _ (fill_bytes l n hB), fill_length l n hl, fill_bytes l n hB, rfl, rfl⟩

set_option maxRecDepth 100000 in
set_option maxHeartbeats 1000000 in
theorem filled_any (n0 : Nat) (v : Value) (l : List Nat) (n : Nat) (w : World) (hn0 : n0 ≤ w.heap.size) (hv : Buf n0 w v l) (hB : Bytes l) (hl : l.length ≤ n) (hn : n ≤ 100000) :
    Calls Try.prog 132 #[v, .int .i64 (n : Int)] w fun e w' => ∃ v', e = .returned v' ∧ Buf n0 w' v' (closed (fill l n)) ∧ Below n0 w w' ∧ n0 ≤ w'.heap.size := by
  obtain ⟨f, g, s, hg, hg2, hs, hfl, hfb, hsf, hf⟩ := fill_facts l n hB hl
  rw [hg]
  have hsum := Lib.hid (fun (A : Option Addr) (c : Nat) (w : World) (hA : At w A (ns .u8 f)) => sum_any A c f w hfb (by omega) hA)
  rw [← hsf] at hsum
  have HG := Lib.hid hg2
  clear hg hg2 hsf hfb hB
  have HF := Lib.hid hf
  have HFL := Lib.hid hfl
  clear hf hfl
  obtain ⟨A, c, rfl, hA, hnil, hc, hc2⟩ := hv.at
  go_enter Try.func132, Try.ntmps132
  go_wp2_with (at_builtin; go_loud (refine buf_zeros (w0 := w) rfl (.tmp 5) (.tmp 9) rfl Try.underlying23 Try.underlying3 Try.info5 n0 _ l rfl hv (kx := .i64) _ (n - l.length) rfl (by omega) (by omega) hn0 (Below.refl _ _) ?_); intro v1 w1 hv1 hb1 hs1)
  rw [← HF.out] at hv1
  obtain ⟨A1, c1, rfl, hA1, hnil1, hc1, hc12⟩ := hv1.at
  go_wp2_with fail
  refine (hsum.out A1 c1 w1 hA1).mono ?_
  rintro e w2 ⟨rfl, hb2⟩
  go_wp2_with fail
  refine (low_any n0 _ f s 4 w2 (Nat.le_trans hs1 hb2.size) (hv1.below hb2) (by have := HFL.out; omega) (by omega) (by omega)).mono ?_
  rintro e w3 ⟨v3, rfl, hv3, hb3, hs3⟩
  go_wp2
  go_ret
  exact ⟨_, rfl, by rw [HG.out]; exact hv3, (below_next hb1 hs1 hb2).trans hb3, hs3⟩

set_option maxRecDepth 100000 in
set_option maxHeartbeats 1000000 in
theorem rfilled_any (n0 : Nat) (v : Value) (l : List Nat) (n : Nat) (w : World) (hn0 : n0 ≤ w.heap.size) (hv : Buf n0 w v l) (hB : Bytes l) (hl : l.length ≤ n) (hn : n ≤ 100000) :
    Calls Try.prog 134 #[v, .int .i64 (n : Int)] w fun e w' => ∃ v', e = .returned v' ∧ Buf n0 w' v' (closed (fill l n)) ∧ Below n0 w w' ∧ n0 ≤ w'.heap.size := by
  obtain ⟨f, g, s, hg, hg2, hs, hfl, hfb, hsf, hf⟩ := fill_facts l n hB hl
  rw [hg]
  have hsum := Lib.hid (fun (A : Option Addr) (c : Nat) (w : World) (hA : At w A (ns .u8 f)) => rsum_any A c f w hfb (by omega) hA)
  rw [← hsf, hfl] at hsum
  have HG := Lib.hid hg2
  clear hg hg2 hsf hfb hB
  have HF := Lib.hid hf
  have HFL := Lib.hid hfl
  clear hf hfl
  go_enter Try.func134, Try.ntmps134
  go_wp2
  go_loopw [0] (fun b wr => ∃ k : Nat, ∃ A c, l.length ≤ k ∧ k ≤ n ∧ b = .slice A k c ∧ wr.ownsRow n0 5 1 b k (ns .u8 (fill l k)) ∧ Below n0 w wr ∧ n0 ≤ wr.heap.size) (fun b _ => n - (sliceLen b))
  case atStart => 
    obtain ⟨A, c, rfl, _⟩ := hv.at
    exact ⟨l.length, A, c, by omega, hl, rfl, by simpa [fill, Buf] using hv, Below.refl _ _, hn0⟩
  case round =>
    clear hv
    obtain ⟨k, A, c, hlk, hk, rfl, hv, hb, hs0⟩ := hrel
    have hlen := fill_length l k hlk
    have HL := Lib.hid hlen
    clear hlen
    by_cases hlt : k < n
    · have hv0 : Buf n0 wr (.slice A k c) (fill l k) := by unfold Buf; rw [HL.out]; exact hv
      go_wp2_with (at_builtin; go_loud (refine buf_append (w0 := w) rfl (.tmp 10) (.tmp 11) rfl Try.underlying23 Try.info5 n0 (.slice A k c) (fill l k) rfl (Buf.below hv0 (below_alloc0 (Below.refl _ _) _)) (some ⟨wr.heap.size, 0, none⟩) 1 1 [0] rfl rfl (At.box wr (.int .u8 0) 5 wr.heap.size rfl) (by simp) (by rw [HL.out]; simp; omega) (by simp; omega) (hb.alloc hs0 _) ?_); intro v1 w1 hv1 hb1 hs1)
      have hf : fill l k ++ [0] = fill l (k + 1) := by
        unfold fill
        rw [List.append_assoc]
        congr 1
        rw [show k + 1 - l.length = (k - l.length) + 1 by omega, List.replicate_succ']
      rw [hf] at hv1
      obtain ⟨A1, c1, rfl, hA1, hnil1, hc1, hc12⟩ := hv1.at
      have hlen1 := fill_length l (k + 1) (by omega)
      unfold Buf at hv1
      rw [hlen1] at hv1 ⊢
      go_roundw
      case rel => exact ⟨k + 1, A1, c1, by omega, by omega, rfl, hv1, hb1, hs1⟩
      case measure => simp [sliceLen]; omega
    · obtain rfl : k = n := by omega
      have hff : fill l k = f := HF.out.symm
      rw [hff] at hv
      have hv0 : Buf n0 wr (.slice A k c) f := by unfold Buf; rw [HFL.out]; exact hv
      obtain ⟨A1, c1, e1, hA1, hnil1, hc1, hc12⟩ := hv0.at
      injection e1 with e1 e2 e3
      subst e1 e3
      clear e2 hff HL HF
      go_wp2_with fail
      refine (hsum.out A c wr hA1).mono ?_
      rintro e w2 ⟨rfl, rfl⟩
      go_wp2_with fail
      refine (put_any n0 _ f s 4 wr hs0 hv0 (by rw [HFL.out]; omega) (by omega) (by omega)).mono ?_
      rintro e w3 ⟨v3, rfl, hv3, hb3, hs3⟩
      go_wp2
      go_ret
      exact ⟨_, rfl, by rw [HG.out]; exact hv3, hb.trans hb3, hs3⟩
end Go.Proofs.Ytfbjjblgcgjndaa

/- Contracts of page.Seal and of the reference's Seal. -/
namespace Go.Proofs.Ytfbjjblgcgjndaa
open Go.RowKit

/-- what a page begins with -/
def front (kind number n : Nat) : List Nat := [67, 80, kind, 0] ++ le number 4 ++ le n 2 ++ le 0 2
theorem front_length (kind number n : Nat) : (front kind number n).length = 12 := by simp [front, le_length]
theorem front_bytes (kind number n : Nat) (h : kind < 256) : Bytes (front kind number n) := by
  refine Bytes.append (Bytes.append (Bytes.append ?_ (le_bytes _ _)) (le_bytes _ _)) (le_bytes _ _)
  exact Bytes.cons (by omega) (Bytes.cons (by omega) (Bytes.cons h (Bytes.cons (by omega) Bytes.nil)))
/-- a page -/
def sealed (kind number : Nat) (p : List Nat) : List Nat := closed (fill (front kind number p.length ++ p) 1020)
def SealOk (kind : Nat) (p : List Nat) : Prop := 1 ≤ kind ∧ kind ≤ 4 ∧ p.length ≤ 1008
instance (kind : Nat) (p : List Nat) : Decidable (SealOk kind p) := inferInstanceAs (Decidable (_ ∧ _ ∧ _))
theorem sealed_length (kind number : Nat) (p : List Nat) (h : p.length ≤ 1008) : (sealed kind number p).length = 1024 := by
  rw [sealed, closed_length, fill_length _ _ (by rw [List.length_append, front_length]; omega)]
theorem sealed_bytes (kind number : Nat) (p : List Nat) (h : kind < 256) (hp : Bytes p) : Bytes (sealed kind number p) := closed_bytes _ (fill_bytes _ _ ((front_bytes _ _ _ h).append hp))

theorem seal_no_tests (kind : Nat) (p : List Nat) (h : ¬ SealOk kind p) : kind < 1 ∨ (¬ kind < 1 ∧ 4 < kind) ∨ (¬ kind < 1 ∧ ¬ 4 < kind ∧ 1008 < p.length) := by
  unfold SealOk at h
  omega

set_option maxRecDepth 100000 in
set_option maxHeartbeats 1000000 in
theorem seal_no (kind number : Nat) (A : Option Addr) (c : Nat) (p : List Nat) (w : World) (h : ¬ SealOk kind p) :
    Calls Try.prog 66 #[.int .u8 (kind : Int), .int .u32 (number : Int), .slice A p.length c] w fun e w' => e = .returned (.tuple #[.slice none 0 0, .int .u16 80]) ∧ w = w' := by
  rcases seal_no_tests kind p h with h1 | ⟨h1, h2⟩ | ⟨h1, h2, h3⟩
  all_goals
    clear h
    go_enter Try.func66, Try.ntmps66
    go_wp2
    go_ret2
    exact ⟨rfl, rfl⟩

set_option maxRecDepth 100000 in
set_option maxHeartbeats 1000000 in
theorem rseal_no (kind number : Nat) (A : Option Addr) (c : Nat) (p : List Nat) (w : World) (h : ¬ SealOk kind p) :
    Calls Try.prog 67 #[.int .u8 (kind : Int), .int .u32 (number : Int), .slice A p.length c] w fun e w' => e = .returned (.tuple #[.slice none 0 0, .int .u16 80]) ∧ w = w' := by
  rcases seal_no_tests kind p h with h1 | ⟨h1, h2⟩ | ⟨h1, h2, h3⟩
  all_goals
    clear h
    go_enter Try.func67, Try.ntmps67
    go_wp2
    go_ret2
    exact ⟨rfl, rfl⟩

set_option maxRecDepth 100000 in
set_option maxHeartbeats 1000000 in
theorem seal_ok (kind number : Nat) (A : Option Addr) (c : Nat) (p : List Nat) (w : World) (h : SealOk kind p) (hk : kind < 256) (hn : number < 4294967296) (hp : Bytes p) (hA : At w A (ns .u8 p)) (hnil : A = none → c = 0) :
    Calls Try.prog 66 #[.int .u8 (kind : Int), .int .u32 (number : Int), .slice A p.length c] w fun e w' => ∃ v, e = .returned (.tuple #[v, .int .u16 0]) ∧ Buf w.heap.size w' v (sealed kind number p) ∧ Below w.heap.size w w' ∧ w.heap.size ≤ w'.heap.size := by
  obtain ⟨h1, h2, h3⟩ := h
  have hBY0 : Bytes (([67, 80, kind, 0] ++ le number 4 ++ le p.length 2 ++ le 0 2) ++ p) := (front_bytes _ _ _ hk).append hp
  have hBY := Lib.hid hBY0
  clear hBY0
  have hst : Hid (sealed kind number p = closed (fill (([67, 80, kind, 0] ++ le number 4 ++ le p.length 2 ++ le 0 2) ++ p) 1020)) := Lib.hid rfl
  generalize sealed kind number p = g at hst
  have hk1 : ¬ (kind < 1) := by omega
  have hk2 : ¬ (4 < kind) := by omega
  have hk3 : ¬ (1008 < p.length) := by omega
  go_enter Try.func66, Try.ntmps66
  go_wp2_with fail
  refine (low_any w.heap.size _ [67, 80, kind, 0] number 4 _ (by simp) (Buf.new w [67, 80, kind, 0] (Nat.le_refl _) (by simp) _ _ rfl rfl) (by simp) (by omega) (by omega)).mono ?_
  rintro e w1 ⟨v1, rfl, hv1, hb1, hs1⟩
  replace hb1 := (below_alloc0 (Below.refl w.heap.size w) _).trans hb1
  have hl1 : ([67, 80, kind, 0] ++ le number 4).length = 8 := by simp [le_length]
  generalize [67, 80, kind, 0] ++ le number 4 = b1 at hv1 hl1 hst hBY
  have HL1 := Lib.hid hl1
  clear hl1
  go_wp2_with fail
  refine (low_any w.heap.size _ b1 p.length 2 _ hs1 hv1 (by rw [HL1.out]; omega) (by omega) (by omega)).mono ?_
  rintro e w2 ⟨v2, rfl, hv2, hb2, hs2⟩
  have hl2 : (b1 ++ le p.length 2).length = 10 := by rw [List.length_append, HL1.out, le_length]
  generalize b1 ++ le p.length 2 = b2 at hv2 hl2 hst hBY
  have HL2 := Lib.hid hl2
  clear hl2
  go_wp2_with fail
  refine (low_any w.heap.size _ b2 0 2 _ hs2 hv2 (by rw [HL2.out]; omega) (by omega) (by omega)).mono ?_
  rintro e w3 ⟨v3, rfl, hv3, hb3, hs3⟩
  have hl3 : (b2 ++ le 0 2).length = 12 := by rw [List.length_append, HL2.out, le_length]
  generalize b2 ++ le 0 2 = b3 at hv3 hl3 hst hBY
  have HL3 := Lib.hid hl3
  clear hl3
  have hb03 := (hb1.trans hb2).trans hb3
  go_wp2_with (at_builtin; go_loud (refine buf_append (w0 := w) rfl (.tmp 31) (.tmp 32) rfl Try.underlying23 Try.info5 w.heap.size v3 b3 rfl hv3 A p.length c p rfl rfl (hA.below hb03) hnil (by rw [HL3.out]; omega) hs3 hb03 ?_); intro v4 w4 hv4 hb4 hs4)
  have hl4 : (b3 ++ p).length = 12 + p.length := by rw [List.length_append, HL3.out]
  generalize b3 ++ p = b4 at hv4 hl4 hst hBY
  have HL4 := Lib.hid hl4
  clear hl4
  go_wp2_with fail
  refine (filled_any w.heap.size _ b4 1020 _ hs4 hv4 hBY.out (by rw [HL4.out]; omega) (by omega)).mono ?_
  rintro e w5 ⟨v5, rfl, hv5, hb5, hs5⟩
  go_wp2
  go_ret2
  exact ⟨_, rfl, by rw [hst.out]; exact hv5, hb4.trans hb5, hs5⟩

set_option maxRecDepth 100000 in
set_option maxHeartbeats 1000000 in
theorem rseal_ok (kind number : Nat) (A : Option Addr) (c : Nat) (p : List Nat) (w : World) (h : SealOk kind p) (hk : kind < 256) (hn : number < 4294967296) (hp : Bytes p) (hA : At w A (ns .u8 p)) (hnil : A = none → c = 0) :
    Calls Try.prog 67 #[.int .u8 (kind : Int), .int .u32 (number : Int), .slice A p.length c] w fun e w' => ∃ v, e = .returned (.tuple #[v, .int .u16 0]) ∧ Buf w.heap.size w' v (sealed kind number p) ∧ Below w.heap.size w w' ∧ w.heap.size ≤ w'.heap.size := by
  obtain ⟨h1, h2, h3⟩ := h
  have hBY0 : Bytes (([67, 80, kind, 0] ++ le number 4 ++ le p.length 2 ++ le 0 2) ++ p) := (front_bytes _ _ _ hk).append hp
  have hBY := Lib.hid hBY0
  clear hBY0
  have hst : Hid (sealed kind number p = closed (fill (([67, 80, kind, 0] ++ le number 4 ++ le p.length 2 ++ le 0 2) ++ p) 1020)) := Lib.hid rfl
  generalize sealed kind number p = g at hst
  have hk1 : ¬ (kind < 1) := by omega
  have hk2 : ¬ (4 < kind) := by omega
  have hk3 : ¬ (1008 < p.length) := by omega
  go_enter Try.func67, Try.ntmps67
  go_wp2_with fail
  refine (put_any w.heap.size _ [67, 80, kind, 0] number 4 _ (by simp) (Buf.new w [67, 80, kind, 0] (Nat.le_refl _) (by simp) _ _ rfl rfl) (by simp) (by omega) (by omega)).mono ?_
  rintro e w1 ⟨v1, rfl, hv1, hb1, hs1⟩
  replace hb1 := (below_alloc0 (Below.refl w.heap.size w) _).trans hb1
  have hl1 : ([67, 80, kind, 0] ++ le number 4).length = 8 := by simp [le_length]
  generalize [67, 80, kind, 0] ++ le number 4 = b1 at hv1 hl1 hst hBY
  have HL1 := Lib.hid hl1
  clear hl1
  go_wp2_with fail
  refine (put_any w.heap.size _ b1 p.length 2 _ hs1 hv1 (by rw [HL1.out]; omega) (by omega) (by omega)).mono ?_
  rintro e w2 ⟨v2, rfl, hv2, hb2, hs2⟩
  have hl2 : (b1 ++ le p.length 2).length = 10 := by rw [List.length_append, HL1.out, le_length]
  generalize b1 ++ le p.length 2 = b2 at hv2 hl2 hst hBY
  have HL2 := Lib.hid hl2
  clear hl2
  go_wp2_with fail
  refine (put_any w.heap.size _ b2 0 2 _ hs2 hv2 (by rw [HL2.out]; omega) (by omega) (by omega)).mono ?_
  rintro e w3 ⟨v3, rfl, hv3, hb3, hs3⟩
  have hl3 : (b2 ++ le 0 2).length = 12 := by rw [List.length_append, HL2.out, le_length]
  generalize b2 ++ le 0 2 = b3 at hv3 hl3 hst hBY
  have HL3 := Lib.hid hl3
  clear hl3
  have hb03 := (hb1.trans hb2).trans hb3
  go_wp2_with (at_builtin; go_loud (refine buf_append (w0 := w) rfl (.tmp 33) (.tmp 34) rfl Try.underlying23 Try.info5 w.heap.size v3 b3 rfl hv3 A p.length c p rfl rfl (hA.below hb03) hnil (by rw [HL3.out]; omega) hs3 hb03 ?_); intro v4 w4 hv4 hb4 hs4)
  have hl4 : (b3 ++ p).length = 12 + p.length := by rw [List.length_append, HL3.out]
  generalize b3 ++ p = b4 at hv4 hl4 hst hBY
  have HL4 := Lib.hid hl4
  clear hl4
  go_wp2_with fail
  refine (rfilled_any w.heap.size _ b4 1020 _ hs4 hv4 hBY.out (by rw [HL4.out]; omega) (by omega)).mono ?_
  rintro e w5 ⟨v5, rfl, hv5, hb5, hs5⟩
  go_wp2
  go_ret2
  exact ⟨_, rfl, by rw [hst.out]; exact hv5, hb4.trans hb5, hs5⟩
end Go.Proofs.Ytfbjjblgcgjndaa

/- Contracts of the reader: take, number, guard. -/
namespace Go.Proofs.Ytfbjjblgcgjndaa
open Go.RowKit

def Inner.pre (r : Inner) (k : Nat) : Inner := ⟨r.A, r.l.take k, r.c⟩
def Inner.suf (r : Inner) (k : Nat) : Inner := ⟨if r.c = k then r.A else r.A.map (·.add k), r.l.drop k, r.c - k⟩
theorem Inner.Ok.pre {w : World} {r : Inner} (h : r.Ok w) (k : Nat) : (r.pre k).Ok w :=
  ⟨h.lies.takes k, h.nil, by have := h.le; simp [Inner.pre]; omega, by have := h.small; simp [Inner.pre]; omega, h.bytes.take k⟩
theorem Inner.Ok.suf {w : World} {r : Inner} (h : r.Ok w) (k : Nat) (hk : k ≤ r.l.length) : (r.suf k).Ok w := by
  have hle := h.le
  refine ⟨?_, ?_, by show (r.l.drop k).length ≤ r.c - k; rw [List.length_drop]; omega, by have := h.small; show (r.l.drop k).length ≤ 140737488351232; rw [List.length_drop]; omega, h.bytes.drop k⟩
  · intro hn
    have hlt : k < r.l.length := by
      refine Decidable.byContradiction fun hc => hn ?_
      simp [Inner.suf, ns, List.drop_eq_nil_of_le (Nat.le_of_not_lt hc)]
    obtain ⟨b, o, e, hr⟩ := h.lies (by intro he; have := congrArg List.length he; simp [ns] at this; rw [this] at hlt; simp at hlt)
    refine ⟨b, o + k, ?_, ?_⟩
    · simp only [Inner.suf, e, Option.map_some]
      rw [if_neg (by omega), Addr.add_mid]
    · intro j v hv
      rw [Nat.add_assoc]
      refine hr (k + j) v ?_
      simpa [Inner.suf, ns] using hv
  · intro he
    simp only [Inner.suf] at he ⊢
    split at he
    · have := h.nil he; omega
    · have : r.A = none := by cases hA : r.A <;> simp_all
      have := h.nil this; omega

/-- a reader in block b, all that it reads lies in w0 -/
structure Reads (w0 w : World) (b : Nat) (r : Inner) : Prop where
  cell : w.heap[b]? = some (.cells #[r.val] 266 (0, 0))
  ok : r.Ok w0
  below : Below w0.heap.size w0 w
  new : w0.heap.size ≤ b
theorem Reads.set {w0 w : World} {b : Nat} {r : Inner} (h : Reads w0 w b r) (r2 : Inner) (h2 : r2.Ok w0) : Reads w0 (w.setCell ⟨b, 0, none⟩ r2.val) b r2 :=
  ⟨blk_set h.cell 0 r2.val, h2, h.below.setCell h.new _, h.new⟩
theorem grown_setCell (w : World) (b i : Nat) (v : Value) : w.grownBy (w.setCell ⟨b, i, none⟩ v) (some b) :=
  ⟨rfl, rfl, rfl, by simp [World.setCell], fun k hk hne => Below.heap_setCell _ _ _ _ (by intro e; exact hne (by rw [e]))⟩

theorem take_tests (r : Inner) (k : Nat) (A : Option Addr) (n c : Nat) (h : r.val = .slice A n c) : r.A = A ∧ r.l.length = n ∧ r.c = c := by
  unfold Inner.val at h
  injection h with h1 h2 h3
  exact ⟨h1, h2, h3⟩

set_option maxRecDepth 100000 in
set_option maxHeartbeats 1000000 in
theorem take_raw (b : Nat) (A : Option Addr) (n c k : Nat) (w : World) (hb : w.heap[b]? = some (.cells #[.slice A n c] 266 (0, 0))) (hk : k ≤ n) (hc : n ≤ c) :
    Calls Try.prog 164 #[.pointer (some ⟨b, 0, none⟩), .int .i64 (k : Int)] w fun e w' => e = .returned (.slice A k c) ∧ w' = w.setCell ⟨b, 0, none⟩ (.slice (if c = k then A else A.map (·.add k)) (n - k) (c - k)) := by
  have hcell : w.cell? ⟨b, 0, none⟩ = some (.slice A n c) := by rw [cell_of_row w b 0 _ 266 (0, 0) hb]; rfl
  have hfr := frozen_of_row w b 0 _ 266 hb
  clear hb
  by_cases he : c = k
  · subst he
    go_enter Try.func164, Try.ntmps164
    go_wp2
    go_ret
    exact ⟨rfl, by simp⟩
  · go_enter Try.func164, Try.ntmps164
    go_wp2
    go_ret
    exact ⟨rfl, by simp [he]⟩
theorem take_ok {w0 w : World} {b : Nat} {r : Inner} (h : Reads w0 w b r) (k : Nat) (hk : k ≤ r.l.length) :
    Calls Try.prog 164 #[.pointer (some ⟨b, 0, none⟩), .int .i64 (k : Int)] w fun e w' => e = .returned (.slice r.A k r.c) ∧ Reads w0 w' b (r.suf k) ∧ w.grownBy w' (some b) := by
  refine (take_raw b r.A r.l.length r.c k w h.cell hk h.ok.le).mono ?_
  rintro e w' ⟨rfl, rfl⟩
  have e1 : Value.slice (if r.c = k then r.A else r.A.map (·.add k)) (r.l.length - k) (r.c - k) = (r.suf k).val := by simp [Inner.val, Inner.suf]
  rw [e1]
  exact ⟨rfl, h.set _ (h.ok.suf k hk), grown_setCell w b 0 _⟩

def Gave : Ending := .panicked [{ v := .iface 273 (.agg #[]), recovered := false }]
set_option maxRecDepth 100000 in
set_option maxHeartbeats 1000000 in
theorem take_bad {w0 w : World} {b : Nat} {r : Inner} (h : Reads w0 w b r) (k : Nat) (hk : r.l.length < k) (hs : k ≤ 1000000) :
    Calls Try.prog 164 #[.pointer (some ⟨b, 0, none⟩), .int .i64 (k : Int)] w fun e w' => e = Gave ∧ w' = w := by
  have hcell : w.cell? ⟨b, 0, none⟩ = some (.slice r.A r.l.length r.c) := by rw [cell_of_row w b 0 _ 266 (0, 0) h.cell]; rfl
  have hfr := frozen_of_row w b 0 _ 266 h.cell
  clear h
  go_enter Try.func164, Try.ntmps164
  go_wp2
  exact ⟨rfl, rfl, rfl⟩

theorem run_assert273 (w : World) : (Instr.typeAssert (.iface 273 (.agg #[])) 20 273 true).run Try.prog w = .ok (.tuple #[.agg #[], .bool true]) w := by
  simp [Instr.typeAssert, run_underlying Try.underlying273]
/-- the variable of a result, in a block of its own -/
def ErrBox (w : World) (g : Nat) (x : Int) : Prop := w.heap[g]? = some (.cells #[.int .u16 x] 37 (0, 0))
set_option maxRecDepth 100000 in
theorem guard_panicking (g : Nat) (x : Int) (older : List PanicEntry) (w : World) (hg : ErrBox w g x) :
    CallsD Try.prog 163 #[.pointer (some ⟨g, 0, none⟩)] (.panicking ({ v := .iface 273 (.agg #[]), recovered := false } :: older)) w fun e u' w' =>
      e = .returned (.tuple #[]) ∧ u' = .panicking ({ v := .iface 273 (.agg #[]), recovered := true } :: older) ∧ ErrBox w' g 80 ∧ w.grownBy w' (some g) := by
  have hlt : g < w.heap.size := (Array.getElem?_eq_some_iff.1 hg).1
  have hg' : (w.alloc (.cells #[] 273)).heap[g]? = some (.cells #[.int .u16 x] 37 (0, 0)) := by rw [heap_alloc_old w _ hlt]; exact hg
  have hc : (w.alloc (.cells #[] 273)).cell? ⟨g, 0, none⟩ = some (.int .u16 x) := by rw [cell_of_row _ g 0 _ 37 (0, 0) hg']; rfl
  have hz : (w.alloc (.cells #[] 273)).frozen? ⟨g, 0, none⟩ = false := blk_frozen hg' 0
  have hbx0 : (w.setCell ⟨g, 0, none⟩ (.int .u16 80)).heap[g]? = some (.cells #[.int .u16 80] 37 (0, 0)) := blk_set hg 0 _
  have hfin : w.grownBy ((w.setCell ⟨g, 0, none⟩ (.int .u16 80)).alloc (.cells #[] 273)) (some g) := by
    have h0 := grown_setCell w g 0 (.int .u16 80)
    have h1 : (w.setCell ⟨g, 0, none⟩ (.int .u16 80)).grownBy ((w.setCell ⟨g, 0, none⟩ (.int .u16 80)).alloc (.cells #[] 273)) (some g) := ⟨rfl, rfl, rfl, by simp, fun i hi _ => heap_alloc_old _ _ hi⟩
    exact h0.trans h1
  have hbx : ErrBox ((w.setCell ⟨g, 0, none⟩ (.int .u16 80)).alloc (.cells #[] 273)) g 80 := by
    unfold ErrBox
    rw [heap_alloc_old _ _ (Array.getElem?_eq_some_iff.1 hbx0).1]; exact hbx0
  clear hbx0
  have HF := Lib.hid hfin
  have HB := Lib.hid hbx
  clear hg hg' hfin hbx
  refine callsD_of_wpS Try.func163 rfl fun c₀ cs hu => ?_
  apply wpS_seq
  apply wpS_region
  simp [wpOpsS, go_sem, recoverD, hu, Try.ntmps163, Exit.thenS]
  apply wpS_seq
  apply wpS_region
  simp [wpOpsS, go_sem, Exit.thenS]
  refine wpS_cond (t := true) (by simp [Act.eval, Array.replicate]) ?_
  simp only [if_true]
  refine wpS_of_wp ?_
  change Code.wp _ _ _ { tmps := #[.pointer (some ⟨g, 0, none⟩), undef, .iface 273 (.agg #[]), undef, undef, .iface 273 (.agg #[]), .iface 273 (.agg #[]), .bool true, undef, undef, undef, undef, undef, undef, undef, undef, undef, undef], defers := [] } _
  have hta := run_assert273
  go_wp2
  exact ⟨rfl, _, rfl, _, results_none rfl _ _ _, rfl, rfl, HB.out, HF.out⟩
theorem guard_idle (p : Addr) (w : World) :
    CallsD Try.prog 163 #[.pointer (some p)] .returning w fun e u' w' => e = .returned (.tuple #[]) ∧ u' = .returning ∧ w' = w := by
  refine callsD_of_wpS Try.func163 rfl fun c₀ cs hu => ?_
  apply wpS_seq
  apply wpS_region
  simp [wpOpsS, go_sem, recoverD, hu, Try.ntmps163, Exit.thenS]
  apply wpS_seq
  apply wpS_region
  simp [wpOpsS, go_sem, Exit.thenS]
  refine wpS_cond (t := false) (by simp [Act.eval, Array.replicate]) ?_
  simp only [Bool.false_eq_true, if_false]
  refine wpS_of_wp (wp_skip ?_)
  cases c₀
  simp_all [bodyPostS, results, Try.results163]
end Go.Proofs.Ytfbjjblgcgjndaa

/- Contracts of number and open. -/
namespace Go.Proofs.Ytfbjjblgcgjndaa
open Go.RowKit

theorem el_append (l m : List Nat) : el (l ++ m) = el l + 256 ^ l.length * el m := by
  induction l with
  | nil => simp [el]
  | cons b l ih =>
    simp only [List.cons_append, el, ih, List.length_cons, Nat.pow_succ]
    rw [Nat.mul_add, Nat.mul_comm (256 ^ l.length) 256, Nat.mul_assoc]
    omega
theorem el_take (l : List Nat) (k : Nat) (h : k < l.length) : el (l.take (k + 1)) = el (l.take k) + 256 ^ k * nth l k := by
  rw [take_nth l k h, el_append]
  have : min k l.length = k := Nat.min_eq_left (by omega)
  simp [el, this]
theorem el_take_lt (l : List Nat) (k : Nat) (h : k ≤ l.length) (hb : Bytes l) : el (l.take k) < 256 ^ k := by
  have := el_lt (l.take k) (hb.take k)
  rwa [List.length_take, Nat.min_eq_left h] at this

theorem or_at (n c j : Nat) (hn : n < 256 ^ j) (hc : c < 256) (hj : j < 8) :
    bits BinOp.or IntKind.u64 (n : Int) (IntKind.u64.wrap ((c : Int) * 2 ^ (8 * j))) = ((n + 256 ^ j * c : Nat) : Int) := by
  have h256 : (256 : Nat) ^ j = 2 ^ (8 * j) := by rw [Nat.pow_mul]
  have hpos : 0 < 256 ^ j := Nat.pow_pos (by decide)
  have hle : 256 ^ j ≤ 256 ^ 7 := Nat.pow_le_pow_right (by decide) (by omega)
  have h1 : 256 ^ j * c < 18446744073709551616 := by
    calc 256 ^ j * c ≤ 256 ^ 7 * c := Nat.mul_le_mul_right _ hle
      _ ≤ 256 ^ 7 * 255 := Nat.mul_le_mul_left _ (by omega)
      _ < 18446744073709551616 := by decide
  have e1 : (c : Int) * 2 ^ (8 * j) = ((256 ^ j * c : Nat) : Int) := by
    rw [h256]
    push_cast
    exact Int.mul_comm _ _
  rw [e1]
  generalize hX : 256 ^ j * c = X at h1
  have e2 : IntKind.u64.wrap (X : Int) = (X : Int) := by rw [IntKind.wrap_u64]; omega
  rw [e2, u64_or_nat n X (by have : (256:Nat) ^ 7 < 18446744073709551616 := by decide
                             omega) h1, ← hX, h256, Nat.or_comm, ← Nat.two_pow_add_eq_or_of_lt (by rw [← h256]; exact hn), Nat.add_comm]
set_option maxRecDepth 100000 in
set_option maxHeartbeats 1000000 in
theorem number_ok {w0 w : World} {b : Nat} {r : Inner} (h : Reads w0 w b r) (k : Nat) (hk : k ≤ r.l.length) (hk8 : k ≤ 8) :
    Calls Try.prog 165 #[.pointer (some ⟨b, 0, none⟩), .int .i64 (k : Int)] w fun e w' => e = .returned (.int .u64 ((el (r.l.take k) : Nat) : Int)) ∧ Reads w0 w' b (r.suf k) ∧ w.grownBy w' (some b) := by
  go_enter Try.func165, Try.ntmps165
  go_wp2_with fail
  refine (take_ok h k hk).mono ?_
  rintro e w1 ⟨rfl, hr1, hg1⟩
  have hA := (h.ok.pre k).lies.below hr1.below
  have hb := h.ok.bytes
  generalize hQ : Reads w0 w1 b (r.suf k) = QQ at hr1
  have HQ := Lib.hid hQ
  clear hQ h
  go_wp2
  go_loop [5, 12] (fun n i => ∃ j : Nat, j ≤ k ∧ i = .int .i64 j ∧ n = .int .u64 ((el (r.l.take j) : Nat) : Int)) (fun _ i => k - (intOf i).toNat)
  case atStart => exact ⟨0, by omega, rfl, by simp [el]⟩
  case round =>
    obtain ⟨j, hj, rfl, rfl⟩ := hrel
    by_cases hlt : j < k
    · obtain ⟨g, o, e, hc⟩ := hA.num j (by simp [Inner.pre]; omega)
      have e2 : nth (r.pre k).l j = nth r.l j := by
        have h1 := nth_eq (r.pre k).l j (by simp [Inner.pre]; omega)
        have h2 := nth_eq r.l j (by omega)
        simp only [Inner.pre] at h1 ⊢
        rw [List.getElem?_take_of_lt hlt, h2] at h1
        exact (Option.some.inj h1).symm
      rw [e2] at hc
      have e3 : r.A = some ⟨g, o, none⟩ := e
      have hlt1 := el_take_lt r.l j (by omega) hb
      have hbj := hb.nth j (by omega)
      have hor := or_at _ _ j hlt1 hbj (by omega)
      rw [← el_take r.l j (by omega)] at hor
      have HO := Lib.hid hor
      clear hor hlt1
      go_wp2
      go_round
      case rel => exact ⟨j + 1, by omega, by go_num, by rw [HO.out]⟩
      case measure => simp [intOf]; omega
    · obtain rfl : j = k := by omega
      go_wp2
      go_ret
      exact ⟨rfl, by rw [HQ.out]; exact hr1, hg1⟩

set_option maxRecDepth 100000 in
set_option maxHeartbeats 1000000 in
theorem number_bad {w0 w : World} {b : Nat} {r : Inner} (h : Reads w0 w b r) (k : Nat) (hk : r.l.length < k) (hs : k ≤ 1000000) :
    Calls Try.prog 165 #[.pointer (some ⟨b, 0, none⟩), .int .i64 (k : Int)] w fun e w' => e = Gave ∧ w' = w := by
  have ht := Lib.hid (take_bad h k hk hs)
  clear h
  go_enter Try.func165, Try.ntmps165
  go_wp2_with fail
  refine ht.out.mono ?_
  rintro e w1 ⟨rfl, rfl⟩
  exact ⟨rfl, rfl, rfl⟩

theorem ErrBox.grown {w w1 : World} {g b : Nat} {x : Int} (h : ErrBox w g x) (hg : w.grownBy w1 (some b)) (hne : g ≠ b) : ErrBox w1 g x := by
  unfold ErrBox
  rw [hg.block g (Array.getElem?_eq_some_iff.1 h).1 (by intro e; injection e with e; exact hne e)]
  exact h

theorem suf_length (r : Inner) (k : Nat) : (r.suf k).l.length = r.l.length - k := by simp [Inner.suf]
theorem suf_l (r : Inner) (k : Nat) : (r.suf k).l = r.l.drop k := rfl
theorem suf_suf_l (r : Inner) (k m : Nat) : ((r.suf k).suf m).l = r.l.drop (k + m) := by simp [Inner.suf]
theorem pre_l (r : Inner) (k : Nat) : (r.pre k).l = r.l.take k := rfl
theorem nth_drop (l : List Nat) (k j : Nat) : nth (l.drop k) j = nth l (k + j) := by simp [nth, List.getD_eq_getElem?_getD]
theorem nth_take (l : List Nat) (k j : Nat) (h : j < k) : nth (l.take k) j = nth l j := by simp [nth, List.getD_eq_getElem?_getD, List.getElem?_take_of_lt h]

/-- the start: the variable of the error, the reader behind it -/
theorem opened (r : Inner) (w : World) (h : r.Ok w) (W : World) (hW : W = (w.alloc (.cells #[.int .u16 0] 37)).alloc (.cells #[.slice r.A r.l.length r.c] 266)) :
    Reads w W (w.heap.size + 1) r ∧ ErrBox W w.heap.size 0 := by
  subst hW
  refine ⟨⟨?_, h, below_alloc0 (below_alloc0 (Below.refl _ _) _) _, by omega⟩, ?_⟩
  · rw [show w.heap.size + 1 = (w.alloc (.cells #[.int .u16 0] 37)).heap.size by simp]
    exact heap_alloc_new _ _
  · unfold ErrBox
    rw [heap_alloc_old _ _ (by simp)]
    exact heap_alloc_new w _

set_option maxRecDepth 100000 in
set_option maxHeartbeats 1000000 in
theorem open_ok (r : Inner) (w : World) (h : r.Ok w) (h12 : 12 ≤ r.l.length) (n : Nat) (hn : n = el ((r.l.drop 8).take 2)) (hfit : n ≤ r.l.length - 12) :
    Calls Try.prog 135 #[.slice r.A r.l.length r.c] w fun e w' => ∃ q : Inner, q.Ok w ∧ q.l = (r.l.drop 12).take n ∧ e = .returned (.tuple #[.int .u8 (nth r.l 2 : Int), .slice q.A q.l.length q.c, .int .u16 0]) ∧ Below w.heap.size w w' := by
  have hsmall := h.small
  have hle := h.le
  have hne : w.heap.size ≠ w.heap.size + 1 := by omega
  go_enter_defers Try.func135, Try.ntmps135
  go_wp2_with fail
  generalize hW : (w.alloc (Obj.cells #[Value.int IntKind.u16 0] 37)).alloc (Obj.cells #[Value.slice r.A r.l.length r.c] 266) = W0
  obtain ⟨hr0, hE0⟩ := opened r w h W0 hW.symm
  clear hW
  refine (take_ok hr0 2 (by omega)).mono ?_
  rintro e w1 ⟨rfl, hr1, hg1⟩
  have hE1 := hE0.grown hg1 hne
  go_wp2_with fail
  refine (take_ok hr1 1 (by rw [suf_length]; omega)).mono ?_
  rintro e w2 ⟨rfl, hr2, hg2⟩
  have hE2 := hE1.grown hg2 hne
  have hA2 := (hr1.ok.pre 1).lies.below hr2.below
  obtain ⟨g, o, e2, hc2⟩ := hA2.num 0 (by simp [Inner.pre, suf_l]; omega)
  rw [pre_l, nth_take _ _ _ (by omega), suf_l, nth_drop, Nat.add_zero] at hc2
  have e2' : (r.suf 2).A = some ⟨g, o, none⟩ := e2
  clear e2
  rw [e2']
  go_wp2_with fail
  refine (take_ok hr2 5 (by rw [suf_length, suf_length]; omega)).mono ?_
  rintro e w3 ⟨rfl, hr3, hg3⟩
  have hE3 := hE2.grown hg3 hne
  go_wp2_with fail
  refine (number_ok hr3 2 (by rw [suf_length, suf_length, suf_length]; omega) (by omega)).mono ?_
  rintro e w4 ⟨rfl, hr4, hg4⟩
  have hE4 := hE3.grown hg4 hne
  have hnum : el ((((r.suf 2).suf 1).suf 5).l.take 2) = n := by rw [hn]; simp [Inner.suf]
  rw [hnum]
  clear hnum hn
  go_wp2_with fail
  refine (take_ok hr4 2 (by rw [suf_length, suf_length, suf_length, suf_length]; omega)).mono ?_
  rintro e w5 ⟨rfl, hr5, hg5⟩
  have hE5 := hE4.grown hg5 hne
  go_wp2_with fail
  refine (take_ok hr5 n (by rw [suf_length, suf_length, suf_length, suf_length, suf_length]; omega)).mono ?_
  rintro e w6 ⟨rfl, hr6, hg6⟩
  have hE6 := hE5.grown hg6 hne
  have hq := hr5.ok.pre n
  have hql : ((((((r.suf 2).suf 1).suf 5).suf 2).suf 2).pre n).l = (r.l.drop 12).take n := by simp [Inner.suf, Inner.pre]
  have hb6 := hr6.below
  have hcell : w6.cell? ⟨w.heap.size, 0, none⟩ = some (.int .u16 0) := by rw [cell_of_row w6 _ 0 _ 37 (0, 0) hE6]; rfl
  have hfr := frozen_of_row w6 _ 0 _ 37 hE6
  generalize (((((r.suf 2).suf 1).suf 5).suf 2).suf 2) = r5 at hq hql ⊢
  go_wp2
  refine leaves_cons (f := 163) (args := #[.pointer (some ⟨w.heap.size, 0, none⟩)]) (by simp) (by simp [go_sem]) ?_
  refine (guard_idle _ _).mono ?_
  rintro e u' w'' ⟨rfl, rfl, rfl⟩
  have hcell2 : (w6.setCell ⟨w.heap.size, 0, none⟩ (.int .u16 0)).cell? ⟨w.heap.size, 0, none⟩ = some (.int .u16 0) := by
    have h2 : ErrBox (w6.setCell ⟨w.heap.size, 0, none⟩ (.int .u16 0)) w.heap.size 0 := blk_set hE6 0 _
    rw [cell_of_row _ _ 0 _ 37 (0, 0) h2]; rfl
  have hlen : (r5.pre n).l.length = n := by rw [hql, List.length_take, List.length_drop]; omega
  simp only [Leaves, settle, results, Try.results135, go_sem]
  simp [hcell2, go_sem]
  exact ⟨r5.pre n, hq, hql, by rw [hlen]; exact ⟨rfl, rfl, rfl⟩, hb6.setCell (Nat.le_refl _) _⟩

/-- the door of open, where the reader gave up -/
theorem open_door (g : Nat) (tmps : Array Value) (k v : Value) (R : Ending → World → Prop) (w : World) (h2 : tmps.getD 2 undef = k) (h3 : tmps.getD 3 undef = v) (h4 : tmps.getD 4 undef = .pointer (some ⟨g, 0, none⟩)) (hE : ErrBox w g 0)
    (h : ∀ w2, w.grownBy w2 (some g) → R (.returned (.tuple #[k, v, .int .u16 80])) w2) :
    Leaves Try.prog Try.f135 tmps R [{ target := .fn (.func 163) #[], args := #[.pointer (some ⟨g, 0, none⟩)] }] (.panicking [{ v := .iface 273 (.agg #[]), recovered := false }]) w := by
  refine leaves_cons (f := 163) (args := #[.pointer (some ⟨g, 0, none⟩)]) (by simp) (by simp [go_sem]) ?_
  refine (guard_panicking g 0 [] w hE).mono ?_
  rintro e u' w2 ⟨rfl, rfl, hE2, hg2⟩
  have hcell2 : w2.cell? ⟨g, 0, none⟩ = some (.int .u16 80) := by rw [cell_of_row _ _ 0 _ 37 (0, 0) hE2]; rfl
  have := h w2 hg2
  have hres : (results Try.f135 tmps).run Try.prog w2 = .ok (.tuple #[k, v, .int .u16 80]) w2 := by
    have h2' : tmps.getD 2 undef = k := h2
    simp [results, Try.results135, go_sem]
    simp [Array.getD_eq_getD_getElem?] at h2 h3 h4
    simp [h2, h3, h4, hcell2, go_sem]
  exact ⟨_, hres, this⟩

set_option maxRecDepth 100000 in
set_option maxHeartbeats 1000000 in
theorem open_bad (r : Inner) (w : World) (h : r.Ok w) (hbad : r.l.length < 12 ∨ (12 ≤ r.l.length ∧ r.l.length - 12 < el ((r.l.drop 8).take 2))) :
    Calls Try.prog 135 #[.slice r.A r.l.length r.c] w fun e w' => ∃ k v, e = .returned (.tuple #[k, v, .int .u16 80]) ∧ Below w.heap.size w w' := by
  have hsmall := h.small
  have hle := h.le
  have hne : w.heap.size ≠ w.heap.size + 1 := by omega
  go_enter_defers Try.func135, Try.ntmps135
  go_wp2_with fail
  generalize hW : (w.alloc (Obj.cells #[Value.int IntKind.u16 0] 37)).alloc (Obj.cells #[Value.slice r.A r.l.length r.c] 266) = W0
  obtain ⟨hr0, hE0⟩ := opened r w h W0 hW.symm
  clear hW
  by_cases d0 : r.l.length < 2
  · clear hbad
    refine (take_bad hr0 2 d0 (by omega)).mono ?_
    rintro e w9 ⟨rfl, rfl⟩
    exact open_door w.heap.size _ _ _ _ _ rfl rfl rfl hE0 (fun w2 hg2 => ⟨_, _, rfl, below_grown hr0.below hg2 hr0.below.size (by intro k hk; injection hk with hk; omega)⟩)
  refine (take_ok hr0 2 (by omega)).mono ?_
  rintro e w1 ⟨rfl, hr1, hg1⟩
  have hE1 := hE0.grown hg1 hne
  by_cases d1 : r.l.length < 3
  · clear hbad
    go_wp2_with fail
    refine (take_bad hr1 1 (by rw [suf_length]; omega) (by omega)).mono ?_
    rintro e w9 ⟨rfl, rfl⟩
    exact open_door w.heap.size _ _ _ _ _ rfl rfl rfl hE1 (fun w2 hg2 => ⟨_, _, rfl, below_grown hr1.below hg2 hr1.below.size (by intro k hk; injection hk with hk; omega)⟩)
  go_wp2_with fail
  refine (take_ok hr1 1 (by rw [suf_length]; omega)).mono ?_
  rintro e w2 ⟨rfl, hr2, hg2⟩
  have hE2 := hE1.grown hg2 hne
  have hA2 := (hr1.ok.pre 1).lies.below hr2.below
  obtain ⟨g, o, e2, hc2⟩ := hA2.num 0 (by simp [Inner.pre, suf_l]; omega)
  rw [pre_l, nth_take _ _ _ (by omega), suf_l, nth_drop, Nat.add_zero] at hc2
  have e2' : (r.suf 2).A = some ⟨g, o, none⟩ := e2
  clear e2
  rw [e2']
  by_cases d2 : r.l.length < 8
  · clear hbad
    go_wp2_with fail
    refine (take_bad hr2 5 (by rw [suf_length, suf_length]; omega) (by omega)).mono ?_
    rintro e w9 ⟨rfl, rfl⟩
    exact open_door w.heap.size _ _ _ _ _ rfl rfl rfl hE2 (fun w2 hg2 => ⟨_, _, rfl, below_grown hr2.below hg2 hr2.below.size (by intro k hk; injection hk with hk; omega)⟩)
  go_wp2_with fail
  refine (take_ok hr2 5 (by rw [suf_length, suf_length]; omega)).mono ?_
  rintro e w3 ⟨rfl, hr3, hg3⟩
  have hE3 := hE2.grown hg3 hne
  by_cases d3 : r.l.length < 10
  · clear hbad
    go_wp2_with fail
    refine (number_bad hr3 2 (by rw [suf_length, suf_length, suf_length]; omega) (by omega)).mono ?_
    rintro e w9 ⟨rfl, rfl⟩
    exact open_door w.heap.size _ _ _ _ _ rfl rfl rfl hE3 (fun w2 hg2 => ⟨_, _, rfl, below_grown hr3.below hg2 hr3.below.size (by intro k hk; injection hk with hk; omega)⟩)
  go_wp2_with fail
  refine (number_ok hr3 2 (by rw [suf_length, suf_length, suf_length]; omega) (by omega)).mono ?_
  rintro e w4 ⟨rfl, hr4, hg4⟩
  have hE4 := hE3.grown hg4 hne
  have hnum : el ((((r.suf 2).suf 1).suf 5).l.take 2) = el ((r.l.drop 8).take 2) := by simp [Inner.suf]
  rw [hnum]
  clear hnum
  have hnlt := el_take_lt (r.l.drop 8) 2 (by rw [List.length_drop]; omega) (h.bytes.drop 8)
  generalize el ((r.l.drop 8).take 2) = n at hbad hnlt
  by_cases d4 : r.l.length < 12
  · clear hbad
    go_wp2_with fail
    refine (take_bad hr4 2 (by rw [suf_length, suf_length, suf_length, suf_length]; omega) (by omega)).mono ?_
    rintro e w9 ⟨rfl, rfl⟩
    exact open_door w.heap.size _ _ _ _ _ rfl rfl rfl hE4 (fun w2 hg2 => ⟨_, _, rfl, below_grown hr4.below hg2 hr4.below.size (by intro k hk; injection hk with hk; omega)⟩)
  go_wp2_with fail
  refine (take_ok hr4 2 (by rw [suf_length, suf_length, suf_length, suf_length]; omega)).mono ?_
  rintro e w5 ⟨rfl, hr5, hg5⟩
  have hE5 := hE4.grown hg5 hne
  have d5 : r.l.length - 12 < n := by omega
  clear hbad
  go_wp2_with fail
  refine (take_bad hr5 n (by rw [suf_length, suf_length, suf_length, suf_length, suf_length]; omega) (by omega)).mono ?_
  rintro e w9 ⟨rfl, rfl⟩
  exact open_door w.heap.size _ _ _ _ _ rfl rfl rfl hE5 (fun w2 hg2 => ⟨_, _, rfl, below_grown hr5.below hg2 hr5.below.size (by intro k hk; injection hk with hk; omega)⟩)
end Go.Proofs.Ytfbjjblgcgjndaa

/- Contracts of page.Open and of the reference's get and Open. -/
namespace Go.Proofs.Ytfbjjblgcgjndaa
open Go.RowKit

def kindOf (l : List Nat) : Nat := nth l 2
def lenOf (l : List Nat) : Nat := el ((l.drop 8).take 2)
def payOf (l : List Nat) : List Nat := (l.drop 12).take (lenOf l)
/-- the bytes are the page of that number -/
def IsPage (number : Nat) (l : List Nat) : Prop := 12 ≤ l.length ∧ lenOf l ≤ l.length - 12 ∧ SealOk (kindOf l) (payOf l) ∧ l = sealed (kindOf l) number (payOf l)
instance (number : Nat) (l : List Nat) : Decidable (IsPage number l) := inferInstanceAs (Decidable (_ ∧ _ ∧ _ ∧ _))
theorem IsPage.length {number : Nat} {l : List Nat} (h : IsPage number l) : l.length = 1024 := by
  have := h.2.2.2
  rw [this]
  exact sealed_length _ _ _ h.2.2.1.2.2

theorem sealed_form (k number : Nat) (p : List Nat) : ∃ rest, sealed k number p = front k number p.length ++ (p ++ rest) := by
  unfold sealed closed fill
  exact ⟨_, by rw [List.append_assoc, List.append_assoc]⟩
theorem front_form (k number n : Nat) : ∃ a, a.length = 4 ∧ front k number n = [67, 80, k, 0] ++ (a ++ (le n 2 ++ le 0 2)) ∧ a = le number 4 :=
  ⟨le number 4, le_length _ _, by simp [front], rfl⟩
theorem sealed_parts (k number : Nat) (p : List Nat) (h : p.length ≤ 1008) : kindOf (sealed k number p) = k ∧ lenOf (sealed k number p) = p.length ∧ payOf (sealed k number p) = p ∧ ((sealed k number p).drop 4).take 4 = le number 4 := by
  obtain ⟨rest, hs⟩ := sealed_form k number p
  obtain ⟨a, ha, hf, ha2⟩ := front_form k number p.length
  have h1 : kindOf (sealed k number p) = k := by rw [hs, hf]; simp [kindOf, nth]
  have h2 : lenOf (sealed k number p) = p.length := by
    rw [hs, hf]
    unfold lenOf
    have e : (([67, 80, k, 0] ++ (a ++ (le p.length 2 ++ le 0 2)) ++ (p ++ rest)).drop 8).take 2 = le p.length 2 := by
      have e1 : [67, 80, k, 0] ++ (a ++ (le p.length 2 ++ le 0 2)) ++ (p ++ rest) = ([67, 80, k, 0] ++ a) ++ (le p.length 2 ++ (le 0 2 ++ (p ++ rest))) := by simp
      rw [e1, List.drop_left' (by simp [ha]), List.take_left' (le_length _ _)]
    rw [e, el_le, Nat.mod_eq_of_lt (by omega)]
  refine ⟨h1, h2, ?_, ?_⟩
  · unfold payOf
    rw [h2, hs, List.drop_left' (front_length _ _ _), List.take_left' rfl]
  · rw [hs, hf]
    have e1 : [67, 80, k, 0] ++ (a ++ (le p.length 2 ++ le 0 2)) ++ (p ++ rest) = [67, 80, k, 0] ++ (a ++ (le p.length 2 ++ (le 0 2 ++ (p ++ rest)))) := by simp
    rw [e1, List.drop_left' (by simp), List.take_left' ha, ha2]
theorem isPage_sealed (k number : Nat) (p : List Nat) (h : SealOk k p) : IsPage number (sealed k number p) := by
  obtain ⟨h1, h2, h3, _⟩ := sealed_parts k number p h.2.2
  have hl := sealed_length k number p h.2.2
  have := h.2.2
  exact ⟨by omega, by rw [h2, hl]; omega, by rw [h1, h3]; exact h, by rw [h1, h3]⟩
theorem kindOf_lt {l : List Nat} (hb : Bytes l) (h : 12 ≤ l.length) : kindOf l < 256 := hb.nth 2 (by omega)

theorem own_base_mono {n0 n1 : Nat} {w : World} {v : Value} {l : List Nat} (h : Buf n1 w v l) (hn : n0 ≤ n1) : Buf n0 w v l := by
  refine ⟨h.1, ?_⟩
  rcases h.2 with h2 | ⟨g, cap, cur, h1, h2, h3⟩
  · exact .inl h2
  · exact .inr ⟨g, cap, cur, h1, Nat.le_trans hn h2, h3⟩

set_option maxRecDepth 100000 in
set_option maxHeartbeats 1000000 in
theorem open_yes (number : Nat) (r : Inner) (w : World) (h : r.Ok w) (hn : number < 4294967296) (hp : IsPage number r.l) :
    Calls Try.prog 69 #[.int .u32 (number : Int), .slice r.A r.l.length r.c] w fun e w' => ∃ v, e = .returned (.tuple #[.int .u8 (kindOf r.l : Int), v, .int .u16 0]) ∧ Buf w.heap.size w' v (payOf r.l) ∧ Below w.heap.size w w' ∧ w.heap.size ≤ w'.heap.size := by
  obtain ⟨h12, hfit, hso, heq⟩ := hp
  have hk := kindOf_lt h.bytes h12
  have hpb : Bytes (payOf r.l) := (h.bytes.drop 12).take _
  have hop := Lib.hid (open_ok r w h h12 (lenOf r.l) rfl hfit)
  rw [show (nth r.l 2) = kindOf r.l from rfl, show (r.l.drop 12).take (lenOf r.l) = payOf r.l from rfl] at hop
  generalize kindOf r.l = K at *
  generalize payOf r.l = Y at *
  have HEQ := Lib.hid heq
  have HB := Lib.hid h.bytes
  have hpl := hso.2.2
  clear heq hfit
  go_enter Try.func69, Try.ntmps69
  go_wp2_with fail
  refine hop.out.mono ?_
  rintro e w1 ⟨⟨qA, ql, qc⟩, hq, hql, rfl, hb1⟩
  simp only at hql
  subst hql
  have hq1 := hq.below hb1
  have hl1 : At w1 qA (ns .u8 ql) := hq1.lies
  have hn1 : qA = none → qc = 0 := hq1.nil
  have hqb : Bytes ql := hq1.bytes
  clear hq hq1
  go_wp2_with fail
  refine (seal_ok K number qA qc ql w1 hso hk hn hqb hl1 hn1).mono ?_
  rintro e w2 ⟨v2, rfl, hv2, hb2, hs2⟩
  rw [← HEQ.out] at hv2
  obtain ⟨A2, c2, rfl, hA2, hnil2, hc2, hm2⟩ := hv2.at
  have hb02 := below_next0 hb1 hb2
  have hlies := h.lies.below hb02
  have hl2 := hl1.below hb2
  have heqc := equal_any A2 r.A c2 r.c _ _ r.l r.l w2 rfl rfl hA2 hlies HB.out HB.out
  rw [decide_eq_true rfl] at heqc
  go_wp2_with fail
  refine heqc.mono ?_
  rintro e w3 ⟨rfl, rfl⟩
  go_wp2_with fail
  refine (clone_any qA qc _ ql w2 rfl (by omega) hl2 hn1).mono ?_
  rintro e w4 ⟨v4, rfl, hv4, hb4, hs4⟩
  go_wp2
  go_ret3
  exact ⟨_, rfl, own_base_mono hv4 hb02.size, below_next0 hb02 hb4, Nat.le_trans hb02.size hs4⟩

/-- bytes that are no page: where the parts fail -/
theorem no_page {number : Nat} {l : List Nat} (h : ¬ IsPage number l) : (l.length < 12 ∨ (12 ≤ l.length ∧ l.length - 12 < lenOf l)) ∨ (12 ≤ l.length ∧ lenOf l ≤ l.length - 12 ∧ (¬ SealOk (kindOf l) (payOf l) ∨ (SealOk (kindOf l) (payOf l) ∧ sealed (kindOf l) number (payOf l) ≠ l))) := by
  by_cases h1 : 12 ≤ l.length
  · by_cases h2 : lenOf l ≤ l.length - 12
    · refine .inr ⟨h1, h2, ?_⟩
      by_cases h3 : SealOk (kindOf l) (payOf l)
      · exact .inr ⟨h3, fun e => h ⟨h1, h2, h3, e.symm⟩⟩
      · exact .inl h3
    · exact .inl (.inr ⟨h1, by omega⟩)
  · exact .inl (.inl (by omega))

set_option maxRecDepth 100000 in
set_option maxHeartbeats 1000000 in
theorem open_no (number : Nat) (r : Inner) (w : World) (h : r.Ok w) (hn : number < 4294967296) (hp : ¬ IsPage number r.l) :
    Calls Try.prog 69 #[.int .u32 (number : Int), .slice r.A r.l.length r.c] w fun e w' => e = .returned (.tuple #[.int .u8 0, .slice none 0 0, .int .u16 80]) ∧ Below w.heap.size w w' := by
  rcases no_page hp with hbad | ⟨h12, hfit, hrest⟩
  · have hop := Lib.hid (open_bad r w h hbad)
    clear hbad hp
    go_enter Try.func69, Try.ntmps69
    go_wp2_with fail
    refine hop.out.mono ?_
    rintro e w1 ⟨k, v, rfl, hb1⟩
    go_wp2
    go_ret3
    exact ⟨rfl, hb1⟩
  · have hk := kindOf_lt h.bytes h12
    have hpb : Bytes (payOf r.l) := (h.bytes.drop 12).take _
    have hop := Lib.hid (open_ok r w h h12 (lenOf r.l) rfl hfit)
    rw [show (nth r.l 2) = kindOf r.l from rfl, show (r.l.drop 12).take (lenOf r.l) = payOf r.l from rfl] at hop
    clear hp hfit
    generalize kindOf r.l = K at *
    generalize payOf r.l = Y at *
    have HB := Lib.hid h.bytes
    rcases hrest with hso | ⟨hso, hne⟩
    · go_enter Try.func69, Try.ntmps69
      go_wp2_with fail
      refine hop.out.mono ?_
      rintro e w1 ⟨⟨qA, ql, qc⟩, hq, hql, rfl, hb1⟩
      simp only at hql
      subst hql
      go_wp2_with fail
      refine (seal_no K number qA qc ql w1 hso).mono ?_
      rintro e w2 ⟨rfl, rfl⟩
      go_wp2
      go_ret3
      exact ⟨rfl, hb1⟩
    · have hsl := sealed_bytes K number Y hk hpb
      generalize hS : sealed K number Y = S at hne hsl
      have HS := Lib.hid hS
      have HNE := Lib.hid hne
      clear hS hne
      go_enter Try.func69, Try.ntmps69
      go_wp2_with fail
      refine hop.out.mono ?_
      rintro e w1 ⟨⟨qA, ql, qc⟩, hq, hql, rfl, hb1⟩
      simp only at hql
      subst hql
      have hq1 := hq.below hb1
      have hl1 : At w1 qA (ns .u8 ql) := hq1.lies
      have hn1 : qA = none → qc = 0 := hq1.nil
      have hqb : Bytes ql := hq1.bytes
      clear hq hq1
      go_wp2_with fail
      refine (seal_ok K number qA qc ql w1 hso hk hn hqb hl1 hn1).mono ?_
      rintro e w2 ⟨v2, rfl, hv2, hb2, hs2⟩
      rw [HS.out] at hv2
      obtain ⟨A2, c2, rfl, hA2, hnil2, hc2, hm2⟩ := hv2.at
      have hb02 := below_next0 hb1 hb2
      have hlies := h.lies.below hb02
      have heqc := equal_any A2 r.A c2 r.c _ _ S r.l w2 rfl rfl hA2 hlies hsl HB.out
      rw [decide_eq_false HNE.out] at heqc
      go_wp2_with fail
      refine heqc.mono ?_
      rintro e w3 ⟨rfl, rfl⟩
      go_wp2
      go_ret3
      exact ⟨rfl, hb02⟩
end Go.Proofs.Ytfbjjblgcgjndaa

/- Contracts of the reference's get and Open. -/
namespace Go.Proofs.Ytfbjjblgcgjndaa
open Go.RowKit

/-- the last ones of k from at on -/
def seg (l : List Nat) (at_ k : Nat) : List Nat := (l.drop at_).take k
theorem seg_cons (l : List Nat) (a k : Nat) (h : a < l.length) : seg l a (k + 1) = nth l a :: seg l (a + 1) k := by
  unfold seg
  have : l.drop a = nth l a :: l.drop (a + 1) := by rw [List.drop_eq_getElem_cons h, nth_get l a h]
  rw [this, List.take_succ_cons]
theorem el_seg (l : List Nat) (a k : Nat) (h : a < l.length) : el (seg l a (k + 1)) = nth l a + 256 * el (seg l (a + 1) k) := by rw [seg_cons l a k h, el]
theorem el_seg_lt (l : List Nat) (a k : Nat) (hb : Bytes l) : el (seg l a k) < 256 ^ k := by
  have h1 := el_lt (seg l a k) ((hb.drop a).take k)
  have h2 : (seg l a k).length ≤ k := by simp [seg]; omega
  exact Nat.lt_of_lt_of_le h1 (Nat.pow_le_pow_right (by decide) h2)

set_option maxRecDepth 100000 in
set_option maxHeartbeats 1000000 in
theorem get_any (A : Option Addr) (c n : Nat) (l : List Nat) (a k : Nat) (w : World) (hn : n = l.length) (hs : l.length ≤ 1000000000) (hak : a + k ≤ l.length) (hk : k ≤ 8) (hA : At w A (ns .u8 l)) (hb : Bytes l) :
    Calls Try.prog 138 #[.slice A n c, .int .i64 (a : Int), .int .i64 (k : Int)] w fun e w' => e = .returned (.int .u64 ((el (seg l a k) : Nat) : Int)) ∧ w = w' := by
  subst hn
  go_enter Try.func138, Try.ntmps138
  go_wp2
  go_loop [7, 8] (fun n i => ∃ j : Nat, j ≤ k ∧ i = .int .i64 ((j : Int) - 1) ∧ n = .int .u64 ((el (seg l (a + j) (k - j)) : Nat) : Int)) (fun _ i => (intOf i + 1).toNat)
  case atStart => exact ⟨k, by omega, rfl, by simp [seg, el]⟩
  case round =>
    obtain ⟨j, hj, rfl, rfl⟩ := hrel
    by_cases hlt : 0 < j
    · obtain ⟨i, rfl⟩ : ∃ i, j = i + 1 := ⟨j - 1, by omega⟩
      obtain ⟨g, o, rfl, hc⟩ := hA.num (a + i) (by omega)
      have hst := el_seg l (a + i) (k - (i + 1)) (by omega)
      rw [show k - (i + 1) + 1 = k - i by omega] at hst
      have hlt2 := el_seg_lt l (a + (i + 1)) (k - (i + 1)) hb
      have hv := hb.nth (a + i) (by omega)
      have hp7 : 256 ^ (k - (i + 1)) ≤ 256 ^ 7 := Nat.pow_le_pow_right (by decide) (by omega)
      rw [show a + i + 1 = a + (i + 1) by omega] at hst
      have e7 : (256 : Nat) ^ 7 = 72057594037927936 := by decide
      have HST := Lib.hid hst
      have hE : el (seg l (a + (i + 1)) (k - (i + 1))) < 72057594037927936 := by omega
      clear hst hlt2 hp7 e7
      generalize el (seg l (a + (i + 1)) (k - (i + 1))) = E at hE HST
      have e1 : ((i + 1 : Nat) : Int) - 1 = (i : Int) := by omega
      rw [e1]
      go_wp2
      go_round
      case rel => exact ⟨i, by omega, by go_num, by rw [HST.out]; go_num⟩
      case measure => simp [intOf]
    · obtain rfl : j = 0 := by omega
      go_wp2
      go_ret
      exact ⟨rfl, rfl⟩

theorem At.cut {w : World} {g o : Nat} {kd : IntKind} {l : List Nat} (h : At w (some ⟨g, o, none⟩) (ns kd l)) (k : Nat) : At w (some ⟨g, o + k, none⟩) (ns kd (l.drop k)) := by
  intro hn
  obtain ⟨b, o', e, hr⟩ := h (by intro he; apply hn; have := congrArg List.length he; simp [ns] at this; rw [this]; simp [ns])
  cases e
  refine ⟨g, o + k, rfl, fun j v hv => ?_⟩
  rw [Nat.add_assoc]
  refine hr (k + j) v ?_
  simpa [ns] using hv

/-- append at a step of a region that draws its order, of what the call owns -/
theorem step_buf_append {P : Program} {ops : Array Oper} {o : Oper} {a : Act} {w w0 : World} {K : Act → World → Prop} {Q : Exit → Act → World → Prop} {E : Prop} (hgd : o.guard = none) (s x : Operand)
    (ho : o.op = .call { callee := .builtin .append, args := #[s, x], argTypes := #[23, 23] })
    (ht : P.underlying 23 = some (.slice 5)) (hinfo : (P.info? 5).map (fun i => (i.zero, i.size, i.bytes)) = some (some (.int .u8 0), 1, 1))
    (n0 : Nat) (v : Value) (l : List Nat) (hs : a.eval s = v) (hown : Buf n0 w v l)
    (ad : Addr) (m c : Nat) (l2 : List Nat) (hx : a.eval x = .slice (some ad) m c) (hm : m = l2.length) (hAt : At w (some ad) (ns .u8 l2))
    (hsm : l.length + l2.length ≤ 140737488355328) (hbase : n0 ≤ w.heap.size) (hb : Below n0 w0 w)
    (h : ∀ v' w', Buf n0 w' v' (l ++ l2) → Below n0 w0 w' → n0 ≤ w'.heap.size → K (a.put o.dst v') w') :
    if Region.wanted o (yielded ops a.tmps) = true then Oper.wp P o a w K Q else E := by
  have hw : Region.wanted o (yielded ops a.tmps) = true := by simp [Region.wanted, hgd]
  rw [if_pos hw]
  subst hm
  obtain ⟨i0, hi, hzz⟩ := Option.map_eq_some_iff.1 hinfo
  simp only [Prod.mk.injEq] at hzz
  obtain ⟨hz0, hz1, hz2⟩ := hzz
  have hnews : ∀ j u, (ns .u8 l2)[j]? = some u → w.cell? (ad.add j) = some u := fun j u hu => by
    obtain ⟨b, o, e, hr⟩ := hAt (by intro hn; rw [hn] at hu; simp at hu)
    cases e
    rw [Addr.add_mid]; exact hr j u hu
  obtain ⟨v', w', hr, h2, h3, h4, h5⟩ := run_append_own_at (P := P) w n0 23 o.type 5 i0 (.int .u8 0) 1 1 ht hi hz0 hz1 hz2 rfl (by decide) v l.length (ns .u8 l) hown ad l2.length c (ns .u8 l2) (by simp [ns]) hnews (ns_one _ _) (by simp only [maxLen]; omega) (by omega) hbase
  unfold Oper.wp execOp
  simp only [ho, resolve, invoke, builtin, Sem.run_bind, Sem.run_pure, Result.andThen_ok, List.map_toArray, List.map_cons, List.map_nil, hs, hx, hr]
  refine h v' w' ?_ (hown.grown hb h3 hbase) (Nat.le_trans hbase h3.size)
  unfold Buf
  rw [List.length_append, ns_append]; exact h2

set_option maxRecDepth 100000 in
set_option maxHeartbeats 2000000 in
theorem ropen_yes (number : Nat) (A : Option Addr) (c : Nat) (l : List Nat) (w : World) (hs : l.length ≤ 1000000000) (hA : At w A (ns .u8 l)) (hb : Bytes l) (hcl : l.length ≤ c) (hn : number < 4294967296) (hp : IsPage number l) :
    Calls Try.prog 70 #[.int .u32 (number : Int), .slice A l.length c] w fun e w' => ∃ v, e = .returned (.tuple #[.int .u8 (kindOf l : Int), v, .int .u16 0]) ∧ Buf w.heap.size w' v (payOf l) ∧ Below w.heap.size w w' ∧ w.heap.size ≤ w'.heap.size := by
  have hlen := hp.length
  obtain ⟨h12, hfit, hso, heq⟩ := hp
  have hget := get_any A c _ l 8 2 w rfl hs (by omega) (by omega) hA hb
  rw [show el (seg l 8 2) = lenOf l from rfl] at hget
  have hpl : (payOf l).length = lenOf l := by simp only [payOf, List.length_take, List.length_drop]; omega
  have h1008 := hso.2.2
  have hk := kindOf_lt hb h12
  obtain ⟨g, o, rfl, hc⟩ := hA.num 2 (by omega)
  rw [show nth l 2 = kindOf l from rfl] at hc
  have hpb : Bytes (payOf l) := (hb.drop 12).take _
  have hAp : At w (some ⟨g, o + 12, none⟩) (ns .u8 (payOf l)) := by
    have h1 := (At.cut hA 12).takes (lenOf l)
    exact h1
  generalize kindOf l = K at *
  generalize payOf l = Y at *
  generalize lenOf l = N at *
  subst hpl
  have HG := Lib.hid hget
  have HEQ := Lib.hid heq
  have hso2 : 1 ≤ K ∧ K ≤ 4 := ⟨hso.1, hso.2.1⟩
  have HSO := Lib.hid hso
  have hc12 : (12 + Y.length : Int) ≤ (c : Int) := by omega
  have hc1024 : 1024 ≤ c := by omega
  clear hget heq hso hfit hs h12 hcl
  have HLEN := Lib.hid hlen
  rw [hlen] at HG ⊢
  clear hlen
  go_enter Try.func70, Try.ntmps70
  go_wp2_with fail
  refine HG.out.mono ?_
  rintro e w1 ⟨rfl, rfl⟩
  go_wp2_with fail
  have x1 : IntKind.i64.wrap (12 + (Y.length : Int)) = 12 + (Y.length : Int) := IntWalk.i64_in _ (by omega)
  have x2 : (12 : Int) ≤ 12 + (Y.length : Int) := by omega
  have x3 : (0 : Int) ≤ 12 + (Y.length : Int) := by omega
  have x4 : (12 + (Y.length : Int)).toNat = 12 + Y.length := by omega
  have x5 : ¬ (c = 12) := by omega
  have x6 : 12 + Y.length - 12 = Y.length := by omega
  go_region_held3 (fun w' => Below w.heap.size w w' ∧ w'.cell? ⟨g, o + 2, none⟩ = some (.int .u8 (K : Int))) (first | exact ⟨Below.refl _ _, hc⟩ | exact ⟨below_drew0 (Below.refl _ _), hc⟩ | exact ⟨below_next0 (below_drew0 (Below.refl _ _)) (by assumption), Eq.trans (Below.cell (B := w.heap.size) (below_next0 (below_drew0 (Below.refl _ _)) (by assumption)) (World.block_lt_of_cell? w _ hc)) hc⟩ | assumption)
    (first | (go_at_call 67; refine (rseal_ok K number (some ⟨g, o + 12, none⟩) (c - 12) Y _ HSO.out hk hn hpb (hAp.below (by first | exact Below.refl _ _ | exact below_drew0 (Below.refl _ _) | exact And.left (by assumption))) (by simp)).mono ?_; rintro e w2 ⟨v2, rfl, hv2, hb2, hs2⟩))
  clear x1 x2 x3 x4 x5 x6
  rw [← HEQ.out] at hv2
  obtain ⟨A2, c2, e2, hA2, hnil2, hc2, hm2⟩ := hv2.at
  rw [HLEN.out] at e2
  subst e2
  have hbw : Below w.heap.size w w2 := below_next0 (below_drew0 (Below.refl _ _)) hb2
  have hlw := hA.below hbw
  have k1 := conv_str (P := Try.prog) w2 A2 c2 l 1024 HLEN.out.symm hA2 Try.underlying23 Try.underlying5 Try.underlying9
  have k2 := conv_str (P := Try.prog) w2 (some ⟨g, o, none⟩) c l 1024 HLEN.out.symm hlw Try.underlying23 Try.underlying5 Try.underlying9
  have hcw : w2.cell? ⟨g, o + 2, none⟩ = some (.int .u8 (K : Int)) := (hbw.cell (World.block_lt_of_cell? w _ hc)).trans hc
  have hAw := hAp.below hbw
  go_wp2_with fail
  have x1 : IntKind.i64.wrap (12 + (Y.length : Int)) = 12 + (Y.length : Int) := IntWalk.i64_in _ (by omega)
  have x2 : (12 : Int) ≤ 12 + (Y.length : Int) := by omega
  have x3 : (0 : Int) ≤ 12 + (Y.length : Int) := by omega
  have x4 : (12 + (Y.length : Int)).toNat = 12 + Y.length := by omega
  have x5 : ¬ (c = 12) := by omega
  have x6 : 12 + Y.length - 12 = Y.length := by omega
  have hsz : w.heap.size ≤ w2.heap.size := hbw.size
  go_region_held3 (fun w' => Below w.heap.size w w' ∧ w'.cell? ⟨g, o + 2, none⟩ = some (.int .u8 (K : Int))) (first | exact ⟨hbw, hcw⟩ | exact ⟨hbw.drew, hcw⟩ | exact ⟨by assumption, Eq.trans (Below.cell (B := w.heap.size) (by assumption) (World.block_lt_of_cell? w _ hc)) hc⟩ | assumption)
    ((refine step_buf_append (w0 := w) (by rfl) _ _ (by rfl) Try.underlying23 Try.info5 w.heap.size (.slice none 0 0) [] (by rfl) (Buf.nil _ _) ⟨g, o + 12, none⟩ Y.length (c - 12) Y (by rfl) rfl (hAw.below (below_drew0 (Below.refl _ _))) (by simp; omega) hsz hbw.drew ?_; intro v3 w3 hv3 hb3 hs3))
  rw [List.nil_append] at hv3
  clear x1 x2 x3 x4 x5 x6
  go_wp2
  go_ret3
  exact ⟨_, rfl, hv3, hb3, hs3⟩

set_option maxRecDepth 100000 in
set_option maxHeartbeats 2000000 in
theorem ropen_no (number : Nat) (A : Option Addr) (c : Nat) (l : List Nat) (w : World) (hs : l.length ≤ 1000000000) (hA : At w A (ns .u8 l)) (hb : Bytes l) (hcl : l.length ≤ c) (hn : number < 4294967296) (hp : ¬ IsPage number l) :
    Calls Try.prog 70 #[.int .u32 (number : Int), .slice A l.length c] w fun e w' => e = .returned (.tuple #[.int .u8 0, .slice none 0 0, .int .u16 80]) ∧ Below w.heap.size w w' := by
  by_cases hlen : l.length = 1024
  · have hget := get_any A c _ l 8 2 w rfl hs (by omega) (by omega) hA hb
    rw [show el (seg l 8 2) = lenOf l from rfl] at hget
    by_cases h1008 : lenOf l ≤ 1008
    · have hpl : (payOf l).length = lenOf l := by simp only [payOf, List.length_take, List.length_drop]; omega
      have hrest : ¬ SealOk (kindOf l) (payOf l) ∨ (SealOk (kindOf l) (payOf l) ∧ sealed (kindOf l) number (payOf l) ≠ l) := by
        rcases no_page hp with (h | ⟨_, h⟩) | ⟨_, _, h⟩
        · omega
        · omega
        · exact h
      have hk := kindOf_lt hb (by omega)
      obtain ⟨g, o, rfl, hc⟩ := hA.num 2 (by omega)
      rw [show nth l 2 = kindOf l from rfl] at hc
      have hpb : Bytes (payOf l) := (hb.drop 12).take _
      have hAp : At w (some ⟨g, o + 12, none⟩) (ns .u8 (payOf l)) := by
        have h1 := (At.cut hA 12).takes (lenOf l)
        exact h1
      have hsb : SealOk (kindOf l) (payOf l) → Bytes (sealed (kindOf l) number (payOf l)) := fun _ => sealed_bytes _ _ _ hk hpb
      have hsl : SealOk (kindOf l) (payOf l) → (sealed (kindOf l) number (payOf l)).length = 1024 := fun h => sealed_length _ _ _ h.2.2
      clear hp
      generalize kindOf l = K at *
      generalize payOf l = Y at *
      generalize lenOf l = N at *
      subst hpl
      have HG := Lib.hid hget
      have hc1024 : 1024 ≤ c := by omega
      have HLEN := Lib.hid hlen
      clear hget hs hcl
      rw [hlen] at HG ⊢
      clear hlen
      rcases hrest with hso | ⟨hso, hne⟩
      · go_enter Try.func70, Try.ntmps70
        go_wp2_with fail
        refine HG.out.mono ?_
        rintro e w1 ⟨rfl, rfl⟩
        go_wp2_with fail
        have x1 : IntKind.i64.wrap (12 + (Y.length : Int)) = 12 + (Y.length : Int) := IntWalk.i64_in _ (by omega)
        have x2 : (12 : Int) ≤ 12 + (Y.length : Int) := by omega
        have x2b : 12 + (Y.length : Int) ≤ (c : Int) := by omega
        have x3 : (0 : Int) ≤ 12 + (Y.length : Int) := by omega
        have x4 : (12 + (Y.length : Int)).toNat = 12 + Y.length := by omega
        have x5 : ¬ (c = 12) := by omega
        have x6 : 12 + Y.length - 12 = Y.length := by omega
        go_region_held3 (fun w' => Below w.heap.size w w' ∧ w'.cell? ⟨g, o + 2, none⟩ = some (.int .u8 (K : Int))) (first | exact ⟨Below.refl _ _, hc⟩ | exact ⟨below_drew0 (Below.refl _ _), hc⟩ | assumption)
          (first | (go_at_call 67; refine (rseal_no K number (some ⟨g, o + 12, none⟩) (c - 12) Y _ hso).mono ?_; rintro e w2 ⟨rfl, rfl⟩))
        clear x1 x2 x2b x3 x4 x5 x6
        go_wp2
        go_ret3
        exact ⟨rfl, below_drew0 (Below.refl _ _)⟩
      · have hsb' := hsb hso
        have hsl' := hsl hso
        generalize hS : sealed K number Y = S at hne hsb' hsl'
        have HS := Lib.hid hS
        have HSO := Lib.hid hso
        have HNE := Lib.hid hne
        have HSL := Lib.hid hsl'
        clear hS hne hsb hsl hso hsl'
        go_enter Try.func70, Try.ntmps70
        go_wp2_with fail
        refine HG.out.mono ?_
        rintro e w1 ⟨rfl, rfl⟩
        go_wp2_with fail
        have x1 : IntKind.i64.wrap (12 + (Y.length : Int)) = 12 + (Y.length : Int) := IntWalk.i64_in _ (by omega)
        have x2 : (12 : Int) ≤ 12 + (Y.length : Int) := by omega
        have x2b : 12 + (Y.length : Int) ≤ (c : Int) := by omega
        have x3 : (0 : Int) ≤ 12 + (Y.length : Int) := by omega
        have x4 : (12 + (Y.length : Int)).toNat = 12 + Y.length := by omega
        have x5 : ¬ (c = 12) := by omega
        have x6 : 12 + Y.length - 12 = Y.length := by omega
        go_region_held3 (fun w' => Below w.heap.size w w' ∧ w'.cell? ⟨g, o + 2, none⟩ = some (.int .u8 (K : Int))) (first | exact ⟨Below.refl _ _, hc⟩ | exact ⟨below_drew0 (Below.refl _ _), hc⟩ | exact ⟨below_next0 (below_drew0 (Below.refl _ _)) (by assumption), Eq.trans (Below.cell (B := w.heap.size) (below_next0 (below_drew0 (Below.refl _ _)) (by assumption)) (World.block_lt_of_cell? w _ hc)) hc⟩ | assumption)
          (first | (go_at_call 67; refine (rseal_ok K number (some ⟨g, o + 12, none⟩) (c - 12) Y _ HSO.out hk hn hpb (hAp.below (by first | exact Below.refl _ _ | exact below_drew0 (Below.refl _ _) | exact And.left (by assumption))) (by simp)).mono ?_; rintro e w2 ⟨v2, rfl, hv2, hb2, hs2⟩))
        clear x1 x2 x2b x3 x4 x5 x6
        rw [HS.out] at hv2
        obtain ⟨A2, c2, e2, hA2, hnil2, hc2, hm2⟩ := hv2.at
        rw [HSL.out] at e2
        subst e2
        have hbw : Below w.heap.size w w2 := below_next0 (below_drew0 (Below.refl _ _)) hb2
        have hlw := hA.below hbw
        have k1 := conv_str (P := Try.prog) w2 A2 c2 S 1024 HSL.out.symm hA2 Try.underlying23 Try.underlying5 Try.underlying9
        have k2 := conv_str (P := Try.prog) w2 (some ⟨g, o, none⟩) c l 1024 HLEN.out.symm hlw Try.underlying23 Try.underlying5 Try.underlying9
        have k3 := str_beq S l hsb' hb
        rw [decide_eq_false HNE.out] at k3
        go_wp2
        go_ret3
        exact ⟨rfl, hbw⟩
    · have hn1 : 1008 < lenOf l := by omega
      have hN : lenOf l < 65536 := by
        have := el_seg_lt l 8 2 hb
        exact this
      generalize lenOf l = N at *
      have HG := Lib.hid hget
      clear hget hs hcl hp h1008
      rw [hlen] at HG ⊢
      clear hlen
      go_enter Try.func70, Try.ntmps70
      go_wp2_with fail
      refine HG.out.mono ?_
      rintro e w1 ⟨rfl, rfl⟩
      go_wp2
      go_ret3
      exact ⟨rfl, Below.refl _ _⟩
  · have h0 : ((l.length : Int) != 1024) = true := by simp; omega
    have h0' : (l.length == 1024) = false := by simp; omega
    have h0'' : (l.length != 1024) = true := by simp; omega
    clear hlen hp
    go_enter Try.func70, Try.ntmps70
    go_wp2
    go_ret3
    exact ⟨rfl, Below.refl _ _⟩
end Go.Proofs.Ytfbjjblgcgjndaa

/- Contracts of page.may and of the reference's May. -/
namespace Go.Proofs.Ytfbjjblgcgjndaa
open Go.RowKit

theorem beq_nat (a b : Nat) : ((((a : Int) == 0) = ((b : Int) == 0)) ↔ (a = 0 ↔ b = 0)) := by
  rw [Bool.eq_iff_iff]
  simp
theorem ret_bool {a b : Bool} (h : a = b) : Ending.returned (.bool a) = .returned (.bool b) := by rw [h]
structure Meta where
  gen : Nat
  root : Nat
  free : Nat
  pages : Nat
  keys : Nat
deriving DecidableEq
def Meta.cells (m : Meta) : Array Value := #[.int .u64 (m.gen : Int), .int .u32 (m.root : Int), .int .u32 (m.free : Int), .int .u32 (m.pages : Int), .int .u64 (m.keys : Int)]
def Meta.val (m : Meta) : Value := .agg m.cells
structure Meta.Ok (m : Meta) : Prop where
  gen : m.gen < 18446744073709551616
  root : m.root < 4294967296
  free : m.free < 4294967296
  pages : m.pages < 4294967296
  keys : m.keys < 18446744073709551616
def MayBe (m : Meta) : Prop := (1 ≤ m.gen ∧ m.gen ≤ 4611686018427387904 ∧ 2 ≤ m.pages ∧ m.pages ≤ 16384 ∧ m.keys ≤ 4611686018427387904) ∧ (m.root = 0 ∨ (2 ≤ m.root ∧ m.root < m.pages)) ∧ (m.free = 0 ∨ (2 ≤ m.free ∧ m.free < m.pages)) ∧ (m.root ≠ m.free ∨ m.root = 0) ∧ (m.keys = 0 ↔ m.root = 0)
instance (m : Meta) : Decidable (MayBe m) := inferInstanceAs (Decidable (_ ∧ _ ∧ _ ∧ _ ∧ _))

set_option maxRecDepth 100000 in
set_option maxHeartbeats 2000000 in
theorem rmay_any (m : Meta) (w : World) (h : m.Ok) :
    Calls Try.prog 140 #[m.val] w fun e w' => e = .returned (.bool (decide (MayBe m))) ∧ Below w.heap.size w w' := by
  obtain ⟨g, r, f, p, k⟩ := m
  obtain ⟨h1, h2, h3, h4, h5⟩ := h
  simp only at h1 h2 h3 h4 h5
  unfold Meta.val Meta.cells
  simp only
  obtain ⟨D, hD, hiff⟩ : ∃ D, decide (MayBe ⟨g, r, f, p, k⟩) = D ∧ (D = true ↔ (1 ≤ g ∧ g ≤ 4611686018427387904 ∧ 2 ≤ p ∧ p ≤ 16384 ∧ k ≤ 4611686018427387904) ∧ (r = 0 ∨ (2 ≤ r ∧ r < p)) ∧ (f = 0 ∨ (2 ≤ f ∧ f < p)) ∧ (r ≠ f ∨ r = 0) ∧ (k = 0 ↔ r = 0)) := ⟨_, rfl, decide_eq_true_iff⟩
  rw [hD]
  have HD := Lib.hid hiff
  clear hiff hD
  go_enter Try.func140, Try.ntmps140
  go_wp2
  all_goals
    go_ret
    refine ⟨ret_bool ?_, below_alloc0 (Below.refl _ _) _⟩
    rw [Bool.eq_iff_iff, HD.out]
    clear HD
    simp [beq_nat] at *
    omega

set_option maxRecDepth 100000 in
set_option maxHeartbeats 2000000 in
theorem may_any (m : Meta) (w : World) (h : m.Ok) :
    Calls Try.prog 139 #[m.val] w fun e w' => e = .returned (.bool (decide (MayBe m))) ∧ Below w.heap.size w w' := by
  obtain ⟨g, r, f, p, k⟩ := m
  obtain ⟨h1, h2, h3, h4, h5⟩ := h
  simp only at h1 h2 h3 h4 h5
  unfold Meta.val Meta.cells
  simp only
  obtain ⟨D, hD, hiff⟩ : ∃ D, decide (MayBe ⟨g, r, f, p, k⟩) = D ∧ (D = true ↔ (1 ≤ g ∧ g ≤ 4611686018427387904 ∧ 2 ≤ p ∧ p ≤ 16384 ∧ k ≤ 4611686018427387904) ∧ (r = 0 ∨ (2 ≤ r ∧ r < p)) ∧ (f = 0 ∨ (2 ≤ f ∧ f < p)) ∧ (r ≠ f ∨ r = 0) ∧ (k = 0 ↔ r = 0)) := ⟨_, rfl, decide_eq_true_iff⟩
  rw [hD]
  have HD := Lib.hid hiff
  clear hiff hD
  have hmf : ∀ (fn : Fn) (first cap : Array Value) (w : World), (Instr.makeFunc fn first cap).run Try.prog w = .ok (.func fn first cap) w := fun _ _ _ _ => rfl
  go_enter Try.func139, Try.ntmps139
  go_wp2
  all_goals
    go_ret
    refine ⟨ret_bool ?_, below_alloc0 (Below.refl _ _) _⟩
    rw [Bool.eq_iff_iff, HD.out]
    clear HD
    simp [beq_nat] at *
    omega
end Go.Proofs.Ytfbjjblgcgjndaa

/- Contracts of page.PutMeta and of the reference's PutMeta. -/
namespace Go.Proofs.Ytfbjjblgcgjndaa
open Go.RowKit

theorem buf_append_str {P : Program} {ops : Array Oper} {rest : List Oper} {o : Oper} {a : Act} {w w0 : World} {Q : Exit → Act → World → Prop} (hgd : o.guard = none) (s x : Operand)
    (ho : o.op = .call { callee := .builtin .append, args := #[s, x], argTypes := #[23, 9] })
    (ht : P.underlying 23 = some (.slice 5)) (h9 : P.underlying 9 = some .string) (hinfo : (P.info? 5).map (fun i => (i.zero, i.size, i.bytes)) = some (some (.int .u8 0), 1, 1))
    (n0 : Nat) (hs : a.eval s = .slice none 0 0) (b : ByteArray) (l : List Nat) (hx : a.eval x = .string b) (hb : byteCells b = ns .u8 l) (h0 : 0 < l.length) (hsm : l.length ≤ 1000000) (hbase : n0 ≤ w.heap.size) (hbel : Below n0 w0 w)
    (h : ∀ v' w', Buf n0 w' v' l → Below n0 w0 w' → n0 ≤ w'.heap.size → wpList P ops Q rest (a.put o.dst v') w') :
    wpList P ops Q (o :: rest) a w := by
  obtain ⟨i0, hi, hzz⟩ := Option.map_eq_some_iff.1 hinfo
  simp only [Prod.mk.injEq] at hzz
  obtain ⟨hz0, hz1, hz2⟩ := hzz
  have hlen : b.size = l.length := by
    have := congrArg List.length hb
    rw [byteCells_length] at this
    simpa [ns] using this
  have hsrc := Src.ofString (P := P) (w := w) h9 b
  rw [hb, hlen] at hsrc
  have hr := run_append_grow_src (P := P) w 23 9 o.type 5 i0 (.int .u8 0) ht hi hz0 none 0 0 [] (by simp [Builtin.firstCells]) (.string b) l.length (ns .u8 l) (by rw [hz1]; exact hsrc) (by omega) (by omega) (by
    rw [hz2, nextslicecap_zero (by omega)]; omega)
  simp only [Nat.zero_add, List.nil_append] at hr
  refine Lib.wpList_append_run w hgd s x 23 9 ho _ _ hs hx _ _ hr ?_
  have hge := grownCap_ge w l.length 0 5
  have hcm : grownCap w l.length 0 5 ≤ maxLen := grownCap_le_maxLen w l.length 0 5 (by simp only [maxLen]; omega)
  refine h _ _ ⟨by simp [ns], .inr ⟨w.heap.size, _, _, rfl, hbase, heap_alloc_new w.drew _, hge, hcm, ?_, ?_⟩⟩ (hbel.drew.alloc hbase _) (by simp; omega)
  · simp only [Array.size_append, List.size_toArray, size_zeroCells, ns_length]
    simp [Value.cells]
    omega
  · simp only [Array.toList_append]
    rw [Nat.mul_one]
    have : (ns .u8 l).length = l.length := ns_length _ _
    rw [← this]
    exact List.take_left

def metaBytes (m : Meta) : List Nat := [67, 77, 69, 84] ++ le m.gen 8 ++ le m.root 4 ++ le m.free 4 ++ le m.pages 4 ++ le m.keys 8
theorem metaBytes_length (m : Meta) : (metaBytes m).length = 32 := by simp [metaBytes, le_length]
theorem metaBytes_bytes (m : Meta) : Bytes (metaBytes m) := by
  refine Bytes.append (Bytes.append (Bytes.append (Bytes.append (Bytes.append ?_ (le_bytes _ _)) (le_bytes _ _)) (le_bytes _ _)) (le_bytes _ _)) (le_bytes _ _)
  exact Bytes.cons (by omega) (Bytes.cons (by omega) (Bytes.cons (by omega) (Bytes.cons (by omega) Bytes.nil)))
/-- a state as a sector -/
def sector (m : Meta) : List Nat := closed (fill (metaBytes m) 124)
theorem sector_length (m : Meta) : (sector m).length = 128 := by
  rw [sector, closed_length, fill_length _ _ (by rw [metaBytes_length]; omega)]
theorem sector_bytes (m : Meta) : Bytes (sector m) := closed_bytes _ (fill_bytes _ _ (metaBytes_bytes m))

theorem meta_cells {m : Meta} {W : World} {b : Nat} (h : W.heap[b]? = some (.cells m.cells 116 (0, 0))) :
    W.cell? ⟨b, 0, none⟩ = some (.int .u64 (m.gen : Int)) ∧ W.cell? ⟨b, 1, none⟩ = some (.int .u32 (m.root : Int)) ∧ W.cell? ⟨b, 2, none⟩ = some (.int .u32 (m.free : Int)) ∧ W.cell? ⟨b, 3, none⟩ = some (.int .u32 (m.pages : Int)) ∧ W.cell? ⟨b, 4, none⟩ = some (.int .u64 (m.keys : Int)) := by
  refine ⟨?_, ?_, ?_, ?_, ?_⟩ <;> (rw [cell_of_row W b _ _ 116 (0, 0) h]; rfl)
theorem box_kept {cs : Array Value} {t : TypeId} {w W : World} (hb : Below (w.heap.size + 1) (w.alloc (.cells cs t)) W) : W.heap[w.heap.size]? = some (.cells cs t (0, 0)) := by
  rw [hb.block _ (by omega)]; exact heap_alloc_new w _
theorem below_box {cs : Array Value} {t : TypeId} {w W : World} (hb : Below (w.heap.size + 1) (w.alloc (.cells cs t)) W) : Below w.heap.size w W :=
  (below_alloc0 (Below.refl w.heap.size w) _).trans ⟨hb.os, hb.tape, hb.output, by have := hb.size; simp at this; simpa using hb.size, fun i hi => hb.block i (by omega)⟩

set_option maxRecDepth 100000 in
set_option maxHeartbeats 2000000 in
theorem rput_no (m : Meta) (w : World) (h : m.Ok) (hm : ¬ MayBe m) :
    Calls Try.prog 72 #[m.val] w fun e w' => e = .returned (.tuple #[.slice none 0 0, .int .u16 80]) ∧ Below w.heap.size w w' := by
  have hmay := fun w => rmay_any m w h
  rw [decide_eq_false hm] at hmay
  simp only [Meta.val, Meta.cells] at hmay ⊢
  have HM := Lib.hid hmay
  clear hmay
  go_enter Try.func72, Try.ntmps72
  go_wp2_with fail
  refine (HM.out _).mono ?_
  rintro e w1 ⟨rfl, hb1⟩
  go_wp2
  go_ret2
  exact ⟨rfl, below_next0 (below_alloc0 (Below.refl _ _) _) hb1⟩

set_option maxRecDepth 100000 in
set_option maxHeartbeats 2000000 in
theorem put_no (m : Meta) (w : World) (h : m.Ok) (hm : ¬ MayBe m) :
    Calls Try.prog 71 #[m.val] w fun e w' => e = .returned (.tuple #[.slice none 0 0, .int .u16 80]) ∧ Below w.heap.size w w' := by
  have hmay := fun w => may_any m w h
  rw [decide_eq_false hm] at hmay
  simp only [Meta.val, Meta.cells] at hmay ⊢
  have HM := Lib.hid hmay
  clear hmay
  go_enter Try.func71, Try.ntmps71
  go_wp2_with fail
  refine (HM.out _).mono ?_
  rintro e w1 ⟨rfl, hb1⟩
  go_wp2
  go_ret2
  exact ⟨rfl, below_next0 (below_alloc0 (Below.refl _ _) _) hb1⟩

set_option maxRecDepth 100000 in
set_option maxHeartbeats 2000000 in
theorem rput_ok (m : Meta) (w : World) (h : m.Ok) (hm : MayBe m) :
    Calls Try.prog 72 #[m.val] w fun e w' => ∃ v, e = .returned (.tuple #[v, .int .u16 0]) ∧ Buf w.heap.size w' v (sector m) ∧ Below w.heap.size w w' ∧ w.heap.size ≤ w'.heap.size := by
  have hmay := fun w => rmay_any m w h
  rw [decide_eq_true hm] at hmay
  simp only [Meta.val, Meta.cells] at hmay ⊢
  have HM := Lib.hid hmay
  clear hmay hm
  have hBY0 : Bytes ([67, 77, 69, 84] ++ le m.gen 8 ++ le m.root 4 ++ le m.free 4 ++ le m.pages 4 ++ le m.keys 8) := metaBytes_bytes m
  have hBY := Lib.hid hBY0
  clear hBY0
  have hst : Hid (sector m = closed (fill ([67, 77, 69, 84] ++ le m.gen 8 ++ le m.root 4 ++ le m.free 4 ++ le m.pages 4 ++ le m.keys 8) 124)) := Lib.hid rfl
  generalize sector m = S at hst
  have hg := h.gen
  have hr := h.root
  have hf := h.free
  have hp := h.pages
  have hk := h.keys
  go_enter Try.func72, Try.ntmps72
  go_wp2_with fail
  refine (HM.out _).mono ?_
  rintro e w1 ⟨rfl, hb1⟩
  replace hb1 : Below (w.heap.size + 1) (w.alloc (.cells m.cells 116)) w1 := by
    have := hb1
    rw [show (w.alloc (Obj.cells #[Value.int IntKind.u64 (m.gen : Int), Value.int IntKind.u32 (m.root : Int), Value.int IntKind.u32 (m.free : Int), Value.int IntKind.u32 (m.pages : Int), Value.int IntKind.u64 (m.keys : Int)] 116)).heap.size = w.heap.size + 1 by simp] at this
    exact this
  have hs1 : w.heap.size + 1 ≤ w1.heap.size := by have := hb1.size; simp at this; exact this
  go_wp2_with (at_builtin; go_loud (refine buf_append_str (w0 := w.alloc (.cells m.cells 116)) rfl (.tmp 10) (.const (.string ⟨#[67, 77, 69, 84]⟩)) rfl Try.underlying23 Try.underlying9 Try.info5 (w.heap.size + 1) rfl ⟨#[67, 77, 69, 84]⟩ [67, 77, 69, 84] rfl (by rfl) (by simp) (by simp) hs1 hb1 ?_); intro v2 w2 hv2 hb2 hs2; obtain ⟨c0, c1, c2, c3, c4⟩ := meta_cells (box_kept hb2))
  refine (put_any (w.heap.size + 1) _ [67, 77, 69, 84] m.gen 8 _ hs2 hv2 (by simp) (by omega) (by omega)).mono ?_
  rintro e w3 ⟨v3, rfl, hv3, hb3, hs3⟩
  clear c0 c1 c2 c3 c4
  replace hb3 := hb2.trans hb3
  obtain ⟨c0, c1, c2, c3, c4⟩ := meta_cells (box_kept hb3)
  have hl3 : ([67, 77, 69, 84] ++ le m.gen 8).length = 12 := by simp [le_length]
  generalize [67, 77, 69, 84] ++ le m.gen 8 = b3 at hv3 hl3 hst hBY
  have HL3 := Lib.hid hl3
  clear hl3
  go_wp2_with fail
  refine (put_any (w.heap.size + 1) _ b3 m.root 4 _ hs3 hv3 (by rw [HL3.out]; omega) (by omega) (by omega)).mono ?_
  rintro e w4 ⟨v4, rfl, hv4, hb4, hs4⟩
  clear c0 c1 c2 c3 c4
  replace hb4 := hb3.trans hb4
  obtain ⟨c0, c1, c2, c3, c4⟩ := meta_cells (box_kept hb4)
  have hl4 : (b3 ++ le m.root 4).length = 16 := by rw [List.length_append, HL3.out, le_length]
  generalize b3 ++ le m.root 4 = b4 at hv4 hl4 hst hBY
  have HL4 := Lib.hid hl4
  clear hl4
  go_wp2_with fail
  refine (put_any (w.heap.size + 1) _ b4 m.free 4 _ hs4 hv4 (by rw [HL4.out]; omega) (by omega) (by omega)).mono ?_
  rintro e w5 ⟨v5, rfl, hv5, hb5, hs5⟩
  clear c0 c1 c2 c3 c4
  replace hb5 := hb4.trans hb5
  obtain ⟨c0, c1, c2, c3, c4⟩ := meta_cells (box_kept hb5)
  have hl5 : (b4 ++ le m.free 4).length = 20 := by rw [List.length_append, HL4.out, le_length]
  generalize b4 ++ le m.free 4 = b5 at hv5 hl5 hst hBY
  have HL5 := Lib.hid hl5
  clear hl5
  go_wp2_with fail
  refine (put_any (w.heap.size + 1) _ b5 m.pages 4 _ hs5 hv5 (by rw [HL5.out]; omega) (by omega) (by omega)).mono ?_
  rintro e w6 ⟨v6, rfl, hv6, hb6, hs6⟩
  clear c0 c1 c2 c3 c4
  replace hb6 := hb5.trans hb6
  obtain ⟨c0, c1, c2, c3, c4⟩ := meta_cells (box_kept hb6)
  have hl6 : (b5 ++ le m.pages 4).length = 24 := by rw [List.length_append, HL5.out, le_length]
  generalize b5 ++ le m.pages 4 = b6 at hv6 hl6 hst hBY
  have HL6 := Lib.hid hl6
  clear hl6
  go_wp2_with fail
  refine (put_any (w.heap.size + 1) _ b6 m.keys 8 _ hs6 hv6 (by rw [HL6.out]; omega) (by omega) (by omega)).mono ?_
  rintro e w7 ⟨v7, rfl, hv7, hb7, hs7⟩
  clear c0 c1 c2 c3 c4
  replace hb7 := hb6.trans hb7
  obtain ⟨c0, c1, c2, c3, c4⟩ := meta_cells (box_kept hb7)
  have hl7 : (b6 ++ le m.keys 8).length = 32 := by rw [List.length_append, HL6.out, le_length]
  generalize b6 ++ le m.keys 8 = b7 at hv7 hl7 hst hBY
  have HL7 := Lib.hid hl7
  clear hl7
  go_wp2_with fail
  refine (rfilled_any (w.heap.size + 1) _ b7 124 _ hs7 hv7 hBY.out (by rw [HL7.out]; omega) (by omega)).mono ?_
  rintro e w8 ⟨v8, rfl, hv8, hb8, hs8⟩
  go_wp2
  go_ret2
  exact ⟨_, rfl, by rw [hst.out]; exact own_base_mono hv8 (by omega), below_box (hb7.trans hb8), by omega⟩
end Go.Proofs.Ytfbjjblgcgjndaa
