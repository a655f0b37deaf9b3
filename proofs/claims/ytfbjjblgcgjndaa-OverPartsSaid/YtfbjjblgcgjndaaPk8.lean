/- Joined texts: Pool7, Load, PoolPl, Known10, PoolKp, PoolK, Open, Open2, OpenA. -/
import Derived.Laws.IdiomCopy
import Derived.ProofKit
import Derived.OpenShut
import Derived.ShutString
import Derived.ChangeOld
import Derived.Test.YtfbjjblgcgjndaaRows
import Derived.SizedLaws
import Derived.Deep.Slices
import Derived.Test.YtfbjjblgcgjndaaPk1
import Derived.Test.YtfbjjblgcgjndaaPk5
import Derived.Test.YtfbjjblgcgjndaaPk7
set_option linter.unusedVariables false
set_option linter.unusedSimpArgs false

/- Contract of the pool's Write; and of Forget over both. -/
namespace Go.Proofs.Ytfbjjblgcgjndaa
open Go.RowKit Go.Maps

structure Wr where
  err : Nat
  D : Dsk
  L : List Hand
def plWrite (most : Nat) (D : Dsk) (L : List Hand) (n k : Nat) (pay : List Nat) : Wr :=
  if SealOk k pay then
    if D.pages ≤ n then ⟨2, D, L⟩
    else if (D.write (n : Int) (sealed k n pay)).1 ≠ 0 then ⟨(D.write (n : Int) (sealed k n pay)).1, (D.write (n : Int) (sealed k n pay)).2, forget n L⟩
    else ⟨0, (D.write (n : Int) (sealed k n pay)).2, usePage most ⟨n, k, pay⟩ L⟩
  else ⟨80, D, L⟩
def PlWrite (n0 : Nat) (w : World) (P d most c : Nat) (X : Nat → Prop) (r : Wr) (e : Ending) (w' : World) : Prop :=
  e = .returned (.int .u16 (r.err : Nat)) ∧ PoolX n0 w' P d most r.D r.L (c + 1) X ∧ Step n0 X w w'
section
variable {n0 : Nat} {w : World} {P d most : Nat} {D : Dsk} {L : List Hand} {c : Nat} {X : Nat → Prop}
theorem plforget_any (h : PoolX n0 w P d most D L c X) (n : Nat) (hn : n < 4294967296) :
    Calls Try.prog 85 #[.pointer (some ⟨P, 0, none⟩), .int .u32 (n : Int)] w fun e w' => e = .returned (.tuple #[]) ∧ PoolX n0 w' P d most D (forget n L) c X ∧ Step n0 X w w' := by
  obtain ⟨T, hpa, _, _, hst⟩ := h.pool
  refine (forget_any hpa n hn).mono ?_
  rintro e w' ⟨rfl, h1, h2⟩
  exact ⟨rfl, hst w' _ c (h1.pnow h2)⟩
theorem plhas_any (h : PoolX n0 w P d most D L c X) (n : Nat) (hn : n < 4294967296) : Calls Try.prog 83 #[.pointer (some ⟨P, 0, none⟩), .int .u32 (n : Int)] w fun x w' => x = .returned (.bool (isHand n L)) ∧ w = w' := by
  obtain ⟨T, hpa, _⟩ := h.pool
  exact has_any hpa n hn
theorem pllen_any (h : PoolX n0 w P d most D L c X) : Calls Try.prog 82 #[.pointer (some ⟨P, 0, none⟩)] w fun x w' => x = .returned (.int .i64 (L.length : Int)) ∧ w = w' := by
  obtain ⟨T, hpa, _⟩ := h.pool
  exact len_any hpa
set_option maxRecDepth 100000 in
set_option maxHeartbeats 4000000 in
theorem plwrite_any (h : PoolX n0 w P d most D L c X) (n k : Nat) (hn : n < 4294967296) (hk : k < 256) (pay : List Nat) (A : Option Addr) (cap m : Nat) (hpm : m = pay.length) (hA : ∀ w', Step n0 X w w' → At w' A (ns .u8 pay)) (hnil : A = none → cap = 0) (hbp : Bytes pay) (hcl : D.cache.length ≤ 1000000000000) (hdn : D.n 2 ≤ 4611686018427387904) (hm : most ≤ 4611686018427387904) (hc : c ≤ 1000000000) :
    Calls Try.prog 80 #[.pointer (some ⟨P, 0, none⟩), .int .u32 (n : Int), .int .u8 (k : Int), .slice A m cap] w (PlWrite n0 w P d most c X (plWrite most D L n k pay)) := by
  have HSL := Lib.hid (seal_call k n A cap pay w hk hn hbp (hA w (Step.refl _ _ _)) hnil)
  rw [← hpm] at HSL
  by_cases hs : SealOk k pay
  · have e1 : sealErr k pay = 0 := by unfold sealErr; rw [if_pos hs]
    have e2 : sealOut k n pay = sealed k n pay := by unfold sealOut; rw [if_pos hs]
    have hx : Hand.Ok ⟨n, k, pay⟩ := ⟨hn, hk, hbp, hs.2.2⟩
    have hpl : plWrite most D L n k pay = if D.pages ≤ n then ⟨2, D, L⟩
      else if (D.write (n : Int) (sealed k n pay)).1 ≠ 0 then ⟨(D.write (n : Int) (sealed k n pay)).1, (D.write (n : Int) (sealed k n pay)).2, forget n L⟩
      else ⟨0, (D.write (n : Int) (sealed k n pay)).2, usePage most ⟨n, k, pay⟩ L⟩ := by unfold plWrite; rw [if_pos hs]
    rw [hpl]
    rw [e1, e2] at HSL
    have hsb : Bytes (sealed k n pay) ∧ (sealed k n pay).length = 1024 := ⟨sealed_bytes _ _ _ hk hbp, by rw [sealed_length _ _ _ hs.2.2]⟩
    generalize sealed k n pay = sl at *
    have HSB := Lib.hid hsb
    have HH := Lib.hid h
    have HX := Lib.hid hx
    have HA := Lib.hid hA
    have HNIL := Lib.hid hnil
    have HPM := Lib.hid hpm
    have HN0 := Lib.hid h.n_le
    clear hsb hpl e1 e2 hs h hx hA hnil hpm hbp
    by_cases hp : D.pages ≤ n
    · have hdp : decide (n < D.pages) = false := by simpa using hp
      rw [if_pos hp]
      have HDP := Lib.hid hdp
      clear hdp hp
      go_enter Try.func80, Try.ntmps80
      go_wp2_with fail
      refine HSL.out.mono ?_
      rintro e0 w1 ⟨A1, c1, rfl, hv1, hb1⟩
      have HX1 := Lib.hid (HH.out.below hb1)
      have hwi := within_any HX1.out n hn
      rw [HDP.out] at hwi
      have HW := Lib.hid hwi
      have HB1 := Lib.hid hb1
      clear hv1 hb1 hwi
      go_wp2_with fail
      refine HW.out.mono ?_
      rintro e0 w2 ⟨rfl, rfl⟩
      go_wp2_with fail
      go_ret
      exact ⟨rfl, HX1.out.moreC (by omega), Step.of_below HB1.out HN0.out⟩
    · have hdp : decide (n < D.pages) = true := by simp; omega
      rw [if_neg hp]
      obtain ⟨x, D', hq⟩ : ∃ x D', D.write (n : Int) sl = (x, D') := ⟨_, _, rfl⟩
      rw [hq]
      have HQ := Lib.hid hq
      clear hq
      by_cases hx0 : x = 0
      · subst hx0
        simp only [ne_eq, not_true_eq_false, if_false]
        have HDP := Lib.hid hdp
        clear hdp hp
        go_enter Try.func80, Try.ntmps80
        go_wp2_with fail
        refine HSL.out.mono ?_
        rintro e0 w1 ⟨A1, c1, rfl, hv1, hb1⟩
        have HX1 := Lib.hid (HH.out.also hb1 (Y := blk (.slice A1 sl.length c1)) (fun g hg => row_lt hv1 hg))
        have hwi := within_any HX1.out n hn
        rw [HDP.out] at hwi
        have HW := Lib.hid hwi
        have HS1 := Lib.hid (Step.of_below (X := X) hb1 HN0.out)
        obtain ⟨S, hd, hXS, hst, _⟩ := HX1.out.disk
        have c0 := HX1.out.cell0.1
        have hwr := dg_writeb hd (n : Int) sl.length A1 c1 sl hv1 ⟨fun g hg => (row_lt hv1 hg).2, fun g hg e => hXS g (.inr hg) e⟩ HSB.out.1 (by rw [HSB.out.2]; omega) hcl hdn
        rw [HQ.out] at hwr
        have HWR := Lib.hid hwr
        have HST := Lib.hid hst
        clear hv1 hb1 hwi hd hXS hst hwr
        simp only at HWR
        go_wp2_with fail
        refine HW.out.mono ?_
        rintro e0 w2 ⟨rfl, rfl⟩
        go_wp2_with fail
        refine HWR.out.mono ?_
        rintro e0 w2 ⟨rfl, hN⟩
        obtain ⟨hx2, hs2⟩ := HST.out w2 D' hN
        have HX2 := Lib.hid hx2
        have HS2 := Lib.hid (HS1.out.trans hs2 (fun g hg => .inl hg))
        clear hN hx2 hs2 c0 HWR HST
        obtain ⟨T, hpa, hXT, hTn, hst2⟩ := HX2.out.pool
        have HPUT := Lib.hid (plput_any hpa ⟨n, k, pay⟩ HX.out A cap (fun w' hw' => HA.out w' (HS2.out.trans (Y := X) ⟨hw'.mono (fun g _ e hg => hXT g (.inl hg) e), hw'.below HX2.out.n_le hTn⟩ (fun _ h => h))) HNIL.out hm hc)
        rw [show (⟨n, k, pay⟩ : Hand).pay.length = m from HPM.out.symm] at HPUT
        have HST2 := Lib.hid hst2
        clear hpa hXT hTn hst2
        go_wp2_with fail
        refine HPUT.out.mono ?_
        rintro e0 w3 ⟨rfl, hN⟩
        obtain ⟨hx3, hs3⟩ := HST2.out w3 _ _ hN
        have HX3 := Lib.hid hx3
        have HS3 := Lib.hid (HS2.out.trans hs3 (fun g hg => .inl hg))
        clear hN hx3 hs3
        go_wp2_with fail
        go_ret
        exact ⟨rfl, HX3.out.less (fun g hg => .inl hg), HS3.out⟩
      · have hx1 : ((x : Int) != 0) = true := by simp; omega
        have hx2 : (x != 0) = true := by simpa using hx0
        have hx9 : ¬ (x : Int) = 0 := by omega
        rw [if_pos hx0]
        clear hx0
        have HDP := Lib.hid hdp
        clear hdp hp
        go_enter Try.func80, Try.ntmps80
        go_wp2_with fail
        refine HSL.out.mono ?_
        rintro e0 w1 ⟨A1, c1, rfl, hv1, hb1⟩
        have HX1 := Lib.hid (HH.out.also hb1 (Y := blk (.slice A1 sl.length c1)) (fun g hg => row_lt hv1 hg))
        have hwi := within_any HX1.out n hn
        rw [HDP.out] at hwi
        have HW := Lib.hid hwi
        have HS1 := Lib.hid (Step.of_below (X := X) hb1 HN0.out)
        obtain ⟨S, hd, hXS, hst, _⟩ := HX1.out.disk
        have c0 := HX1.out.cell0.1
        have hwr := dg_writeb hd (n : Int) sl.length A1 c1 sl hv1 ⟨fun g hg => (row_lt hv1 hg).2, fun g hg e => hXS g (.inr hg) e⟩ HSB.out.1 (by rw [HSB.out.2]; omega) hcl hdn
        rw [HQ.out] at hwr
        have HWR := Lib.hid hwr
        have HST := Lib.hid hst
        clear hv1 hb1 hwi hd hXS hst hwr
        simp only at HWR
        go_wp2_with fail
        refine HW.out.mono ?_
        rintro e0 w2 ⟨rfl, rfl⟩
        go_wp2_with fail
        refine HWR.out.mono ?_
        rintro e0 w2 ⟨rfl, hN⟩
        obtain ⟨hx2, hs2⟩ := HST.out w2 D' hN
        have HX2 := Lib.hid hx2
        have HS2 := Lib.hid (HS1.out.trans hs2 (fun g hg => .inl hg))
        clear hN hx2 hs2 c0 HWR HST
        have HFG := Lib.hid (plforget_any HX2.out n hn)
        go_wp2_with fail
        refine HFG.out.mono ?_
        rintro e0 w3 ⟨rfl, hx3, hs3⟩
        have HX3 := Lib.hid hx3
        have HS3 := Lib.hid (HS2.out.trans hs3 (fun g hg => .inl hg))
        clear hx3 hs3
        go_wp2_with fail
        go_ret
        exact ⟨rfl, (HX3.out.moreC (by omega)).less (fun g hg => .inl hg), HS3.out⟩
  · have e1 : sealErr k pay = 80 := by unfold sealErr; rw [if_neg hs]
    have hpl : plWrite most D L n k pay = ⟨80, D, L⟩ := by unfold plWrite; rw [if_neg hs]
    rw [hpl]
    rw [e1] at HSL
    generalize sealOut k n pay = sl at *
    have HH := Lib.hid h
    clear hpl e1 hs h hA hnil hpm hbp
    go_enter Try.func80, Try.ntmps80
    go_wp2_with fail
    refine HSL.out.mono ?_
    rintro e0 w1 ⟨A1, c1, rfl, hv1, hb1⟩
    have HB1 := Lib.hid hb1
    clear hv1 hb1
    go_wp2_with fail
    go_ret
    exact ⟨rfl, (HH.out.below HB1.out).moreC (by omega), Step.of_below HB1.out HH.out.n_le⟩
end
end Go.Proofs.Ytfbjjblgcgjndaa

/- Contract of the disk's Load. -/
namespace Go.Proofs.Ytfbjjblgcgjndaa
open Go.RowKit Go.Maps

def part128 (l : List Nat) (i : Nat) : List Nat := (l.drop (128 * i)).take 128
theorem part128_len {l : List Nat} {i : Nat} (h : 128 * (i + 1) ≤ l.length) : (part128 l i).length = 128 := by
  unfold part128; rw [List.length_take, List.length_drop]; omega
/-- the first j sectors are laid -/
def loaded (img : List Nat) (n : Nat) : Nat → List (List Nat)
  | 0 => List.replicate n zeroSect
  | j + 1 => (loaded img n j).set j (part128 img j)
theorem loaded_length (img : List Nat) (n j : Nat) : (loaded img n j).length = n := by
  induction j with
  | zero => simp [loaded]
  | succ j ih => simp [loaded, ih]
theorem getD_set8 {α : Type} (l : List α) (i j : Nat) (x d : α) : (l.set i x).getD j d = if j = i ∧ i < l.length then x else l.getD j d := by
  rw [List.getD_eq_getElem?_getD, List.getD_eq_getElem?_getD, List.getElem?_set]
  by_cases h : i = j
  · subst h
    by_cases h2 : i < l.length
    · simp [h2]
    · simp [h2]
  · rw [if_neg h, if_neg (fun e => h e.1.symm)]
theorem loaded_get (img : List Nat) (n j i : Nat) (hj : j ≤ n) (hi : i < j) : (loaded img n j).getD i [] = part128 img i := by
  induction j with
  | zero => omega
  | succ j ih =>
    rw [loaded, getD_set8, loaded_length]
    by_cases e : i = j
    · rw [if_pos ⟨e, by omega⟩, e]
    · rw [if_neg (fun h => e h.1)]; exact ih (by omega) (by omega)
theorem loaded_all (img : List Nat) (n : Nat) : loaded img n n = (List.range n).map (part128 img) := by
  apply List.ext_getElem
  · rw [loaded_length]; simp
  · intro i h1 h2
    rw [loaded_length] at h1
    have := loaded_get img n n i (Nat.le_refl _) h1
    rw [List.getD_eq_getElem?_getD, List.getElem?_eq_getElem (by rw [loaded_length]; exact h1)] at this
    simpa using this
theorem parts_flat (l : List Nat) (n : Nat) (h : 128 * n ≤ l.length) : ((List.range n).map (part128 l)).flatten = l.take (128 * n) := by
  induction n with
  | zero => simp
  | succ n ih =>
    rw [List.range_succ, List.map_append, List.flatten_append, ih (by omega)]
    simp only [List.map_cons, List.map_nil, List.flatten_cons, List.flatten_nil, List.append_nil, part128]
    rw [show 128 * (n + 1) = 128 * n + 128 by omega, List.take_add]
theorem loaded_ok {img : List Nat} (hb : Bytes img) {n j : Nat} (hj : j ≤ n) (h : 128 * n ≤ img.length) : ∀ s ∈ loaded img n j, sectOk s := by
  induction j with
  | zero => intro s hs; rw [(List.mem_replicate.1 hs).2]; exact zeroSect_ok
  | succ j ih =>
    intro s hs
    rcases List.mem_or_eq_of_mem_set hs with hs | rfl
    · exact ih (by omega) s hs
    · exact ⟨part128_len (by omega), (hb.drop _).take _⟩
def Dsk.loads (img : List Nat) (p j : Nat) : Dsk := { Dsk.new p with last := loaded img (8 * p) j }
def Dsk.load (img : List Nat) : Dsk := Dsk.loads img (img.length / 1024) (8 * (img.length / 1024))
theorem Dsk.load_flat (img : List Nat) (h : img.length % 1024 = 0) : (Dsk.load img).last.flatten = img := by
  show (loaded img _ _).flatten = img
  rw [loaded_all, parts_flat img _ (by omega), List.take_of_length_le (by omega)]
theorem Dsk.loads_ok {img : List Nat} (hb : Bytes img) {p j : Nat} (h1 : 1 ≤ p) (h2 : p ≤ 16384) (hj : j ≤ 8 * p) (hl : 1024 * p ≤ img.length) : (Dsk.loads img p j).Ok :=
  ⟨loaded_ok hb hj (by omega), fun x hx => by simp [Dsk.loads, Dsk.new] at hx, ⟨p, loaded_length _ _ _, h1, h2⟩, by simp [Dsk.loads, Dsk.new], fun j => by simp [Dsk.loads, Dsk.new], fun j => by simp [Dsk.loads, Dsk.new]⟩
theorem DG.lay {n0 : Nat} {w : World} {p : Nat} {D : Dsk} {S : Nat → Prop} (h : DG n0 w p D S) (i : Nat) (hi : i < D.last.length) (s : List Nat) (hs : sectOk s) :
    ∃ b, w.cell? ⟨p, 0, none⟩ = some (.slice (some ⟨b, 0, none⟩) D.last.length D.last.length) ∧ S b ∧ (∀ j, j < 128 → (w.cell? ⟨b, i * 128 + j, none⟩).isSome = true ∧ w.frozen? ⟨b, i * 128 + j, none⟩ = false) ∧
      DG n0 (w.setCells b (i * 128) (ns .u8 s)) p { D with last := D.last.set i s } S ∧ Chg S w (w.setCells b (i * 128) (ns .u8 s)) := by
  obtain ⟨⟨ok, q, M, hin, hft⟩, hlt⟩ := h
  obtain ⟨h1, h2⟩ := hin.lay (fun s hs => (ok.last s hs).1) i hi s hs.1
  have hSb := hft q.b (.inr (.inl rfl))
  refine ⟨q.b, hin.rcd.cell 0 (by omega), hSb, fun j hj => ?_, ⟨⟨⟨?_, fun x hx => by rw [List.length_set]; exact ok.cache x hx, ?_, ok.trip, ok.f, ok.n⟩, q, M, h1, hft⟩, fun g hg => ⟨(hlt g hg).1, Nat.lt_of_lt_of_le (hlt g hg).2 h2.size⟩⟩, h2.mono (fun g _ e => by rw [show g = q.b from e]; exact hSb)⟩
  · have := hin.last.there (i * 128 + j) (by have : (i + 1) * 128 ≤ D.last.length * 128 := Nat.mul_le_mul_right _ hi; omega)
    simpa using this
  · intro t ht
    rcases List.mem_or_eq_of_mem_set ht with ht | rfl
    · exact ok.last t ht
    · exact hs
  · obtain ⟨k, a, b⟩ := ok.pages
    exact ⟨k, by rw [← a]; exact List.length_set .., b⟩
theorem At.cellj {w : World} {A : Option Addr} {xs : List Value} (h : At w A xs) (hne : xs ≠ []) : ∃ b o, A = some ⟨b, o, none⟩ ∧ w.rangeAt b o xs := h hne
theorem wpList_copyrun {P : Program} (w : World) {ops : Array Oper} {rest : List Oper} {o : Oper} {a : Act} {Q : Exit → Act → World → Prop} (hgd : o.guard = none) (d s : Operand) (t t' : TypeId)
    (ho : o.op = .call { callee := .builtin .copy, args := #[d, s], argTypes := #[t, t'] }) (v u : Value) (hd : a.eval d = v) (hs : a.eval s = u) {v' : Value} {w' : World}
    (hr : (Builtin.copy_ #[t, t'] o.type #[v, u]).run P w = .ok v' w') (h : wpList P ops Q rest (a.put o.dst v') w') : wpList P ops Q (o :: rest) a w := by
  refine wpList_plain hgd fun _ hK => ?_
  unfold Oper.wp execOp
  simp only [ho, resolve, invoke, builtin, Sem.run_bind, Sem.run_pure, Result.andThen_ok, List.map_toArray, List.map_cons, List.map_nil, hd, hs, hr]
  exact hK _ _ h
def LoadGives (img : List Nat) (w : World) (e : Ending) (w' : World) : Prop :=
  (∃ p S, e = .returned (.tuple #[.pointer (some ⟨p, 0, none⟩), .int .u16 0]) ∧ DG w.heap.size w' p (Dsk.load img) S ∧ Below w.heap.size w w' ∧ img.length % 1024 = 0 ∧ 1 ≤ img.length / 1024 ∧ img.length / 1024 ≤ 16384)
def LoadFails (w : World) (e : Ending) (w' : World) : Prop := e = .returned (.tuple #[.pointer none, .int .u16 70]) ∧ Below w.heap.size w w'
set_option maxRecDepth 100000 in
theorem load_no (r : Inner) (w : World) (hs : r.l.length ≤ 100000000) (h : r.l.length % 1024 ≠ 0 ∨ r.l.length / 1024 < 1 ∨ 16384 < r.l.length / 1024) : Calls Try.prog 63 #[.slice r.A r.l.length r.c] w (LoadFails w) := by
  by_cases h1 : r.l.length % 1024 = 0
  · have h2 : r.l.length / 1024 < 1 ∨ 16384 < r.l.length / 1024 := by omega
    have hN := Lib.hid (new_no ((r.l.length / 1024 : Nat) : Int) w (by omega))
    have a1 : ((r.l.length : Int) % 1024 != 0) = false := by simp; omega
    have a2 : (r.l.length : Int) / 1024 = ((r.l.length / 1024 : Nat) : Int) := by omega
    generalize r.l.length / 1024 = p at *
    go_enter Try.func63, Try.ntmps63
    go_wp2_with fail
    refine hN.out.mono ?_
    rintro e w1 ⟨rfl, rfl⟩
    go_wp2_with fail
    go_ret2
    exact ⟨rfl, Below.refl _ _⟩
  · have a1 : ((r.l.length : Int) % 1024 != 0) = true := by simp; omega
    have a2 : ¬ (r.l.length : Int) % 1024 = 0 := by omega
    go_enter Try.func63, Try.ntmps63
    go_wp2_with fail
    go_ret2
    exact ⟨rfl, Below.refl _ _⟩
set_option maxRecDepth 100000 in
set_option maxHeartbeats 2000000 in
theorem load_yes (r : Inner) (w : World) (hr : r.Ok w) (p : Nat) (hp : r.l.length = 1024 * p) (h1 : 1 ≤ p) (h2 : p ≤ 16384) : Calls Try.prog 63 #[.slice r.A r.l.length r.c] w (LoadGives r.l w) := by
  obtain ⟨A, img, c⟩ := r
  simp only at hp ⊢
  have hbb := hr.bytes
  have hle := hr.le
  simp only at hbb hle
  obtain ⟨gi, oi, rfl, hrg⟩ := hr.lies (by intro e; have := congrArg List.length e; simp [ns] at this; simp [this] at hp; omega)
  have hAT : At w (some ⟨gi, oi, none⟩) (ns .u8 img) := hr.lies
  obtain ⟨n, hn⟩ : ∃ n, n = img.length := ⟨_, rfl⟩
  have a1 : ((n : Int) % 1024 != 0) = false := by simp; omega
  have a2 : (n : Int) / 1024 = (p : Int) := by omega
  have a3 : ¬ ((n : Int) % 1024 ≠ 0) := by omega
  have hnb : n ≤ 16777216 := by omega
  have hnc : n ≤ c := by omega
  rw [← hn]
  have HN := Lib.hid hn
  have HP := Lib.hid hp
  have HB := Lib.hid hbb
  have HAT := Lib.hid hAT
  clear hn hp hbb hAT hrg hr hle
  go_enter Try.func63, Try.ntmps63
  go_wp2_with fail
  refine (dg_newl p w (Nat.le_refl _) h1 h2).mono ?_
  rintro e w1 ⟨pd, S, rfl, hd, _, hb⟩
  have hd0 : DG w.heap.size w1 pd (Dsk.loads img p 0) S := hd
  obtain ⟨N, hN⟩ : ∃ N, N = 8 * p := ⟨_, rfl⟩
  have hNb : N ≤ 131072 := by omega
  have c0 : ∃ b, w1.cell? ⟨pd, 0, none⟩ = some (.slice (some ⟨b, 0, none⟩) N N) := by
    obtain ⟨b, h, _⟩ := hd0.lay 0 (by show 0 < (loaded img (8 * p) 0).length; rw [loaded_length]; omega) (part128 img 0) ⟨part128_len (by have := HP.out; omega), (HB.out.drop _).take _⟩
    refine ⟨b, ?_⟩
    rw [show (Dsk.loads img p 0).last.length = N by rw [hN]; exact loaded_length _ _ _] at h
    exact h
  obtain ⟨b0, c0⟩ := c0
  have HD0 := Lib.hid hd0
  have HBB := Lib.hid hb
  have HN8 := Lib.hid hN
  clear hd hd0 hb hN
  go_wp2_with fail
  go_loopw [26] (fun i wr => ∃ j : Nat, j ≤ N ∧ i = .int .i64 j ∧ DG w.heap.size wr pd (Dsk.loads img p j) S ∧ Below w.heap.size w wr) (fun i _ => N - (intOf i).toNat)
  case atStart => exact ⟨0, by omega, rfl, HD0.out, HBB.out⟩
  case round =>
    clear HD0 HBB c0
    obtain ⟨j, hj, rfl, hd, hb⟩ := hrel
    by_cases hlt : j < N
    · have hjn : 128 * (j + 1) ≤ n := by have := HN8.out; have := HP.out; have := HN.out; omega
      have hso : sectOk (part128 img j) := ⟨part128_len (by have := HN.out; omega), (HB.out.drop _).take _⟩
      have hbr : Below wr.heap.size wr wr.drew := below_drew0 (Below.refl _ wr)
      obtain ⟨b, c1, hSb, hcf, hd2, hc2⟩ := (hd.below hbr).lay j (by show j < (loaded img (8 * p) j).length; rw [loaded_length, ← HN8.out]; exact hlt) (part128 img j) hso
      rw [show (Dsk.loads img p j).last.length = N by rw [HN8.out]; exact loaded_length _ _ _] at c1
      have c2 : wr.cell? ⟨pd, 0, none⟩ = some (.slice (some ⟨b, 0, none⟩) N N) := c1
      have hsrc := (HAT.out.below (below_next0 hb hbr)).part (j * 128) 128
      rw [show (img.drop (j * 128)).take 128 = part128 img j by unfold part128; rw [Nat.mul_comm]] at hsrc
      have hb2 := (hd.below hbr).after (below_next0 hb hbr) hc2
      have hk0 : (j : Int) < (N : Int) := by omega
      have hk1 : IntKind.i64.wrap ((j : Int) * 128) = (j : Int) * 128 := by rw [IntKind.wrap_i64]; omega
      have hk3 : ((j : Int) * 128).toNat = j * 128 := by omega
      have hk5 : 0 ≤ (j : Int) * 128 := by omega
      have hk6 : (j : Int) * 128 ≤ (n : Int) := by omega
      have hk7 : ¬ c = j * 128 := by omega
      have hk8 : j * 128 ≤ n := by omega
      have HSRC := Lib.hid hsrc
      have HCF := Lib.hid hcf
      have HD2 := Lib.hid hd2
      have HB2 := Lib.hid hb2
      have HSO := Lib.hid hso
      have HJN := Lib.hid hjn
      clear hsrc hcf hd2 hb2 hso hd hb hc2 c1 hbr hjn
      go_wp2_with fail
      go_still_tail 11, (by kernel_rfl)
      change wpList _ _ _ _ _ wr.drew
      have hcopy := run_copy_cells (P := Try.prog) wr.drew 23 23 3 5 b (j * 128) 128 128 ⟨gi, oi + j * 128, none⟩ (n - j * 128) (c - j * 128) (ns .u8 (part128 img j)) Try.underlying23 (by kernel_rfl) (by rw [ns_length, HSO.out.1]; have := HJN.out; exact (Nat.min_eq_right (by omega)).symm)
        (fun q v hv => by
          obtain ⟨b', o', e, hr⟩ := HSRC.out (by intro e; have := congrArg List.length e; rw [ns_length] at this; have h2 := HSO.out.1; rw [h2] at this; simp at this)
          cases e
          rw [Addr.add_mid]
          exact hr q v hv) (fun q hq => (HCF.out q (by rw [ns_length, HSO.out.1] at hq; exact hq)).1) (fun q hq => (HCF.out q (by rw [ns_length, HSO.out.1] at hq; exact hq)).2) (ns_one _ _)
      refine wpList_copyrun _ rfl (.tmp 35) (.tmp 39) 23 23 rfl _ _ rfl rfl hcopy ?_
      clear hcopy
      go_wp2_with fail
      case roundEnd =>
        exact ⟨⟨j + 1, by omega, by go_num, HD2.out, HB2.out⟩, by simp only [intOf]; omega⟩
    · obtain rfl : N = j := by omega
      have hld : Dsk.loads img p N = Dsk.load img := by
        unfold Dsk.load
        rw [show img.length / 1024 = p by have := HP.out; omega, HN8.out]
      rw [hld] at hd
      have HD9 := Lib.hid hd
      clear hd hld
      go_wp2_with fail
      go_ret2
      exact ⟨pd, S, rfl, HD9.out, hb, by have := HP.out; omega, by have := HP.out; omega, by have := HP.out; omega⟩
end Go.Proofs.Ytfbjjblgcgjndaa

/- Pool, plain laws: what the disk's pages hold, and what the pages at hand say of them. -/
namespace Go.Proofs.Ytfbjjblgcgjndaa

theorem lastWrite_puts (c : List (Nat × List Nat)) (a : Nat) (b : List Nat) (k x : Nat) : lastWrite (c ++ puts a b k) x = if a ≤ x ∧ x < a + k then some ((b.drop (128 * (x - a))).take 128) else lastWrite c x := by
  induction k with
  | zero => rw [if_neg (by omega)]; simp [puts]
  | succ k ih =>
    simp only [puts, ← List.append_assoc]
    rw [lastWrite_append, ih]
    by_cases h : a + k = x
    · subst h
      rw [if_pos rfl, if_pos (by omega), show a + k - a = k by omega]
    · rw [if_neg h]
      by_cases h2 : a ≤ x ∧ x < a + k
      · rw [if_pos h2, if_pos (by omega)]
      · rw [if_neg h2, if_neg (by omega)]
theorem sec_put (D : Dsk) (a : Nat) (b : List Nat) (k x : Nat) : (D.put a b k).sec x = if a ≤ x ∧ x < a + k then (b.drop (128 * (x - a))).take 128 else D.sec x := by
  unfold Dsk.sec Dsk.put
  simp only
  rw [lastWrite_puts]
  by_cases h : a ≤ x ∧ x < a + k
  · rw [if_pos h, if_pos h]
  · rw [if_neg h, if_neg h]
theorem secs_congr {D E : Dsk} {a k : Nat} (h : ∀ i, i < k → D.sec (a + i) = E.sec (a + i)) : D.secs a k = E.secs a k := by
  unfold Dsk.secs
  congr 1
  exact List.map_congr_left fun i hi => h i (List.mem_range.1 hi)
def pageOf (D : Dsk) (n : Nat) : List Nat := D.secs (8 * n) 8
theorem page_put (D : Dsk) (n m : Nat) (b : List Nat) (hb : b.length = 1024) : pageOf (D.put (8 * n) b 8) m = if m = n then b else pageOf D m := by
  unfold pageOf
  by_cases h : m = n
  · subst h
    rw [if_pos rfl]
    have : (D.put (8 * m) b 8).secs (8 * m) 8 = ((List.range 8).map (part128 b)).flatten := by
      unfold Dsk.secs
      congr 1
      refine List.map_congr_left fun i hi => ?_
      have hi' := List.mem_range.1 hi
      rw [sec_put, if_pos (by omega), show 8 * m + i - 8 * m = i by omega]
      rfl
    rw [this, parts_flat b 8 (by omega), List.take_of_length_le (by omega)]
  · rw [if_neg h]
    refine secs_congr fun i hi => ?_
    rw [sec_put, if_neg (by omega)]
/-- the same bytes -/
def SameD (D E : Dsk) : Prop := E.last = D.last ∧ E.cache = D.cache
theorem SameD.refl (D : Dsk) : SameD D D := ⟨rfl, rfl⟩
theorem SameD.trans {D E F : Dsk} (h : SameD D E) (k : SameD E F) : SameD D F := ⟨k.1.trans h.1, k.2.trans h.2⟩
theorem SameD.page {D E : Dsk} (h : SameD D E) (n : Nat) : pageOf E n = pageOf D n := by
  unfold pageOf
  refine secs_congr fun i _ => ?_
  unfold Dsk.sec
  rw [h.1, h.2]
theorem SameD.pages {D E : Dsk} (h : SameD D E) : E.pages = D.pages := by unfold Dsk.pages; rw [h.1]
theorem same_begin (D : Dsk) (k : Nat) : SameD D (D.begin k).2 := D.begin_last k
theorem same_read (D : Dsk) (n : Int) : SameD D (D.read n).2.2 := by
  unfold Dsk.read
  split
  · exact same_begin D 1
  · split <;> exact ⟨rfl, rfl⟩
theorem read_good {D : Dsk} {n : Nat} (h : (D.read (n : Int)).1 = 0) : (D.read (n : Int)).2.1 = pageOf D n ∧ n < D.pages := by
  unfold Dsk.read at h ⊢
  split at h
  · rename_i h1; exact absurd h h1
  · rename_i h1
    rw [if_neg h1]
    split at h
    · cases h
    · rename_i h2
      rw [if_neg h2]
      exact ⟨by rw [Int.toNat_natCast]; rfl, by omega⟩
theorem write_bad {D : Dsk} {n : Int} {b : List Nat} (h : (D.write n b).1 ≠ 0) : SameD D (D.write n b).2 := by
  unfold Dsk.write at h ⊢
  split
  · exact same_begin D 2
  · split
    · exact ⟨rfl, rfl⟩
    · split
      · exact ⟨rfl, rfl⟩
      · rename_i h1 h2 h3
        rw [if_neg h1, if_neg h2, if_neg h3] at h
        exact absurd rfl h
theorem pl_write_yes {D : Dsk} {pg : Int} {l : List Nat} (h : (D.write pg l).1 = 0) : (D.begin 2).1 = 0 ∧ ∃ n : Nat, pg = (n : Int) ∧ n < D.pages ∧ (l.length = 1024 ∨ l.length = 128) ∧ D.write pg l = (0, (D.go 2).put (8 * n) l (l.length / 128)) := by
  by_cases hb : (D.begin 2).1 = 0
  · refine ⟨hb, ?_⟩
    have hrd : D.write pg l = if pg < 0 ∨ (D.pages : Int) ≤ pg then (2, D.go 2) else if l.length ≠ 1024 ∧ l.length ≠ 128 then (1, D.go 2) else (0, (D.go 2).put (8 * pg.toNat) l (l.length / 128)) := by unfold Dsk.write; rw [if_neg (by simpa using hb)]
    rw [hrd] at h ⊢
    split at h
    · cases h
    · rename_i h1
      split at h
      · cases h
      · rename_i h2
        refine ⟨pg.toNat, by omega, by omega, by omega, ?_⟩
        rw [if_neg h1, if_neg h2]
  · exfalso
    have hrd : D.write pg l = D.begin 2 := by unfold Dsk.write; rw [if_pos hb]
    rw [hrd] at h
    exact hb h
theorem write_good {D : Dsk} {n : Nat} {b : List Nat} (h : (D.write (n : Int) b).1 = 0) (hb : b.length = 1024) : n < D.pages ∧ (∀ m, pageOf (D.write (n : Int) b).2 m = if m = n then b else pageOf D m) ∧ (D.write (n : Int) b).2.pages = D.pages := by
  obtain ⟨_, m, e1, e2, _, e3⟩ := pl_write_yes h
  obtain rfl : n = m := by omega
  rw [e3]
  refine ⟨e2, fun m => ?_, rfl⟩
  simp only [hb]
  rw [show 1024 / 128 = 8 from rfl, page_put _ _ _ _ hb]
  split
  · rfl
  · exact (show SameD D (D.go 2) from ⟨rfl, rfl⟩).page m
/-- what a page holds -/
def Holds (D : Dsk) (n : Nat) : Option (Nat × List Nat) → Prop
  | some x => pageOf D n = sealed x.1 n x.2 ∧ SealOk x.1 x.2
  | none => ¬ IsPage n (pageOf D n)
theorem Holds.same {D E : Dsk} {n : Nat} {o : Option (Nat × List Nat)} (h : Holds D n o) (he : pageOf E n = pageOf D n) : Holds E n o := by
  cases o with
  | none => unfold Holds at *; rw [he]; exact h
  | some x => unfold Holds at *; rw [he]; exact h
/-- the pages at hand are as the disk has them -/
structure Coh (most : Nat) (D : Dsk) (L : List Hand) (C : Nat → Option (Nat × List Nat)) : Prop where
  page : ∀ n, n < D.pages → Holds D n (C n)
  hand : ∀ h, h ∈ L → h.num < D.pages ∧ C h.num = some (h.kind, h.pay)
  len : L.length ≤ most
theorem mem_forget {n : Nat} {L : List Hand} {h : Hand} (hm : h ∈ forget n L) : h ∈ L := (List.mem_filter.1 hm).1
theorem forget_len (n : Nat) (L : List Hand) : (forget n L).length ≤ L.length := List.length_filter_le _ _
theorem forget_len_lt {n : Nat} {L : List Hand} {h : Hand} (hm : h ∈ L) (hn : h.num = n) : (forget n L).length < L.length := by
  unfold forget
  exact List.length_filter_lt_length_iff_exists.2 ⟨h, hm, by simp [hn]⟩
theorem use_len {most : Nat} (h : Hand) {L : List Hand} (hl : L.length ≤ most) (hm : 1 ≤ most) : (usePage most h L).length ≤ most := by
  have := forget_len h.num L
  unfold usePage
  split
  · rw [List.length_drop]; simp; omega
  · omega
theorem mem_use {most : Nat} {h x : Hand} {L : List Hand} (hx : x ∈ usePage most h L) : x = h ∨ (x ∈ L ∧ x.num ≠ h.num) := by
  have key : x ∈ forget h.num L ++ [h] := by
    unfold usePage at hx
    split at hx
    · exact List.mem_of_mem_drop hx
    · exact hx
  rcases List.mem_append.1 key with k | k
  · exact .inr ⟨mem_forget k, forget_num x k⟩
  · exact .inl (by simpa using k)
theorem find_mem {n : Nat} {L : List Hand} {x : Hand} (h : findPage n L = some x) : x ∈ L ∧ x.num = n := by
  unfold findPage at h
  exact ⟨List.mem_of_find?_eq_some h, by have := List.find?_some h; simpa using this⟩
theorem open_sealed {k n : Nat} {p : List Nat} (h : SealOk k p) : IsPage n (sealed k n p) ∧ openKind n (sealed k n p) = k ∧ openPay n (sealed k n p) = p := by
  have hp := isPage_sealed k n p h
  obtain ⟨a, _, b, _⟩ := sealed_parts k n p h.2.2
  refine ⟨hp, ?_, ?_⟩
  · unfold openKind; rw [if_pos hp, a]
  · unfold openPay; rw [if_pos hp, b]
/-- what a read tells, if the disk does not fail -/
def tells (D : Dsk) (C : Nat → Option (Nat × List Nat)) (n : Nat) : Nat × List Nat × Nat :=
  if D.pages ≤ n then (0, [], 2) else match C n with
    | some x => (x.1, x.2, 0)
    | none => (0, [], 100)
theorem coh_read {most : Nat} {D : Dsk} {L : List Hand} {C : Nat → Option (Nat × List Nat)} (h : Coh most D L C) (hm : 1 ≤ most) (n : Nat) :
    Coh most (plRead most D L n).D (plRead most D L n).L C ∧ SameD D (plRead most D L n).D ∧
    (((plRead most D L n).kind, (plRead most D L n).pay, (plRead most D L n).err) = tells D C n ∨ (n < D.pages ∧ findPage n L = none ∧ (D.read (n : Int)).1 ≠ 0 ∧ plRead most D L n = ⟨0, [], (D.read (n : Int)).1, (D.read (n : Int)).2.2, L⟩)) := by
  have keep : ∀ E L', SameD D E → (∀ x, x ∈ L' → x ∈ L ∨ (x.num < D.pages ∧ C x.num = some (x.kind, x.pay))) → L'.length ≤ most → Coh most E L' C := fun E L' hs hL hl =>
    ⟨fun m hm' => (h.page m (by rw [← hs.pages]; exact hm')).same (hs.page m), fun x hx => by
      rw [hs.pages]
      rcases hL x hx with k | k
      · exact h.hand x k
      · exact k, hl⟩
  unfold plRead tells
  by_cases hp : D.pages ≤ n
  · rw [if_pos hp, if_pos hp]
    exact ⟨h, SameD.refl _, .inl rfl⟩
  · rw [if_neg hp, if_neg hp]
    cases hf : findPage n L with
    | some x =>
      obtain ⟨hx, hxn⟩ := find_mem hf
      obtain ⟨_, hc⟩ := h.hand x hx
      rw [hxn] at hc
      refine ⟨keep _ _ (SameD.refl _) (fun y hy => ?_) ?_, SameD.refl _, .inl ?_⟩
      · rcases List.mem_append.1 hy with k | k
        · exact .inl (mem_forget k)
        · have : y = x := by simpa using k
          rw [this]; exact .inl hx
      · have := forget_len_lt hx hxn
        have := h.len
        simp; omega
      · simp only [hc]
    | none =>
      simp only
      by_cases hr : (D.read (n : Int)).1 = 0
      · rw [if_neg (by simpa using hr)]
        obtain ⟨r1, r2⟩ := read_good hr
        rw [r1]
        have hh := h.page n r2
        have hs := same_read D (n : Int)
        cases hc : C n with
        | none =>
          rw [hc] at hh
          rw [if_neg hh]
          exact ⟨keep _ _ hs (fun y hy => .inl hy) h.len, hs, .inl rfl⟩
        | some x =>
          rw [hc] at hh
          obtain ⟨hh1, hh2⟩ := hh
          rw [hh1]
          obtain ⟨o1, o2, o3⟩ := open_sealed (n := n) hh2
          rw [if_pos o1, o2, o3]
          refine ⟨keep _ _ hs (fun y hy => ?_) (use_len _ h.len hm), hs, .inl rfl⟩
          rcases mem_use hy with k | k
          · rw [k]; exact .inr ⟨by simp only; omega, hc⟩
          · exact .inl k.1
      · rw [if_pos hr]
        exact ⟨keep _ _ (same_read D (n : Int)) (fun y hy => .inl hy) h.len, same_read D (n : Int), .inr ⟨by omega, by first | rfl | trivial, hr, rfl⟩⟩
theorem coh_forget {most : Nat} {D : Dsk} {L : List Hand} {C : Nat → Option (Nat × List Nat)} (h : Coh most D L C) (n : Nat) : Coh most D (forget n L) C :=
  ⟨h.page, fun x hx => h.hand x (mem_forget hx), Nat.le_trans (forget_len _ _) h.len⟩
theorem coh_same {most : Nat} {D E : Dsk} {L : List Hand} {C : Nat → Option (Nat × List Nat)} (h : Coh most D L C) (hs : SameD D E) : Coh most E L C :=
  ⟨fun m hm' => (h.page m (by rw [← hs.pages]; exact hm')).same (hs.page m), fun x hx => by rw [hs.pages]; exact h.hand x hx, h.len⟩
theorem coh_write {most : Nat} {D : Dsk} {L : List Hand} {C : Nat → Option (Nat × List Nat)} (h : Coh most D L C) (hm : 1 ≤ most) (n k : Nat) (p : List Nat) :
    Coh most (plWrite most D L n k p).D (plWrite most D L n k p).L (if (plWrite most D L n k p).err = 0 then turn C n (some (k, p)) else C) ∧ (plWrite most D L n k p).D.pages = D.pages := by
  unfold plWrite
  by_cases hs : SealOk k p
  · rw [if_pos hs]
    by_cases hp : D.pages ≤ n
    · rw [if_pos hp]
      exact ⟨by simpa using h, rfl⟩
    · rw [if_neg hp]
      by_cases hw : (D.write (n : Int) (sealed k n p)).1 = 0
      · rw [if_neg (by simpa using hw)]
        obtain ⟨w1, w2, w3⟩ := write_good hw (sealed_length _ _ _ hs.2.2)
        simp only [if_true]
        refine ⟨⟨fun m hm' => ?_, fun x hx => ?_, use_len _ h.len hm⟩, w3⟩
        · rw [w3] at hm'
          by_cases e : m = n
          · subst e
            rw [turn_same]
            exact ⟨by rw [w2 m, if_pos rfl], hs⟩
          · rw [turn_other _ _ _ _ e]
            exact (h.page m hm').same (by rw [w2 m, if_neg e])
        · rw [w3]
          rcases mem_use hx with e | ⟨e1, e2⟩
          · rw [e]; exact ⟨w1, by rw [turn_same]⟩
          · rw [turn_other _ _ _ _ e2]; exact h.hand x e1
      · rw [if_pos hw]
        have hsd := write_bad hw
        simp only [if_neg hw]
        exact ⟨coh_same (coh_forget h n) hsd, hsd.pages⟩
  · rw [if_neg hs]
    exact ⟨by simpa using h, rfl⟩
/-- a new disk's pages are none -/
theorem zero_noPage (n : Nat) : ¬ IsPage n (List.replicate 1024 0) := by
  rintro ⟨_, _, h, _⟩
  have : kindOf (List.replicate 1024 0) = 0 := by decide
  unfold SealOk at h
  omega
theorem new_page (p n : Nat) (h : n < p) : pageOf (Dsk.new p) n = List.replicate 1024 0 := by
  unfold pageOf
  rw [secs_last _ rfl]
  have : ((List.range 8).map fun i => (Dsk.new p).last.getD (8 * n + i) []) = List.replicate 8 zeroSect := by
    apply List.ext_getElem
    · simp
    · intro i h1 h2
      have hi : i < 8 := by simpa using h1
      have hl : 8 * n + i < 8 * p := by omega
      rw [List.getElem_map, List.getElem_replicate, List.getElem_range]
      simp [Dsk.new, List.getD_eq_getElem?_getD, hl]
  rw [this]
  unfold zeroSect
  rw [List.flatten_replicate_replicate]
theorem coh_new (most p : Nat) (h1 : 1 ≤ p) (h2 : p ≤ 16384) : Coh most (Dsk.new p) [] (fun _ => none) :=
  ⟨fun n hn => by
    have hp : (Dsk.new p).pages = p := Dsk.new_pages p
    rw [hp] at hn
    unfold Holds
    rw [new_page p n hn]
    exact zero_noPage n, fun x hx => by simp at hx, Nat.zero_le _⟩
end Go.Proofs.Ytfbjjblgcgjndaa

/- Walk of the pool laws' known. -/
namespace Go.Proofs.Ytfbjjblgcgjndaa
open Go.RowKit Go.Maps

theorem calm_miss {most : Nat} {D : Dsk} {L : List Hand} {n k : Nat} {p : List Nat} (hc : D.Calm) (hn : n < D.pages) (hf : findPage n L = none) (hh : Holds D n (some (k, p))) : plRead most D L n = ⟨k, p, 0, D.go 1, usePage most ⟨n, k, p⟩ L⟩ := by
  have hr := hc.read n hn
  obtain ⟨h1, h2⟩ := hh
  have h1' : D.secs (8 * n) 8 = sealed k n p := h1
  obtain ⟨o1, o2, o3⟩ := open_sealed (n := n) h2
  simp only at o1 o2 o3
  unfold plRead
  rw [if_neg (by omega), hf]
  simp only
  rw [hr]
  simp only [ne_eq, not_true_eq_false, if_false]
  rw [h1', if_pos o1, o2, o3]
theorem calm_hit {most : Nat} {D : Dsk} {L : List Hand} {n : Nat} {x : Hand} (hn : n < D.pages) (hf : findPage n L = some x) : plRead most D L n = ⟨x.kind, x.pay, 0, D, forget n L ++ [x]⟩ := by
  unfold plRead
  rw [if_neg (by omega), hf]
theorem calm_write {most : Nat} {D : Dsk} {L : List Hand} {n k : Nat} {p : List Nat} (hc : D.Calm) (hn : n < D.pages) (hs : SealOk k p) : plWrite most D L n k p = ⟨0, (D.go 2).put (8 * n) (sealed k n p) 8, usePage most ⟨n, k, p⟩ L⟩ := by
  have hl := sealed_length k n p hs.2.2
  have hw := hc.write n hn (sealed k n p) (.inl hl)
  unfold plWrite
  rw [if_pos hs, if_neg (by omega), hw, hl]
  simp
theorem put_pages (D : Dsk) (k a : Nat) (b : List Nat) (j : Nat) : ((D.go k).put a b j).pages = D.pages := rfl
theorem go_pages (D : Dsk) (k : Nat) : (D.go k).pages = D.pages := rfl
theorem small_put {D : Dsk} {j : Nat} (h : Small D j) (a : Nat) (b : List Nat) : Small ((D.go 2).put a b 8) (j + 1) :=
  h.more (by show (D.cache ++ puts a b 8).length ≤ _; rw [List.length_append, puts_length]; omega) (turn_le D.n 2)
section
variable {n0 : Nat} {w : World} {P d most : Nat} {D : Dsk} {L : List Hand} {c j : Nat} {X : Nat → Prop}
/-- a page of one byte is written -/
theorem lit_write (h : PoolX n0 w P d most D L c X) (n k v : Nat) (N K V : Int) (fr : Nat × Nat) (hN : N = (n : Int)) (hK : K = (k : Int)) (hV : V = (v : Int)) (hn : n < D.pages) (hk : 1 ≤ k ∧ k ≤ 4) (hv : v < 256) (hc : D.Calm) (hs : Small D j) (hj : j ≤ 10000000) (hm : most ≤ 4611686018427387904) (hcc : c ≤ 100000000) :
    Calls Try.prog 80 #[.pointer (some ⟨P, 0, none⟩), .int .u32 N, .int .u8 K, .slice (some ⟨w.heap.size, 0, none⟩) 1 1] (w.alloc (.cells #[.int .u8 V] 5 fr))
      fun e w' => e = .returned (.int .u16 0) ∧ PoolX n0 w' P d most ((D.go 2).put (8 * n) (sealed k n [v]) 8) (usePage most ⟨n, k, [v]⟩ L) (c + 1) X ∧ Step n0 X w w' := by
  subst hN hK hV
  have hpb : D.pages ≤ 16384 := by
    obtain ⟨q, a, _, b⟩ := h.ok.pages
    unfold Dsk.pages; omega
  have hb := below_alloc0 (Below.refl w.heap.size w) (.cells #[.int .u8 (v : Int)] 5 fr)
  have h2 := h.also hb (Y := fun g => g = w.heap.size) (fun g hg => ⟨by omega, by simp; omega⟩)
  have hA : At (w.alloc (.cells #[.int .u8 (v : Int)] 5 fr)) (some ⟨w.heap.size, 0, none⟩) (ns .u8 [v]) := At.whole (xs := ns .u8 [v]) (heap_alloc_new w _)
  have hw := plwrite_any h2 n k (by omega) (by omega) [v] (some ⟨w.heap.size, 0, none⟩) 1 1 rfl (fun w' hw' => hA.chg hw'.1 (fun a ha e => e (.inr (by cases ha; rfl)))) (fun e => by cases e) (fun x hx => by simp at hx; omega) (hs.c (by omega)) (hs.m (by omega) 2) hm (by omega)
  rw [calm_write hc hn ⟨hk.1, hk.2, by simp⟩] at hw
  refine hw.mono ?_
  rintro e w' ⟨rfl, a, b⟩
  exact ⟨rfl, a.less (fun g hg => .inl hg), (Step.of_below (X := X) hb h.n_le).trans b (fun g hg => .inl hg)⟩
/-- a page at hand is read -/
theorem hit_read (h : PoolX n0 w P d most D L c X) (n : Nat) (N : Int) (hN : N = (n : Int)) (hn : n < D.pages) (x : Hand) (hf : findPage n L = some x) :
    Calls Try.prog 81 #[.pointer (some ⟨P, 0, none⟩), .int .u32 N] w (PlRead n0 w P d most c X ⟨x.kind, x.pay, 0, D, forget n L ++ [x]⟩) := by
  subst hN
  have hpb : D.pages ≤ 16384 := by
    obtain ⟨q, a, _, b⟩ := h.ok.pages
    unfold Dsk.pages; omega
  exact plread_hit h n (by omega) hn x hf
theorem miss_read (h : PoolX n0 w P d most D L c X) (n k : Nat) (p : List Nat) (N : Int) (hN : N = (n : Int)) (hn : n < D.pages) (hf : findPage n L = none) (hc : D.Calm) (hh : Holds D n (some (k, p))) (hs : Small D j) (hj : j ≤ 10000000) (hm : most ≤ 4611686018427387904) (hcc : c ≤ 100000000) :
    Calls Try.prog 81 #[.pointer (some ⟨P, 0, none⟩), .int .u32 N] w (PlRead n0 w P d most c X ⟨k, p, 0, D.go 1, usePage most ⟨n, k, p⟩ L⟩) := by
  subst hN
  have hpb : D.pages ≤ 16384 := by
    obtain ⟨q, a, _, b⟩ := h.ok.pages
    unfold Dsk.pages; omega
  have := plread_any h n (by omega) (hs.c (by omega)) (hs.m (by omega) 1) hm (by omega)
  rw [calm_miss hc hn hf hh] at this
  exact this
theorem plcounts_any (h : PoolX n0 w P d most D L c X) : Calls Try.prog 56 #[.pointer (some ⟨d, 0, none⟩)] w fun e w' => e = .returned (.agg #[.int .i64 (D.n 1), .int .i64 (D.n 2), .int .i64 (D.n 3)]) ∧ Below w.heap.size w w' := by
  obtain ⟨S, hd, _⟩ := h.disk
  exact dg_counts hd
end
/-- a page written ahead is still there -/
theorem holds_put {D : Dsk} {n m k : Nat} {p : List Nat} (hs : SealOk k p) : Holds ((D.go 2).put (8 * n) (sealed k n p) 8) n (some (k, p)) := by
  refine ⟨?_, hs⟩
  rw [page_put _ _ _ _ (sealed_length _ _ _ hs.2.2), if_pos rfl]
theorem holds_put_other {D : Dsk} {n m k : Nat} {p : List Nat} {o : Option (Nat × List Nat)} (hs : SealOk k p) (h : Holds D m o) (hm : m ≠ n) : Holds ((D.go 2).put (8 * n) (sealed k n p) 8) m o := by
  refine h.same ?_
  rw [page_put _ _ _ _ (sealed_length _ _ _ hs.2.2), if_neg hm]
  exact (show SameD D (D.go 2) from ⟨rfl, rfl⟩).page m
theorem field89 (a b c : Int) (w : World) : (Instr.field 89 (.agg #[.int .i64 a, .int .i64 b, .int .i64 c]) 0).run Try.prog w = .ok (.int .i64 a) w := by kernel_rfl
set_option maxRecDepth 100000 in
set_option maxHeartbeats 4000000 in
theorem known10_any (w : World) : Calls Try.prog 78 #[] w fun e w' => e = .returned (.bool true) ∧ Below w.heap.size w w' := by
  have kc := fun (w : World) (C : Array Value) (n c : Nat) => Lib.run_convert_bytes_const (P := Try.prog) w 23 5 C n c Try.underlying23 Try.underlying5
  have kf := field89
  go_enter Try.func78, Try.ntmps78
  go_wp2_with fail
  refine (dg_newl (n0 := w.heap.size) 9 w (Nat.le_refl _) (by omega) (by omega)).mono ?_
  rintro e w1 ⟨pd, Sd, rfl, hd, _, hb1⟩
  have HD := Lib.hid hd
  have HB1 := Lib.hid hb1
  clear hd hb1
  go_wp2_with fail
  refine (pnew_ok HD.out (X := fun _ => False) (fun g hg => hg.elim) 2 (by omega) (by omega)).mono ?_
  rintro e w2 ⟨P, rfl, hx2, hb2⟩
  have hb02 := below_next0 HB1.out hb2
  have HX2 := Lib.hid hx2
  have HB2 := Lib.hid hb02
  clear hx2 hb2 hb02
  obtain ⟨D0, hD0⟩ : ∃ D, D = Dsk.new 9 := ⟨_, rfl⟩
  have hc0 : D0.Calm := by rw [hD0]; exact Dsk.new_calm 9
  have hp0 : D0.pages = 9 := by rw [hD0]; exact Dsk.new_pages 9
  have hs0 : Small D0 0 := by rw [hD0]; exact Small.new 9
  have hn1 : D0.n 1 = 0 := by rw [hD0]; rfl
  rw [← hD0] at HX2
  have HC0 := Lib.hid hc0
  have HP0 := Lib.hid hp0
  have HS0 := Lib.hid hs0
  have HN1 := Lib.hid hn1
  clear hD0 hc0 hp0 hs0 hn1
  have hsl : ∀ v, SealOk 1 [v] := fun v => ⟨by omega, by omega, by simp⟩
  have HSL := Lib.hid hsl
  clear hsl
  go_wp2_with fail
  refine (lit_write HX2.out 2 1 97 _ _ _ _ rfl rfl rfl (by rw [HP0.out]; omega) (by omega) (by omega) HC0.out HS0.out (by omega) (by omega) (by omega)).mono ?_
  rintro e w3 ⟨rfl, hx3, hs3⟩
  obtain ⟨D1, hD1⟩ : ∃ D1, D1 = (D0.go 2).put (8 * 2) (sealed 1 2 [97]) 8 := ⟨_, rfl⟩
  have HC1 := Lib.hid (show D1.Calm by rw [hD1]; exact (HC0.out.go 2).put _ _ _)
  have HP1 := Lib.hid (show D1.pages = 9 by rw [hD1]; exact HP0.out)
  have HS1 := Lib.hid (show Small D1 1 by rw [hD1]; exact small_put HS0.out _ _)
  have HN1' := Lib.hid (show D1.n 1 = 0 by rw [hD1]; exact HN1.out)
  rw [← hD1] at hx3
  have HX3 := Lib.hid (show PoolX w.heap.size w3 P pd 2 D1 [⟨2, 1, [97]⟩] 1 (fun _ => False) from hx3)
  have HB3 := Lib.hid (HB2.out.trans hs3.2)
  clear hx3 hs3 hD1 HX2
  go_wp2_with fail
  refine (lit_write HX3.out 3 1 98 _ _ _ _ rfl rfl rfl (by rw [HP1.out]; omega) (by omega) (by omega) HC1.out HS1.out (by omega) (by omega) (by omega)).mono ?_
  rintro e w4 ⟨rfl, hx4, hs4⟩
  obtain ⟨D2, hD2⟩ : ∃ D2, D2 = (D1.go 2).put (8 * 3) (sealed 1 3 [98]) 8 := ⟨_, rfl⟩
  have HC2 := Lib.hid (show D2.Calm by rw [hD2]; exact (HC1.out.go 2).put _ _ _)
  have HP2 := Lib.hid (show D2.pages = 9 by rw [hD2]; exact HP1.out)
  have HS2 := Lib.hid (show Small D2 2 by rw [hD2]; exact small_put HS1.out _ _)
  have HN2 := Lib.hid (show D2.n 1 = 0 by rw [hD2]; exact HN1'.out)
  have HH2 := Lib.hid (show Holds D2 3 (some (1, [98])) by rw [hD2]; exact holds_put (m := 3) (HSL.out 98))
  rw [← hD2] at hx4
  have HX4 := Lib.hid (show PoolX w.heap.size w4 P pd 2 D2 [⟨2, 1, [97]⟩, ⟨3, 1, [98]⟩] 2 (fun _ => False) from hx4)
  have HB4 := Lib.hid (HB3.out.trans hs4.2)
  clear hx4 hs4 hD2 HX3
  go_wp2_with fail
  refine (hit_read HX4.out 2 _ rfl (by rw [HP2.out]; omega) ⟨2, 1, [97]⟩ rfl).mono ?_
  rintro e w5 ⟨A5, c5, rfl, hv5, hx5, hs5⟩
  have HX5 := Lib.hid (show PoolX w.heap.size w5 P pd 2 D2 [⟨3, 1, [98]⟩, ⟨2, 1, [97]⟩] 3 (blk (.slice A5 1 c5)) from hx5.less (fun g hg => .inr hg))
  have HV5 := Lib.hid (show Buf w4.heap.size w5 (.slice A5 1 c5) [97] from hv5)
  have HB5 := Lib.hid (HB4.out.trans hs5.2)
  clear hx5 hs5 hv5 HX4
  have hcn := plcounts_any HX5.out
  rw [HN2.out] at hcn
  have HCN := Lib.hid hcn
  clear hcn
  go_wp2_with fail
  refine HCN.out.mono ?_
  rintro e w6 ⟨rfl, hb6⟩
  have HX6 := Lib.hid (HX5.out.below hb6)
  have HV6 := Lib.hid (HV5.out.below hb6)
  have HB6 := Lib.hid (HB5.out.trans (Step.of_below (X := fun _ => False) hb6 HX5.out.n_le).2)
  clear hb6 HX5 HV5 HCN
  go_wp2_with fail
  refine (lit_write HX6.out 4 1 99 _ _ _ _ rfl rfl rfl (by rw [HP2.out]; omega) (by omega) (by omega) HC2.out HS2.out (by omega) (by omega) (by omega)).mono ?_
  rintro e w7 ⟨rfl, hx7, hs7⟩
  obtain ⟨D3, hD3⟩ : ∃ D3, D3 = (D2.go 2).put (8 * 4) (sealed 1 4 [99]) 8 := ⟨_, rfl⟩
  have HC3 := Lib.hid (show D3.Calm by rw [hD3]; exact (HC2.out.go 2).put _ _ _)
  have HP3 := Lib.hid (show D3.pages = 9 by rw [hD3]; exact HP2.out)
  have HS3 := Lib.hid (show Small D3 3 by rw [hD3]; exact small_put HS2.out _ _)
  have HN3 := Lib.hid (show D3.n 1 = 0 by rw [hD3]; exact HN2.out)
  have HH3 := Lib.hid (show Holds D3 3 (some (1, [98])) by rw [hD3]; exact holds_put_other (HSL.out 99) HH2.out (by omega))
  rw [← hD3] at hx7
  have HX7 := Lib.hid (show PoolX w.heap.size w7 P pd 2 D3 [⟨2, 1, [97]⟩, ⟨4, 1, [99]⟩] 4 (blk (.slice A5 1 c5)) from hx7)
  have HV7 := Lib.hid (show Buf w4.heap.size w7 (.slice A5 1 c5) [97] from own_chg HV6.out hs7.1 (fun g hg e => e hg))
  have HB7 := Lib.hid (HB6.out.trans hs7.2)
  clear hx7 hs7 hD3 HX6 HV6
  have HHA := Lib.hid (show Calls Try.prog 83 #[.pointer (some ⟨P, 0, none⟩), .int .u32 3] w7 fun x w' => x = .returned (.bool false) ∧ w7 = w' from plhas_any HX7.out 3 (by omega))
  go_wp2_with fail
  refine HHA.out.mono ?_
  rintro e w8 ⟨rfl, rfl⟩
  clear HHA
  go_wp2_with fail
  refine (miss_read HX7.out 3 1 [98] _ rfl (by rw [HP3.out]; omega) rfl HC3.out HH3.out HS3.out (by omega) (by omega) (by omega)).mono ?_
  rintro e w9 ⟨A9, c9, rfl, hv9, hx9, hs9⟩
  have HX9 := Lib.hid (show PoolX w.heap.size w9 P pd 2 (D3.go 1) [⟨4, 1, [99]⟩, ⟨3, 1, [98]⟩] 5 (fun _ => False) from hx9.less (fun g hg => hg.elim))
  have HV9 := Lib.hid (show Buf w7.heap.size w9 (.slice A9 1 c9) [98] from hv9)
  have HW9 := Lib.hid (show Buf w4.heap.size w9 (.slice A5 1 c5) [97] from own_chg HV7.out hs9.1 (fun g hg e => e hg))
  have HB9 := Lib.hid (HB7.out.trans hs9.2)
  have HN9 := Lib.hid (show (D3.go 1).n 1 = 1 by show turn D3.n 1 (D3.n 1 + 1) 1 = 1; rw [turn_same, HN3.out]; rfl)
  clear hx9 hs9 hv9 HX7 HV7
  have q1 := conv_str (P := Try.prog) w9 A5 c5 [97] 1 rfl (buf_at HW9.out).2 Try.underlying23 Try.underlying5 Try.underlying9
  have q2 := conv_str (P := Try.prog) w9 A9 c9 [98] 1 rfl (buf_at HV9.out).2 Try.underlying23 Try.underlying5 Try.underlying9
  have HHB := Lib.hid (show Calls Try.prog 83 #[.pointer (some ⟨P, 0, none⟩), .int .u32 2] w9 fun x w' => x = .returned (.bool false) ∧ w9 = w' from plhas_any HX9.out 2 (by omega))
  have HLN := Lib.hid (show Calls Try.prog 82 #[.pointer (some ⟨P, 0, none⟩)] w9 fun x w' => x = .returned (.int .i64 2) ∧ w9 = w' from pllen_any HX9.out)
  have hcn := plcounts_any HX9.out
  rw [HN9.out] at hcn
  have HCN := Lib.hid hcn
  clear hcn
  have s1 : (str [97]).toList = [97] := by rw [str_list]; rfl
  have s2 : (str [98]).toList = [98] := by rw [str_list]; rfl
  go_wp2_with fail
  refine HHB.out.mono ?_
  rintro e w10 ⟨rfl, rfl⟩
  go_wp2_with fail
  refine HLN.out.mono ?_
  rintro e w10 ⟨rfl, rfl⟩
  go_wp2_with fail
  refine HCN.out.mono ?_
  rintro e w10 ⟨rfl, hb10⟩
  go_wp2_with fail
  go_ret
  exact ⟨rfl, HB9.out.trans (Step.of_below (X := fun _ => False) hb10 HX9.out.n_le).2⟩
end Go.Proofs.Ytfbjjblgcgjndaa

/- PoolKeeps, plain: the pages that were used last. -/
namespace Go.Proofs.Ytfbjjblgcgjndaa

def hk (j : Nat) : Hand := ⟨j, 1, [j]⟩
def lastOnes (n i : Nat) : List Nat := (List.range i).drop (i - n)
theorem hk_num (U : List Nat) : ∀ x, x ∈ U.map hk → x.num ∈ U := fun x hx => by
  obtain ⟨j, hj, rfl⟩ := List.mem_map.1 hx
  exact hj
theorem forget_hk_none {U : List Nat} {x : Nat} (h : x ∉ U) : forget x (U.map hk) = U.map hk := forget_none fun y hy e => h (by rw [← e]; exact hk_num U y hy)
theorem use_hk_new {n : Nat} {U : List Nat} {x : Nat} (h : x ∉ U) : usePage n (hk x) (U.map hk) = (if n < U.length + 1 then (U ++ [x]).drop 1 else U ++ [x]).map hk := by
  unfold usePage
  have : (hk x).num = x := rfl
  rw [this, forget_hk_none h]
  have e : U.map hk ++ [hk x] = (U ++ [x]).map hk := by simp
  rw [e]
  simp only [List.length_map, List.length_append, List.length_cons, List.length_nil, Nat.zero_add]
  split
  · rw [List.map_drop]
  · rfl
theorem lastOnes_step (n i : Nat) (hn : 1 ≤ n) : usePage n (hk i) ((lastOnes n i).map hk) = (lastOnes n (i + 1)).map hk := by
  have hno : i ∉ lastOnes n i := fun h => by
    have := List.mem_range.1 (List.mem_of_mem_drop h)
    omega
  rw [use_hk_new hno]
  congr 1
  have hl : (lastOnes n i).length = i - (i - n) := by unfold lastOnes; simp
  rw [hl]
  unfold lastOnes
  rw [List.range_succ]
  split
  · rw [← List.drop_append_of_le_length (by simp), List.drop_drop]
    congr 1
    omega
  · rw [← List.drop_append_of_le_length (by simp)]
    congr 1
    omega
theorem lastOnes_len (n i : Nat) : (lastOnes n i).length = min n i := by unfold lastOnes; simp; omega
theorem lastOnes_nodup (n i : Nat) : (lastOnes n i).Nodup := (List.nodup_range (n := i)).sublist (List.drop_sublist _ _)
theorem lastOnes_lt (n i : Nat) : ∀ x, x ∈ lastOnes n i → x < i := fun x hx => List.mem_range.1 (List.mem_of_mem_drop hx)
theorem lastOnes_nth (n i k : Nat) (h : k < min n i) : nth (lastOnes n i) k = i - n + k := by
  unfold nth lastOnes
  rw [List.getD_eq_getElem?_getD, List.getElem?_drop, List.getElem?_range (by omega)]
  rfl
/-- the place of x among U's first k, or -1 -/
def AtOk (U : List Nat) (x k : Nat) (a : Int) : Prop := (a = -1 ∧ ∀ q, q < k → nth U q ≠ x) ∨ ∃ j, j < k ∧ a = (j : Int) ∧ nth U j = x
theorem AtOk.zero (U : List Nat) (x : Nat) : AtOk U x 0 (-1) := .inl ⟨rfl, fun q hq => by omega⟩
theorem AtOk.hit {U : List Nat} {x k : Nat} (h : nth U k = x) : AtOk U x (k + 1) (k : Int) := .inr ⟨k, by omega, rfl, h⟩
theorem AtOk.miss {U : List Nat} {x k : Nat} {a : Int} (h : AtOk U x k a) (hn : nth U k ≠ x) : AtOk U x (k + 1) a := by
  rcases h with ⟨h1, h2⟩ | ⟨j, h1, h2, h3⟩
  · exact .inl ⟨h1, fun q hq => by
      by_cases e : q = k
      · subst e; exact hn
      · exact h2 q (by omega)⟩
  · exact .inr ⟨j, by omega, h2, h3⟩
theorem nth_eraseIdx_take (U : List Nat) (j k : Nat) (hk' : k < U.length) : (U.take (k + 1)).eraseIdx j = if k = j then (U.take k).eraseIdx j else (U.take k).eraseIdx j ++ [nth U k] := by
  rw [take_nth U k hk']
  have hl : (U.take k).length = k := by rw [List.length_take]; omega
  by_cases e : k = j
  · subst e
    rw [if_pos rfl, List.eraseIdx_append_of_length_le (by omega), hl, Nat.sub_self, List.eraseIdx_of_length_le (by omega : (U.take k).length ≤ k)]
    simp
  · rw [if_neg e]
    by_cases h2 : j < k
    · rw [List.eraseIdx_append_of_lt_length (by omega)]
    · rw [List.eraseIdx_append_of_length_le (by omega), hl, List.eraseIdx_of_length_le (by omega : (U.take k).length ≤ j), List.eraseIdx_of_length_le (by simp; omega)]
theorem not_mem_nth {U : List Nat} {x : Nat} (h : ∀ q, q < U.length → nth U q ≠ x) : x ∉ U := fun hm => by
  obtain ⟨i, hi, e⟩ := List.getElem_of_mem hm
  exact h i hi (by rw [nth_get U i hi, e])
/-- a round: what was used now stands last -/
structure KeepsTo (n : Nat) (D : Dsk) (U : List Nat) (k : Nat) : Prop where
  calm : D.Calm
  pages : D.pages = 12
  small : Small D k
  holds : ∀ j, j < 12 → Holds D j (some (1, [j]))
  len : U.length = n
  nodup : U.Nodup
  lt : ∀ x, x ∈ U → x < 12
theorem eraseIdx_mid (u1 u2 : List Nat) (x : Nat) : (u1 ++ x :: u2).eraseIdx u1.length = u1 ++ u2 := by
  rw [List.eraseIdx_append_of_length_le (Nat.le_refl _), Nat.sub_self]; rfl
theorem KeepsTo.step {n : Nat} {D : Dsk} {U : List Nat} {k x : Nat} {a : Int} (h : KeepsTo n D U k) (hn : 1 ≤ n) (hx : x < 12) (ha : AtOk U x U.length a) :
    ∃ (j : Nat) (D' : Dsk), (a = (j : Int) ∨ (a = -1 ∧ j = 0)) ∧ j < n ∧ plRead n D (U.map hk) x = ⟨1, [x], 0, D', (U.eraseIdx j ++ [x]).map hk⟩ ∧ KeepsTo n D' (U.eraseIdx j ++ [x]) (k + 1) ∧ ((D'.n 1 = D.n 1) ↔ 0 ≤ a) := by
  have hlen : ∀ j, j < n → (U.eraseIdx j ++ [x]).length = n := fun j hj => by
    rw [List.length_append, List.length_eraseIdx, h.len, if_pos hj]; simp; omega
  rcases ha with ⟨ha, hno⟩ | ⟨j, hj, ha, hjx⟩
  · have hnm := not_mem_nth hno
    have hf : findPage x (U.map hk) = none := find_none fun y hy e => hnm (by rw [← e]; exact hk_num U y hy)
    refine ⟨0, D.go 1, .inr ⟨ha, rfl⟩, by omega, ?_, ⟨h.calm.go 1, h.pages, h.small.go 1, fun j hj => (h.holds j hj).same ((show SameD D (D.go 1) from ⟨rfl, rfl⟩).page j), hlen 0 (by omega), ?_, fun y hy => ?_⟩, ?_⟩
    · rw [calm_miss h.calm (by rw [h.pages]; exact hx) hf (h.holds x hx)]
      congr 1
      have := use_hk_new (n := n) hnm
      have e : (⟨x, 1, [x]⟩ : Hand) = hk x := rfl
      rw [e, this, if_pos (by rw [h.len]; omega)]
      congr 1
      cases U with
      | nil => have := h.len; simp at this; omega
      | cons u U => simp
    · rw [List.nodup_append]
      refine ⟨h.nodup.sublist (List.eraseIdx_sublist ..), by simp, fun a ha' b hb => ?_⟩
      have hb' : b = x := by simpa using hb
      rintro rfl
      exact hnm (by rw [← hb']; exact List.mem_of_mem_eraseIdx ha')
    · rcases List.mem_append.1 hy with hy | hy
      · exact h.lt y (List.mem_of_mem_eraseIdx hy)
      · have : y = x := by simpa using hy
        omega
    · show turn D.n 1 (D.n 1 + 1) 1 = D.n 1 ↔ _
      rw [turn_same]; omega
  · have hjl : j < U.length := hj
    have hmem : x ∈ U := by rw [← hjx]; exact nth_mem U j hjl
    obtain ⟨u1, u2, e⟩ := List.append_of_mem hmem
    have hj1 : j = u1.length := by
      have nd := h.nodup
      have h1 : nth U j = x := hjx
      have hul : u1.length < U.length := by rw [e]; simp
      have h2 : nth U u1.length = x := by rw [nth_get U _ hul]; simp [e]
      have h3 : U[j] = U[u1.length] := by rw [← nth_get U j hjl, ← nth_get U _ hul, h1, h2]
      refine Classical.byContradiction fun hne => ?_
      have pw := List.pairwise_iff_getElem.1 nd
      rcases Nat.lt_or_gt_of_ne hne with g | g
      · exact pw j u1.length hjl hul g h3
      · exact pw u1.length j hul hjl g h3.symm
    have hx1 : x ∉ u1 := fun hm => by
      have nd := h.nodup
      rw [e, List.nodup_append] at nd
      exact nd.2.2 x hm x (by simp) rfl
    have hx2 : x ∉ u2 := fun hm => by
      have nd := h.nodup
      rw [e, List.nodup_append, List.nodup_cons] at nd
      exact nd.2.1.1 hm
    have hf : findPage x (U.map hk) = some (hk x) := by
      rw [e]
      unfold findPage
      rw [List.map_append, List.find?_append, List.find?_eq_none.2, List.map_cons, List.find?_cons]
      · simp [hk]
      · intro y hy
        have := hk_num u1 y hy
        simp only [beq_iff_eq]
        intro e'
        exact hx1 (e' ▸ this)
    have hfo : forget x (U.map hk) = (u1 ++ u2).map hk := by
      rw [e]
      unfold forget
      rw [List.map_append, List.map_cons, List.filter_append, List.filter_cons]
      have e0 : ((hk x).num != x) = false := by simp [hk]
      rw [e0]
      simp only [Bool.false_eq_true, if_false]
      rw [List.filter_eq_self.2, List.filter_eq_self.2, List.map_append]
      · intro y hy
        have := hk_num u2 y hy
        simp only [bne_iff_ne]
        intro e'; exact hx2 (e' ▸ this)
      · intro y hy
        have := hk_num u1 y hy
        simp only [bne_iff_ne]
        intro e'; exact hx1 (e' ▸ this)
    have her : U.eraseIdx j = u1 ++ u2 := by rw [hj1, e, eraseIdx_mid]
    refine ⟨j, D, .inl ha, by have := h.len; omega, ?_, ⟨h.calm, h.pages, h.small.mono (by omega), h.holds, hlen j (by have := h.len; omega), ?_, fun y hy => ?_⟩, ?_⟩
    · rw [calm_hit (by rw [h.pages]; exact hx) hf, hfo, her]
      have e0 : (hk x).kind = 1 := rfl
      have e1 : (hk x).pay = [x] := rfl
      rw [e0, e1]
      congr 1
      simp
    · rw [her, List.nodup_append]
      have nd := h.nodup
      rw [e, List.nodup_append, List.nodup_cons] at nd
      refine ⟨?_, by simp, fun a ha' b hb => ?_⟩
      · rw [List.nodup_append]
        exact ⟨nd.1, nd.2.1.2, fun a ha b hb => nd.2.2 a ha b (by simp [hb])⟩
      · have hb' : b = x := by simpa using hb
        rintro rfl
        rw [hb'] at ha'
        rcases List.mem_append.1 ha' with q | q
        · exact hx1 q
        · exact hx2 q
    · rcases List.mem_append.1 hy with hy | hy
      · exact h.lt y (List.mem_of_mem_eraseIdx hy)
      · have : y = x := by simpa using hy
        omega
    · constructor
      · intro _; omega
      · intro _; rfl
theorem isHand_hk {U : List Nat} {x : Nat} (h : x ∈ U) : isHand x (U.map hk) = true := by
  unfold isHand
  rw [List.any_eq_true]
  exact ⟨hk x, List.mem_map.2 ⟨x, h, rfl⟩, by simp [hk]⟩
/-- the first twelve writes -/
structure KeepsFrom2 (n : Nat) (D : Dsk) (i : Nat) : Prop where
  calm : D.Calm
  pages : D.pages = 12
  small : Small D i
  holds : ∀ j, j < i → Holds D j (some (1, [j]))
theorem KeepsFrom2.start {n : Nat} : KeepsFrom2 n (Dsk.new 12) 0 := ⟨Dsk.new_calm 12, Dsk.new_pages 12, Small.new 12, fun j hj => by omega⟩
theorem KeepsFrom2.step {n i : Nat} {D : Dsk} (h : KeepsFrom2 n D i) : KeepsFrom2 n ((D.go 2).put (8 * i) (sealed 1 i [i]) 8) (i + 1) := by
  have hs : SealOk 1 [i] := ⟨by omega, by omega, by simp⟩
  refine ⟨(h.calm.go 2).put _ _ _, h.pages, small_put h.small _ _, fun j hj => ?_⟩
  by_cases e : j = i
  · subst e; exact holds_put (m := 0) hs
  · exact holds_put_other hs (h.holds j (by omega)) e
theorem KeepsFrom2.done {n : Nat} {D : Dsk} (h : KeepsFrom2 n D 12) (hn : n ≤ 12) : KeepsTo n D (lastOnes n 12) 12 :=
  ⟨h.calm, h.pages, h.small, h.holds, by rw [lastOnes_len]; omega, lastOnes_nodup _ _, lastOnes_lt _ _⟩
end Go.Proofs.Ytfbjjblgcgjndaa

/- Walk of PoolKeeps. -/
namespace Go.Proofs.Ytfbjjblgcgjndaa
open Go.RowKit Go.Maps

theorem Try.info22w : (Try.prog.info? 22).map (fun i => (i.zero, i.size, i.bytes)) = some (some (.int .u32 0), 1, 4) := by kernel_rfl
theorem Try.under34 : Try.prog.underlying 34 = some (.slice 22) := by kernel_rfl
section
variable {n0 : Nat} {w w1 w2 : World} {P d most : Nat} {D : Dsk} {L : List Hand} {c : Nat} {X : Nat → Prop} {v v' : Value}
/-- a row of the law's own grows -/
theorem PoolX.push (h : PoolX n0 w P d most D L c (fun g => X g ∨ blk v g)) (hb : Below w.heap.size w w1) (hor : (w1.grownBy w2 v.ownBlock ∧ v'.ownBlock = v.ownBlock) ∨ (w1.grownBy w2 none ∧ ∃ g, v'.ownBlock = some g ∧ w1.heap.size ≤ g)) (hv : ∀ g, blk v g → n0 ≤ g) (hv' : ∀ g, blk v' g → g < w2.heap.size) :
    PoolX n0 w2 P d most D L c (fun g => X g ∨ blk v' g) ∧ Chg (blk v) w1 w2 ∧ Below n0 w w2 := by
  have hc := push_chg hor
  have hx1 := h.below hb
  have hn1 := hx1.n_le
  refine ⟨?_, hc, ?_⟩
  · obtain ⟨S, T, h1, hx⟩ := hx1
    refine ⟨S, T, ⟨h1.disk.keep hc (fun g hg e => (hx g (.inr e)).2.1 hg), h1.pool.keep hc (fun g hg e => (hx g (.inr e)).2.2 hg), h1.sep⟩, fun g hg => ?_⟩
    rcases hg with hg | hg
    · exact ⟨Nat.lt_of_lt_of_le (hx g (.inl hg)).1 hc.size, (hx g (.inl hg)).2⟩
    · refine ⟨hv' g hg, ?_⟩
      rcases push_blk hor hg with e | e
      · exact (hx g (.inr e)).2
      · exact ⟨fun e' => by have := h1.disk.top g e'; omega, fun e' => by have := (h1.pool.2 g e').2; omega⟩
  · exact (Step.of_below (X := X) hb h.n_le).2.trans (hc.below hn1 (fun g hg => hv g hg))
end
/-- the pages that were used last, as the law keeps them -/
def KpAt (n0 : Nat) (w : World) (P pd n k : Nat) (u : Value) (wr : World) : Prop :=
  ∃ U D, KeepsTo n D U (12 + k) ∧ wr.ownsRow n0 22 1 u n (ns .u32 U) ∧ PoolX n0 wr P pd n D (U.map hk) (12 + k) (fun g => False ∨ blk u g) ∧ Below n0 w wr
set_option maxRecDepth 100000 in
set_option maxHeartbeats 4000000 in
theorem poolKeeps_any (m : Nat) (r : Inner) (w : World) (hm : m < 256) (hr : r.Ok w) :
    Calls Try.prog 22 #[.int .u8 (m : Int), r.val] w fun e w' => e = .returned (.bool true) ∧ Below w.heap.size w w' := by
  obtain ⟨A, l, c⟩ := r
  have hlb := hr.small
  unfold Inner.val
  simp only at hlb ⊢
  have HR := Lib.hid hr
  clear hr
  by_cases hbig : 200 < l.length
  · have hb1 : (200 : Int) < (l.length : Int) := by omega
    go_enter Try.func22, Try.ntmps22
    go_wp2_with fail
    refine (known10_any w).mono ?_
    rintro e w1 ⟨rfl, hb⟩
    go_wp2_with fail
    go_ret
    exact ⟨rfl, hb⟩
  have hb1 : ¬ (200 : Int) < (l.length : Int) := by omega
  obtain ⟨n, hn⟩ : ∃ n, n = m % 6 + 1 := ⟨_, rfl⟩
  have hn1 : IntKind.i64.wrap ((m : Int) % 6 + 1) = (n : Int) := by rw [IntKind.wrap_i64]; omega
  have hn2 : (m : Int) % 6 + 1 = (n : Int) := by omega
  have HN := Lib.hid (show 1 ≤ n ∧ n ≤ 6 by omega)
  clear hn
  go_enter Try.func22, Try.ntmps22
  go_wp2_with fail
  refine (known10_any w).mono ?_
  rintro e w1 ⟨rfl, hb⟩
  have HB1 := Lib.hid hb
  clear hb
  go_wp2_with fail
  refine (dg_newl (n0 := w.heap.size) 12 w1 HB1.out.size (by omega) (by omega)).mono ?_
  rintro e w2 ⟨pd, Sd, rfl, hd, _, hb2⟩
  have HD := Lib.hid hd
  have HB2 := Lib.hid (below_next0 HB1.out hb2)
  clear hd hb2
  go_wp2_with fail
  refine (pnew_ok HD.out (X := fun _ => False) (fun g hg => hg.elim) n HN.out.1 (by have := HN.out; omega)).mono ?_
  rintro e w3 ⟨P, rfl, hx3, hb3⟩
  have HX3 := Lib.hid hx3
  have HB3 := Lib.hid (below_next0 HB2.out hb3)
  clear hx3 hb3
  have hnb1 : (n : Int) ≤ 6 := by have := HN.out; omega
  have hnb0 : (1 : Int) ≤ (n : Int) := by have := HN.out; omega
  go_wp2_with fail
  go_loopw [10] (fun i wr => ∃ k : Nat, k ≤ 12 ∧ i = .int .i64 k ∧ (∃ D, KeepsFrom2 n D k ∧ PoolX w.heap.size wr P pd n D ((lastOnes n k).map hk) k (fun _ => False)) ∧ Below w.heap.size w wr) (fun i _ => 12 - (intOf i).toNat)
  case atStart => exact ⟨0, by omega, rfl, ⟨_, KeepsFrom2.start, by simpa [lastOnes] using HX3.out⟩, HB3.out⟩
  case round =>
    obtain ⟨k, hk, rfl, ⟨D, hkf, hx⟩, hb⟩ := hrel
    by_cases hlt : k < 12
    · have hlt' : (k : Int) < 12 := by omega
      have HKF := Lib.hid hkf
      have HX := Lib.hid hx
      have HB := Lib.hid hb
      clear hkf hx hb
      go_wp2_with fail
      refine (lit_write HX.out k 1 k _ _ _ _ rfl rfl rfl (by rw [HKF.out.pages]; omega) (by omega) (by omega) HKF.out.calm HKF.out.small (by omega) (by have := HN.out; omega) (by omega)).mono ?_
      rintro e w4 ⟨rfl, hx4, hs4⟩
      have e1 : usePage n ⟨k, 1, [k]⟩ ((lastOnes n k).map Go.Proofs.Ytfbjjblgcgjndaa.hk) = (lastOnes n (k + 1)).map Go.Proofs.Ytfbjjblgcgjndaa.hk := lastOnes_step n k HN.out.1
      rw [e1] at hx4
      have HX4 := Lib.hid hx4
      have HB4 := Lib.hid (HB.out.trans hs4.2)
      clear hx4 hs4 e1
      go_wp2_with fail
      case roundEnd => exact ⟨⟨k + 1, by omega, by go_num, ⟨_, HKF.out.step, HX4.out⟩, HB4.out⟩, by simp only [intOf]; omega⟩
    · have hk12 : k = 12 := by omega
      have hlt' : ¬ (k : Int) < 12 := by omega
      rw [hk12] at hkf hx
      clear hk12 hk hlt
      have HKT := Lib.hid (hkf.done (by have := HN.out; omega))
      have hx0 : PoolX w.heap.size wr P pd n D ((lastOnes n 12).map Go.Proofs.Ytfbjjblgcgjndaa.hk) 12 (fun g => False ∨ blk (Value.slice none 0 0) g) := hx.less (fun g hg => hg.elim id (fun e => by cases e))
      have HX0 := Lib.hid hx0
      have HBW := Lib.hid hb
      clear hkf hx hb hx0
      go_wp2_with fail
      go_loopw [11, 12] (fun u i wr => ∃ k : Nat, k ≤ n ∧ i = .int .i64 ((12 - n + k : Nat) : Int) ∧ wr.ownsRow w.heap.size 22 1 u k (ns .u32 ((lastOnes n 12).take k)) ∧ PoolX w.heap.size wr P pd n D ((lastOnes n 12).map Go.Proofs.Ytfbjjblgcgjndaa.hk) 12 (fun g => False ∨ blk u g) ∧ Below w.heap.size w wr) (fun _ i _ => 12 - (intOf i).toNat)
      case atStart => exact ⟨0, by omega, by congr 1; omega, by simpa [ns] using World.ownsRow_nil _ _ _ _, HX0.out, HBW.out⟩
      case round =>
        obtain ⟨k, hk, rfl, ho, hx, hb⟩ := hrel
        obtain ⟨q, hq⟩ : ∃ q, q = 12 - n + k := ⟨_, rfl⟩
        rw [← hq]
        by_cases hlt : k < n
        · have hql : (q : Int) < 12 := by omega
          have hst : (lastOnes n 12).take (k + 1) = (lastOnes n 12).take k ++ [q] := by
            rw [take_nth _ k (by rw [lastOnes_len]; omega), lastOnes_nth n 12 k (by omega), hq]
          have HSTK := Lib.hid hst
          have HX := Lib.hid hx
          have HB := Lib.hid hb
          have HO := Lib.hid ho
          have HQ := Lib.hid hq
          have hal := own_below ho (below_alloc0 (Below.refl _ _) (.cells #[.int .u32 (q : Int)] 22))
          have hat : At (wr.alloc (.cells #[.int .u32 (q : Int)] 22)) (some ⟨wr.heap.size, 0, none⟩) [.int .u32 (q : Int)] := At.box wr _ 22 wr.heap.size rfl
          have hn0 : w.heap.size ≤ (wr.alloc (.cells #[.int .u32 (q : Int)] 22)).heap.size := Nat.le_trans hx.n_le (by simp)
          clear hst hx hb ho hq
          go_wp2_with (at_builtin; go_loud (refine wp_append2 rfl (.tmp 76) (.tmp 79) 34 22 (.int .u32 0) 1 4 rfl Try.under34 Try.info22w rfl (by decide) w.heap.size u11 k _ rfl hal (some ⟨wr.heap.size, 0, none⟩) 1 1 _ rfl rfl hat (by simp) (by simp [Value.oneCell']) (by omega) (by omega) hn0 ?_); intro v4 w4 ho4 hor4)
          obtain ⟨hx5, _, hb5⟩ := HX.out.push (below_alloc0 (Below.refl _ _) _) hor4 (fun g hg => (row_lt HO.out hg).1) (fun g hg => (row_lt ho4 hg).2)
          have HX5 := Lib.hid hx5
          have HB5 := Lib.hid (HB.out.trans hb5)
          have HO5 := Lib.hid ho4
          clear ho4 hor4 hx5 hb5 hal hat hn0
          go_roundw
          case rel =>
            refine ⟨k + 1, by omega, by have := HQ.out; go_num, ?_, HX5.out, HB5.out⟩
            rw [HSTK.out, ns_append]; exact HO5.out
          case measure => simp only [intOf]; omega
        · obtain rfl : n = k := by omega
          have hql : ¬ (q : Int) < 12 := by have := HN.out; omega
          rw [List.take_of_length_le (by rw [lastOnes_len]; omega)] at ho
          have hkp : KpAt w.heap.size w P pd n 0 u11 wr := ⟨_, D, HKT.out, ho, hx, hb⟩
          have HKP := Lib.hid hkp
          clear hkp hx hb ho HKT HX0 HBW
          have hl0 : (l.length : Int) ≤ 200 := by omega
          go_wp2_with fail
          go_loopw [11, 13] (fun u i wr => ∃ k : Nat, k ≤ l.length ∧ i = .int .i64 k ∧ KpAt w.heap.size w P pd n k u wr) (fun _ i _ => l.length - (intOf i).toNat)
          case atStart => exact ⟨0, by omega, rfl, HKP.out⟩
          case round =>
            clear HKP
            obtain ⟨k, hk, rfl, U, D, hkt, ho, hx, hb⟩ := hrel
            by_cases hlt : k < l.length
            · obtain ⟨g, cap, rfl, _, _, hnc, _⟩ := own_form ho (by have := HN.out; omega)
              obtain ⟨gb, go, hA, hcl⟩ := ((HR.out.below hb).lies).num k hlt
              simp only at hA hcl
              subst hA
              have hbk := HR.out.bytes.nth k hlt
              obtain ⟨y, hy⟩ : ∃ y, y = nth l k := ⟨_, rfl⟩
              simp only at hbk
              rw [← hy] at hcl hbk
              obtain ⟨x, hxd⟩ : ∃ x, x = y % 12 := ⟨_, rfl⟩
              have hx1 : (y : Int) % 12 = (x : Int) := by omega
              have hx12 : x < 12 := by omega
              have hjl : (k : Int) < (l.length : Int) := by omega
              have HKT := Lib.hid hkt
              have HO := Lib.hid ho
              have HX := Lib.hid hx
              have HBW := Lib.hid hb
              have HXL := Lib.hid hx12
              have hul : U.length = n := hkt.len
              have HUL := Lib.hid hul
              clear hkt ho hx hb hy hxd hul
              go_wp2_with fail
              go_loop [15, 16] (fun a i => ∃ q : Nat, q ≤ n ∧ i = .int .i64 q ∧ ∃ z : Int, a = .int .i64 z ∧ AtOk U x q z) (fun _ i => n - (intOf i).toNat)
              case atStart => exact ⟨0, by omega, rfl, -1, rfl, AtOk.zero U x⟩
              case round =>
                obtain ⟨q, hq, rfl, z, rfl, ha⟩ := hrel
                by_cases hqn : q < n
                · have hcq := own_cell HO.out q hqn
                  have hqi : (q : Int) < (n : Int) := by omega
                  have HA := Lib.hid ha
                  by_cases hnx : nth U q = x
                  · have HNX := Lib.hid hnx
                    rw [hnx] at hcq
                    clear ha hnx
                    go_wp2_with fail
                    case roundEnd => exact ⟨⟨q + 1, by omega, by go_num, (q : Int), rfl, AtOk.hit HNX.out⟩, by simp only [intOf]; omega⟩
                  · have HNX := Lib.hid hnx
                    have hne : ¬ ((nth U q : Nat) : Int) = (x : Int) := by omega
                    generalize hyq : nth U q = yq at *
                    have HYQ := Lib.hid hyq
                    clear hyq
                    have hne2 : (((yq : Nat) : Int) == (x : Int)) = false := by simpa using hne
                    have hne3 : (yq == x) = false := by simp; omega
                    clear ha hnx hne
                    go_wp2_with fail
                    case roundEnd => exact ⟨⟨q + 1, by omega, by go_num, z, rfl, HA.out.miss (by rw [HYQ.out]; exact HNX.out)⟩, by simp only [intOf]; omega⟩
                · have hqi : ¬ (q : Int) < (n : Int) := by omega
                  have hqe : q = n := by omega
                  rw [hqe] at ha
                  rw [← HUL.out] at ha
                  obtain ⟨j, D', hja, hjn, hrd, hkt', hcnt⟩ := HKT.out.step HN.out.1 HXL.out ha
                  have HJA := Lib.hid hja
                  have HRD := Lib.hid hrd
                  have HKT' := Lib.hid hkt'
                  have HCNT := Lib.hid hcnt
                  clear ha hqe hja hrd hkt' hcnt hq hqn
                  have HCN := Lib.hid (plcounts_any HX.out)
                  generalize hr1 : D.n 1 = r1 at *
                  have HR1 := Lib.hid hr1
                  have kf := field89
                  clear hr1
                  go_wp2_with fail
                  refine HCN.out.mono ?_
                  rintro e w4 ⟨rfl, hb4⟩
                  have hrd4 := plread_any (HX.out.below hb4) x (by omega) (HKT.out.small.c (by omega)) (HKT.out.small.m (by omega) 1) (by have := HN.out; omega) (by omega)
                  rw [HRD.out] at hrd4
                  have HRD4 := Lib.hid hrd4
                  have HO4 := Lib.hid (own_below HO.out hb4)
                  have HB4 := Lib.hid (HBW.out.trans (Step.of_below (X := fun _ => False) hb4 HX.out.n_le).2)
                  clear hrd4 hb4 HCN
                  go_wp2_with fail
                  refine HRD4.out.mono ?_
                  rintro e w5 ⟨A5, c5, rfl, hv5, hx5, hs5⟩
                  obtain ⟨g5, c5', e5, _, _, _, _⟩ := own_form hv5 (by simp)
                  have hc5 : w5.cell? ⟨g5, 0, none⟩ = some (.int .u8 (x : Int)) := by
                    have h5 := hv5
                    rw [e5] at h5
                    have := own_cell h5 0 (by simp)
                    simpa [nth] using this
                  have e5' : A5 = some ⟨g5, 0, none⟩ := by injection e5
                  subst e5'
                  have HO5 := Lib.hid (own_chg HO4.out hs5.1 (fun g hg e => e (.inr hg)))
                  have HX5 := Lib.hid (show PoolX w.heap.size w5 P pd n D' ((U.eraseIdx j ++ [x]).map Go.Proofs.Ytfbjjblgcgjndaa.hk) (12 + (k + 1)) (fun g' => False ∨ blk (Value.slice (some ⟨g, 0, none⟩) n cap) g') from hx5.less (fun g' hg => .inl hg))
                  have HB5 := Lib.hid (HB4.out.trans hs5.2)
                  have hcmp : (D'.n 1 == r1) = decide (0 ≤ z) := by
                    rw [Bool.eq_iff_iff]
                    simpa using HCNT.out
                  have HCN := Lib.hid (plcounts_any HX5.out)
                  have hxb : IntKind.u8.wrap (x : Int) = (x : Int) := by rw [IntKind.wrap_u8]; omega
                  generalize D'.n 1 = r2 at *
                  clear hv5 hx5 hs5 e5 HRD4
                  go_wp2_with fail
                  refine HCN.out.mono ?_
                  rintro e w6 ⟨rfl, hb6⟩
                  have HX6 := Lib.hid (show PoolX w.heap.size w6 P pd n D' ((U.eraseIdx j ++ [x]).map Go.Proofs.Ytfbjjblgcgjndaa.hk) (12 + (k + 1)) (fun g' => (False ∨ blk (Value.slice (some ⟨g, 0, none⟩) n cap) g') ∨ blk (Value.slice none 0 0) g') from (HX5.out.below hb6).less (fun g' hg => hg.elim id (fun e => by cases e)))
                  have HO6 := Lib.hid (own_below HO5.out hb6)
                  have HB6 := Lib.hid (HB5.out.trans (Step.of_below (X := fun _ => False) hb6 HX5.out.n_le).2)
                  clear hb6 hc5 HCN
                  go_wp2_with fail
                  generalize decide (0 ≤ z) = b0 at *
                  go_loopw [21, 22] (fun v i wr => ∃ q : Nat, q ≤ n ∧ i = .int .i64 q ∧ wr.ownsRow w.heap.size 22 1 v ((U.take q).eraseIdx j).length (ns .u32 ((U.take q).eraseIdx j)) ∧ wr.ownsRow w.heap.size 22 1 (.slice (some ⟨g, 0, none⟩) n cap) n (ns .u32 U) ∧ (∀ g', blk v g' → g' ≠ g) ∧ PoolX w.heap.size wr P pd n D' ((U.eraseIdx j ++ [x]).map Go.Proofs.Ytfbjjblgcgjndaa.hk) (12 + (k + 1)) (fun g' => (False ∨ blk (Value.slice (some ⟨g, 0, none⟩) n cap) g') ∨ blk v g') ∧ Below w.heap.size w wr) (fun _ i _ => n - (intOf i).toNat)
                  case atStart => exact ⟨0, by omega, rfl, by simpa [ns] using World.ownsRow_nil _ _ _ _, HO6.out, (fun g' e => by cases e), HX6.out, HB6.out⟩
                  case round =>
                    clear HO6 HX6 HB6
                    obtain ⟨q, hq, rfl, hv, ho, hap, hx, hb⟩ := hrel
                    by_cases hqn : q < n
                    · have hqi : (q : Int) < (n : Int) := by omega
                      have hers := nth_eraseIdx_take U j q (by rw [HUL.out]; exact hqn)
                      have hcq := own_cell ho q hqn
                      have hvl : ((U.take q).eraseIdx j).length ≤ q := by rw [List.length_eraseIdx]; split <;> (rw [List.length_take]; omega)
                      have HV := Lib.hid hv
                      have HO := Lib.hid ho
                      have HX := Lib.hid hx
                      have HB := Lib.hid hb
                      have HAP := Lib.hid hap
                      by_cases hqj : q = j
                      · rw [if_pos hqj] at hers
                        have HERS := Lib.hid hers
                        clear hers hv ho hx hb hap
                        rcases HJA.out with hz | ⟨hz, hj0⟩
                        · have hz1 : (((q : Nat) : Int) != z) = false := by simp; omega
                          have hz2 : (((q : Nat) : Int) == z) = true := by simp; omega
                          clear hz hqj
                          go_wp2_with fail
                          case roundEnd => exact ⟨⟨q + 1, by omega, by go_num, by rw [HERS.out]; exact HV.out, HO.out, HAP.out, HX.out, HB.out⟩, by simp only [intOf]; omega⟩
                        · have hz1 : (((q : Nat) : Int) != z) = true := by simp; omega
                          have hz3 : ¬ 0 ≤ z := by omega
                          have hz4 : ¬ 0 < q := by omega
                          have hz5 : ¬ (0 : Int) < (q : Int) := by omega
                          clear hz hj0 hqj
                          go_wp2_with fail
                          case roundEnd => exact ⟨⟨q + 1, by omega, by go_num, by rw [HERS.out]; exact HV.out, HO.out, HAP.out, HX.out, HB.out⟩, by simp only [intOf]; omega⟩
                      · rw [if_neg hqj] at hers
                        have HERS := Lib.hid hers
                        clear hers hv ho hx hb hap
                        rcases HJA.out with hz | ⟨hz, hj0⟩
                        · have hz1 : (((q : Nat) : Int) != z) = true := by simp; omega
                          have hz3 : 0 ≤ z := by omega
                          clear hz hqj
                          generalize hyq : nth U q = yq at *
                          have HYQ := Lib.hid hyq
                          generalize hT : (U.take q).eraseIdx j = T at *
                          have HT := Lib.hid hT
                          have hal := own_below HV.out (below_alloc0 (Below.refl _ _) (.cells #[.int .u32 (yq : Int)] 22))
                          have hat : At (wr.alloc (.cells #[.int .u32 (yq : Int)] 22)) (some ⟨wr.heap.size, 0, none⟩) [.int .u32 (yq : Int)] := At.box wr _ 22 wr.heap.size rfl
                          have hn0 : w.heap.size ≤ (wr.alloc (.cells #[.int .u32 (yq : Int)] 22)).heap.size := Nat.le_trans HX.out.n_le (by simp)
                          clear hyq hT
                          go_wp2_with (at_builtin; go_loud (refine wp_append2 rfl (.tmp 158) (.tmp 163) 34 22 (.int .u32 0) 1 4 rfl Try.under34 Try.info22w rfl (by decide) w.heap.size u21 T.length _ rfl hal (some ⟨wr.heap.size, 0, none⟩) 1 1 _ rfl rfl hat (by simp) (by simp [Value.oneCell']) (by omega) (by omega) hn0 ?_); intro v7 w7 ho7 hor7)
                          obtain ⟨hx8, hc8, hb8⟩ := HX.out.push (below_alloc0 (Below.refl _ _) _) hor7 (fun g' hg => (row_lt HV.out hg).1) (fun g' hg => (row_lt ho7 hg).2)
                          have HX8 := Lib.hid hx8
                          have HB8 := Lib.hid (HB.out.trans hb8)
                          have HO8 := Lib.hid ho7
                          have HU8 := Lib.hid (own_chg (own_below HO.out (below_alloc0 (Below.refl _ _) (.cells #[.int .u32 (yq : Int)] 22))) hc8 (fun g' hg e => HAP.out g' e (by cases hg; rfl)))
                          have HAP8 := Lib.hid (show ∀ g', blk v7 g' → g' ≠ g from fun g' hg => by
                            rcases push_blk hor7 hg with e | e
                            · exact HAP.out g' e
                            · have h1 := (row_lt HO.out (show blk (Value.slice (some ⟨g, 0, none⟩) n cap) g from rfl)).2
                              simp at e
                              omega)
                          clear ho7 hor7 hx8 hc8 hb8 hal hat hn0
                          go_roundw
                          case rel =>
                            refine ⟨q + 1, by omega, by go_num, ?_, HU8.out, HAP8.out, HX8.out, HB8.out⟩
                            rw [HERS.out, ns_append, List.length_append]
                            exact HO8.out
                          case measure => simp only [intOf]; omega
                        · have hz1 : (((q : Nat) : Int) != z) = true := by simp; omega
                          have hz3 : ¬ 0 ≤ z := by omega
                          have hz4 : 0 < q := by omega
                          have hz5 : (0 : Int) < (q : Int) := by omega
                          clear hz hj0 hqj
                          generalize hyq : nth U q = yq at *
                          have HYQ := Lib.hid hyq
                          generalize hT : (U.take q).eraseIdx j = T at *
                          have HT := Lib.hid hT
                          have hal := own_below HV.out (below_alloc0 (Below.refl _ _) (.cells #[.int .u32 (yq : Int)] 22))
                          have hat : At (wr.alloc (.cells #[.int .u32 (yq : Int)] 22)) (some ⟨wr.heap.size, 0, none⟩) [.int .u32 (yq : Int)] := At.box wr _ 22 wr.heap.size rfl
                          have hn0 : w.heap.size ≤ (wr.alloc (.cells #[.int .u32 (yq : Int)] 22)).heap.size := Nat.le_trans HX.out.n_le (by simp)
                          clear hyq hT
                          go_wp2_with (at_builtin; go_loud (refine wp_append2 rfl (.tmp 158) (.tmp 163) 34 22 (.int .u32 0) 1 4 rfl Try.under34 Try.info22w rfl (by decide) w.heap.size u21 T.length _ rfl hal (some ⟨wr.heap.size, 0, none⟩) 1 1 _ rfl rfl hat (by simp) (by simp [Value.oneCell']) (by omega) (by omega) hn0 ?_); intro v7 w7 ho7 hor7)
                          obtain ⟨hx8, hc8, hb8⟩ := HX.out.push (below_alloc0 (Below.refl _ _) _) hor7 (fun g' hg => (row_lt HV.out hg).1) (fun g' hg => (row_lt ho7 hg).2)
                          have HX8 := Lib.hid hx8
                          have HB8 := Lib.hid (HB.out.trans hb8)
                          have HO8 := Lib.hid ho7
                          have HU8 := Lib.hid (own_chg (own_below HO.out (below_alloc0 (Below.refl _ _) (.cells #[.int .u32 (yq : Int)] 22))) hc8 (fun g' hg e => HAP.out g' e (by cases hg; rfl)))
                          have HAP8 := Lib.hid (show ∀ g', blk v7 g' → g' ≠ g from fun g' hg => by
                            rcases push_blk hor7 hg with e | e
                            · exact HAP.out g' e
                            · have h1 := (row_lt HO.out (show blk (Value.slice (some ⟨g, 0, none⟩) n cap) g from rfl)).2
                              simp at e
                              omega)
                          clear ho7 hor7 hx8 hc8 hb8 hal hat hn0
                          go_roundw
                          case rel =>
                            refine ⟨q + 1, by omega, by go_num, ?_, HU8.out, HAP8.out, HX8.out, HB8.out⟩
                            rw [HERS.out, ns_append, List.length_append]
                            exact HO8.out
                          case measure => simp only [intOf]; omega
                    · have hqi : ¬ (q : Int) < (n : Int) := by omega
                      have htk : U.take q = U := List.take_of_length_le (by rw [HUL.out]; omega)
                      rw [htk] at hv
                      generalize U.eraseIdx j = T at *
                      have hTn : (T ++ [x]).length = n := HKT'.out.len
                      have HTN := Lib.hid hTn
                      have HX := Lib.hid hx
                      have HB := Lib.hid hb
                      have hal := own_below hv (below_alloc0 (Below.refl _ _) (.cells #[.int .u32 (x : Int)] 22))
                      have hat : At (wr.alloc (.cells #[.int .u32 (x : Int)] 22)) (some ⟨wr.heap.size, 0, none⟩) [.int .u32 (x : Int)] := At.box wr _ 22 wr.heap.size rfl
                      have hn0 : w.heap.size ≤ (wr.alloc (.cells #[.int .u32 (x : Int)] 22)).heap.size := Nat.le_trans hx.n_le (by simp)
                      have hTl : T.length ≤ 6 := by have := HN.out; simp at hTn; omega
                      have HV := Lib.hid hv
                      clear hv ho hap hx hb hTn HO HUL HO5 HO4 htk
                      go_wp2_with (at_builtin; go_loud (refine wp_append2 rfl (.tmp 165) (.tmp 167) 34 22 (.int .u32 0) 1 4 rfl Try.under34 Try.info22w rfl (by decide) w.heap.size u21 T.length _ rfl hal (some ⟨wr.heap.size, 0, none⟩) 1 1 _ rfl rfl hat (by simp) (by simp [Value.oneCell']) (by omega) (by omega) hn0 ?_); intro v9 w9 ho9 hor9)
                      obtain ⟨hx9, hc9, hb9⟩ := HX.out.push (below_alloc0 (Below.refl _ _) _) hor9 (fun g' hg => (row_lt HV.out hg).1) (fun g' hg => (row_lt ho9 hg).2)
                      have ho9' : w9.ownsRow w.heap.size 22 1 v9 n (ns .u32 (T ++ [x])) := by
                        rw [ns_append, ← HTN.out, List.length_append]; exact ho9
                      obtain ⟨g9, cap9, rfl, _, _, _, _⟩ := own_form ho9' (by have := HN.out; omega)
                      have HO9 := Lib.hid ho9'
                      have HX9 := Lib.hid (show PoolX w.heap.size w9 P pd n D' ((T ++ [x]).map Go.Proofs.Ytfbjjblgcgjndaa.hk) (12 + (k + 1)) (fun g' => False ∨ blk (Value.slice (some ⟨g9, 0, none⟩) n cap9) g') from hx9.less (fun g' hg => hg.elim (fun e => e.elim) (fun e => .inr e)))
                      have HB9 := Lib.hid (HB.out.trans hb9)
                      have hln := pllen_any HX9.out
                      rw [List.length_map, HTN.out] at hln
                      have HLN := Lib.hid hln
                      clear ho9 ho9' hor9 hx9 hc9 hb9 hal hat hn0 hTl hln
                      go_wp2_with fail
                      refine HLN.out.mono ?_
                      rintro e w10 ⟨rfl, rfl⟩
                      go_wp2_with fail
                      go_loop [23] (fun i => ∃ q : Nat, q ≤ n ∧ i = .int .i64 q) (fun i => n - (intOf i).toNat)
                      case atStart => exact ⟨0, by omega, rfl⟩
                      case round =>
                        obtain ⟨q, hq, rfl⟩ := hrel
                        by_cases hqn : q < n
                        · have hqi : (q : Int) < (n : Int) := by omega
                          have hcq := own_cell HO9.out q hqn
                          have hmem : nth (T ++ [x]) q ∈ T ++ [x] := nth_mem _ _ (by rw [HTN.out]; exact hqn)
                          have hhas := plhas_any HX9.out (nth (T ++ [x]) q) (by have := HKT'.out.lt _ hmem; omega)
                          rw [isHand_hk hmem] at hhas
                          generalize nth (T ++ [x]) q = yq at *
                          have HHAS := Lib.hid hhas
                          clear hmem hhas
                          go_wp2_with fail
                          refine HHAS.out.mono ?_
                          rintro e w11 ⟨rfl, rfl⟩
                          go_wp2_with fail
                          case roundEnd => exact ⟨⟨q + 1, by omega, by go_num⟩, by simp only [intOf]; omega⟩
                        · have hqi : ¬ (q : Int) < (n : Int) := by omega
                          go_wp2_with fail
                          case roundEnd => exact ⟨⟨k + 1, by omega, by go_num, _, D', HKT'.out, HO9.out, HX9.out, HB9.out⟩, by simp only [intOf]; omega⟩
            · have hki : ¬ (k : Int) < (l.length : Int) := by omega
              go_wp2_with fail
              go_ret
              exact ⟨rfl, hb⟩
end Go.Proofs.Ytfbjjblgcgjndaa

/- What a statement's arguments are, as the walks ask it. -/
namespace Go.Proofs.Ytfbjjblgcgjndaa
open Go.ChangeShapes Go.WideShapes Go.ChangeAt Go.RowKit

theorem Try.own : ownKnob Try.prog.godebug = none := by kernel_rfl
theorem Try.laidOut : laidOutB Try.prog = true := by kernel_rfl

/-- A slice of integers that came in: it is nil; or it leads to a row of 'cap' cells, the numbers 'zs', each fitting its kind. -/
def IsRow (k : IntKind) (w : World) (a : Option Addr) (len cap : Nat) (zs : List Int) : Prop :=
  (a = none ∧ len = 0 ∧ cap = 0 ∧ zs = []) ∨
  ∃ x, a = some x ∧ len ≤ cap ∧ cap ≤ maxLen ∧ zs.length = cap ∧ (∀ i, i < zs.length → w.cell? (x.add i) = some (.int k (zs.getD i 0))) ∧ ∀ n ∈ zs, (Lit.int k n).wf = true

theorem wf_u8 {n : Int} (h : (Lit.int .u8 n).wf = true) : 0 ≤ n ∧ n < 256 := by
  simp [Lit.wf, IntKind.min, IntKind.max, IntKind.bits, IntKind.signed] at h; omega
theorem wf_u16 {n : Int} (h : (Lit.int .u16 n).wf = true) : 0 ≤ n ∧ n < 65536 := by
  simp [Lit.wf, IntKind.min, IntKind.max, IntKind.bits, IntKind.signed] at h; omega
theorem wf_u32 {n : Int} (h : (Lit.int .u32 n).wf = true) : 0 ≤ n ∧ n < 4294967296 := by
  simp [Lit.wf, IntKind.min, IntKind.max, IntKind.bits, IntKind.signed] at h; omega
theorem wf_u64 {n : Int} (h : (Lit.int .u64 n).wf = true) : 0 ≤ n ∧ n < 18446744073709551616 := by
  simp [Lit.wf, IntKind.min, IntKind.max, IntKind.bits, IntKind.signed] at h; omega
theorem wf_i64 {n : Int} (h : (Lit.int .i64 n).wf = true) : -9223372036854775808 ≤ n ∧ n ≤ 9223372036854775807 := by
  simp [Lit.wf, IntKind.min, IntKind.max, IntKind.bits, IntKind.signed] at h; omega

theorem nat_of {n : Int} {k : IntKind} (h : 0 ≤ n) : Value.int k n = .int k ((n.toNat : Nat) : Int) := by rw [Int.toNat_of_nonneg h]

theorem row_nat (k : IntKind) (M : Nat) (hk : ∀ n, (Lit.int k n).wf = true → 0 ≤ n ∧ n < M) {w : World} {a : Option Addr} {len cap : Nat} {zs : List Int} (h : IsRow k w a len cap zs) :
    ∃ l : List Nat, l.length = len ∧ At w a (ns k l) ∧ (a = none → cap = 0) ∧ len ≤ cap ∧ cap ≤ maxLen ∧ ∀ c ∈ l, c < M := by
  rcases h with ⟨rfl, rfl, rfl, rfl⟩ | ⟨x, rfl, h1, h2, h3, h4, h5⟩
  · exact ⟨[], rfl, At.nil _ _, fun _ => rfl, Nat.le_refl _, Nat.zero_le _, fun c hc => by simp at hc⟩
  · refine ⟨(zs.take len).map Int.toNat, by simp; omega, ?_, fun e => (by cases e), h1, h2, ?_⟩
    · intro hn
      have h0 : 0 < len := by
        rcases Nat.eq_zero_or_pos len with h | h
        · subst h; simp [ns] at hn
        · exact h
      have hc0 := h4 0 (by omega)
      obtain ⟨b, o, sp⟩ := x
      have hsp : sp = none := by
        cases sp with
        | none => rfl
        | some s => simp [Addr.add, World.cell?] at hc0; split at hc0 <;> simp at hc0
      subst hsp
      refine ⟨b, o, rfl, fun j v hv => ?_⟩
      have hj : j < len := by
        have := (List.getElem?_eq_some_iff.1 hv).1
        simp [ns] at this; omega
      have hc := h4 j (by omega)
      rw [Addr.add_mid] at hc
      rw [hc]
      have hz : zs[j]? = some (zs.getD j 0) := by simp [List.getElem?_eq_getElem (show j < zs.length by omega)]
      have hm : zs.getD j 0 ∈ zs := List.mem_of_getElem? hz
      have hb := hk _ (h5 _ hm)
      simp only [ns, List.map_map, List.getElem?_map, List.getElem?_take, if_pos hj, hz] at hv
      simp only [Option.map_some, Function.comp, Int.toNat_of_nonneg hb.1] at hv
      exact hv
    · intro c hc
      simp only [List.mem_map] at hc
      obtain ⟨n, hn, rfl⟩ := hc
      have := hk _ (h5 _ (List.mem_of_mem_take hn))
      omega
theorem row_bytes {w : World} {a : Option Addr} {len cap : Nat} {zs : List Int} (h : IsRow .u8 w a len cap zs) :
    ∃ l : List Nat, l.length = len ∧ At w a (ns .u8 l) ∧ (a = none → cap = 0) ∧ len ≤ cap ∧ cap ≤ maxLen ∧ Bytes l := row_nat .u8 256 (fun _ h => wf_u8 h) h
end Go.Proofs.Ytfbjjblgcgjndaa

/- One frame for all statements 'for every input the law returns true, and its arguments read as they did', and openings of nested arguments. -/
namespace Go.Proofs.Ytfbjjblgcgjndaa
open Go.ChangeShapes Go.WideShapes Go.ChangeAt Go.RowKit

section
variable {H : Type} {enc : TypeId × Value → H}
theorem trodAll_below {W W' : World} (hb : Below W.heap.size W W') : ∀ (ts : List TypeId) (vs : List Value) (ds : List (DataW H)) (ps : List MemPlace),
    DataW.TrodAll enc Try.prog W 0 (fun _ => true) true ts vs ds ps → (∀ t ∈ ts, Try.prog.readableRec t = true ∧ t < Try.prog.types.size) → (∀ x ∈ ps, x.block < W.heap.size) →
    DataW.TrodAll enc Try.prog W' 0 (fun b => decide (b < W.heap.size)) true ts vs ds ps := by
  intro ts
  induction ts with
  | nil =>
    intro vs ds ps h _ _
    cases vs <;> cases ds <;> first | exact h | exact h.elim
  | cons t ts ih =>
    intro vs ds ps h ht hlt
    cases vs with
    | nil => cases ds <;> exact h.elim
    | cons v vs =>
      cases ds with
      | nil => exact h.elim
      | cons d ds =>
        obtain ⟨p, q, h1, h2, rfl⟩ := h
        have hr := ht t (by simp)
        exact ⟨p, q, Below.trod Try.laidOut hr.1 hr.2 h1 hb (fun x hx => hlt x (by simp [hx])), ih vs ds q h2 (fun u hu => ht u (by simp [hu])) (fun x hx => hlt x (by simp [hx])), rfl⟩

set_option maxRecDepth 100000 in
theorem law_lifted (f : FuncId) (fn : Func) (s : ChangeSpec) (os : Os) (started : os.Started) (noInit : Try.prog.inits.idxOf? f = none) (hfn : Try.prog.funcs[f]? = some fn)
    (hvars : s.vars = []) (hspec : ∀ ds : List (DataW H), ds.length = fn.params.size → s.fn H (ds ++ []) = { results := [.lit (.bool true)], args := ds })
    (hres : fn.resultTypes = #[4]) (hty : ∀ t ∈ fn.params.toList, Try.prog.readableRec t = true ∧ t < Try.prog.types.size)
    (witness : ∃ (w : World) (tape : Tape) (i : Input), w.os = os ∧ (w.forCall tape i).Shaped Try.checked.prog ∧ i.vars = [] ∧ Input.okWide Try.checked.prog (w.forCall tape i) .any w.heap.size f i ∧
      s.pre6 enc Try.checked.prog fn [] false (w.forCall tape i).memory i.args ∧ ({} : Assume).holds Try.checked.prog (lone (Frame.enter Try.checked.prog f i.args .normal) [] (w.forCall tape i)))
    (contract : ∀ (W : World) (base : Nat) (args : Array Value) (ds : List (DataW H)) (p : List MemPlace),
      (∀ (j : Nat) t v, fn.params[j]? = some t → args[j]? = some v → Value.okWide Try.prog W .any base t v) →
      DataW.TrodAll enc Try.prog W 0 (fun _ => true) true fn.params.toList args.toList ds p →
      (DataW.weightsEach Try.prog fn.params.toList ds).all (· ≤ reachBytes) = true →
      Calls Try.prog f args W fun e W' => e = .returned (.bool true) ∧ Below W.heap.size W W') :
    ReturnsInHanded {} Try.checked os f .any (s.pre6 enc Try.prog fn [] false) (s.post enc Try.prog fn false true false false) := by
  refine returnsInHanded_of_change_sized (C := Try.checked) Try.own started noInit hfn witness ?_
  intro W base args ds gs before hval0 hW _ hsz0 _
  have hW' := hW
  obtain ⟨p, q, hA0, hV, rfl, hfz, hnd⟩ := hW
  have hA : DataW.TrodAll enc Try.prog W 0 (fun _ => true) true fn.params.toList args.toList ds p := hA0
  have hgs : gs = [] ∧ q = [] := by
    rw [hvars] at hV
    exact trodVars_none hV
  obtain ⟨rfl, rfl⟩ := hgs
  have hvt : s.plain.varTypes Try.checked.prog = [] := by
    unfold DataSpec.varTypes ChangeSpec.plain
    simp only [hvars, List.map_nil, List.filterMap_nil]
  have hsz : (DataW.weightsEach Try.prog fn.params.toList ds).all (· ≤ reachBytes) = true := by
    rw [hvt, List.append_nil, List.append_nil] at hsz0; exact hsz0
  have hlen : ds.length = fn.params.size := by
    have : ∀ (ts : List TypeId) (vs : List Value) (ds : List (DataW H)) (ps : List MemPlace), DataW.TrodAll enc Try.prog W 0 (fun _ => true) true ts vs ds ps → ds.length = ts.length := by
      intro ts
      induction ts with
      | nil => intro vs ds ps h; cases vs <;> cases ds <;> first | rfl | exact h.elim
      | cons t ts ih =>
        intro vs ds ps h
        cases vs with
        | nil => cases ds <;> exact h.elim
        | cons v vs => cases ds with
          | nil => exact h.elim
          | cons d ds => obtain ⟨p, q, h1, h2, rfl⟩ := h; simp [ih vs ds q h2]
    simpa using this _ _ _ _ hA
  have hlt : ∀ x ∈ p, x.block < W.heap.size := fun x hx => DataW.TrodAll.lt hA x hx
  refine (contract W base args ds p hval0 hA hsz).mono fun e W' ⟨he, bel⟩ => ?_
  subst he
  have hsp := hspec ds hlen
  refine ⟨_, rfl, ds, [], p ++ [], [], p, [], hW', ?_, ?_, ?_, bel.frame _, fun h => by cases h⟩
  · rw [hsp, hres]
    exact trodAll_mk1 (shut_bool Try.underlying4 _)
  · rw [hsp]
    exact trodAll_below bel _ _ _ _ hA hty hlt
  · rw [hsp, hvars]; rfl

theorem Try.cells5 : Try.prog.cellsOf 5 = 1 := by kernel_rfl
theorem Try.cells23 : Try.prog.cellsOf 23 = 1 := by kernel_rfl
theorem Try.bytes5 : Try.prog.bytesOf 5 = 1 := by kernel_rfl
theorem Try.bytes23 : Try.prog.bytesOf 23 = 24 := by kernel_rfl
theorem reach_num : reachBytes = 140737488351232 := by decide

theorem open_inner {W : World} {n : Nat} {v : Value} {d : DataW H} {pl : List MemPlace} (h : DataW.trod enc Try.prog W 0 (fun _ => true) true n 23 [v] = some (d, pl)) (hw : ∀ x ∈ d.weights Try.prog 23, x ≤ reachBytes) :
    ∃ r : Inner, v = r.val ∧ r.Ok W := by
  rcases open_ints Try.underlying23 Try.underlying5 Try.cells5 h with ⟨hcs, _⟩ | ⟨x, len, cap, zs, hcs, _, hl, hm, hz, hx, hcell, hwz⟩
  · injection hcs with hv
    subst hv
    exact ⟨⟨none, [], 0⟩, rfl, ⟨At.nil _ _, fun _ => rfl, Nat.le_refl _, by simp, Bytes.nil⟩⟩
  · injection hcs with hv
    subst hv
    injection hx with hd _
    subst hd
    have hz' : zs.length = cap := by simpa using hz
    have hrow : IsRow .u8 W (some x) len cap zs := .inr ⟨x, rfl, hl, hm, hz', hcell, hwz⟩
    obtain ⟨l, rfl, hA, hnil, hc, hcm, hb⟩ := row_bytes hrow
    refine ⟨⟨some x, l, cap⟩, rfl, ⟨hA, fun e => (by cases e), hc, ?_, hb⟩⟩
    have := hw cap (by
      simp only [DataW.weights, Try.underlying23, Try.bytes5, lits, List.length_map, List.length_take, List.length_drop]
      refine List.mem_cons.2 (.inl ?_)
      omega)
    rw [reach_num] at this
    exact Nat.le_trans hc this

theorem weights_elem {P : Program} {t e : TypeId} (hu : P.underlying t = some (.slice e)) {elems spare : List (DataW H)} {d : DataW H} (hd : d ∈ elems ∨ d ∈ spare) : ∀ x ∈ d.weights P e, x ∈ (DataW.slice elems spare).weights P t := by
  have key : ∀ (l : List (DataW H)), d ∈ l → ∀ x ∈ d.weights P e, x ∈ DataW.weightsAll P e l := by
    intro l
    induction l with
    | nil => intro h; simp at h
    | cons a l ih =>
      intro h x hx
      simp only [DataW.weightsAll, List.mem_append]
      rcases List.mem_cons.1 h with rfl | h
      · exact .inl hx
      · exact .inr (ih h x hx)
  intro x hx
  simp only [DataW.weights, hu, List.mem_cons, List.mem_append]
  rcases hd with hd | hd
  · exact .inr (.inl (key _ hd x hx))
  · exact .inr (.inr (key _ hd x hx))

theorem addr_plain {w : World} {x : Addr} {v : Value} (h : w.cell? x = some v) : x = ⟨x.block, x.off, none⟩ := by
  obtain ⟨b, o, sp⟩ := x
  cases sp with
  | none => rfl
  | some s => simp [World.cell?] at h; split at h <;> simp at h

/-- a slice whose elements are one cell each: its cells, each with its own reading -/
theorem open_one {W : World} {t e : TypeId} {v : Value} {d : DataW H} {pl : List MemPlace} (ht : Try.prog.underlying t = some (.slice e)) (hc : Try.prog.cellsOf e = 1) (h : DataW.Trod enc Try.prog W 0 (fun _ => true) true t v d pl) (hv : v.cells.toList = [v])
    (hw : ∀ x ∈ d.weights Try.prog t, x ≤ reachBytes) (R : Value → Prop) (hR : ∀ n v d pl, DataW.trod enc Try.prog W 0 (fun _ => true) true n e [v] = some (d, pl) → (∀ x ∈ d.weights Try.prog e, x ≤ reachBytes) → R v) :
    ∃ (A : Option Addr) (c : Nat) (vs : List Value), v = .slice A vs.length c ∧ At W A vs ∧ (∀ u ∈ vs, R u) ∧ (A = none → c = 0) ∧ vs.length ≤ c ∧ c * Try.prog.bytesOf e ≤ reachBytes := by
  obtain ⟨fuel, hf⟩ := h
  rw [hv] at hf
  rcases Deep.open_slice1 ht hc hf with ⟨hcs, _⟩ | ⟨a, len, cap, m, n, V, D, Pl, hcs, _, hl, hm, hmm, hx, hcell⟩
  · injection hcs with hv'
    subst hv'
    exact ⟨none, 0, [], rfl, At.nil _ _, fun u hu => by simp at hu, fun _ => rfl, Nat.le_refl _, by simp⟩
  · injection hcs with hv'
    subst hv'
    have hmm' : m = cap := by simpa using hmm
    subst hmm'
    injection hx with hd _
    refine ⟨some a, m, (List.range len).map V, by simp, ?_, ?_, fun e => (by cases e), by simpa using hl, ?_⟩
    · intro hn
      have h0 : 0 < len := by
        rcases Nat.eq_zero_or_pos len with h | h
        · subst h; simp at hn
        · exact h
      have hc0 := (hcell 0 (by omega)).1
      have ha : a = ⟨a.block, a.off, none⟩ := by
        refine addr_plain (w := W) (v := V 0) ?_
        simpa [Addr.add] using hc0
      refine ⟨a.block, a.off, by rw [← ha], fun j u hu => ?_⟩
      have hj : j < len := by simpa using (List.getElem?_eq_some_iff.1 hu).1
      have := (hcell j (by omega)).1
      rw [ha, Addr.add_mid] at this
      rw [this]
      simpa [hj] using hu
    · intro u hu
      simp only [List.mem_map, List.mem_range] at hu
      obtain ⟨i, hi, rfl⟩ := hu
      have hc := hcell i (by omega)
      refine hR n (V i) (D i) (Pl i) hc.2 fun x hx => hw x ?_
      rw [hd]
      exact weights_elem ht (.inl (List.mem_map.2 ⟨i, List.mem_range.2 hi, rfl⟩)) x hx
    · have := hw (m * Try.prog.bytesOf e) (by
        rw [hd]
        simp only [DataW.weights, ht, List.length_map, List.length_range]
        refine List.mem_cons.2 (.inl ?_)
        rw [show len + (m - len) = m from by omega])
      exact this
theorem open_rows {W : World} {v : Value} {d : DataW H} {pl : List MemPlace} (h : DataW.Trod enc Try.prog W 0 (fun _ => true) true 30 v d pl) (hv : v.cells.toList = [v]) (hw : ∀ x ∈ d.weights Try.prog 30, x ≤ reachBytes) :
    ∃ (A : Option Addr) (c : Nat) (rs : List Inner), v = .slice A rs.length c ∧ At W A (rs.map Inner.val) ∧ (∀ r ∈ rs, r.Ok W) ∧ (A = none → c = 0) ∧ rs.length ≤ c ∧ c * 24 ≤ reachBytes := by
  obtain ⟨A, c, vs, rfl, hA, hR, hn, hl, hb⟩ := open_one Try.underlying30 Try.cells23 h hv hw (fun v => ∃ r : Inner, v = r.val ∧ r.Ok W) (fun n v d pl h hw => open_inner h hw)
  obtain ⟨rs, hrs⟩ : ∃ rs : List Inner, vs = rs.map Inner.val ∧ ∀ r ∈ rs, r.Ok W := by
    clear hA hl hb h hv hw
    induction vs with
    | nil => exact ⟨[], rfl, fun r hr => by simp at hr⟩
    | cons v vs ih =>
      obtain ⟨r, rfl, hr⟩ := hR v (by simp)
      obtain ⟨rs, rfl, h⟩ := ih (fun u hu => hR u (by simp [hu]))
      exact ⟨r :: rs, rfl, fun q hq => by
        rcases List.mem_cons.1 hq with rfl | hq
        · exact hr
        · exact h q hq⟩
  obtain ⟨rfl, hok⟩ := hrs
  rw [Try.bytes23] at hb
  refine ⟨A, c, rs, by simp, hA, hok, hn, by simpa using hl, hb⟩
end
end Go.Proofs.Ytfbjjblgcgjndaa

/- Openings of arguments, one law a type: numbers, bytes. -/
namespace Go.Proofs.Ytfbjjblgcgjndaa
open Go.ChangeShapes Go.WideShapes Go.ChangeAt Go.RowKit Go.Deep

section
variable {H : Type} {enc : TypeId × Value → H} {W : World} {r : Reach} {b0 : Nat} {v : Value} {d : DataW H} {p : List MemPlace}
set_option maxRecDepth 100000 in
theorem open_u8 (hv : Value.okWide Try.prog W r b0 5 v) (h : DataW.Trod enc Try.prog W 0 (fun _ => true) true 5 v d p) : ∃ n : Nat, v = .int .u8 (n : Int) ∧ n < 256 := by
  obtain ⟨a, rfl, _, _, w⟩ := open_int Try.underlying5 hv h
  obtain ⟨h1, h2⟩ := wf_u8 w
  obtain ⟨n, rfl⟩ := Int.eq_ofNat_of_zero_le h1
  exact ⟨n, rfl, by omega⟩
set_option maxRecDepth 100000 in
theorem open_u16 (hv : Value.okWide Try.prog W r b0 36 v) (h : DataW.Trod enc Try.prog W 0 (fun _ => true) true 36 v d p) : ∃ n : Nat, v = .int .u16 (n : Int) ∧ n < 65536 := by
  obtain ⟨a, rfl, _, _, w⟩ := open_int Try.underlying36 hv h
  obtain ⟨h1, h2⟩ := wf_u16 w
  obtain ⟨n, rfl⟩ := Int.eq_ofNat_of_zero_le h1
  exact ⟨n, rfl, by omega⟩
set_option maxRecDepth 100000 in
theorem open_u32 (hv : Value.okWide Try.prog W r b0 22 v) (h : DataW.Trod enc Try.prog W 0 (fun _ => true) true 22 v d p) : ∃ n : Nat, v = .int .u32 (n : Int) ∧ n < 4294967296 := by
  obtain ⟨a, rfl, _, _, w⟩ := open_int Try.underlying22 hv h
  obtain ⟨h1, h2⟩ := wf_u32 w
  obtain ⟨n, rfl⟩ := Int.eq_ofNat_of_zero_le h1
  exact ⟨n, rfl, by omega⟩
set_option maxRecDepth 100000 in
theorem open_i64 (hv : Value.okWide Try.prog W r b0 3 v) (h : DataW.Trod enc Try.prog W 0 (fun _ => true) true 3 v d p) : ∃ n : Int, v = .int .i64 n ∧ -9223372036854775808 ≤ n ∧ n ≤ 9223372036854775807 := by
  obtain ⟨a, rfl, _, _, w⟩ := open_int Try.underlying3 hv h
  exact ⟨a, rfl, wf_i64 w⟩
set_option maxRecDepth 100000 in
theorem open_bytes (hv : Value.okWide Try.prog W r b0 23 v) (h : DataW.Trod enc Try.prog W 0 (fun _ => true) true 23 v d p) (hw : ∀ x ∈ d.weights Try.prog 23, x ≤ reachBytes) : ∃ r : Inner, v = r.val ∧ r.Ok W := by
  obtain ⟨a, n, c, rfl⟩ := okWide_slice Try.underlying23 hv
  obtain ⟨fuel, hf⟩ := h
  exact open_inner hf hw
end
end Go.Proofs.Ytfbjjblgcgjndaa
