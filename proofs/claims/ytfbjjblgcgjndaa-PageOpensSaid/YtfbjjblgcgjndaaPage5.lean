/- Contracts of page.Open and of the reference's get and Open. -/
import Derived.Test.YtfbjjblgcgjndaaPage4
import Derived.Test.YtfbjjblgcgjndaaStr
set_option linter.unusedVariables false
set_option linter.unusedSimpArgs false
namespace Go.Proofs.Ytfbjjblgcgjndaa
open Go.RowKit

def kindOf (l : List Nat) : Nat := nth l 2
def lenOf (l : List Nat) : Nat := el ((l.drop 8).take 2)
def payOf (l : List Nat) : List Nat := (l.drop 12).take (lenOf l)
/-- the bytes are the page of that number -/
def IsPage (number : Nat) (l : List Nat) : Prop := 12 ≤ l.length ∧ lenOf l ≤ l.length - 12 ∧ SealOk (kindOf l) (payOf l) ∧ l = sealed (kindOf l) number (payOf l)
instance (number : Nat) (l : List Nat) : Decidable (IsPage number l) := inferInstanceAs (Decidable (_ ∧ _ ∧ _ ∧ _))
theorem IsPage.length {number : Nat} {l : List Nat} (h : IsPage number l) : l.length = 1024 := by
  have := h.2.2.2
  rw [this]
  exact sealed_length _ _ _ h.2.2.1.2.2

theorem sealed_form (k number : Nat) (p : List Nat) : ∃ rest, sealed k number p = front k number p.length ++ (p ++ rest) := by
  unfold sealed closed fill
  exact ⟨_, by rw [List.append_assoc, List.append_assoc]⟩
theorem front_form (k number n : Nat) : ∃ a, a.length = 4 ∧ front k number n = [67, 80, k, 0] ++ (a ++ (le n 2 ++ le 0 2)) ∧ a = le number 4 :=
  ⟨le number 4, le_length _ _, by simp [front], rfl⟩
theorem sealed_parts (k number : Nat) (p : List Nat) (h : p.length ≤ 1008) : kindOf (sealed k number p) = k ∧ lenOf (sealed k number p) = p.length ∧ payOf (sealed k number p) = p ∧ ((sealed k number p).drop 4).take 4 = le number 4 := by
  obtain ⟨rest, hs⟩ := sealed_form k number p
  obtain ⟨a, ha, hf, ha2⟩ := front_form k number p.length
  have h1 : kindOf (sealed k number p) = k := by rw [hs, hf]; simp [kindOf, nth]
  have h2 : lenOf (sealed k number p) = p.length := by
    rw [hs, hf]
    unfold lenOf
    have e : (([67, 80, k, 0] ++ (a ++ (le p.length 2 ++ le 0 2)) ++ (p ++ rest)).drop 8).take 2 = le p.length 2 := by
      have e1 : [67, 80, k, 0] ++ (a ++ (le p.length 2 ++ le 0 2)) ++ (p ++ rest) = ([67, 80, k, 0] ++ a) ++ (le p.length 2 ++ (le 0 2 ++ (p ++ rest))) := by simp
      rw [e1, List.drop_left' (by simp [ha]), List.take_left' (le_length _ _)]
    rw [e, el_le, Nat.mod_eq_of_lt (by omega)]
  refine ⟨h1, h2, ?_, ?_⟩
  · unfold payOf
    rw [h2, hs, List.drop_left' (front_length _ _ _), List.take_left' rfl]
  · rw [hs, hf]
    have e1 : [67, 80, k, 0] ++ (a ++ (le p.length 2 ++ le 0 2)) ++ (p ++ rest) = [67, 80, k, 0] ++ (a ++ (le p.length 2 ++ (le 0 2 ++ (p ++ rest)))) := by simp
    rw [e1, List.drop_left' (by simp), List.take_left' ha, ha2]
theorem isPage_sealed (k number : Nat) (p : List Nat) (h : SealOk k p) : IsPage number (sealed k number p) := by
  obtain ⟨h1, h2, h3, _⟩ := sealed_parts k number p h.2.2
  have hl := sealed_length k number p h.2.2
  have := h.2.2
  exact ⟨by omega, by rw [h2, hl]; omega, by rw [h1, h3]; exact h, by rw [h1, h3]⟩
theorem kindOf_lt {l : List Nat} (hb : Bytes l) (h : 12 ≤ l.length) : kindOf l < 256 := hb.nth 2 (by omega)

theorem own_base_mono {n0 n1 : Nat} {w : World} {v : Value} {l : List Nat} (h : Buf n1 w v l) (hn : n0 ≤ n1) : Buf n0 w v l := by
  refine ⟨h.1, ?_⟩
  rcases h.2 with h2 | ⟨g, cap, cur, h1, h2, h3⟩
  · exact .inl h2
  · exact .inr ⟨g, cap, cur, h1, Nat.le_trans hn h2, h3⟩

set_option maxRecDepth 100000 in
set_option maxHeartbeats 1000000 in
theorem open_yes (number : Nat) (r : Inner) (w : World) (h : r.Ok w) (hn : number < 4294967296) (hp : IsPage number r.l) :
    Calls Try.prog 69 #[.int .u32 (number : Int), .slice r.A r.l.length r.c] w fun e w' => ∃ v, e = .returned (.tuple #[.int .u8 (kindOf r.l : Int), v, .int .u16 0]) ∧ Buf w.heap.size w' v (payOf r.l) ∧ Below w.heap.size w w' ∧ w.heap.size ≤ w'.heap.size := by
  obtain ⟨h12, hfit, hso, heq⟩ := hp
  have hk := kindOf_lt h.bytes h12
  have hpb : Bytes (payOf r.l) := (h.bytes.drop 12).take _
  have hop := Lib.hid (open_ok r w h h12 (lenOf r.l) rfl hfit)
  rw [show (nth r.l 2) = kindOf r.l from rfl, show (r.l.drop 12).take (lenOf r.l) = payOf r.l from rfl] at hop
  generalize kindOf r.l = K at *
  generalize payOf r.l = Y at *
  have HEQ := Lib.hid heq
  have HB := Lib.hid h.bytes
  have hpl := hso.2.2
  clear heq hfit
  go_enter Try.func69, Try.ntmps69
  go_wp2_with fail
  refine hop.out.mono ?_
  rintro e w1 ⟨⟨qA, ql, qc⟩, hq, hql, rfl, hb1⟩
  simp only at hql
  subst hql
  have hq1 := hq.below hb1
  have hl1 : At w1 qA (ns .u8 ql) := hq1.lies
  have hn1 : qA = none → qc = 0 := hq1.nil
  have hqb : Bytes ql := hq1.bytes
  clear hq hq1
  go_wp2_with fail
  refine (seal_ok K number qA qc ql w1 hso hk hn hqb hl1 hn1).mono ?_
  rintro e w2 ⟨v2, rfl, hv2, hb2, hs2⟩
  rw [← HEQ.out] at hv2
  obtain ⟨A2, c2, rfl, hA2, hnil2, hc2, hm2⟩ := hv2.at
  have hb02 := below_next0 hb1 hb2
  have hlies := h.lies.below hb02
  have hl2 := hl1.below hb2
  have heqc := equal_any A2 r.A c2 r.c _ _ r.l r.l w2 rfl rfl hA2 hlies HB.out HB.out
  rw [decide_eq_true rfl] at heqc
  go_wp2_with fail
  refine heqc.mono ?_
  rintro e w3 ⟨rfl, rfl⟩
  go_wp2_with fail
  refine (clone_any qA qc _ ql w2 rfl (by omega) hl2 hn1).mono ?_
  rintro e w4 ⟨v4, rfl, hv4, hb4, hs4⟩
  go_wp2
  go_ret3
  exact ⟨_, rfl, own_base_mono hv4 hb02.size, below_next0 hb02 hb4, Nat.le_trans hb02.size hs4⟩

/-- bytes that are no page: where the parts fail -/
theorem no_page {number : Nat} {l : List Nat} (h : ¬ IsPage number l) : (l.length < 12 ∨ (12 ≤ l.length ∧ l.length - 12 < lenOf l)) ∨ (12 ≤ l.length ∧ lenOf l ≤ l.length - 12 ∧ (¬ SealOk (kindOf l) (payOf l) ∨ (SealOk (kindOf l) (payOf l) ∧ sealed (kindOf l) number (payOf l) ≠ l))) := by
  by_cases h1 : 12 ≤ l.length
  · by_cases h2 : lenOf l ≤ l.length - 12
    · refine .inr ⟨h1, h2, ?_⟩
      by_cases h3 : SealOk (kindOf l) (payOf l)
      · exact .inr ⟨h3, fun e => h ⟨h1, h2, h3, e.symm⟩⟩
      · exact .inl h3
    · exact .inl (.inr ⟨h1, by omega⟩)
  · exact .inl (.inl (by omega))

set_option maxRecDepth 100000 in
set_option maxHeartbeats 1000000 in
theorem open_no (number : Nat) (r : Inner) (w : World) (h : r.Ok w) (hn : number < 4294967296) (hp : ¬ IsPage number r.l) :
    Calls Try.prog 69 #[.int .u32 (number : Int), .slice r.A r.l.length r.c] w fun e w' => e = .returned (.tuple #[.int .u8 0, .slice none 0 0, .int .u16 80]) ∧ Below w.heap.size w w' := by
  rcases no_page hp with hbad | ⟨h12, hfit, hrest⟩
  · have hop := Lib.hid (open_bad r w h hbad)
    clear hbad hp
    go_enter Try.func69, Try.ntmps69
    go_wp2_with fail
    refine hop.out.mono ?_
    rintro e w1 ⟨k, v, rfl, hb1⟩
    go_wp2
    go_ret3
    exact ⟨rfl, hb1⟩
  · have hk := kindOf_lt h.bytes h12
    have hpb : Bytes (payOf r.l) := (h.bytes.drop 12).take _
    have hop := Lib.hid (open_ok r w h h12 (lenOf r.l) rfl hfit)
    rw [show (nth r.l 2) = kindOf r.l from rfl, show (r.l.drop 12).take (lenOf r.l) = payOf r.l from rfl] at hop
    clear hp hfit
    generalize kindOf r.l = K at *
    generalize payOf r.l = Y at *
    have HB := Lib.hid h.bytes
    rcases hrest with hso | ⟨hso, hne⟩
    · go_enter Try.func69, Try.ntmps69
      go_wp2_with fail
      refine hop.out.mono ?_
      rintro e w1 ⟨⟨qA, ql, qc⟩, hq, hql, rfl, hb1⟩
      simp only at hql
      subst hql
      go_wp2_with fail
      refine (seal_no K number qA qc ql w1 hso).mono ?_
      rintro e w2 ⟨rfl, rfl⟩
      go_wp2
      go_ret3
      exact ⟨rfl, hb1⟩
    · have hsl := sealed_bytes K number Y hk hpb
      generalize hS : sealed K number Y = S at hne hsl
      have HS := Lib.hid hS
      have HNE := Lib.hid hne
      clear hS hne
      go_enter Try.func69, Try.ntmps69
      go_wp2_with fail
      refine hop.out.mono ?_
      rintro e w1 ⟨⟨qA, ql, qc⟩, hq, hql, rfl, hb1⟩
      simp only at hql
      subst hql
      have hq1 := hq.below hb1
      have hl1 : At w1 qA (ns .u8 ql) := hq1.lies
      have hn1 : qA = none → qc = 0 := hq1.nil
      have hqb : Bytes ql := hq1.bytes
      clear hq hq1
      go_wp2_with fail
      refine (seal_ok K number qA qc ql w1 hso hk hn hqb hl1 hn1).mono ?_
      rintro e w2 ⟨v2, rfl, hv2, hb2, hs2⟩
      rw [HS.out] at hv2
      obtain ⟨A2, c2, rfl, hA2, hnil2, hc2, hm2⟩ := hv2.at
      have hb02 := below_next0 hb1 hb2
      have hlies := h.lies.below hb02
      have heqc := equal_any A2 r.A c2 r.c _ _ S r.l w2 rfl rfl hA2 hlies hsl HB.out
      rw [decide_eq_false HNE.out] at heqc
      go_wp2_with fail
      refine heqc.mono ?_
      rintro e w3 ⟨rfl, rfl⟩
      go_wp2
      go_ret3
      exact ⟨rfl, hb02⟩
end Go.Proofs.Ytfbjjblgcgjndaa
