/- Walk of PageNumbers. -/
import Derived.Test.YtfbjjblgcgjndaaPageKnown
set_option linter.unusedVariables false
set_option linter.unusedSimpArgs false
namespace Go.Proofs.Ytfbjjblgcgjndaa
open Go.RowKit

theorem sealed_inj (k n k2 n2 : Nat) (p p2 : List Nat) (h : SealOk k p) (h2 : SealOk k2 p2) (hn : n < 4294967296) (hn2 : n2 < 4294967296) : sealed k n p = sealed k2 n2 p2 ↔ k = k2 ∧ n = n2 ∧ p = p2 := by
  constructor
  · intro e
    obtain ⟨a1, a2, a3, a4⟩ := sealed_parts k n p h.2.2
    obtain ⟨b1, b2, b3, b4⟩ := sealed_parts k2 n2 p2 h2.2.2
    rw [e] at a1 a3 a4
    exact ⟨a1.symm.trans b1, le_inj n n2 4 hn hn2 (a4.symm.trans b4), a3.symm.trans b3⟩
  · rintro ⟨rfl, rfl, rfl⟩; rfl

set_option maxRecDepth 100000 in
set_option maxHeartbeats 1000000 in
theorem pageNumbers_any (k n k2 n2 : Nat) (a b : Inner) (w : World) (ha : a.Ok w) (hb : b.Ok w) (hk : k < 256) (hk2 : k2 < 256) (hn : n < 4294967296) (hn2 : n2 < 4294967296) :
    Calls Try.prog 21 #[.int .u8 (k : Int), .int .u32 (n : Int), .slice a.A a.l.length a.c, .int .u8 (k2 : Int), .int .u32 (n2 : Int), .slice b.A b.l.length b.c] w fun e w' => e = .returned (.bool true) ∧ Below w.heap.size w w' := by
  by_cases hbig : a.l.length ≤ 20000
  · by_cases hbig2 : b.l.length ≤ 20000
    · go_enter Try.func21, Try.ntmps21
      go_wp2_with fail
      refine (known08_any _).mono ?_
      rintro e w1 ⟨rfl, hb1⟩
      have ha1 := ha.below hb1
      have hbb1 := hb.below hb1
      by_cases hs1 : SealOk k a.l
      · go_wp2_with fail
        refine (seal_ok k n a.A a.c a.l w1 hs1 hk hn ha.bytes ha1.lies ha1.nil).mono ?_
        rintro e w2 ⟨v2, rfl, hv2, hb2, hz2⟩
        have hbb2 := hbb1.below hb2
        have ha2 := ha1.below hb2
        replace hb2 := below_next0 hb1 hb2
        by_cases hs2 : SealOk k2 b.l
        · have hsa := sealed_bytes k n a.l hk ha.bytes
          have hsb := sealed_bytes k2 n2 b.l hk2 hb.bytes
          have hla := sealed_length k n a.l hs1.2.2
          have hlb := sealed_length k2 n2 b.l hs2.2.2
          have hinj := sealed_inj k n k2 n2 a.l b.l hs1 hs2 hn hn2
          have hpage := isPage_sealed k n a.l hs1
          obtain ⟨hp1, _, hp3, _⟩ := sealed_parts k n a.l hs1.2.2
          have hcmp : ((str (sealed k n a.l)).toList == (str (sealed k2 n2 b.l)).toList) = decide (k = k2 ∧ n = n2 ∧ a.l = b.l) := by
            rw [str_beq _ _ hsa hsb]; simp [hinj]
          have hcmp2 : ((str a.l).toList == (str b.l).toList) = decide (a.l = b.l) := str_beq _ _ ha.bytes hb.bytes
          obtain ⟨SA, hSA⟩ : ∃ SA, sealed k n a.l = SA := ⟨_, rfl⟩
          obtain ⟨SB, hSB⟩ : ∃ SB, sealed k2 n2 b.l = SB := ⟨_, rfl⟩
          rw [hSA] at hv2 hsa hla hpage hp1 hp3 hcmp
          rw [hSB] at hsb hlb hcmp
          have HSA := Lib.hid hSA
          have HSB := Lib.hid hSB
          have HLA := Lib.hid hla
          have HLB := Lib.hid hlb
          have HP1 := Lib.hid hp1
          have HP3 := Lib.hid hp3
          have HC := Lib.hid hcmp
          have HC2 := Lib.hid hcmp2
          clear hSA hSB hla hlb hp1 hp3 hcmp hcmp2 hinj
          obtain ⟨A2, c2, rfl, hI2⟩ := hv2.inner hsa (by have := HLA.out; omega)
          go_wp2_with fail
          refine (seal_ok k2 n2 b.A b.c b.l w2 hs2 hk2 hn2 hb.bytes hbb2.lies hbb2.nil).mono ?_
          rintro e w3 ⟨v3, rfl, hv3, hb3, hz3⟩
          rw [HSB.out] at hv3
          obtain ⟨A3, c3, rfl, hI3⟩ := hv3.inner hsb (by have := HLB.out; omega)
          have hI23 := hI2.below hb3
          replace hb3 := below_next0 hb2 hb3
          go_wp2_with fail
          refine (open_yes n ⟨A2, SA, c2⟩ w3 hI23 hn hpage).mono ?_
          rintro e w4 ⟨v4, rfl, hv4, hb4, hz4⟩
          rw [show kindOf (⟨A2, SA, c2⟩ : Inner).l = kindOf SA from rfl, HP1.out]
          rw [show payOf (⟨A2, SA, c2⟩ : Inner).l = payOf SA from rfl, HP3.out] at hv4
          obtain ⟨A4, c4, rfl, hI4⟩ := hv4.inner ha.bytes (by omega)
          have hI24 := hI23.below hb4
          have hI34 := hI3.below hb4
          replace hb4 := below_next0 hb3 hb4
          go_wp2_with fail
          refine (seal_ok k n A4 c4 a.l w4 hs1 hk hn ha.bytes hI4.lies hI4.nil).mono ?_
          rintro e w5 ⟨v5, rfl, hv5, hb5, hz5⟩
          rw [HSA.out] at hv5
          obtain ⟨A5, c5, rfl, hI5⟩ := hv5.inner hsa (by have := HLA.out; omega)
          have hI25 := hI24.below hb5
          have hI35 := hI34.below hb5
          replace hb5 := below_next0 hb4 hb5
          have q1 := conv_str (P := Try.prog) w5 a.A a.c a.l _ rfl (ha.below hb5).lies Try.underlying23 Try.underlying5 Try.underlying9
          have q2 := conv_str (P := Try.prog) w5 b.A b.c b.l _ rfl (hb.below hb5).lies Try.underlying23 Try.underlying5 Try.underlying9
          have q3 := conv_str (P := Try.prog) w5 A2 c2 SA _ rfl hI25.lies Try.underlying23 Try.underlying5 Try.underlying9
          have q4 := conv_str (P := Try.prog) w5 A3 c3 SB _ rfl hI35.lies Try.underlying23 Try.underlying5 Try.underlying9
          have q5 := conv_str (P := Try.prog) w5 A5 c5 SA _ rfl hI5.lies Try.underlying23 Try.underlying5 Try.underlying9
          have hc1 := HC.out
          have hc2 := HC2.out
          by_cases e1 : k = k2
          · have f1 : ((k : Int) == (k2 : Int)) = true := by simp [e1]
            have f1' : (k == k2) = true := by simp [e1]
            by_cases e2 : n = n2
            · have f2 : ((n : Int) == (n2 : Int)) = true := by simp [e2]
              have f2' : (n == n2) = true := by simp [e2]
              by_cases e3 : a.l = b.l
              · rw [decide_eq_true e3] at hc2
                rw [decide_eq_true ⟨e1, e2, e3⟩] at hc1
                clear e1 e2 e3
                go_wp2
                go_ret
                exact ⟨rfl, hb5⟩
              · rw [decide_eq_false e3] at hc2
                rw [decide_eq_false (fun h => e3 h.2.2)] at hc1
                clear e1 e2 e3
                go_wp2
                go_ret
                exact ⟨rfl, hb5⟩
            · have f2 : ((n : Int) == (n2 : Int)) = false := by simp; omega
              have f2' : (n == n2) = false := by simp [e2]
              rw [decide_eq_false (fun h => e2 h.2.1)] at hc1
              clear e1 e2
              go_wp2
              go_ret
              exact ⟨rfl, hb5⟩
          · have f1 : ((k : Int) == (k2 : Int)) = false := by simp; omega
            have f1' : (k == k2) = false := by simp [e1]
            rw [decide_eq_false (fun h => e1 h.1)] at hc1
            clear e1
            go_wp2
            go_ret
            exact ⟨rfl, hb5⟩
        · go_wp2_with fail
          refine (seal_no k2 n2 b.A b.c b.l w2 hs2).mono ?_
          rintro e w3 ⟨rfl, rfl⟩
          go_wp2
          go_ret
          exact ⟨rfl, hb2⟩
      · go_wp2_with fail
        refine (seal_no k n a.A a.c a.l w1 hs1).mono ?_
        rintro e w2 ⟨rfl, rfl⟩
        by_cases hs2 : SealOk k2 b.l
        · go_wp2_with fail
          refine (seal_ok k2 n2 b.A b.c b.l w1 hs2 hk2 hn2 hb.bytes hbb1.lies hbb1.nil).mono ?_
          rintro e w3 ⟨v3, rfl, hv3, hb3, hz3⟩
          go_wp2
          go_ret
          exact ⟨rfl, below_next0 hb1 hb3⟩
        · go_wp2_with fail
          refine (seal_no k2 n2 b.A b.c b.l w1 hs2).mono ?_
          rintro e w3 ⟨rfl, rfl⟩
          go_wp2
          go_ret
          exact ⟨rfl, hb1⟩
    · go_enter Try.func21, Try.ntmps21
      go_wp2_with fail
      refine (known08_any _).mono ?_
      rintro e w1 ⟨rfl, hb1⟩
      go_wp2
      go_ret
      exact ⟨rfl, hb1⟩
  · go_enter Try.func21, Try.ntmps21
    go_wp2_with fail
    refine (known08_any _).mono ?_
    rintro e w1 ⟨rfl, hb1⟩
    go_wp2
    go_ret
    exact ⟨rfl, hb1⟩

set_option maxRecDepth 100000 in
set_option maxHeartbeats 1000000 in
theorem pageNumbers_all (k n k2 n2 : Nat) (A B : Option Addr) (c d : Nat) (l m : List Nat) (w : World) (hA : At w A (ns .u8 l)) (hB : At w B (ns .u8 m)) (nA : A = none → c = 0) (nB : B = none → d = 0) (cl : l.length ≤ c) (cm : m.length ≤ d) (hl : Bytes l) (hm : Bytes m) (hk : k < 256) (hk2 : k2 < 256) (hn : n < 4294967296) (hn2 : n2 < 4294967296) :
    Calls Try.prog 21 #[.int .u8 (k : Int), .int .u32 (n : Int), .slice A l.length c, .int .u8 (k2 : Int), .int .u32 (n2 : Int), .slice B m.length d] w fun e w' => e = .returned (.bool true) ∧ Below w.heap.size w w' := by
  by_cases hbig : l.length ≤ 20000
  · by_cases hbig2 : m.length ≤ 20000
    · exact pageNumbers_any k n k2 n2 ⟨A, l, c⟩ ⟨B, m, d⟩ w ⟨hA, nA, cl, by simp only; omega, hl⟩ ⟨hB, nB, cm, by simp only; omega, hm⟩ hk hk2 hn hn2
    · go_enter Try.func21, Try.ntmps21
      go_wp2_with fail
      refine (known08_any _).mono ?_
      rintro e w1 ⟨rfl, hb1⟩
      go_wp2
      go_ret
      exact ⟨rfl, hb1⟩
  · go_enter Try.func21, Try.ntmps21
    go_wp2_with fail
    refine (known08_any _).mono ?_
    rintro e w1 ⟨rfl, hb1⟩
    go_wp2
    go_ret
    exact ⟨rfl, hb1⟩
end Go.Proofs.Ytfbjjblgcgjndaa
