/- Contract of codicillaw08.turned: some bits of 32 in a row turned. -/
import Derived.Test.YtfbjjblgcgjndaaPageKnown
import Derived.Test.YtfbjjblgcgjndaaLaw01c
set_option linter.unusedVariables false
set_option linter.unusedSimpArgs false
namespace Go.Proofs.Ytfbjjblgcgjndaa
open Go.RowKit

set_option maxRecDepth 100000 in
set_option maxHeartbeats 1000000 in
theorem turned_in (A : Option Addr) (c : Nat) (l : List Nat) (at_ : Int) (ch frm : Nat) (w : World) (hl : Bytes l) (hA : At w A (ns .u8 l)) (hnil : A = none → c = 0) (h0 : 0 < l.length) (h1 : l.length ≤ 100000) (hch : ch < 4294967296)
    (hf : at_.tmod (8 * (l.length : Int)) = (frm : Int) ∨ (at_.tmod (8 * (l.length : Int)) < 0 ∧ at_.tmod (8 * (l.length : Int)) = (frm : Int) - 8 * (l.length : Int))) (hfl : frm < 8 * l.length) :
    Calls Try.prog 77 #[.slice A l.length c, .int .i64 at_, .int .u32 (ch : Int)] w fun e w' => ∃ v x kk, e = .returned (.tuple #[v, .bool (decide (Crc.window ch kk 32 ≠ 0))]) ∧ Crc.Turned l x kk frm ch 32 ∧ (Crc.window ch kk 32 = 0 → x = l) ∧ Bytes x ∧ Buf w.heap.size w' v x ∧ Below w.heap.size w w' := by
  have hz : ((l.length : Int) == 0) = false := beq_eq_false_iff_ne.2 (by omega)
  have hz2 : (l.length == 0) = false := beq_eq_false_iff_ne.2 (by omega)
  obtain ⟨kk, hkk⟩ : ∃ kk, frm + kk = 8 * l.length := ⟨8 * l.length - frm, by omega⟩
  have HK := Lib.hid hkk
  clear hkk
  rcases hf with hf | ⟨hneg, hf⟩
  all_goals
    go_enter Try.func77, Try.ntmps77
    go_wp2_with (at_builtin; refine wp_append rfl (.tmp 25) (.tmp 26) 23 5 (.int .u8 0) 1 1 rfl Try.underlying23 Try.info5 rfl (by decide) w.heap.size (.slice none 0 0) 0 [] rfl (World.ownsRow_nil _ _ _ _) A l.length c (ns .u8 l) rfl (by simp [ns]) hA hnil (ns_one .u8 l) (by omega) (by omega) (Nat.le_refl _) ?_; intro v1 w1 ho1 hg1 hat)
    simp only [Nat.zero_add, List.nil_append] at ho1
    obtain ⟨g, cap, rfl, hgb, hgl, hgc, hgm⟩ := own_form ho1 h0
    have hb1 : Below w.heap.size w w1 := below_of_grown hg1
    clear hg1 hat
    try clear hf hneg
    try clear hf
    go_loopw [10, 11] (fun t i wr => ∃ k : Nat, ∃ x : List Nat, k ≤ 32 ∧ i = .int .i64 k ∧ t = .bool (decide (Crc.window ch kk k ≠ 0)) ∧ Crc.Turned l x kk frm ch k ∧ Hid (Crc.window ch kk k = 0 → x = l) ∧ Bytes x ∧ wr.ownsRow w.heap.size 5 1 (.slice (some ⟨g, 0, none⟩) l.length cap) l.length (ns .u8 x) ∧ Below w.heap.size w wr) (fun _ i _ => 32 - (intOf i).toNat)
    case atStart => exact ⟨0, l, by omega, rfl, by simp [Crc.window], Crc.Turned.start l kk frm ch HK.out, Lib.hid (fun _ => rfl), hl, ho1, hb1⟩
    case round =>
      clear ho1 hb1 hz hz2
      obtain ⟨k, x, hk, rfl, rfl, hT, HX, hx, ho, hb⟩ := hrel
      by_cases hlt : k < 32
      · have hxl : x.length = l.length := hT.1
        have hband := and1 (ch / 2 ^ k) (Nat.lt_of_le_of_lt (Nat.div_le_self _ _) hch)
        have hcast : ((ch / 2 ^ k : Nat) : Int) = (ch : Int) / 2 ^ k := by push_cast; rfl
        rw [hcast] at hband
        clear hcast
        have hb32 : frm + k < 8 * l.length ↔ k < kk := by have := HK.out; omega
        have HB := Lib.hid hb32
        clear hb32
        rcases Nat.mod_two_eq_zero_or_one (ch / 2 ^ k) with hm | hm
        · rw [hm] at hband
          have htb : (ch.testBit k && decide (k < kk)) = false := by
            have : ch.testBit k = false := by rw [Nat.testBit_eq_decide_div_mod_eq, hm]; rfl
            rw [this]; rfl
          have hT' := hT.skip htb
          have hwe := Lib.hid (Crc.window_step_eq ch kk k htb)
          clear hm htb hxl
          go_wp2
          go_roundw
          case rel => exact ⟨k + 1, x, by omega, by go_num, (by rw [hwe.out]; first | done | simp), hT', Lib.hid (fun h => HX.out (hwe.out ▸ h)), hx, ho, hb⟩
          case measure => simp [intOf]; omega
        · rw [hm] at hband
          by_cases hin : frm + k < 8 * l.length
          · have hj : (frm + k) / 8 < l.length := by omega
            have hcell := own_cell ho ((frm + k) / 8) hj
            have hfr := ho.frozenAt ((frm + k) / 8)
            have htb : (ch.testBit k && decide (k < kk)) = true := by
              have : ch.testBit k = true := by rw [Nat.testBit_eq_decide_div_mod_eq, hm]; rfl
              rw [this, decide_eq_true (HB.out.1 hin)]; rfl
            have hT' := Lib.hid (hT.turn htb)
            have hwe := Lib.hid (Crc.window_step_ne ch kk k htb)
            have hxb := hx.nth ((frm + k) / 8) (by omega)
            clear hm htb hxl
            go_wp2
            go_roundw
            case rel =>
              rw [flip_bit _ _ hxb (by omega)]
              refine ⟨k + 1, _, by omega, by go_num, by rw [decide_eq_true hwe.out], hT'.out, Lib.hid (fun h => absurd h hwe.out), ?_, own_set ho _ _, hb.setCell hgb _⟩
              have hgd : x.getD ((frm + k) / 8) 0 = nth x ((frm + k) / 8) := rfl
              rw [hgd]
              exact hx.set _ (Nat.xor_lt_two_pow (n := 8) hxb (Nat.pow_lt_pow_right (by omega) (by omega)))
            case measure => simp [intOf]; omega
          · have htb : (ch.testBit k && decide (k < kk)) = false := by
              have : ¬ k < kk := fun h => hin (HB.out.2 h)
              rw [decide_eq_false this, Bool.and_false]
            have hT' := hT.skip htb
            have hwe := Lib.hid (Crc.window_step_eq ch kk k htb)
            clear hm htb hxl
            go_wp2
            go_roundw
            case rel => exact ⟨k + 1, x, by omega, by go_num, (by rw [hwe.out]; first | done | simp), hT', Lib.hid (fun h => HX.out (hwe.out ▸ h)), hx, ho, hb⟩
            case measure => simp [intOf]; omega
      · obtain rfl : k = 32 := by omega
        have hxl : x.length = l.length := hT.1
        have hbuf : Buf w.heap.size wr (.slice (some ⟨g, 0, none⟩) l.length cap) x := by unfold Buf; rw [hxl]; exact ho
        clear hxl
        go_wp2
        go_ret2
        exact ⟨_, x, kk, rfl, hT, HX.out, hx, hbuf, hb⟩

theorem turned_any (A : Option Addr) (c : Nat) (l : List Nat) (at_ : Int) (ch : Nat) (w : World) (hl : Bytes l) (hA : At w A (ns .u8 l)) (hnil : A = none → c = 0) (h0 : 0 < l.length) (h1 : l.length ≤ 100000) (hch : ch < 4294967296) :
    Calls Try.prog 77 #[.slice A l.length c, .int .i64 at_, .int .u32 (ch : Int)] w fun e w' => ∃ v x kk frm, e = .returned (.tuple #[v, .bool (decide (Crc.window ch kk 32 ≠ 0))]) ∧ Crc.Turned l x kk frm ch 32 ∧ (Crc.window ch kk 32 = 0 → x = l) ∧ Bytes x ∧ Buf w.heap.size w' v x ∧ Below w.heap.size w w' := by
  have h8 : 0 < 8 * (l.length : Int) := by omega
  have hlt := Int.tmod_lt_of_pos at_ h8
  by_cases hs : 0 ≤ at_.tmod (8 * (l.length : Int))
  · refine (turned_in A c l at_ ch (at_.tmod (8 * (l.length : Int))).toNat w hl hA hnil h0 h1 hch (.inl (by omega)) (by omega)).mono ?_
    rintro e w' ⟨v, x, kk, h⟩
    exact ⟨v, x, kk, _, h⟩
  · have hge : -(8 * (l.length : Int)) < at_.tmod (8 * (l.length : Int)) := by
      have h2 : 0 ≤ (-at_) := by
        refine Decidable.byContradiction fun hn => hs ?_
        exact Int.tmod_nonneg _ (by omega)
      have := Int.tmod_lt_of_pos (-at_) h8
      rw [Int.neg_tmod] at this
      omega
    refine (turned_in A c l at_ ch (at_.tmod (8 * (l.length : Int)) + 8 * (l.length : Int)).toNat w hl hA hnil h0 h1 hch (.inr ⟨by omega, by omega⟩) (by omega)).mono ?_
    rintro e w' ⟨v, x, kk, h⟩
    exact ⟨v, x, kk, _, h⟩
end Go.Proofs.Ytfbjjblgcgjndaa
