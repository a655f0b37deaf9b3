/- Joined texts: Over6. -/
import Derived.Test.YtfbjjblgcgjndaaPw1
import Derived.Test.YtfbjjblgcgjndaaPw2
import Derived.Test.YtfbjjblgcgjndaaPw3
import Derived.Test.YtfbjjblgcgjndaaPw4
import Derived.Test.YtfbjjblgcgjndaaPw5
import Derived.Test.YtfbjjblgcgjndaaPw6
import Derived.Test.YtfbjjblgcgjndaaPw7
import Derived.Test.YtfbjjblgcgjndaaPw8
import Derived.Test.YtfbjjblgcgjndaaPw9
set_option linter.unusedVariables false
set_option linter.unusedSimpArgs false

/- Walk of OverParts. -/
namespace Go.Proofs.Ytfbjjblgcgjndaa
open Go.RowKit

/-- the pages that the law names -/
def ats (f k : Nat) : List Nat := (List.range k).map fun i => 2 + (f + i) % 16000
theorem ats_length (f k : Nat) : (ats f k).length = k := by simp [ats]
theorem ats_succ (f k : Nat) : ats f (k + 1) = ats f k ++ [2 + (f + k) % 16000] := by simp [ats, List.range_succ]
theorem ats_ok (f k : Nat) : ((ats f k).any fun x => !isPg x) = false := by
  rw [List.any_eq_false]
  intro x hx
  obtain ⟨i, _, rfl⟩ := List.mem_map.1 hx
  have h1 : 2 ≤ 2 + (f + i) % 16000 := by omega
  have h2 : 2 + (f + i) % 16000 < 16384 := by omega
  unfold isPg
  simp [h1, h2]
theorem ats_lt (f k : Nat) : ∀ x, x ∈ ats f k → x < 4294967296 := fun x hx => by
  obtain ⟨i, _, rfl⟩ := List.mem_map.1 hx
  omega
theorem take_more (l : List Nat) (k : Nat) : l.take (1004 * (k + 1)) = l.take (1004 * k) ++ (l.drop (1004 * k)).take 1004 := by
  rw [show 1004 * (k + 1) = 1004 * k + 1004 by omega, List.take_add]
theorem row_tail (l u : List Nat) (j : Nat) : (encRow l u j).drop 4 = (l.drop (1004 * j)).take 1004 := by
  unfold encRow le4; rfl
theorem info22o : (Try.prog.info? 22).map (fun i => (i.zero, i.size, i.bytes)) = some (some (.int .u32 0), 1, 4) := by kernel_rfl
theorem under34o : Try.prog.underlying 34 = some (.slice 22) := by kernel_rfl
set_option maxRecDepth 100000 in
set_option maxHeartbeats 4000000 in
theorem overParts_any (r : Inner) (f : Nat) (w : World) (hr : r.Ok w) (hf : f < 65536) :
    Calls Try.prog 8 #[r.val, .int .u16 (f : Int)] w fun e w' => e = .returned (.bool true) ∧ Below w.heap.size w w' := by
  obtain ⟨A, l, c⟩ := r
  have hlb := hr.small
  unfold Inner.val
  simp only at hlb ⊢
  have HR := Lib.hid hr
  clear hr
  by_cases hbig : 40000 < l.length
  · have hb1 : (40000 : Int) < (l.length : Int) := by omega
    go_enter Try.func8, Try.ntmps8
    go_wp2_with fail
    refine (known12_any w).mono ?_
    rintro e w1 ⟨rfl, hb⟩
    go_wp2_with fail
    go_ret
    exact ⟨rfl, hb⟩
  have hb1 : ¬ (40000 : Int) < (l.length : Int) := by omega
  have HNE := Lib.hid (need_any l.length (by omega))
  obtain ⟨N, hN⟩ : ∃ N, N = need l.length := ⟨_, rfl⟩
  have hN9 := need_le l.length
  rw [← hN] at HNE hN9
  have HN := Lib.hid hN
  clear hN
  go_enter Try.func8, Try.ntmps8
  go_wp2_with fail
  refine (known12_any w).mono ?_
  rintro e w1 ⟨rfl, hb⟩
  have HB1 := Lib.hid hb
  clear hb
  go_wp2_with fail
  refine (HNE.out w1).mono ?_
  rintro e w2 ⟨rfl, rfl⟩
  go_wp2_with fail
  go_loopw [6, 7] (fun u i wr => ∃ k : Nat, k ≤ N ∧ i = .int .i64 k ∧ wr.ownsRow w.heap.size 22 1 u k (ns .u32 (ats f k)) ∧ Below w.heap.size w wr) (fun _ i _ => N - (intOf i).toNat)
  case atStart => exact ⟨0, by omega, rfl, by simpa [ns, ats] using World.ownsRow_nil _ _ _ _, HB1.out⟩
  case round =>
    obtain ⟨k, hk, rfl, ho, hb⟩ := hrel
    by_cases hlt : k < N
    · have hki : (k : Int) < (N : Int) := by omega
      obtain ⟨y, hy⟩ : ∃ y, y = 2 + (f + k) % 16000 := ⟨_, rfl⟩
      have h0 : IntKind.u32.wrap (k : Int) = (k : Int) := by rw [IntKind.wrap_u32]; omega
      have h0' : IntKind.u32.wrap (f : Int) = (f : Int) := by rw [IntKind.wrap_u32]; omega
      have h1 : IntKind.u32.wrap ((f : Int) + (k : Int)) = (f : Int) + (k : Int) := by rw [IntKind.wrap_u32]; omega
      have h3 : IntKind.u32.wrap (2 + ((f : Int) + (k : Int)) % 16000) = (y : Int) := by rw [IntKind.wrap_u32]; omega
      have h4 : 2 + ((f : Int) + (k : Int)) % 16000 = (y : Int) := by omega
      have HY := Lib.hid hy
      have hal := own_below ho (below_alloc0 (Below.refl _ _) (.cells #[.int .u32 (y : Int)] 22))
      have hat : At (wr.alloc (.cells #[.int .u32 (y : Int)] 22)) (some ⟨wr.heap.size, 0, none⟩) [.int .u32 (y : Int)] := At.box wr _ 22 wr.heap.size rfl
      have hn0 : w.heap.size ≤ (wr.alloc (.cells #[.int .u32 (y : Int)] 22)).heap.size := Nat.le_trans hb.size (by simp)
      have HO := Lib.hid ho
      have HB := Lib.hid hb
      clear ho hb hy
      go_wp2_with (at_builtin; go_loud (refine wp_append2 rfl (.tmp 28) (.tmp 36) 34 22 (.int .u32 0) 1 4 rfl under34o info22o rfl (by decide) w.heap.size u6 k _ rfl hal (some ⟨wr.heap.size, 0, none⟩) 1 1 _ rfl rfl hat (by simp) (by simp [Value.oneCell']) (by omega) (by omega) hn0 ?_); intro v4 w4 ho4 hor4)
      have hb4 : Below w.heap.size w w4 := by
        have hbx := below_alloc0 (Below.refl wr.heap.size wr) (.cells #[.int .u32 (y : Int)] 22)
        have hc := push_chg hor4
        exact (below_next0 HB.out hbx).trans (hc.below (by have := HB.out.size; simp; omega) (fun g hg => (row_lt HO.out hg).1))
      have HO4 := Lib.hid ho4
      have HB4 := Lib.hid hb4
      clear ho4 hb4 hor4 hal hat hn0
      go_roundw
      case rel => exact ⟨k + 1, by omega, by go_num, by rw [ats_succ, ns_append, ← HY.out]; exact HO4.out, HB4.out⟩
      case measure => simp only [intOf]; omega
    · obtain rfl : N = k := by omega
      clear hk hlt
      obtain ⟨B, cc, rfl, hB, hBn, _⟩ := At.own ho
      have hAw := (HR.out.below hb).lies
      simp only at hAw
      by_cases h0 : N = 0
      · have hz := encode_zero A B c cc l (ats f N) wr (by omega) (by rw [← HN.out]; exact h0)
        rw [ats_length] at hz
        have HZ := Lib.hid hz
        have HB := Lib.hid hb
        have e1 : ((N : Int) == 0) = true := by simp; omega
        have e2 : (N : Int) = 0 := by omega
        clear hz hb ho hB hAw hBn h0
        go_wp2_with fail
        refine HZ.out.mono ?_
        rintro e w3 ⟨rfl, hb3⟩
        have HB3 := Lib.hid (below_next0 HB.out hb3)
        clear hb3
        go_wp2_with fail
        go_ret
        exact ⟨rfl, HB3.out⟩
      · have hen := encode_yes A B c cc l (ats f N) wr hAw hB HR.out.le (ats_lt f N) ⟨by rw [← HN.out]; exact h0, by rw [ats_length, HN.out], ats_ok f N⟩
        rw [ats_length] at hen
        have HEN := Lib.hid hen
        have HB := Lib.hid hb
        have e1 : ((N : Int) == 0) = false := by simp; omega
        have e2 : ¬ (N : Int) = 0 := by omega
        have HN0 := Lib.hid (need_yes (n := l.length) (by rw [← HN.out]; exact h0))
        clear hen hb ho hB hAw hBn
        go_wp2_with fail
        refine HEN.out.mono ?_
        rintro e w3 ⟨v, F, Y, rfl, hrw, hb3, hroom⟩
        have HROOM := Lib.hid hroom
        have hrl : (encRows l (ats f N)).length = N := by rw [encRows_length, HN.out]
        obtain ⟨g, cap, rfl, _⟩ := own_form hrw.own (by omega)
        have HRL := Lib.hid hrl
        rw [hrl] at hrw
        have HRW := Lib.hid (show Rows23 wr.heap.size w3 (.slice (some ⟨g, 0, none⟩) (need l.length) cap) (encRows l (ats f N)) F Y by rw [← HN.out]; exact hrw)
        have HB3 := Lib.hid (below_next0 HB.out hb3)
        rw [hrl]
        clear hrw hb3 hrl HEN hroom
        go_wp2_with fail
        go_loopw [10, 11] (fun v i wr => ∃ k : Nat, k ≤ N ∧ i = .int .i64 k ∧ Buf w3.heap.size wr v (l.take (1004 * k)) ∧ Below w3.heap.size w3 wr) (fun _ i _ => N - (intOf i).toNat)
        case atStart => exact ⟨0, by omega, rfl, by simpa using Buf.nil _ _, Below.refl _ _⟩
        case round =>
          obtain ⟨k, hk, rfl, hbf, hb⟩ := hrel
          by_cases hlt : k < N
          · have hki : (k : Int) < (N : Int) := by omega
            obtain ⟨A2, c2, hcl, hA2, _, hqc⟩ := enc_cell HRW.out HROOM.out k (by rw [← HN.out]; exact hlt)
            have hgl : g < w3.heap.size := (row_lt HRW.out.own (show blk (Value.slice (some ⟨g, 0, none⟩) _ cap) g from rfl)).2
            have hcl2 := (hb.cell (p := ⟨g, k, none⟩) hgl).trans hcl
            have hql := encRow_length l (ats f N) k
            have hA3 := hA2.below hb
            obtain ⟨gb, off, rfl, _⟩ := hA3 (by intro e; have : (ns .u8 (encRow l (ats f N) k)).length = 0 := by rw [e]; rfl
                                                rw [ns_length] at this; omega)
            have hpt := hA3.part 4 1004
            rw [row_tail, List.take_take, Nat.min_self] at hpt
            have hn0 := HN0.out
            have hN := HN.out
            obtain ⟨q, hq⟩ : ∃ q, q = (encRow l (ats f N) k).length := ⟨_, rfl⟩
            rw [← hq] at hcl2 hql hqc
            have hm : ((l.drop (1004 * k)).take 1004).length = q - 4 := by rw [List.length_take, List.length_drop]; omega
            have e3 : ¬ (q : Int) < 5 := by omega
            have e4 : ¬ (1008 : Int) < (q : Int) := by omega
            have e5 : IntKind.i64.wrap ((N : Int) - 1) = (N : Int) - 1 := by rw [IntKind.wrap_i64]; omega
            have e6 : (4 : Int) ≤ (q : Int) := by omega
            have e7 : 4 ≤ q := by omega
            have e10 : ¬ c2 = 4 := by omega
            have e11 : 4 < c2 := by omega
            have e12 : ¬ c2 ≤ 4 := by omega
            have e13 : ¬ c2 - 4 = 0 := by omega
            have e14 : ¬ 4 = c2 := by omega
            have hkq : k + 1 < N → q = 1008 := by omega
            have hbn : w3.heap.size ≤ wr.heap.size := hb.size
            have HBF := Lib.hid hbf
            have HBW := Lib.hid hb
            have HM := Lib.hid hm
            have hbo : wr.ownsRow w3.heap.size 5 1 u10 (l.take (1004 * k)).length (ns .u8 (l.take (1004 * k))) := hbf
            have hlt2 : (l.take (1004 * k)).length ≤ 10000 := by rw [List.length_take]; omega
            have hqs : q ≤ 1008 := by omega
            clear hcl hA2 hA3 hql hq hn0 hN hbf hb hm
            by_cases hk1 : k + 1 < N
            · have hq8 := hkq hk1
              have e8 : (k : Int) < (N : Int) - 1 := by omega
              have e9 : ((q : Int) != 1008) = false := by simp; omega
              have e9' : (q : Int) = 1008 := by omega
              clear hkq hq8
              go_wp2_with (at_builtin; go_loud (refine wp_append2 rfl (.tmp 94) (.tmp 99) 23 5 (.int .u8 0) 1 1 rfl Try.underlying23 Try.info5b rfl (by decide) w3.heap.size u10 _ _ rfl hbo (some ⟨gb, off + 4, none⟩) (q - 4) (c2 - 4) _ rfl (by rw [ns_length, HM.out]; omega) hpt (by simp) (ns_one _ _) (by omega) (by omega) hbn ?_); intro v4 w4 ho4 hor4)
              have hc4 := push_chg hor4
              have hb4 : Below w3.heap.size w3 w4 := HBW.out.trans (hc4.below hbn (fun g' hg' => (row_lt hbo hg').1))
              have hbf4 : Buf w3.heap.size w4 v4 (l.take (1004 * (k + 1))) := by
                unfold Buf
                rw [take_more, List.length_append, ns_append, HM.out]; exact ho4
              have HB4 := Lib.hid hb4
              have HF4 := Lib.hid hbf4
              clear ho4 hor4 hc4 hb4 hbf4 hbo hpt
              go_roundw
              case rel => exact ⟨k + 1, by omega, by go_num, HF4.out, HB4.out⟩
              case measure => simp only [intOf]; omega
            · have e8 : ¬ (k : Int) < (N : Int) - 1 := by omega
              clear hkq
              go_wp2_with (at_builtin; go_loud (refine wp_append2 rfl (.tmp 94) (.tmp 99) 23 5 (.int .u8 0) 1 1 rfl Try.underlying23 Try.info5b rfl (by decide) w3.heap.size u10 _ _ rfl hbo (some ⟨gb, off + 4, none⟩) (q - 4) (c2 - 4) _ rfl (by rw [ns_length, HM.out]; omega) hpt (by simp) (ns_one _ _) (by omega) (by omega) hbn ?_); intro v4 w4 ho4 hor4)
              have hc4 := push_chg hor4
              have hb4 : Below w3.heap.size w3 w4 := HBW.out.trans (hc4.below hbn (fun g' hg' => (row_lt hbo hg').1))
              have hbf4 : Buf w3.heap.size w4 v4 (l.take (1004 * (k + 1))) := by
                unfold Buf
                rw [take_more, List.length_append, ns_append, HM.out]; exact ho4
              have HB4 := Lib.hid hb4
              have HF4 := Lib.hid hbf4
              clear ho4 hor4 hc4 hb4 hbf4 hbo hpt
              go_roundw
              case rel => exact ⟨k + 1, by omega, by go_num, HF4.out, HB4.out⟩
              case measure => simp only [intOf]; omega
          · obtain rfl : N = k := by omega
            rw [List.take_of_length_le (by have := HN0.out; have := HN.out; omega)] at hbf
            obtain ⟨A4, c4, rfl, hA4, _⟩ := At.own (show wr.ownsRow w3.heap.size 5 1 u10 l.length (ns .u8 l) from hbf)
            have hup : Below w.heap.size w wr := below_next0 HB3.out hb
            have hse := same_eq A4 A l.length l.length c4 c l l wr rfl rfl (by omega) rfl hA4 (HR.out.below hup).lies
            have HSE := Lib.hid hse
            have HUP := Lib.hid hup
            clear hse hup hA4 hbf hb
            go_wp2_with fail
            refine HSE.out.mono ?_
            rintro e w5 ⟨rfl, hb5⟩
            have HB5 := Lib.hid (below_next0 HUP.out hb5)
            clear hb5
            go_wp2_with fail
            go_ret
            exact ⟨rfl, HB5.out⟩
end Go.Proofs.Ytfbjjblgcgjndaa
