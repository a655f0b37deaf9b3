/- Walk of CrcPieces. -/
import Derived.Test.YtfbjjblgcgjndaaLaw01
import Derived.Test.YtfbjjblgcgjndaaLib2
set_option linter.unusedVariables false
set_option linter.unusedSimpArgs false
namespace Go.Proofs.Ytfbjjblgcgjndaa
open Go.RowKit

/-- the length of the first k, put one behind the other -/
def tot (rs : List Inner) (k : Nat) : Nat := ((rs.take k).map (·.l.length)).sum
def flat (rs : List Inner) (k : Nat) : List Nat := (rs.take k).flatMap (·.l)
theorem take_row (rs : List Inner) (k : Nat) (h : k < rs.length) : rs.take (k + 1) = rs.take k ++ [rowAt rs k] := by
  rw [List.take_add_one, rowAt_get rs k h]; rfl
theorem tot_succ (rs : List Inner) (k : Nat) (h : k < rs.length) : tot rs (k + 1) = tot rs k + (rowAt rs k).l.length := by
  unfold tot; rw [take_row rs k h]; simp
theorem flat_succ (rs : List Inner) (k : Nat) (h : k < rs.length) : flat rs (k + 1) = flat rs k ++ (rowAt rs k).l := by
  unfold flat; rw [take_row rs k h]; simp
theorem flat_length (rs : List Inner) (k : Nat) : (flat rs k).length = tot rs k := by
  unfold flat tot; rw [List.length_flatMap]
theorem tot_mono (rs : List Inner) (k : Nat) (h : k ≤ rs.length) : tot rs k ≤ tot rs rs.length := by
  have e : rs.take rs.length = rs.take k ++ rs.drop k := by rw [List.take_length, List.take_append_drop]
  unfold tot; rw [e, List.map_append, List.sum_append]; omega
theorem flat_bytes (rs : List Inner) (k : Nat) (h : ∀ r ∈ rs, Bytes r.l) : Bytes (flat rs k) := by
  intro c hc
  unfold flat at hc
  obtain ⟨r, hr, hc⟩ := List.mem_flatMap.1 hc
  exact h r (List.mem_of_mem_take hr) c hc

set_option maxRecDepth 100000 in
set_option maxHeartbeats 1000000 in
theorem crcPieces_any (A : Option Addr) (c : Nat) (rs : List Inner) (w : World) (hA : At w A (rs.map Inner.val)) (hs : rs.length ≤ 140737488351232) (hok : ∀ r ∈ rs, r.Ok w) :
    Calls Try.prog 4 #[.slice A rs.length c] w fun e w' => e = .returned (.bool true) ∧ Below w.heap.size w w' := by
  go_enter Try.func4, Try.ntmps4
  go_wp2
  go_loop [3, 4] (fun n i => ∃ k : Nat, k ≤ rs.length ∧ i = .int .i64 k ∧ n = .int .i64 ((rs.length : Int) + (tot rs k : Int))) (fun _ i => rs.length - (intOf i).toNat)
  case atStart => exact ⟨0, by omega, rfl, by simp [tot]⟩
  case round =>
    obtain ⟨k, hk, rfl, rfl⟩ := hrel
    by_cases hlt : k < rs.length
    · by_cases hle : rs.length + tot rs k ≤ 100000
      · obtain ⟨b, o, rfl, hc⟩ := rows_cell hA k hlt
        have hro := hok _ (rowAt_mem rs k hlt)
        have h1 := hro.le
        have h2 := hro.small
        have hts := Lib.hid (tot_succ rs k hlt)
        have hle' : (rs.length : Int) + (tot rs k : Int) ≤ 100000 := by omega
        go_wp2
        go_round
        case rel => exact ⟨k + 1, by omega, by go_num, by rw [hts.out]; go_num⟩
        case measure => simp [intOf]; omega
      · go_wp2
        go_ret
        exact ⟨rfl, Below.refl _ _⟩
    · obtain rfl : k = rs.length := by omega
      by_cases hle : rs.length + tot rs rs.length ≤ 100000
      · have hts := tot_mono rs
        have HT := Lib.hid hts
        clear hts
        go_wp2_with fail
        refine (sum_any none 0 [] w Bytes.nil (by decide) (At.nil _ _)).mono ?_
        rintro e w1 ⟨rfl, hb1⟩
        go_wp2_with fail
        go_loopw [5, 6, 7] (fun v s i wr => ∃ k : Nat, k ≤ rs.length ∧ i = .int .i64 k ∧ s = .int .u32 ((Crc.sum (flat rs k) : Nat) : Int) ∧ wr.ownsRow w.heap.size 5 1 v (flat rs k).length (ns .u8 (flat rs k)) ∧ Below w.heap.size w wr) (fun _ _ i _ => rs.length - (intOf i).toNat)
        case atStart => exact ⟨0, by omega, rfl, by simp [flat], World.ownsRow_nil _ _ _ _, hb1⟩
        case round =>
          clear hb1
          obtain ⟨k, hk, rfl, rfl, ho, hb⟩ := hrel
          have hbig := HT.out k hk
          have hfl := flat_length rs k
          have hlen : (flat rs k).length ≤ 100000 := by omega
          have HF := Lib.hid hfl
          clear hfl
          have hfb := flat_bytes rs k (fun r hr => (hok r hr).bytes)
          by_cases hlt : k < rs.length
          · have hro := (hok _ (rowAt_mem rs k hlt)).below hb
            have h1 := hro.le
            have h2 := hro.small
            have hfs := Lib.hid (flat_succ rs k hlt)
            have hnext : (flat rs k).length + (rowAt rs k).l.length ≤ 100000 := by
              have e1 := tot_succ rs k hlt
              have e2 := HT.out (k + 1) (by omega)
              have e3 := HF.out
              omega
            have hsum : Crc.more (Crc.sum (flat rs k)) (rowAt rs k).l = Crc.sum (flat rs (k + 1)) := by
              rw [flat_succ rs k hlt]; exact (Crc.more_append 0 _ _ hfb).symm
            have HS := Lib.hid hsum
            have hA' := hA.below hb
            obtain ⟨b, o, rfl, hc⟩ := rows_cell hA' k hlt
            have hcb : b < wr.heap.size := World.block_lt_of_cell? wr _ hc
            clear hsum
            go_wp2_with (first
              | (at_builtin; (refine wp_append rfl (.tmp 36) (.tmp 40) 23 5 (.int .u8 0) 1 1 rfl Try.underlying23 Try.info5 rfl (by decide) w.heap.size _ (flat rs k).length (ns .u8 (flat rs k)) rfl ho (rowAt rs k).A (rowAt rs k).l.length (rowAt rs k).c (ns .u8 (rowAt rs k).l) rfl (by simp [ns]) hro.lies hro.nil (ns_one .u8 _) (by omega) (by omega) (hb.size) ?_); intro v1 w2 ho2 hg2 hat; have hb2 := below_grown hb hg2 hb.size (own_base ho); have hc2 := rows_cell' (hA.below hb2) k hlt))
            have hro2 := (hok _ (rowAt_mem rs k hlt)).below hb2
            refine (more_any (Crc.sum (flat rs k)) _ _ (rowAt rs k).l w2 (show Crc.sum (flat rs k) < 4294967296 from Crc.more_lt _ _) hro2.bytes (by omega) hro2.lies).mono ?_
            rintro e w3 ⟨rfl, hb3⟩
            rw [HS.out]
            have ho3 := own_below ho2 hb3
            have hb03 := below_next0 hb2 hb3
            rw [← ns_append, ← hfs.out] at ho3
            clear hc hc2 ho ho2
            go_wp2
            go_roundw
            case rel =>
              refine ⟨k + 1, by omega, by go_num, rfl, ?_, hb03⟩
              have e : (flat rs (k + 1)).length = (flat rs k).length + (rowAt rs k).l.length := by rw [hfs.out, List.length_append]
              rw [e]; exact ho3
            case measure => simp [intOf]; omega
          · obtain rfl : k = rs.length := by omega
            obtain ⟨A', c', rfl, hA', hn', hc', hm'⟩ := At.own ho
            go_wp2_with fail
            refine (known_any wr).mono ?_
            rintro e w2 ⟨rfl, hb2⟩
            go_wp2_with fail
            refine (sum_n A' _ c' (flat rs rs.length) w2 rfl hfb (by omega) (hA'.below hb2)).mono ?_
            rintro e w3 ⟨rfl, hb3⟩
            go_wp2
            go_ret
            exact ⟨by simp, below_next0 (below_next0 hb hb2) hb3⟩
      · go_wp2
        go_ret
        exact ⟨rfl, Below.refl _ _⟩
end Go.Proofs.Ytfbjjblgcgjndaa
