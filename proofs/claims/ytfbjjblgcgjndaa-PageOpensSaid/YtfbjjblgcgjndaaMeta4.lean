/- Contract of page.PutMeta. -/
import Derived.Test.YtfbjjblgcgjndaaMeta3
import Derived.ArgAppend
set_option linter.unusedVariables false
set_option linter.unusedSimpArgs false
namespace Go.Proofs.Ytfbjjblgcgjndaa
open Go.RowKit

def quads (l : List Nat) : List Nat := l.flatMap fun n => le n 4
theorem quads_take (l : List Nat) (k : Nat) (h : k < l.length) : quads (l.take (k + 1)) = quads (l.take k) ++ le (nth l k) 4 := by
  rw [take_nth l k h]; simp [quads]
theorem quads_length (l : List Nat) : (quads l).length = 4 * l.length := by
  induction l with
  | nil => rfl
  | cons a l ih => simp [quads] at ih ⊢; rw [le_length]; omega
theorem own_lt {n0 : Nat} {w : World} {v : Value} {l : List Nat} (h : Buf n0 w v l) (k : Nat) (hk : v.ownBlock = some k) : k < w.heap.size := (World.ownsRow.lt h k hk).2

/-- append of one byte onto what is full -/
theorem append_full {P : Program} {ops : Array Oper} {rest : List Oper} {o : Oper} {a : Act} {w : World} {Q : Exit → Act → World → Prop} (hgd : o.guard = none) (s x : Operand)
    (ho : o.op = .call { callee := .builtin .append, args := #[s, x], argTypes := #[23, 23] })
    (ht : P.underlying 23 = some (.slice 5)) (hinfo : (P.info? 5).map (fun i => (i.zero, i.size, i.bytes)) = some (some (.int .u8 0), 1, 1))
    (n0 g n : Nat) (l : List Nat) (hn : n = l.length) (hs : a.eval s = .slice (some ⟨g, 0, none⟩) n n) (hA0 : At w (some ⟨g, 0, none⟩) (ns .u8 l))
    (ad : Addr) (c : Nat) (l2 : List Nat) (hx : a.eval x = .slice (some ad) 1 c) (hm : l2.length = 1) (hAt : At w (some ad) (ns .u8 l2))
    (hsm : l.length ≤ 1000000) (hbase : n0 ≤ w.heap.size)
    (h : ∀ v' w', Buf n0 w' v' (l ++ l2) → w.grownBy w' none → wpList P ops Q rest (a.put o.dst v') w') :
    wpList P ops Q (o :: rest) a w := by
  subst hn
  obtain ⟨i0, hi, hzz⟩ := Option.map_eq_some_iff.1 hinfo
  simp only [Prod.mk.injEq] at hzz
  obtain ⟨hz0, hz1, hz2⟩ := hzz
  have hcells : ∀ (ad : Addr) (l : List Nat), At w (some ad) (ns .u8 l) → ∀ j u, (ns .u8 l)[j]? = some u → w.cell? (ad.add j) = some u := fun ad l hA j u hu => by
    obtain ⟨b, o, e, hr⟩ := hA (by intro hn; rw [hn] at hu; simp at hu)
    cases e
    rw [Addr.add_mid]; exact hr j u hu
  refine wpList_append_grows w hgd s x 23 ho 5 i0 (.int .u8 0) 1 1 ht hi hz0 hz1 hz2 rfl (by decide) (some ⟨g, 0, none⟩) l.length l.length (ns .u8 l) hs (by intro e; cases e) (by simp [ns]) (fun b hb j u hu => by cases hb; exact hcells _ l hA0 j u hu) ad 1 c (ns .u8 l2) hx (by simp [ns, hm]) (hcells _ l2 hAt) (ns_one _ _) (by omega) (by simp only [maxLen]; omega) (by omega) ?_
  intro v1 w1 h1 h2
  refine h v1 w1 (own_base_mono ?_ hbase) h2
  unfold Buf
  rw [List.length_append, ns_append, hm]; exact h1

set_option maxRecDepth 100000 in
set_option maxHeartbeats 1000000 in
theorem low_full (n0 g c : Nat) (l : List Nat) (n many : Nat) (w : World) (hn0 : n0 ≤ w.heap.size) (hc : c = l.length) (hA : At w (some ⟨g, 0, none⟩) (ns .u8 l)) (hl : l.length ≤ 1000) (hn : n < 18446744073709551616) (hm0 : 0 < many) (hm : many ≤ 8) :
    Calls Try.prog 131 #[.slice (some ⟨g, 0, none⟩) c c, .int .u64 (n : Int), .int .i64 (many : Int)] w fun e w' => ∃ v', e = .returned v' ∧ Buf n0 w' v' (l ++ le n many) ∧ Below n0 w w' ∧ n0 ≤ w'.heap.size := by
  go_enter Try.func131, Try.ntmps131
  go_wp2
  go_loopw [0, 1, 8] (fun b x i wr => ∃ k : Nat, k ≤ many ∧ i = .int .i64 k ∧ x = .int .u64 ((n / 256 ^ k : Nat) : Int) ∧ ((k = 0 ∧ b = .slice (some ⟨g, 0, none⟩) c c ∧ wr = w) ∨ (0 < k ∧ Buf n0 wr b (l ++ le n k))) ∧ Below n0 w wr ∧ n0 ≤ wr.heap.size) (fun _ _ i _ => many - (intOf i).toNat)
  case atStart => exact ⟨0, by omega, rfl, by simp, .inl ⟨rfl, rfl, rfl⟩, Below.refl _ _, hn0⟩
  case round =>
    obtain ⟨k, hk, rfl, rfl, hv, hb, hs⟩ := hrel
    have hx : n / 256 ^ k < 18446744073709551616 := Nat.lt_of_le_of_lt (Nat.div_le_self _ _) hn
    have hnext := Lib.hid (div256 n k)
    have hles := Lib.hid (le_succ n k)
    have hlen : (l ++ le n k).length = l.length + k := by simp [le_length]
    have HL := Lib.hid hlen
    clear hlen
    rcases hv with ⟨rfl, rfl, rfl⟩ | ⟨hk0, hv⟩
    · generalize n / 256 ^ 0 = x at hx hnext hles
      have hAx := hA.below (below_alloc0 (Below.refl _ _) (.cells #[.int .u8 ((x : Int) % 256)] 5))
      go_wp2_with (at_builtin; go_loud (refine append_full rfl (.tmp 10) (.tmp 13) rfl Try.underlying23 Try.info5 n0 g c l hc rfl hAx ⟨wr.heap.size, 0, none⟩ 1 [x % 256] rfl rfl (At.byte wr x wr.heap.size rfl) (by omega) (by simp; omega) ?_); intro v1 w1 hv1 hg1)
      go_roundw
      case rel =>
        have hs1 := hg1.size
        simp at hs1
        refine ⟨1, by omega, by go_num, by rw [← hnext.out]; go_num, .inr ⟨by omega, ?_⟩, ?_, by omega⟩
        · have := hles.out
          simp only [Nat.zero_add] at this
          rw [this]
          simpa [le] using hv1
        · exact below_grown (hb.alloc hs _) hg1 (by simp; omega) (by simp)
      case measure => simp [intOf]; omega
    · generalize n / 256 ^ k = x at hx hnext hles
      by_cases hlt : k < many
      · go_wp2_with (at_builtin; go_loud (refine buf_append (w0 := w) rfl (.tmp 10) (.tmp 13) rfl Try.underlying23 Try.info5 n0 u0 (l ++ le n k) rfl (Buf.below hv (below_alloc0 (Below.refl _ _) _)) (some ⟨wr.heap.size, 0, none⟩) 1 1 [x % 256] rfl rfl (At.byte wr x wr.heap.size rfl) (by simp) (by rw [HL.out]; simp; omega) (by simp; omega) (hb.alloc hs _) ?_); intro v1 w1 hv1 hb1 hs1)
        go_roundw
        case rel => exact ⟨k + 1, by omega, by go_num, by rw [← hnext.out]; go_num, .inr ⟨by omega, by rw [hles.out, ← List.append_assoc]; exact hv1⟩, hb1, hs1⟩
        case measure => simp [intOf]; omega
      · obtain rfl : k = many := by omega
        go_wp2
        go_ret
        exact ⟨_, rfl, hv, hb, hs⟩
end Go.Proofs.Ytfbjjblgcgjndaa
