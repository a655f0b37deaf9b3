/- Contract of page.PutMeta. -/
import Derived.Test.YtfbjjblgcgjndaaMeta2
set_option linter.unusedVariables false
set_option linter.unusedSimpArgs false
namespace Go.Proofs.Ytfbjjblgcgjndaa
open Go.RowKit

theorem At.byte (W : World) (x b : Nat) (hb : b = W.heap.size) : At (W.alloc (.cells #[.int .u8 ((x : Int) % 256)] 5)) (some ⟨b, 0, none⟩) (ns .u8 [x % 256]) := by
  have := At.box W (.int .u8 ((x % 256 : Nat) : Int)) 5 b hb
  exact this
/-- a slice's own block is the elder one's, or new -/
def Fresh (w : World) (r c : Option Nat) : Prop := c = r ∨ ∃ b, c = some b ∧ w.heap.size ≤ b
theorem grown_step {w wr w1 : World} {r c : Option Nat} (h : w.grownBy wr r) (hc : Fresh w r c) (k : wr.grownBy w1 c) : w.grownBy w1 r :=
  ⟨k.os.trans h.os, k.tape.trans h.tape, k.output.trans h.output, Nat.le_trans h.size k.size, fun i hi hne => by
    rw [k.block i (Nat.lt_of_lt_of_le hi h.size) ?_]
    · exact h.block i hi hne
    · rcases hc with rfl | ⟨b, rfl, hb⟩
      · exact hne
      · intro e; injection e with e; omega⟩
theorem fresh_step {w wr : World} {r c d : Option Nat} (hs : w.heap.size ≤ wr.heap.size) (hc : Fresh w r c) (hd : Fresh wr c d) : Fresh w r d := by
  rcases hd with rfl | ⟨b, rfl, hb⟩
  · exact hc
  · exact .inr ⟨b, rfl, by omega⟩
theorem Fresh.refl (w : World) (r : Option Nat) : Fresh w r r := .inl rfl
theorem grown_alloc {w : World} (o : Obj) (r : Option Nat) : w.grownBy (w.alloc o) r := ⟨rfl, rfl, rfl, by simp, fun i hi _ => heap_alloc_old w _ hi⟩
theorem fresh_alloc {w : World} {o : Obj} {r d : Option Nat} (h : Fresh (w.alloc o) r d) : Fresh w r d := by
  rcases h with rfl | ⟨b, rfl, hb⟩
  · exact .inl rfl
  · exact .inr ⟨b, rfl, by simp at hb; omega⟩

theorem buf_append2 {P : Program} {ops : Array Oper} {rest : List Oper} {o : Oper} {a : Act} {w : World} {Q : Exit → Act → World → Prop} (hgd : o.guard = none) (s x : Operand)
    (ho : o.op = .call { callee := .builtin .append, args := #[s, x], argTypes := #[23, 23] })
    (ht : P.underlying 23 = some (.slice 5)) (hinfo : (P.info? 5).map (fun i => (i.zero, i.size, i.bytes)) = some (some (.int .u8 0), 1, 1))
    (n0 : Nat) (v : Value) (l : List Nat) (hs : a.eval s = v) (hown : Buf n0 w v l)
    (A : Option Addr) (m c : Nat) (l2 : List Nat) (hx : a.eval x = .slice A m c) (hm : m = l2.length) (hAt : At w A (ns .u8 l2)) (hnil : A = none → c = 0)
    (hsm : l.length + l2.length ≤ 140737488355328) (hbase : n0 ≤ w.heap.size)
    (h : ∀ v' w', Buf n0 w' v' (l ++ l2) → w.grownBy w' v.ownBlock → Fresh w v.ownBlock v'.ownBlock → wpList P ops Q rest (a.put o.dst v') w') :
    wpList P ops Q (o :: rest) a w := by
  subst hm
  refine wp_append hgd s x 23 5 (.int .u8 0) 1 1 ho ht hinfo rfl (by decide) n0 v l.length (ns .u8 l) hs hown A l2.length c (ns .u8 l2) hx (by simp [ns]) hAt hnil (ns_one _ _) (by omega) (by omega) hbase ?_
  intro v1 w1 h1 h2 h3
  refine h v1 w1 ?_ h2 h3
  unfold Buf
  rw [List.length_append, ns_append]; exact h1

set_option maxRecDepth 100000 in
set_option maxHeartbeats 1000000 in
theorem low_own (n0 : Nat) (v : Value) (l : List Nat) (n many : Nat) (w : World) (hn0 : n0 ≤ w.heap.size) (hv : Buf n0 w v l) (hl : l.length ≤ 1000000) (hn : n < 18446744073709551616) (hm : many ≤ 8) :
    Calls Try.prog 131 #[v, .int .u64 (n : Int), .int .i64 (many : Int)] w fun e w' => ∃ v', e = .returned v' ∧ Buf n0 w' v' (l ++ le n many) ∧ w.grownBy w' v.ownBlock ∧ Fresh w v.ownBlock v'.ownBlock := by
  go_enter Try.func131, Try.ntmps131
  go_wp2
  go_loopw [0, 1, 8] (fun b x i wr => ∃ k : Nat, k ≤ many ∧ i = .int .i64 k ∧ x = .int .u64 ((n / 256 ^ k : Nat) : Int) ∧ Buf n0 wr b (l ++ le n k) ∧ w.grownBy wr v.ownBlock ∧ Fresh w v.ownBlock b.ownBlock) (fun _ _ i _ => many - (intOf i).toNat)
  case atStart => exact ⟨0, by omega, rfl, by simp, by simpa [le] using hv, World.grownBy.refl _ _, Fresh.refl _ _⟩
  case round =>
    clear hv
    obtain ⟨k, hk, rfl, rfl, hv, hb, hfr⟩ := hrel
    have hs := hb.size
    have hx : n / 256 ^ k < 18446744073709551616 := Nat.lt_of_le_of_lt (Nat.div_le_self _ _) hn
    have hnext := Lib.hid (div256 n k)
    have hles := Lib.hid (le_succ n k)
    have hlen : (l ++ le n k).length = l.length + k := by simp [le_length]
    have HL := Lib.hid hlen
    clear hlen
    generalize n / 256 ^ k = x at hx hnext hles
    by_cases hlt : k < many
    · go_wp2_with (at_builtin; go_loud (refine buf_append2 rfl (.tmp 10) (.tmp 13) rfl Try.underlying23 Try.info5 n0 u0 (l ++ le n k) rfl (Buf.below hv (below_alloc0 (Below.refl _ _) _)) (some ⟨wr.heap.size, 0, none⟩) 1 1 [x % 256] rfl rfl ?_ (by simp) (by rw [HL.out]; simp; omega) ?_ ?_); rotate_left; rotate_left; intro v1 w1 hv1 hg1 hf1)
      go_roundw
      case rel => exact ⟨k + 1, by omega, by go_num, by rw [← hnext.out]; go_num, by rw [hles.out, ← List.append_assoc]; exact hv1, grown_step hb hfr ((grown_alloc _ _).trans hg1), fresh_step hs hfr (fresh_alloc hf1)⟩
      case measure => simp [intOf]; omega
      · exact At.byte wr x wr.heap.size rfl
      · simp; omega
    · obtain rfl : k = many := by omega
      go_wp2
      go_ret
      exact ⟨_, rfl, hv, hb, hfr⟩
end Go.Proofs.Ytfbjjblgcgjndaa
