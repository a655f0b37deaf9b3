/- What a step leaves as it was: a world that is another one but for some blocks and new ones. -/
import Derived.Test.YtfbjjblgcgjndaaLib2
import Derived.ArgAppend
set_option linter.unusedVariables false
set_option linter.unusedSimpArgs false
namespace Go.Proofs.Ytfbjjblgcgjndaa
open Go.RowKit

/-- w' is w but for the blocks of F and new ones -/
structure Chg (F : Nat → Prop) (w w' : World) : Prop where
  os : w'.os = w.os
  tape : w'.tape = w.tape
  output : w'.output = w.output
  size : w.heap.size ≤ w'.heap.size
  block : ∀ k, k < w.heap.size → ¬ F k → w'.heap[k]? = w.heap[k]?
theorem Chg.refl (F : Nat → Prop) (w : World) : Chg F w w := ⟨rfl, rfl, rfl, Nat.le_refl _, fun _ _ _ => rfl⟩
theorem Chg.of_below {F : Nat → Prop} {w w' : World} (h : Below w.heap.size w w') : Chg F w w' := ⟨h.os, h.tape, h.output, h.size, fun k hk _ => h.block k hk⟩
theorem Chg.of_grown {F : Nat → Prop} {w w' : World} {r : Option Nat} (h : w.grownBy w' r) (hr : ∀ g, r = some g → F g) : Chg F w w' :=
  ⟨h.os, h.tape, h.output, h.size, fun k hk hF => h.block k hk (fun e => hF (hr k e.symm))⟩
theorem Chg.mono {F G : Nat → Prop} {w w' : World} (h : Chg F w w') (hg : ∀ k, k < w.heap.size → F k → G k) : Chg G w w' :=
  ⟨h.os, h.tape, h.output, h.size, fun k hk hG => h.block k hk (fun hF => hG (hg k hk hF))⟩
theorem Chg.trans {F G : Nat → Prop} {w w1 w2 : World} (h : Chg F w w1) (k : Chg G w1 w2) (hg : ∀ j, j < w.heap.size → G j → F j) : Chg F w w2 :=
  ⟨k.os.trans h.os, k.tape.trans h.tape, k.output.trans h.output, Nat.le_trans h.size k.size, fun j hj hF =>
    (k.block j (Nat.lt_of_lt_of_le hj h.size) (fun hG => hF (hg j hj hG))).trans (h.block j hj hF)⟩
theorem Chg.below {F : Nat → Prop} {w w' : World} {B : Nat} (h : Chg F w w') (hB : B ≤ w.heap.size) (hF : ∀ k, F k → B ≤ k) : Below B w w' :=
  ⟨h.os, h.tape, h.output, h.size, fun k hk => h.block k (Nat.lt_of_lt_of_le hk hB) (fun hk' => by have := hF k hk'; omega)⟩
theorem Chg.drewN {F : Nat → Prop} {w w' : World} (h : Chg F w w') (n : Nat) : Chg F w (w'.drewN n) := ⟨h.os, h.tape, h.output, h.size, h.block⟩
theorem Chg.drew {F : Nat → Prop} {w w' : World} (h : Chg F w w') : Chg F w w'.drew := ⟨h.os, h.tape, h.output, h.size, h.block⟩
theorem Chg.alloc {F : Nat → Prop} {w w' : World} (h : Chg F w w') (o : Obj) : Chg F w (w'.alloc o) :=
  h.trans (.of_below (F := F) (below_alloc0 (Below.refl _ _) o)) (fun _ _ h => h)
theorem Chg.setCell {F : Nat → Prop} {w w' : World} (h : Chg F w w') (a : Addr) (v : Value) (hF : F a.block ∨ w.heap.size ≤ a.block) : Chg F w (w'.setCell a v) := by
  refine ⟨h.os, h.tape, h.output, by simpa [World.setCell] using h.size, fun k hk hk' => ?_⟩
  have : k ≠ a.block := fun e => by
    rcases hF with hF | hF
    · exact hk' (by rw [e]; exact hF)
    · omega
  rw [Below.heap_setCell _ _ _ _ this]
  exact h.block k hk hk'
theorem Chg.cell {F : Nat → Prop} {w w' : World} (h : Chg F w w') {a : Addr} {v : Value} (hc : w.cell? a = some v) (hF : ¬ F a.block) : w'.cell? a = some v := by
  have hlt := World.block_lt_of_cell? w a hc
  unfold World.cell? at hc ⊢
  rw [h.block _ hlt hF]; exact hc
theorem At.chg {F : Nat → Prop} {w w' : World} {A : Option Addr} {xs : List Value} (h : At w A xs) (hc : Chg F w w') (hF : ∀ a, A = some a → ¬ F a.block) : At w' A xs := fun hn => by
  obtain ⟨b, o, e, hr⟩ := h hn
  exact ⟨b, o, e, fun j v hv => hc.cell (hr j v hv) (hF ⟨b, o, none⟩ e)⟩
/-- a row stays where its block is none of those -/
theorem own_chg {F : Nat → Prop} {w w' : World} {base : Nat} {e : TypeId} {size n : Nat} {v : Value} {xs : List Value} (h : w.ownsRow base e size v n xs) (hc : Chg F w w') (hF : ∀ g, v.ownBlock = some g → ¬ F g) : w'.ownsRow base e size v n xs := by
  refine ⟨h.1, ?_⟩
  rcases h.2 with h2 | ⟨g, cap, cur, rfl, h1, h2, h3⟩
  · exact .inl h2
  · refine .inr ⟨g, cap, cur, rfl, h1, ?_, h3⟩
    rw [hc.block g (Array.getElem?_eq_some_iff.1 h2).1 (hF g rfl)]; exact h2
theorem row_lt {w : World} {base : Nat} {e : TypeId} {size n : Nat} {v : Value} {xs : List Value} (h : w.ownsRow base e size v n xs) {g : Nat} (hg : v.ownBlock = some g) : base ≤ g ∧ g < w.heap.size := h.lt g hg
theorem own_up {w : World} {base b2 : Nat} {e : TypeId} {size n : Nat} {v : Value} {xs : List Value} (h : w.ownsRow base e size v n xs) (hb : ∀ g, v.ownBlock = some g → b2 ≤ g) : w.ownsRow b2 e size v n xs := by
  refine ⟨h.1, ?_⟩
  rcases h.2 with h2 | ⟨g, cap, cur, rfl, h1, h2⟩
  · exact .inl h2
  · exact .inr ⟨g, cap, cur, rfl, hb g rfl, h2⟩

section
variable {P : Program} {ops : Array Oper} {rest : List Oper} {o : Oper} {a : Act} {w : World} {Q : Exit → Act → World → Prop}
/-- append onto a row of the call's own: it fits, and the block is written; or a new block is made, and nothing is written -/
theorem wp_append2 (hgd : o.guard = none) (s x : Operand) (t e : TypeId) (z : Value) (size bytes : Nat)
    (ho : o.op = .call { callee := .builtin .append, args := #[s, x], argTypes := #[t, t] })
    (ht : P.underlying t = some (.slice e)) (hinfo : (P.info? e).map (fun i => (i.zero, i.size, i.bytes)) = some (some z, size, bytes)) (hz : z.cells.size = size) (h0 : 0 < size)
    (base : Nat) (v : Value) (n : Nat) (xs : List Value) (hs : a.eval s = v) (hown : w.ownsRow base e size v n xs)
    (A : Option Addr) (m c : Nat) (news : List Value) (hx : a.eval x = .slice A m c) (hl : news.length = m * size) (hAt : At w A news) (hnil : A = none → c = 0) (h1 : ∀ u ∈ news, u.oneCell' = true)
    (h63 : n + m ≤ 140737488355328) (hbytes : (n + m) * bytes ≤ 140737488355328) (hbase : base ≤ w.heap.size)
    (h : ∀ v' w', w'.ownsRow base e size v' (n + m) (xs ++ news) → (w.grownBy w' v.ownBlock ∧ v'.ownBlock = v.ownBlock) ∨ (w.grownBy w' none ∧ ∃ g, v'.ownBlock = some g ∧ w.heap.size ≤ g) → wpList P ops Q rest (a.put o.dst v') w') :
    wpList P ops Q (o :: rest) a w := by
  obtain ⟨i0, hi, hzz⟩ := Option.map_eq_some_iff.1 hinfo
  simp only [Prod.mk.injEq] at hzz
  obtain ⟨hz0, hz1, hz2⟩ := hzz
  cases A with
  | none =>
    have hn : news = [] := Classical.byContradiction fun hn => by obtain ⟨b, o, e, _⟩ := hAt hn; cases e
    subst hn
    have hm : m = 0 := by
      have : m * size = 0 := by simpa using hl.symm
      rcases Nat.mul_eq_zero.1 this with h | h
      · exact h
      · omega
    subst hm
    obtain rfl := hnil rfl
    refine wpList_append_own_none hgd s x t ho base e i0 size ht hi v n xs hs hown hx ?_
    exact h v w (by simpa using hown) (.inl ⟨World.grownBy.refl _ _, rfl⟩)
  | some ad =>
    have hnews : ∀ j u, news[j]? = some u → w.cell? (ad.add j) = some u := fun j u hu => by
      obtain ⟨b, o, e, hr⟩ := hAt (by intro hn; subst hn; simp at hu)
      cases e
      rw [Addr.add_mid]; exact hr j u hu
    rcases hown.2 with ⟨hv, hn0⟩ | ⟨g, cap, cur, hv, hb, hh, h3, h4, h5, h6⟩
    · refine wpList_append_own_at w hgd s x t ho base e i0 z size bytes ht hi hz0 hz1 hz2 hz h0 v n xs hs hown ad m c news hx hl hnews h1 (by simp only [maxLen]; omega) hbytes hbase ?_
      intro v' w' a1 a2 _ a4
      refine h v' w' a1 ?_
      have hvo : v.ownBlock = none := by rw [hv]; rfl
      rw [hvo] at a2 a4 ⊢
      rcases a4 with a4 | a4
      · exact .inl ⟨a2, a4⟩
      · exact .inr ⟨a2, _, a4, Nat.le_refl _⟩
    · subst hv
      by_cases hroom : n + m ≤ cap
      · refine wp_append_fits hgd s x t e z size bytes ho ht hinfo h0 base g n cap xs hs hown (some ad) m c news hx hl hAt hnil h1 hroom ?_
        intro w' a1 a2
        exact h _ w' a1 (.inl ⟨a2, rfl⟩)
      · refine wpList_append_grows w hgd s x t ho e i0 z size bytes ht hi hz0 hz1 hz2 hz h0 (some ⟨g, 0, none⟩) n cap xs hs (by simp) hown.1 ?_ ad m c news hx hl hnews h1 (by omega) (by simp only [maxLen]; omega) hbytes ?_
        · intro b hb2 j u hu
          cases hb2
          rw [Addr.add_mid]
          rw [cell_of_row w g _ cur e (0, 0) hh]
          rw [← h6, List.getElem?_take] at hu
          split at hu
          · simpa using hu
          · cases hu
        · intro v' w' a1 a2
          have hge : ∃ g', v'.ownBlock = some g' ∧ w.heap.size ≤ g' := by
            rcases a1.2 with ⟨_, hz⟩ | ⟨g', cap', cur', rfl, hb', _⟩
            · omega
            · exact ⟨g', rfl, hb'⟩
          refine h v' w' (own_up a1 ?_) (.inr ⟨a2, hge⟩)
          intro g' hg'
          obtain ⟨g'', e1, e2⟩ := hge
          rw [e1] at hg'; cases hg'; omega
end
end Go.Proofs.Ytfbjjblgcgjndaa
