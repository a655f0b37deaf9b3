/- Joined texts: Lib, Lib2, Frame, Held, DiskMath, Disk1, Ring, Ring2, Disk2, DiskOp. -/
import Derived.Test.YtfbjjblgcgjndaaGreatProg
import Derived.WalkKit
import Derived.WalkLawsBesides
import Derived.WalkSpells
import Derived.Deep.LoopGhost
import Derived.Deep.WholeRow
import Derived.Deep.MidRow
import Derived.Lib.Hide
import Derived.KernelRfl
import Derived.Deep.QuietTactic
import Derived.BigQuiet
import Derived.Maps.AppendAt
import Derived.Lib.SlBytesConst
import Derived.Laws.AppendOwnNone
import Derived.Deep.DeepCutAuto
import Derived.Deep.CutBlock
import Derived.BigRegion
import Derived.Deep.RegionHeld3
import Derived.Deep.RegionWith
import Derived.StillTailTactics
import Derived.Deep.OwnRows
import Derived.ArgAppend
import Derived.Maps.OwnOps
import Derived.Maps.OwnSet
set_option linter.unusedVariables false
set_option linter.unusedSimpArgs false

/- General lemmas for all walks of this seat: whole arrays out of and into blocks, numbers of 32 bits. -/
namespace Go.Proofs.YtfbjjblgcgjndaaGreat
open Go.RowKit

section
variable {P : Program} {ops : Array Oper} {rest : List Oper} {o : Oper} {a : Act} {w : World} {Q : Exit → Act → World → Prop}
theorem wpList_store_row (hgd : o.guard = none) (ty : TypeId) (x y : Operand) (ho : o.op = .store ty x y)
    (g : Nat) (cells : Array Value) (hx : a.eval x = .pointer (some ⟨g, 0, none⟩)) (hy : a.eval y = .agg cells)
    (t : TypeId) (old : Array Value) (hg : w.heap[g]? = some (.cells old t (0, 0))) (hi : (P.info? ty).map (·.size) = some cells.size)
    (hold : old.size = cells.size) (h1 : cells.all (·.oneCell') = true)
    (h : wpList P ops Q rest (a.put o.dst undef) (w.setRow g cells)) : wpList P ops Q (o :: rest) a w :=
  wpList_plain hgd fun _ hK => wp_store_row ty x y ho g cells hx hy t old hg hi hold h1 (hK _ _ h)
end

theorem setRow_alloc2 (w : World) (o : Obj) (c c' : Array Value) (t : TypeId) : ((w.alloc o).alloc (.cells c t)).setRow (w.heap.size + 1) c' = (w.alloc o).alloc (.cells c' t) := by
  have := World.setRow_alloc_new (w.alloc o) c c' t
  rwa [show (w.alloc o).heap.size = w.heap.size + 1 from by simp] at this

theorem ret_u32 {a b : Int} (h : a = b) : Ending.returned (.int .u32 a) = .returned (.int .u32 b) := by rw [h]

theorem Calls.mono' {P : Program} {f : FuncId} {args : Array Value} {w : World} {R R' : Ending → World → Prop} (h : Calls P f args w R) (hr : ∀ e w', R e w' → R' e w') : Calls P f args w R' := h.mono hr


theorem below_drewN {B : Nat} {w W : World} (h : Below B w W) (n : Nat) : Below B w (W.drewN n) := ⟨h.os, h.tape, h.output, h.size, h.block⟩
/-- two steps, the second one's 'below' at its own start -/
theorem below_next {B : Nat} {w w1 w2 : World} (h : Below B w w1) (hB : B ≤ w1.heap.size) (k : Below w1.heap.size w1 w2) : Below B w w2 :=
  h.trans ⟨k.os, k.tape, k.output, k.size, fun i hi => k.block i (Nat.lt_of_lt_of_le hi hB)⟩
theorem below_next0 {w w1 w2 : World} (h : Below w.heap.size w w1) (k : Below w1.heap.size w1 w2) : Below w.heap.size w w2 := below_next h h.size k
theorem below_drew0 {w W : World} (h : Below w.heap.size w W) : Below w.heap.size w W.drew := h.drew
theorem below_alloc0 {w W : World} (h : Below w.heap.size w W) (o : Obj) : Below w.heap.size w (W.alloc o) := h.alloc h.size o

/-! ### Slices that are read -/
/-- one of a list, 0 beyond -/
def nth (l : List Nat) (i : Nat) : Nat := l.getD i 0
theorem nth_eq (l : List Nat) (i : Nat) (h : i < l.length) : l[i]? = some (nth l i) := by
  simp [nth, List.getElem?_eq_getElem h]
theorem nth_get (l : List Nat) (i : Nat) (h : i < l.length) : nth l i = l[i] := by
  simp [nth, List.getElem?_eq_getElem h]
theorem nth_mem (l : List Nat) (i : Nat) (h : i < l.length) : nth l i ∈ l := by rw [nth_get l i h]; exact List.getElem_mem _
theorem take_nth (l : List Nat) (k : Nat) (h : k < l.length) : l.take (k + 1) = l.take k ++ [nth l k] := by
  rw [List.take_succ_eq_append_getElem h, nth_get l k h]
/-- all are bytes -/
def Bytes (l : List Nat) : Prop := ∀ c ∈ l, c < 256
instance (l : List Nat) : Decidable (Bytes l) := inferInstanceAs (Decidable (∀ c ∈ l, c < 256))
theorem Bytes.nth {l : List Nat} (h : Bytes l) (i : Nat) (hi : i < l.length) : nth l i < 256 := h _ (nth_mem l i hi)
theorem Bytes.take {l : List Nat} (h : Bytes l) (k : Nat) : Bytes (l.take k) := fun c hc => h c (List.mem_of_mem_take hc)
theorem Bytes.drop {l : List Nat} (h : Bytes l) (k : Nat) : Bytes (l.drop k) := fun c hc => h c (List.mem_of_mem_drop hc)
theorem Bytes.append {l m : List Nat} (h : Bytes l) (k : Bytes m) : Bytes (l ++ m) := fun c hc => by
  rcases List.mem_append.1 hc with hc | hc
  · exact h c hc
  · exact k c hc
theorem Bytes.nil : Bytes [] := fun c hc => by simp at hc
theorem Bytes.cons {a : Nat} {l : List Nat} (ha : a < 256) (h : Bytes l) : Bytes (a :: l) := fun c hc => by
  rcases List.mem_cons.1 hc with hc | hc
  · omega
  · exact h c hc
theorem Bytes.set {l : List Nat} (h : Bytes l) (j : Nat) {v : Nat} (hv : v < 256) : Bytes (l.set j v) := fun c hc => by
  rcases List.mem_or_eq_of_mem_set hc with hc | hc
  · exact h c hc
  · omega
theorem Bytes.zeros (n : Nat) : Bytes (List.replicate n 0) := fun c hc => by rw [List.mem_replicate] at hc; omega

/-- numbers as cells -/
def ns (k : IntKind) (l : List Nat) : List Value := l.map fun (n : Nat) => .int k (n : Int)
theorem ns_length (k : IntKind) (l : List Nat) : (ns k l).length = l.length := by simp [ns]
theorem ns_append (k : IntKind) (l m : List Nat) : ns k (l ++ m) = ns k l ++ ns k m := by simp [ns]
theorem ns_get (k : IntKind) (l : List Nat) (i : Nat) (h : i < l.length) : (ns k l)[i]? = some (.int k (nth l i : Int)) := by
  simp [ns, nth_eq l i h]
theorem ns_one (k : IntKind) (l : List Nat) : ∀ v ∈ ns k l, v.oneCell' = true := by
  intro v hv
  simp [ns] at hv
  obtain ⟨a, _, rfl⟩ := hv
  rfl

/-- At A lie the cells xs: what a slice's address is good for. -/
def At (w : World) (A : Option Addr) (xs : List Value) : Prop := xs ≠ [] → ∃ b o, A = some ⟨b, o, none⟩ ∧ w.rangeAt b o xs
theorem At.nil (w : World) (A : Option Addr) : At w A [] := fun h => absurd rfl h
theorem At.num {w : World} {A : Option Addr} {k : IntKind} {l : List Nat} (h : At w A (ns k l)) (i : Nat) (hi : i < l.length) :
    ∃ b o, A = some ⟨b, o, none⟩ ∧ w.cell? ⟨b, o + i, none⟩ = some (.int k (nth l i : Int)) := by
  obtain ⟨b, o, e, hr⟩ := h (by intro hn; have := congrArg List.length hn; simp [ns] at this; subst this; simp at hi)
  exact ⟨b, o, e, hr i _ (ns_get k l i hi)⟩
theorem At.same {w w' : World} {A : Option Addr} {xs : List Value} (h : At w A xs) (hc : ∀ a v, w.cell? a = some v → w'.cell? a = some v) : At w' A xs := fun hn => by
  obtain ⟨b, o, e, hr⟩ := h hn
  exact ⟨b, o, e, fun j v hv => hc _ _ (hr j v hv)⟩
theorem At.below {w w' : World} {A : Option Addr} {xs : List Value} (h : At w A xs) (hb : Below w.heap.size w w') : At w' A xs :=
  h.same fun a v hv => (hb.cell (World.block_lt_of_cell? w a hv)).trans hv


theorem At.box (W : World) (v : Value) (t : TypeId) (b : Nat) (hb : b = W.heap.size) : At (W.alloc (.cells #[v] t)) (some ⟨b, 0, none⟩) [v] := fun _ => by
  subst hb
  refine ⟨_, 0, rfl, fun j u hu => ?_⟩
  rw [cell_of_row _ _ _ #[v] t (0, 0) (heap_alloc_new W _)]
  match j, hu with
  | 0, hu => simpa using hu
theorem At.block {w : World} {b : Nat} {cs : Array Value} {t : TypeId} {fr : Nat × Nat} (h : w.heap[b]? = some (.cells cs t fr)) (o : Nat) (xs : List Value) (hx : ∀ j v, xs[j]? = some v → cs[o + j]? = some v) : At w (some ⟨b, o, none⟩) xs := fun _ =>
  ⟨b, o, rfl, fun j v hv => by rw [cell_of_row w b (o + j) cs t fr h]; exact hx j v hv⟩
theorem At.whole {w : World} {b : Nat} {xs : List Value} {t : TypeId} {fr : Nat × Nat} (h : w.heap[b]? = some (.cells xs.toArray t fr)) : At w (some ⟨b, 0, none⟩) xs :=
  At.block h 0 xs fun j v hv => by simpa using hv
theorem At.pre {w : World} {A : Option Addr} {xs ys : List Value} (h : At w A (xs ++ ys)) : At w A xs := fun hn => by
  obtain ⟨b, o, e, hr⟩ := h (by intro he; exact hn (List.append_eq_nil_iff.1 he).1)
  refine ⟨b, o, e, fun j v hv => hr j v ?_⟩
  rw [List.getElem?_append_left (List.getElem?_eq_some_iff.1 hv).1]; exact hv
theorem At.own {w : World} {base n : Nat} {e : TypeId} {size : Nat} {v : Value} {xs : List Value} (h : w.ownsRow base e size v n xs) : ∃ A c, v = .slice A n c ∧ At w A xs ∧ (A = none → c = 0) ∧ n ≤ c ∧ c ≤ maxLen := by
  rcases h.2 with ⟨rfl, rfl⟩ | ⟨g, cap, cur, rfl, hb, hh, h1, h2, h3, h4⟩
  · refine ⟨none, 0, rfl, ?_, fun _ => rfl, Nat.le_refl _, Nat.zero_le _⟩
    have : xs = [] := List.eq_nil_of_length_eq_zero (by simpa using h.1)
    subst this; exact At.nil w none
  · refine ⟨_, cap, rfl, ?_, fun e => by simp at e, h1, h2⟩
    refine At.block hh 0 xs fun j v hv => ?_
    rw [← h4, List.getElem?_take] at hv
    split at hv
    · simpa using hv
    · cases hv
theorem own_below {w w1 : World} {base : Nat} {e : TypeId} {size n : Nat} {v : Value} {xs : List Value} (h : w.ownsRow base e size v n xs) (hb : Below w.heap.size w w1) : w1.ownsRow base e size v n xs :=
  h.kept (row := none) ⟨hb.os, hb.tape, hb.output, hb.size, fun i hi _ => hb.block i hi⟩ (by cases v.ownBlock <;> simp)
theorem below_grown {B : Nat} {w w1 : World} (h : Below B w w1) {row : Option Nat} {w2 : World} (hg : w1.grownBy w2 row) (hB : B ≤ w1.heap.size) (hr : ∀ k, row = some k → B ≤ k) : Below B w w2 := h.grown hg hB hr
theorem below_of_grown {w w1 : World} (hg : w.grownBy w1 none) : Below w.heap.size w w1 := ⟨hg.os, hg.tape, hg.output, hg.size, fun i hi => hg.block i hi (by simp)⟩
theorem own_base {w : World} {base : Nat} {e : TypeId} {size n : Nat} {v : Value} {xs : List Value} (h : w.ownsRow base e size v n xs) (k : Nat) (hk : v.ownBlock = some k) : base ≤ k := (h.lt k hk).1

section
variable {P : Program} {ops : Array Oper} {rest : List Oper} {o : Oper} {a : Act} {w : World} {Q : Exit → Act → World → Prop}
/-- append: onto nil or a row of the call's own, from whatever -/
theorem wp_append (hgd : o.guard = none) (s x : Operand) (t e : TypeId) (z : Value) (size bytes : Nat)
    (ho : o.op = .call { callee := .builtin .append, args := #[s, x], argTypes := #[t, t] })
    (ht : P.underlying t = some (.slice e)) (hinfo : (P.info? e).map (fun i => (i.zero, i.size, i.bytes)) = some (some z, size, bytes)) (hz : z.cells.size = size) (h0 : 0 < size)
    (base : Nat) (v : Value) (n : Nat) (xs : List Value) (hs : a.eval s = v) (hown : w.ownsRow base e size v n xs)
    (A : Option Addr) (m c : Nat) (news : List Value) (hx : a.eval x = .slice A m c) (hl : news.length = m * size) (hAt : At w A news) (hnil : A = none → c = 0) (h1 : ∀ u ∈ news, u.oneCell' = true)
    (h63 : n + m ≤ 140737488355328) (hbytes : (n + m) * bytes ≤ 140737488355328) (hbase : base ≤ w.heap.size)
    (h : ∀ v' w', w'.ownsRow base e size v' (n + m) (xs ++ news) → w.grownBy w' v.ownBlock → (v'.ownBlock = v.ownBlock ∨ ∃ b, v'.ownBlock = some b ∧ w.heap.size ≤ b) → wpList P ops Q rest (a.put o.dst v') w') :
    wpList P ops Q (o :: rest) a w := by
  obtain ⟨i0, hi, hzz⟩ := Option.map_eq_some_iff.1 hinfo
  simp only [Prod.mk.injEq] at hzz
  obtain ⟨hz0, hz1, hz2⟩ := hzz
  cases A with
  | none =>
    have hn : news = [] := Classical.byContradiction fun hn => by obtain ⟨b, o, e, _⟩ := hAt hn; cases e
    subst hn
    have hm : m = 0 := by
      have : m * size = 0 := by simpa using hl.symm
      rcases Nat.mul_eq_zero.1 this with h | h
      · exact h
      · omega
    subst hm
    obtain rfl := hnil rfl
    refine wpList_append_own_none hgd s x t ho base e i0 size ht hi v n xs hs hown hx ?_
    exact h v w (by simpa using hown) (World.grownBy.refl _ _) (.inl rfl)
  | some ad =>
    have hnews : ∀ j u, news[j]? = some u → w.cell? (ad.add j) = some u := fun j u hu => by
      obtain ⟨b, o, e, hr⟩ := hAt (by intro hn; subst hn; simp at hu)
      cases e
      rw [Addr.add_mid]; exact hr j u hu
    refine wpList_append_own_at w hgd s x t ho base e i0 z size bytes ht hi hz0 hz1 hz2 hz h0 v n xs hs hown ad m c news hx hl hnews h1 (by simp only [maxLen]; omega) hbytes hbase ?_
    intro v' w' a1 a2 _ a4
    refine h v' w' a1 a2 ?_
    rcases a4 with a4 | a4
    · exact .inl a4
    · exact .inr ⟨_, a4, Nat.le_refl _⟩
/-- append within the capacity -/
theorem wp_append_fits (hgd : o.guard = none) (s x : Operand) (t e : TypeId) (z : Value) (size bytes : Nat)
    (ho : o.op = .call { callee := .builtin .append, args := #[s, x], argTypes := #[t, t] })
    (ht : P.underlying t = some (.slice e)) (hinfo : (P.info? e).map (fun i => (i.zero, i.size, i.bytes)) = some (some z, size, bytes)) (h0 : 0 < size)
    (base g k cap : Nat) (xs : List Value) (hs : a.eval s = .slice (some ⟨g, 0, none⟩) k cap) (hown : w.ownsRow base e size (.slice (some ⟨g, 0, none⟩) k cap) k xs)
    (A : Option Addr) (m c : Nat) (news : List Value) (hx : a.eval x = .slice A m c) (hl : news.length = m * size) (hAt : At w A news) (hnil : A = none → c = 0) (h1 : ∀ u ∈ news, u.oneCell' = true) (b1 : k + m ≤ cap)
    (h : ∀ w', w'.ownsRow base e size (.slice (some ⟨g, 0, none⟩) (k + m) cap) (k + m) (xs ++ news) → w.grownBy w' (some g) → wpList P ops Q rest (a.put o.dst (.slice (some ⟨g, 0, none⟩) (k + m) cap)) w') :
    wpList P ops Q (o :: rest) a w := by
  obtain ⟨i0, hi, hzz⟩ := Option.map_eq_some_iff.1 hinfo
  simp only [Prod.mk.injEq] at hzz
  obtain ⟨hz0, hz1, hz2⟩ := hzz
  refine wpList_append_fits_any w hgd s x t ho base e i0 size ht hi hz1 g k cap xs hs hown A m c news hx hl ?_ ?_ h1 b1 h
  · rintro rfl
    have hn : news = [] := Classical.byContradiction fun hn => by obtain ⟨b, o, e, _⟩ := hAt hn; cases e
    subst hn
    have : m * size = 0 := by simpa using hl.symm
    refine ⟨?_, hnil rfl⟩
    rcases Nat.mul_eq_zero.1 this with h | h
    · exact h
    · omega
  · rintro ad rfl j u hu
    obtain ⟨b, o, e, hr⟩ := hAt (by intro hn; subst hn; simp at hu)
    cases e
    rw [Addr.add_mid]; exact hr j u hu
/-- make([]T, 0, n) -/
theorem wp_make0 (hg : o.guard = none) (l c : Operand) (t e : TypeId) (z : Value) (size bytes : Nat) (hop : o.op = Op.makeSlice t l c)
    (h1 : P.underlying t = some (.slice e)) (hinfo : (P.info? e).map (fun i => (i.zero, i.size, i.bytes)) = some (some z, size, bytes))
    (base : Nat) (kl kc : IntKind) (C : Int) (n : Nat) (hl : a.eval l = .int kl 0) (hc : a.eval c = .int kc C) (hC : C = (n : Int)) (b2 : bytes * n ≤ 281474976710656) (b3 : n ≤ 140737488355328) (b4 : base ≤ w.heap.size)
    (hK : ∀ w', w'.ownsRow base e size (.slice (some ⟨w.heap.size, 0, none⟩) 0 n) 0 [] → w.grownBy w' none → wpList P ops Q rest (a.put o.dst (.slice (some ⟨w.heap.size, 0, none⟩) 0 n)) w') :
    wpList P ops Q (o :: rest) a w := by
  obtain ⟨i0, hi, hzz⟩ := Option.map_eq_some_iff.1 hinfo
  simp only [Prod.mk.injEq] at hzz
  obtain ⟨hz0, hz1, hz2⟩ := hzz
  exact wpList_make_own w hg l c t hop base e i0 z size h1 hi hz0 hz1 kl kc C n hl hc hC (by rw [hz2]; exact b2) (by simp only [maxLen]; omega) b4 hK
/-- make([]T, n) -/
theorem wp_make (hg : o.guard = none) (l c : Operand) (t e : TypeId) (z : Value) (size bytes : Nat) (hop : o.op = Op.makeSlice t l c)
    (h1 : P.underlying t = some (.slice e)) (hinfo : (P.info? e).map (fun i => (i.zero, i.size, i.bytes)) = some (some z, size, bytes))
    (base : Nat) (kl kc : IntKind) (L C : Int) (n : Nat) (hl : a.eval l = .int kl L) (hc : a.eval c = .int kc C) (hL : L = (n : Int)) (hC : C = (n : Int)) (b2 : bytes * n ≤ 281474976710656) (b3 : n ≤ 140737488355328) (b4 : base ≤ w.heap.size)
    (hK : ∀ w', w'.ownsRow base e size (.slice (some ⟨w.heap.size, 0, none⟩) n n) n (madeCells z.cells (n * size)).toList → w.grownBy w' none → wpList P ops Q rest (a.put o.dst (.slice (some ⟨w.heap.size, 0, none⟩) n n)) w') :
    wpList P ops Q (o :: rest) a w := by
  obtain ⟨i0, hi, hzz⟩ := Option.map_eq_some_iff.1 hinfo
  simp only [Prod.mk.injEq] at hzz
  obtain ⟨hz0, hz1, hz2⟩ := hzz
  exact wpList_make_full w hg l c t hop base e i0 z size h1 hi hz0 hz1 kl kc L C n hl hc hL hC (by rw [hz2]; exact b2) (by simp only [maxLen]; omega) b4 hK
end

/-- A row with all its room taken is its block. -/
theorem own_full {w : World} {base g n : Nat} {e : TypeId} {xs : List Value} (h : w.ownsRow base e 1 (.slice (some ⟨g, 0, none⟩) n n) n xs) : w.heap[g]? = some (.cells xs.toArray e (0, 0)) := by
  rcases h.2 with ⟨he, _⟩ | ⟨g', cap, cur, he, hb, hh, h1, h2, h3, h4⟩
  · cases he
  · injection he with e1 e2 e3
    injection e1 with e1
    injection e1 with e1
    subst e1 e3
    rw [List.take_of_length_le (by simp; omega)] at h4
    rw [← h4]; simpa using hh

theorem Tryz.info5 : (Tryz.prog.info? 5).map (fun i => (i.zero, i.size, i.bytes)) = some (some (.int .u8 0), 1, 1) := by kernel_rfl

end Go.Proofs.YtfbjjblgcgjndaaGreat

/- More general lemmas: lists that a loop fills, min, sums of slices cut. -/
namespace Go.Proofs.YtfbjjblgcgjndaaGreat
open Go.RowKit

theorem min2_int (k k' : IntKind) (x y : Int) : Builtin.min2 (.int k x) (.int k' y) = pure (.int k (if y < x then y else x)) := by simp only [Builtin.min2]
theorem min_two (ats : Array TypeId) (ty : TypeId) (a b : Value) : Builtin.min_ ats ty #[a, b] = (Builtin.min2 a b >>= fun s => pure s) := by simp only [Builtin.min_, List.foldlM_cons, List.foldlM_nil]

/-- a list of n, the first k of them f's, the others z -/
def fillAt (f : Nat → Nat) (z k n : Nat) : List Nat := (List.range n).map fun i => if i < k then f i else z
theorem fillAt_length (f : Nat → Nat) (z k n : Nat) : (fillAt f z k n).length = n := by simp [fillAt]
theorem fillAt_get (f : Nat → Nat) (z k n i : Nat) (h : i < n) : (fillAt f z k n)[i]? = some (if i < k then f i else z) := by simp [fillAt, h]
theorem fillAt_nth (f : Nat → Nat) (z k n i : Nat) (h : i < n) : nth (fillAt f z k n) i = if i < k then f i else z := by
  have := fillAt_get f z k n i h
  rw [nth_eq _ i (by rw [fillAt_length]; exact h)] at this
  exact Option.some.inj this
theorem fillAt_zero (f : Nat → Nat) (z n : Nat) : fillAt f z 0 n = List.replicate n z := by
  apply List.ext_getElem?
  intro i
  by_cases h : i < n
  · rw [fillAt_get f z 0 n i h, List.getElem?_replicate]; simp [h]
  · rw [List.getElem?_eq_none (by rw [fillAt_length]; omega), List.getElem?_eq_none (by simp; omega)]
theorem fillAt_set (kd : IntKind) (f : Nat → Nat) (z k n : Nat) (h : k < n) : (ns kd (fillAt f z k n)).toArray.setIfInBounds k (.int kd ((f k : Nat) : Int)) = (ns kd (fillAt f z (k + 1) n)).toArray := by
  apply Array.ext_getElem?
  intro i
  by_cases hi : i < n
  · have e1 : (ns kd (fillAt f z (k + 1) n)).toArray[i]? = some (.int kd ((if i < k + 1 then f i else z : Nat) : Int)) := by
      simp [ns, fillAt_get f z (k + 1) n i hi]
    have e2 : (ns kd (fillAt f z k n)).toArray[i]? = some (.int kd ((if i < k then f i else z : Nat) : Int)) := by
      simp [ns, fillAt_get f z k n i hi]
    rw [e1, Array.getElem?_setIfInBounds]
    by_cases e : k = i
    · subst e
      rw [if_pos rfl, if_pos (by simp [ns, fillAt_length]; exact h), if_pos (by omega)]
    · rw [if_neg e, e2]
      by_cases hik : i < k
      · rw [if_pos hik, if_pos (by omega)]
      · rw [if_neg hik, if_neg (by omega)]
  · rw [Array.getElem?_eq_none (by simp [ns, fillAt_length]; omega), Array.getElem?_eq_none (by simp [ns, fillAt_length]; omega)]
theorem fillAt_size (kd : IntKind) (f : Nat → Nat) (z k n : Nat) : (ns kd (fillAt f z k n)).toArray.size = n := by simp [ns, fillAt_length]
theorem fillAt_all (f : Nat → Nat) (z n : Nat) : fillAt f z n n = (List.range n).map f := by
  unfold fillAt
  apply List.map_congr_left
  intro i hi
  rw [if_pos (List.mem_range.1 hi)]
theorem fillAt_bytes (f : Nat → Nat) (z k n : Nat) (hf : ∀ i, i < n → f i < 256) (hz : z < 256) : Bytes (fillAt f z k n) := by
  intro c hc
  simp only [fillAt, List.mem_map, List.mem_range] at hc
  obtain ⟨i, hi, rfl⟩ := hc
  split
  · exact hf i hi
  · exact hz
/-- zero bytes as make lays them -/
theorem made_ns (kd : IntKind) (n : Nat) : (madeCells #[.int kd 0] n).toList = ns kd (List.replicate n 0) := by
  rw [toList_madeCells_one]; simp [ns]

theorem At.takes {w : World} {A : Option Addr} {k : IntKind} {l : List Nat} (h : At w A (ns k l)) (n : Nat) : At w A (ns k (l.take n)) := by
  have : ns k l = ns k (l.take n) ++ ns k (l.drop n) := by rw [← ns_append, List.take_append_drop]
  rw [this] at h
  exact h.pre

/-- the shape of what is owned, where there is something -/
theorem own_form {w : World} {base n : Nat} {e : TypeId} {size : Nat} {v : Value} {xs : List Value} (h : w.ownsRow base e size v n xs) (h0 : 0 < n) :
    ∃ g cap, v = .slice (some ⟨g, 0, none⟩) n cap ∧ base ≤ g ∧ g < w.heap.size ∧ n ≤ cap ∧ cap ≤ maxLen := by
  rcases h.2 with ⟨_, e⟩ | ⟨g, cap, cur, rfl, hb, hh, h1, h2, _⟩
  · omega
  · exact ⟨g, cap, rfl, hb, (Array.getElem?_eq_some_iff.1 hh).1, h1, h2⟩
/-- a cell of an owned row of numbers -/
theorem own_cell {w : World} {base n g cap : Nat} {e : TypeId} {k : IntKind} {l : List Nat} (h : w.ownsRow base e 1 (.slice (some ⟨g, 0, none⟩) n cap) n (ns k l)) (j : Nat) (hj : j < n) : w.cell? ⟨g, j, none⟩ = some (.int k (nth l j : Int)) := by
  have hl : l.length = n := by have := h.1; simpa [ns] using this
  have := h.cellAt j (by omega)
  rw [this, ns_get k l j (by omega)]
theorem ns_set (k : IntKind) (l : List Nat) (j v : Nat) : (ns k l).set j (.int k (v : Int)) = ns k (l.set j v) := by simp [ns, List.map_set]
theorem own_set {w : World} {base n g cap : Nat} {e : TypeId} {k : IntKind} {l : List Nat} (h : w.ownsRow base e 1 (.slice (some ⟨g, 0, none⟩) n cap) n (ns k l)) (j v : Nat) :
    (w.setCell ⟨g, j, none⟩ (.int k (v : Int))).ownsRow base e 1 (.slice (some ⟨g, 0, none⟩) n cap) n (ns k (l.set j v)) := by
  have := (h.stored j (.int k (v : Int))).1
  rwa [ns_set] at this

/-- a list of bytes that lies in memory: where, what, its room -/
structure Inner where
  A : Option Addr
  l : List Nat
  c : Nat
def Inner.val (r : Inner) : Value := .slice r.A r.l.length r.c
structure Inner.Ok (w : World) (r : Inner) : Prop where
  lies : At w r.A (ns .u8 r.l)
  nil : r.A = none → r.c = 0
  le : r.l.length ≤ r.c
  small : r.l.length ≤ 140737488351232
  bytes : Bytes r.l
theorem Inner.Ok.below {w w' : World} {r : Inner} (h : r.Ok w) (hb : Below w.heap.size w w') : r.Ok w' := ⟨h.lies.below hb, h.nil, h.le, h.small, h.bytes⟩

def rowAt (rs : List Inner) (k : Nat) : Inner := rs.getD k ⟨none, [], 0⟩
theorem rowAt_get (rs : List Inner) (k : Nat) (h : k < rs.length) : rs[k]? = some (rowAt rs k) := by simp [rowAt, List.getElem?_eq_getElem h]
theorem rowAt_mem (rs : List Inner) (k : Nat) (h : k < rs.length) : rowAt rs k ∈ rs := List.mem_of_getElem? (rowAt_get rs k h)
theorem rows_cell {w : World} {A : Option Addr} {rs : List Inner} (h : At w A (rs.map Inner.val)) (k : Nat) (hk : k < rs.length) :
    ∃ b o, A = some ⟨b, o, none⟩ ∧ w.cell? ⟨b, o + k, none⟩ = some (.slice (rowAt rs k).A (rowAt rs k).l.length (rowAt rs k).c) := by
  obtain ⟨b, o, e, hr⟩ := h (by intro hn; have := congrArg List.length hn; simp at this; subst this; simp at hk)
  exact ⟨b, o, e, hr k _ (by rw [List.getElem?_map, rowAt_get rs k hk]; rfl)⟩

theorem rows_cell' {w : World} {b o : Nat} {rs : List Inner} (h : At w (some ⟨b, o, none⟩) (rs.map Inner.val)) (k : Nat) (hk : k < rs.length) :
    w.cell? ⟨b, o + k, none⟩ = some (.slice (rowAt rs k).A (rowAt rs k).l.length (rowAt rs k).c) := by
  obtain ⟨b', o', e, hc⟩ := rows_cell h k hk
  cases e; exact hc
end Go.Proofs.YtfbjjblgcgjndaaGreat

/- What a step leaves as it was: a world that is another one but for some blocks and new ones. -/
namespace Go.Proofs.YtfbjjblgcgjndaaGreat
open Go.RowKit

/-- w' is w but for the blocks of F and new ones -/
structure Chg (F : Nat → Prop) (w w' : World) : Prop where
  os : w'.os = w.os
  tape : w'.tape = w.tape
  output : w'.output = w.output
  size : w.heap.size ≤ w'.heap.size
  block : ∀ k, k < w.heap.size → ¬ F k → w'.heap[k]? = w.heap[k]?
theorem Chg.refl (F : Nat → Prop) (w : World) : Chg F w w := ⟨rfl, rfl, rfl, Nat.le_refl _, fun _ _ _ => rfl⟩
theorem Chg.of_below {F : Nat → Prop} {w w' : World} (h : Below w.heap.size w w') : Chg F w w' := ⟨h.os, h.tape, h.output, h.size, fun k hk _ => h.block k hk⟩
theorem Chg.of_grown {F : Nat → Prop} {w w' : World} {r : Option Nat} (h : w.grownBy w' r) (hr : ∀ g, r = some g → F g) : Chg F w w' :=
  ⟨h.os, h.tape, h.output, h.size, fun k hk hF => h.block k hk (fun e => hF (hr k e.symm))⟩
theorem Chg.mono {F G : Nat → Prop} {w w' : World} (h : Chg F w w') (hg : ∀ k, k < w.heap.size → F k → G k) : Chg G w w' :=
  ⟨h.os, h.tape, h.output, h.size, fun k hk hG => h.block k hk (fun hF => hG (hg k hk hF))⟩
theorem Chg.trans {F G : Nat → Prop} {w w1 w2 : World} (h : Chg F w w1) (k : Chg G w1 w2) (hg : ∀ j, j < w.heap.size → G j → F j) : Chg F w w2 :=
  ⟨k.os.trans h.os, k.tape.trans h.tape, k.output.trans h.output, Nat.le_trans h.size k.size, fun j hj hF =>
    (k.block j (Nat.lt_of_lt_of_le hj h.size) (fun hG => hF (hg j hj hG))).trans (h.block j hj hF)⟩
theorem Chg.below {F : Nat → Prop} {w w' : World} {B : Nat} (h : Chg F w w') (hB : B ≤ w.heap.size) (hF : ∀ k, F k → B ≤ k) : Below B w w' :=
  ⟨h.os, h.tape, h.output, h.size, fun k hk => h.block k (Nat.lt_of_lt_of_le hk hB) (fun hk' => by have := hF k hk'; omega)⟩
theorem Chg.drewN {F : Nat → Prop} {w w' : World} (h : Chg F w w') (n : Nat) : Chg F w (w'.drewN n) := ⟨h.os, h.tape, h.output, h.size, h.block⟩
theorem Chg.drew {F : Nat → Prop} {w w' : World} (h : Chg F w w') : Chg F w w'.drew := ⟨h.os, h.tape, h.output, h.size, h.block⟩
theorem Chg.alloc {F : Nat → Prop} {w w' : World} (h : Chg F w w') (o : Obj) : Chg F w (w'.alloc o) :=
  h.trans (.of_below (F := F) (below_alloc0 (Below.refl _ _) o)) (fun _ _ h => h)
theorem Chg.setCell {F : Nat → Prop} {w w' : World} (h : Chg F w w') (a : Addr) (v : Value) (hF : F a.block ∨ w.heap.size ≤ a.block) : Chg F w (w'.setCell a v) := by
  refine ⟨h.os, h.tape, h.output, by simpa [World.setCell] using h.size, fun k hk hk' => ?_⟩
  have : k ≠ a.block := fun e => by
    rcases hF with hF | hF
    · exact hk' (by rw [e]; exact hF)
    · omega
  rw [Below.heap_setCell _ _ _ _ this]
  exact h.block k hk hk'
theorem Chg.cell {F : Nat → Prop} {w w' : World} (h : Chg F w w') {a : Addr} {v : Value} (hc : w.cell? a = some v) (hF : ¬ F a.block) : w'.cell? a = some v := by
  have hlt := World.block_lt_of_cell? w a hc
  unfold World.cell? at hc ⊢
  rw [h.block _ hlt hF]; exact hc
theorem At.chg {F : Nat → Prop} {w w' : World} {A : Option Addr} {xs : List Value} (h : At w A xs) (hc : Chg F w w') (hF : ∀ a, A = some a → ¬ F a.block) : At w' A xs := fun hn => by
  obtain ⟨b, o, e, hr⟩ := h hn
  exact ⟨b, o, e, fun j v hv => hc.cell (hr j v hv) (hF ⟨b, o, none⟩ e)⟩
/-- a row stays where its block is none of those -/
theorem own_chg {F : Nat → Prop} {w w' : World} {base : Nat} {e : TypeId} {size n : Nat} {v : Value} {xs : List Value} (h : w.ownsRow base e size v n xs) (hc : Chg F w w') (hF : ∀ g, v.ownBlock = some g → ¬ F g) : w'.ownsRow base e size v n xs := by
  refine ⟨h.1, ?_⟩
  rcases h.2 with h2 | ⟨g, cap, cur, rfl, h1, h2, h3⟩
  · exact .inl h2
  · refine .inr ⟨g, cap, cur, rfl, h1, ?_, h3⟩
    rw [hc.block g (Array.getElem?_eq_some_iff.1 h2).1 (hF g rfl)]; exact h2
theorem row_lt {w : World} {base : Nat} {e : TypeId} {size n : Nat} {v : Value} {xs : List Value} (h : w.ownsRow base e size v n xs) {g : Nat} (hg : v.ownBlock = some g) : base ≤ g ∧ g < w.heap.size := h.lt g hg
theorem own_up {w : World} {base b2 : Nat} {e : TypeId} {size n : Nat} {v : Value} {xs : List Value} (h : w.ownsRow base e size v n xs) (hb : ∀ g, v.ownBlock = some g → b2 ≤ g) : w.ownsRow b2 e size v n xs := by
  refine ⟨h.1, ?_⟩
  rcases h.2 with h2 | ⟨g, cap, cur, rfl, h1, h2⟩
  · exact .inl h2
  · exact .inr ⟨g, cap, cur, rfl, hb g rfl, h2⟩

section
variable {P : Program} {ops : Array Oper} {rest : List Oper} {o : Oper} {a : Act} {w : World} {Q : Exit → Act → World → Prop}
/-- append onto a row of the call's own: it fits, and the block is written; or a new block is made, and nothing is written -/
theorem wp_append2 (hgd : o.guard = none) (s x : Operand) (t e : TypeId) (z : Value) (size bytes : Nat)
    (ho : o.op = .call { callee := .builtin .append, args := #[s, x], argTypes := #[t, t] })
    (ht : P.underlying t = some (.slice e)) (hinfo : (P.info? e).map (fun i => (i.zero, i.size, i.bytes)) = some (some z, size, bytes)) (hz : z.cells.size = size) (h0 : 0 < size)
    (base : Nat) (v : Value) (n : Nat) (xs : List Value) (hs : a.eval s = v) (hown : w.ownsRow base e size v n xs)
    (A : Option Addr) (m c : Nat) (news : List Value) (hx : a.eval x = .slice A m c) (hl : news.length = m * size) (hAt : At w A news) (hnil : A = none → c = 0) (h1 : ∀ u ∈ news, u.oneCell' = true)
    (h63 : n + m ≤ 140737488355328) (hbytes : (n + m) * bytes ≤ 140737488355328) (hbase : base ≤ w.heap.size)
    (h : ∀ v' w', w'.ownsRow base e size v' (n + m) (xs ++ news) → (w.grownBy w' v.ownBlock ∧ v'.ownBlock = v.ownBlock) ∨ (w.grownBy w' none ∧ ∃ g, v'.ownBlock = some g ∧ w.heap.size ≤ g) → wpList P ops Q rest (a.put o.dst v') w') :
    wpList P ops Q (o :: rest) a w := by
  obtain ⟨i0, hi, hzz⟩ := Option.map_eq_some_iff.1 hinfo
  simp only [Prod.mk.injEq] at hzz
  obtain ⟨hz0, hz1, hz2⟩ := hzz
  cases A with
  | none =>
    have hn : news = [] := Classical.byContradiction fun hn => by obtain ⟨b, o, e, _⟩ := hAt hn; cases e
    subst hn
    have hm : m = 0 := by
      have : m * size = 0 := by simpa using hl.symm
      rcases Nat.mul_eq_zero.1 this with h | h
      · exact h
      · omega
    subst hm
    obtain rfl := hnil rfl
    refine wpList_append_own_none hgd s x t ho base e i0 size ht hi v n xs hs hown hx ?_
    exact h v w (by simpa using hown) (.inl ⟨World.grownBy.refl _ _, rfl⟩)
  | some ad =>
    have hnews : ∀ j u, news[j]? = some u → w.cell? (ad.add j) = some u := fun j u hu => by
      obtain ⟨b, o, e, hr⟩ := hAt (by intro hn; subst hn; simp at hu)
      cases e
      rw [Addr.add_mid]; exact hr j u hu
    rcases hown.2 with ⟨hv, hn0⟩ | ⟨g, cap, cur, hv, hb, hh, h3, h4, h5, h6⟩
    · refine wpList_append_own_at w hgd s x t ho base e i0 z size bytes ht hi hz0 hz1 hz2 hz h0 v n xs hs hown ad m c news hx hl hnews h1 (by simp only [maxLen]; omega) hbytes hbase ?_
      intro v' w' a1 a2 _ a4
      refine h v' w' a1 ?_
      have hvo : v.ownBlock = none := by rw [hv]; rfl
      rw [hvo] at a2 a4 ⊢
      rcases a4 with a4 | a4
      · exact .inl ⟨a2, a4⟩
      · exact .inr ⟨a2, _, a4, Nat.le_refl _⟩
    · subst hv
      by_cases hroom : n + m ≤ cap
      · refine wp_append_fits hgd s x t e z size bytes ho ht hinfo h0 base g n cap xs hs hown (some ad) m c news hx hl hAt hnil h1 hroom ?_
        intro w' a1 a2
        exact h _ w' a1 (.inl ⟨a2, rfl⟩)
      · refine wpList_append_grows w hgd s x t ho e i0 z size bytes ht hi hz0 hz1 hz2 hz h0 (some ⟨g, 0, none⟩) n cap xs hs (by simp) hown.1 ?_ ad m c news hx hl hnews h1 (by omega) (by simp only [maxLen]; omega) hbytes ?_
        · intro b hb2 j u hu
          cases hb2
          rw [Addr.add_mid]
          rw [cell_of_row w g _ cur e (0, 0) hh]
          rw [← h6, List.getElem?_take] at hu
          split at hu
          · simpa using hu
          · cases hu
        · intro v' w' a1 a2
          have hge : ∃ g', v'.ownBlock = some g' ∧ w.heap.size ≤ g' := by
            rcases a1.2 with ⟨_, hz⟩ | ⟨g', cap', cur', rfl, hb', _⟩
            · omega
            · exact ⟨g', rfl, hb'⟩
          refine h v' w' (own_up a1 ?_) (.inr ⟨a2, hge⟩)
          intro g' hg'
          obtain ⟨g'', e1, e2⟩ := hge
          rw [e1] at hg'; cases hg'; omega
end
end Go.Proofs.YtfbjjblgcgjndaaGreat

/- Lists that came out, each with memory of its own: what writing and appending leaves of them. -/
namespace Go.Proofs.YtfbjjblgcgjndaaGreat
open Go.RowKit

/-- a list by its places -/
def lst (f : Nat → Value) (n : Nat) : List Value := (List.range n).map f
theorem lst_length (f : Nat → Value) (n : Nat) : (lst f n).length = n := by simp [lst]
theorem lst_get (f : Nat → Value) (n k : Nat) (h : k < n) : (lst f n)[k]? = some (f k) := by simp [lst, h]
theorem lst_succ (f : Nat → Value) (n : Nat) : lst f (n + 1) = lst f n ++ [f n] := by simp [lst, List.range_succ]
theorem lst_congr {f g : Nat → Value} {n : Nat} (h : ∀ j, j < n → f j = g j) : lst f n = lst g n := List.map_congr_left fun j hj => h j (List.mem_range.1 hj)

/-- a row of the call's own, or a clipped one: no room behind it, though its block may have some -/
def Rw (n0 : Nat) (e : TypeId) (w : World) (v : Value) (n : Nat) (xs : List Value) : Prop :=
  xs.length = n ∧ ((v = .slice none 0 0 ∧ n = 0) ∨ ∃ g cap cur, v = .slice (some ⟨g, 0, none⟩) n cap ∧ n0 ≤ g ∧ w.heap[g]? = some (.cells cur e (0, 0)) ∧ n ≤ cap ∧ cap ≤ maxLen ∧ cap ≤ cur.size ∧ (cap = n ∨ cur.size = cap) ∧ cur.toList.take n = xs)
theorem Rw.of {n0 n : Nat} {e : TypeId} {w : World} {v : Value} {xs : List Value} (h : w.ownsRow n0 e 1 v n xs) : Rw n0 e w v n xs := by
  refine ⟨by simpa using h.1, ?_⟩
  rcases h.2 with ⟨h1, h2⟩ | ⟨g, cap, cur, h1, h2, h3, h4, h5, h6, h7⟩
  · exact .inl ⟨h1, h2⟩
  · exact .inr ⟨g, cap, cur, h1, h2, h3, h4, h5, by omega, .inr (by omega), by simpa using h7⟩
theorem Rw.lt {n0 n : Nat} {e : TypeId} {w : World} {v : Value} {xs : List Value} (h : Rw n0 e w v n xs) {g : Nat} (hg : v.ownBlock = some g) : n0 ≤ g ∧ g < w.heap.size := by
  rcases h.2 with ⟨rfl, _⟩ | ⟨g', cap, cur, rfl, h1, h2, _⟩
  · cases hg
  · cases hg; exact ⟨h1, (Array.getElem?_eq_some_iff.1 h2).1⟩
theorem Rw.chg {F : Nat → Prop} {n0 n : Nat} {e : TypeId} {w w' : World} {v : Value} {xs : List Value} (h : Rw n0 e w v n xs) (hc : Chg F w w') (hF : ∀ g, v.ownBlock = some g → ¬ F g) : Rw n0 e w' v n xs := by
  refine ⟨h.1, ?_⟩
  rcases h.2 with h2 | ⟨g, cap, cur, rfl, h1, h2, h3⟩
  · exact .inl h2
  · refine .inr ⟨g, cap, cur, rfl, h1, ?_, h3⟩
    rw [hc.block g (Array.getElem?_eq_some_iff.1 h2).1 (hF g rfl)]; exact h2
theorem Rw.stored {n0 n g cap : Nat} {e : TypeId} {w : World} {xs : List Value} (h : Rw n0 e w (.slice (some ⟨g, 0, none⟩) n cap) n xs) (k : Nat) (x : Value) : Rw n0 e (w.setCell ⟨g, k, none⟩ x) (.slice (some ⟨g, 0, none⟩) n cap) n (xs.set k x) := by
  refine ⟨by rw [List.length_set]; exact h.1, ?_⟩
  rcases h.2 with ⟨h2, _⟩ | ⟨g', cap', cur, h0, h1, h2, h3, h4, h5, h6, h7⟩
  · cases h2
  · cases h0
    refine .inr ⟨g, cap, _, rfl, h1, heap_setCell_same w g k cur e x h2, h3, h4, by simpa using h5, by simpa using h6, ?_⟩
    rw [Array.toList_setIfInBounds, List.take_set, h7]
theorem Rw.up {n0 n1 n : Nat} {e : TypeId} {w : World} {v : Value} {xs : List Value} (h : Rw n0 e w v n xs) (hb : ∀ g, v.ownBlock = some g → n1 ≤ g) : Rw n1 e w v n xs := by
  refine ⟨h.1, ?_⟩
  rcases h.2 with h2 | ⟨g, cap, cur, rfl, h1, h2⟩
  · exact .inl h2
  · exact .inr ⟨g, cap, cur, rfl, hb g rfl, h2⟩
theorem rw_cells {n0 : Nat} {e : TypeId} {w : World} {v : Value} {m : Nat} {c : List Value} (h : Rw n0 e w v m c) : ∃ V cap, v = .slice V m cap ∧ ∀ k, k < m → ∃ g, V = some ⟨g, 0, none⟩ ∧ w.cell? ⟨g, k, none⟩ = c[k]? ∧ w.frozen? ⟨g, k, none⟩ = false := by
  have hcl : c.length = m := h.1
  rcases h.2 with ⟨rfl, rfl⟩ | ⟨g, cap, cur, rfl, h1, h2, h3, h4, h5, h6, h7⟩
  · exact ⟨none, 0, rfl, fun k hk => by omega⟩
  · refine ⟨_, cap, rfl, fun k hk => ⟨g, rfl, ?_, frozen_of_row w g k cur e h2⟩⟩
    rw [cell_of_row w g k cur e (0, 0) h2]
    rw [← h7, List.getElem?_take, if_pos (by omega)]
    simp
section
variable {P : Program} {ops : Array Oper} {rest : List Oper} {o : Oper} {a : Act} {w : World} {Q : Exit → Act → World → Prop}
/-- append onto such a row -/
theorem wp_appendC (hgd : o.guard = none) (s x : Operand) (t e : TypeId) (z : Value) (bytes : Nat)
    (ho : o.op = .call { callee := .builtin .append, args := #[s, x], argTypes := #[t, t] })
    (ht : P.underlying t = some (.slice e)) (hinfo : (P.info? e).map (fun i => (i.zero, i.size, i.bytes)) = some (some z, 1, bytes)) (hz : z.cells.size = 1)
    (base : Nat) (v : Value) (n : Nat) (xs : List Value) (hs : a.eval s = v) (hown : Rw base e w v n xs)
    (A : Option Addr) (m c : Nat) (news : List Value) (hx : a.eval x = .slice A m c) (hl : news.length = m * 1) (hAt : At w A news) (hnil : A = none → c = 0) (h1 : ∀ u ∈ news, u.oneCell' = true) (hm : 0 < m)
    (h63 : n + m ≤ 140737488355328) (hbytes : (n + m) * bytes ≤ 140737488355328) (hbase : base ≤ w.heap.size)
    (h : ∀ v' w', Rw base e w' v' (n + m) (xs ++ news) → (w.grownBy w' v.ownBlock ∧ v'.ownBlock = v.ownBlock) ∨ (w.grownBy w' none ∧ ∃ g, v'.ownBlock = some g ∧ w.heap.size ≤ g) → wpList P ops Q rest (a.put o.dst v') w') :
    wpList P ops Q (o :: rest) a w := by
  have whole : w.ownsRow base e 1 v n xs → wpList P ops Q (o :: rest) a w := fun hw =>
    wp_append2 hgd s x t e z 1 bytes ho ht hinfo hz (by decide) base v n xs hs hw A m c news hx hl hAt hnil h1 h63 hbytes hbase fun v' w' ho' hor => h v' w' (Rw.of ho') hor
  rcases hown.2 with ⟨hv, hn0⟩ | ⟨g, cap, cur, hv, hb, hh, h3, h4, h5, h6, h7⟩
  · exact whole ⟨by simpa using hown.1, .inl ⟨hv, hn0⟩⟩
  · rcases h6 with h6 | h6
    · subst hv h6
      obtain ⟨i0, hi, hzz⟩ := Option.map_eq_some_iff.1 hinfo
      simp only [Prod.mk.injEq] at hzz
      obtain ⟨hz0, hz1, hz2⟩ := hzz
      have hne : news ≠ [] := by intro e; rw [e] at hl; simp at hl; omega
      obtain ⟨b, o', e', hr⟩ := hAt hne
      subst e'
      refine wpList_append_grows w hgd s x t ho e i0 z 1 bytes ht hi hz0 hz1 hz2 hz (by decide) (some ⟨g, 0, none⟩) cap cap xs hs (by simp) (by simpa using hown.1) ?_ ⟨b, o', none⟩ m c news hx hl ?_ h1 (by omega) (by simp only [maxLen]; omega) hbytes ?_
      · intro b hb2 j u hu
        cases hb2
        rw [Addr.add_mid]
        rw [cell_of_row w g _ cur e (0, 0) hh]
        rw [← h7, List.getElem?_take] at hu
        split at hu
        · simpa using hu
        · cases hu
      · intro j u hu
        rw [Addr.add_mid]; exact hr j u hu
      · intro v' w' a1 a2
        have hge : ∃ g', v'.ownBlock = some g' ∧ w.heap.size ≤ g' := by
          rcases a1.2 with ⟨_, hz⟩ | ⟨g', cap', cur', rfl, hb', _⟩
          · omega
          · exact ⟨g', rfl, hb'⟩
        refine h v' w' (Rw.of (own_up a1 ?_)) (.inr ⟨a2, hge⟩)
        intro g' hg'
        obtain ⟨g'', e1, e2⟩ := hge
        rw [e1] at hg'; cases hg'; omega
    · exact whole ⟨by simpa using hown.1, .inr ⟨g, cap, cur, hv, hb, hh, h3, h4, by omega, by simpa using h7⟩⟩
end

/-- a list u that came out, and what it became, v: v's row is the call's own and holds c; u still reads c's first n -/
structure Held (n0 : Nat) (e : TypeId) (w : World) (u v : Value) (n m : Nat) (c : List Value) : Prop where
  own : Rw n0 e w v m c
  old : (u = .slice none 0 0 ∧ n = 0) ∨ ∃ g cap, u = .slice (some ⟨g, 0, none⟩) n cap ∧ n0 ≤ g ∧ g < w.heap.size ∧ w.rangeAt g 0 (c.take n)
  len : n ≤ m
def blk (v : Value) (g : Nat) : Prop := v.ownBlock = some g

theorem Held.start {n0 : Nat} {e : TypeId} {w : World} {u : Value} {n : Nat} {c : List Value} (h : Rw n0 e w u n c) : Held n0 e w u u n n c := by
  refine ⟨h, ?_, Nat.le_refl _⟩
  rcases h.2 with ⟨h1, h2⟩ | ⟨g, cap, cur, rfl, h1, h2, h3, h4, h5, h6, h7⟩
  · exact .inl ⟨h1, h2⟩
  · refine .inr ⟨g, cap, rfl, h1, (Array.getElem?_eq_some_iff.1 h2).1, fun j x hx => ?_⟩
    rw [Nat.zero_add, cell_of_row w g j cur e (0, 0) h2]
    have hjn : j < n := by have := (List.getElem?_eq_some_iff.1 hx).1; rw [List.length_take] at this; omega
    rw [List.getElem?_take, if_pos hjn, ← h7, List.getElem?_take, if_pos hjn] at hx
    simpa using hx
theorem Held.keep {n0 : Nat} {e : TypeId} {w w' : World} {u v : Value} {n m : Nat} {c : List Value} {F : Nat → Prop} (h : Held n0 e w u v n m c) (hc : Chg F w w') (hF : ∀ g, blk u g ∨ blk v g → ¬ F g) : Held n0 e w' u v n m c := by
  refine ⟨h.own.chg hc (fun g hg => hF g (.inr hg)), ?_, h.len⟩
  rcases h.old with h1 | ⟨g, cap, rfl, h1, h2, h3⟩
  · exact .inl h1
  · refine .inr ⟨g, cap, rfl, h1, Nat.lt_of_lt_of_le h2 hc.size, fun j x hx => ?_⟩
    exact hc.cell (h3 j x hx) (hF g (.inl rfl))
theorem Held.lt {n0 : Nat} {e : TypeId} {w : World} {u v : Value} {n m : Nat} {c : List Value} (h : Held n0 e w u v n m c) {g : Nat} (hg : blk u g ∨ blk v g) : n0 ≤ g ∧ g < w.heap.size := by
  rcases hg with hg | hg
  · rcases h.old with ⟨rfl, _⟩ | ⟨g', cap, rfl, h1, h2, _⟩
    · cases hg
    · cases hg; exact ⟨h1, h2⟩
  · exact h.own.lt hg
theorem own_range {n0 : Nat} {e : TypeId} {w : World} {v : Value} {m g : Nat} {c : List Value} (h : Rw n0 e w v m c) (hg : blk v g) : w.rangeAt g 0 c := by
  intro j x hx
  rcases h.2 with ⟨rfl, _⟩ | ⟨g', cap, cur, rfl, h1, h2, h3, h4, h5, h6, h7⟩
  · cases hg
  · cases hg
    rw [Nat.zero_add, cell_of_row w g' j cur e (0, 0) h2]
    rw [← h7, List.getElem?_take] at hx
    split at hx
    · simpa using hx
    · cases hx
/-- one more behind v -/
theorem Held.push {n0 : Nat} {e : TypeId} {w w' : World} {u v v' : Value} {n m k : Nat} {c xs : List Value} (h : Held n0 e w u v n m c) (ho : Rw n0 e w' v' (m + k) (c ++ xs))
    (hor : (w.grownBy w' v.ownBlock ∧ v'.ownBlock = v.ownBlock) ∨ (w.grownBy w' none ∧ ∃ g, v'.ownBlock = some g ∧ w.heap.size ≤ g)) : Held n0 e w' u v' n (m + k) (c ++ xs) := by
  have hcl : c.length = m := h.own.1
  have htk : (c ++ xs).take n = c.take n := by rw [List.take_append_of_le_length (by have := h.len; omega)]
  refine ⟨ho, ?_, by have := h.len; omega⟩
  rcases h.old with h1 | ⟨g, cap, rfl, h1, h2, h3⟩
  · exact .inl h1
  · refine .inr ⟨g, cap, rfl, h1, ?_, ?_⟩
    · rcases hor with ⟨a, _⟩ | ⟨a, _⟩
      · exact Nat.lt_of_lt_of_le h2 a.size
      · exact Nat.lt_of_lt_of_le h2 a.size
    · by_cases hs : blk v g ∧ blk v' g
      · have := own_range ho hs.2
        intro j x hx
        refine this j x ?_
        rw [List.getElem?_take] at hx
        split at hx
        · exact hx
        · cases hx
      · rw [htk]
        intro j x hx
        rcases hor with ⟨a, b⟩ | ⟨a, _⟩
        · have hne : ¬ blk v g := fun hv => hs ⟨hv, by unfold blk; rw [b]; exact hv⟩
          exact a.cell (h3 j x hx) (fun e => hne e.symm)
        · exact a.cell (h3 j x hx) (by simp)
theorem push_chg {w w' : World} {v v' : Value} (hor : (w.grownBy w' v.ownBlock ∧ v'.ownBlock = v.ownBlock) ∨ (w.grownBy w' none ∧ ∃ g, v'.ownBlock = some g ∧ w.heap.size ≤ g)) : Chg (blk v) w w' := by
  rcases hor with ⟨a, _⟩ | ⟨a, _⟩
  · exact .of_grown a (fun g hg => hg)
  · exact .of_grown a (fun g hg => by cases hg)
theorem push_blk {w w' : World} {v v' : Value} (hor : (w.grownBy w' v.ownBlock ∧ v'.ownBlock = v.ownBlock) ∨ (w.grownBy w' none ∧ ∃ g, v'.ownBlock = some g ∧ w.heap.size ≤ g)) {g : Nat} (hg : blk v' g) : blk v g ∨ w.heap.size ≤ g := by
  rcases hor with ⟨_, b⟩ | ⟨_, g', b, hb⟩
  · exact .inl (by unfold blk at hg ⊢; rw [← b]; exact hg)
  · unfold blk at hg; rw [b] at hg; cases hg; exact .inr hb

/-- many of them, apart from each other and from what is shut out -/
structure Many (n0 B : Nat) (e : TypeId) (w : World) (M : Nat) (u v : Nat → Value) (n m : Nat → Nat) (c : Nat → List Value) (X : Nat → Prop) : Prop where
  held : ∀ i, i < M → Held n0 e w (u i) (v i) (n i) (m i) (c i)
  apart : ∀ i j, i < M → j < M → i ≠ j → ∀ g, blk (u i) g ∨ blk (v i) g → ¬ (blk (u j) g ∨ blk (v j) g)
  out : ∀ i, i < M → ∀ g, blk (u i) g ∨ blk (v i) g → ¬ X g
  new : ∀ i, i < M → ∀ g, blk (v i) g → blk (u i) g ∨ B ≤ g
/-- a function with one place turned -/
def turn {α : Type} (f : Nat → α) (i : Nat) (x : α) : Nat → α := fun j => if j = i then x else f j
theorem turn_same {α : Type} (f : Nat → α) (i : Nat) (x : α) : turn f i x i = x := by simp [turn]
theorem turn_other {α : Type} (f : Nat → α) (i j : Nat) (x : α) (h : j ≠ i) : turn f i x j = f j := by simp [turn, h]

theorem Many.keep {n0 B : Nat} {e : TypeId} {w w' : World} {M : Nat} {u v : Nat → Value} {n m : Nat → Nat} {c : Nat → List Value} {X F : Nat → Prop} (h : Many n0 B e w M u v n m c X) (hc : Chg F w w') (hF : ∀ g, g < w.heap.size → F g → X g) : Many n0 B e w' M u v n m c X :=
  ⟨fun i hi => (h.held i hi).keep hc (fun g hg hg' => h.out i hi g hg (hF g ((h.held i hi).lt hg).2 hg')), h.apart, h.out, h.new⟩
theorem Many.shut {n0 B : Nat} {e : TypeId} {w : World} {M : Nat} {u v : Nat → Value} {n m : Nat → Nat} {c : Nat → List Value} {X Y : Nat → Prop} (h : Many n0 B e w M u v n m c X) (hY : ∀ g, g < w.heap.size → Y g → X g) : Many n0 B e w M u v n m c Y :=
  ⟨h.held, h.apart, fun i hi g hg hY' => h.out i hi g hg (hY g ((h.held i hi).lt hg).2 hY'), h.new⟩
/-- one of them grows -/
theorem Many.push {n0 B : Nat} {e : TypeId} {w w' : World} {M : Nat} {u v : Nat → Value} {n m : Nat → Nat} {c : Nat → List Value} {X : Nat → Prop} (h : Many n0 B e w M u v n m c X) (hX : ∀ g, X g → g < w.heap.size) (hB : B ≤ w.heap.size) (i : Nat) (hi : i < M) {v' : Value} {k : Nat} {xs : List Value} (ho : Rw n0 e w' v' (m i + k) (c i ++ xs))
    (hor : (w.grownBy w' (v i).ownBlock ∧ v'.ownBlock = (v i).ownBlock) ∨ (w.grownBy w' none ∧ ∃ g, v'.ownBlock = some g ∧ w.heap.size ≤ g)) :
    Many n0 B e w' M u (turn v i v') n (turn m i (m i + k)) (turn c i (c i ++ xs)) X := by
  have hch := push_chg hor
  refine ⟨fun j hj => ?_, fun j l hj hl hjl g hg => ?_, fun j hj g hg => ?_, fun j hj g hg => ?_⟩
  · by_cases e1 : j = i
    · subst e1
      rw [turn_same, turn_same, turn_same]
      exact (h.held j hj).push ho hor
    · rw [turn_other _ _ _ _ e1, turn_other _ _ _ _ e1, turn_other _ _ _ _ e1]
      exact (h.held j hj).keep hch (fun g hg hg' => h.apart j i hj hi e1 g hg (.inr hg'))
  · have key : ∀ p, p < M → p ≠ i → ∀ g, blk (u p) g ∨ blk (v p) g → ¬ (blk (u i) g ∨ blk v' g) := by
      intro p hp hpi g hg hg'
      rcases hg' with hg' | hg'
      · exact h.apart p i hp hi hpi g hg (.inl hg')
      · rcases push_blk hor hg' with h1 | h1
        · exact h.apart p i hp hi hpi g hg (.inr h1)
        · have := ((h.held p hp).lt hg).2; omega
    by_cases e1 : j = i
    · subst e1
      rw [turn_same] at hg
      rw [turn_other _ _ _ _ (Ne.symm hjl)]
      exact fun hg' => key l hl (Ne.symm hjl) g hg' hg
    · rw [turn_other _ _ _ _ e1] at hg
      by_cases e2 : l = i
      · subst e2
        rw [turn_same]
        exact key j hj e1 g hg
      · rw [turn_other _ _ _ _ e2]
        exact h.apart j l hj hl hjl g hg
  · by_cases e1 : j = i
    · subst e1
      rw [turn_same] at hg
      rcases hg with hg | hg
      · exact h.out j hj g (.inl hg)
      · rcases push_blk hor hg with h1 | h1
        · exact h.out j hj g (.inr h1)
        · exact fun hx => by have := hX g hx; omega
    · rw [turn_other _ _ _ _ e1] at hg
      exact h.out j hj g hg
  · by_cases e1 : j = i
    · subst e1
      rw [turn_same] at hg
      rcases push_blk hor hg with h1 | h1
      · exact h.new j hj g h1
      · exact .inr (Nat.le_trans hB h1)
    · rw [turn_other _ _ _ _ e1] at hg
      exact h.new j hj g hg

/-- before any grew: all are as they came out -/
structure Apart (n0 : Nat) (e : TypeId) (w : World) (M : Nat) (u : Nat → Value) (n : Nat → Nat) (c : Nat → List Value) (X : Nat → Prop) : Prop where
  own : ∀ i, i < M → Rw n0 e w (u i) (n i) (c i)
  apart : ∀ i j, i < M → j < M → i ≠ j → ∀ g, blk (u i) g → ¬ blk (u j) g
  out : ∀ i, i < M → ∀ g, blk (u i) g → ¬ X g
theorem Apart.many {n0 B : Nat} {e : TypeId} {w : World} {M : Nat} {u : Nat → Value} {n : Nat → Nat} {c : Nat → List Value} {X : Nat → Prop} (h : Apart n0 e w M u n c X) : Many n0 B e w M u u n n c X :=
  ⟨fun i hi => .start (h.own i hi), fun i j hi hj hij g hg hg' => by simp only [or_self] at hg hg'; exact h.apart i j hi hj hij g hg hg', fun i hi g hg => by simp only [or_self] at hg; exact h.out i hi g hg, fun i hi g hg => .inl hg⟩
theorem Apart.keep {n0 : Nat} {e : TypeId} {w w' : World} {M : Nat} {u : Nat → Value} {n : Nat → Nat} {c : Nat → List Value} {X F : Nat → Prop} (h : Apart n0 e w M u n c X) (hc : Chg F w w') (hF : ∀ g, g < w.heap.size → F g → X g) : Apart n0 e w' M u n c X :=
  ⟨fun i hi => (h.own i hi).chg hc (fun g hg hg' => h.out i hi g hg (hF g ((h.own i hi).lt hg).2 hg')), h.apart, h.out⟩
theorem setCell_chg (w : World) (g k : Nat) (v : Value) : Chg (fun x => x = g) w (w.setCell ⟨g, k, none⟩ v) := (Chg.refl _ w).setCell _ _ (.inl rfl)
/-- one is written -/
theorem Apart.store {n0 : Nat} {e : TypeId} {w : World} {M : Nat} {u : Nat → Value} {n : Nat → Nat} {c : Nat → List Value} {X : Nat → Prop} (h : Apart n0 e w M u n c X) (i : Nat) (hi : i < M) {g cap : Nat} (hu : u i = .slice (some ⟨g, 0, none⟩) (n i) cap) (k : Nat) (x : Value) :
    Apart n0 e (w.setCell ⟨g, k, none⟩ x) M u n (turn c i ((c i).set k x)) X := by
  refine ⟨fun j hj => ?_, h.apart, h.out⟩
  by_cases e1 : j = i
  · subst e1
    rw [turn_same]
    have := h.own j hj
    rw [hu] at this ⊢
    exact this.stored k x
  · rw [turn_other _ _ _ _ e1]
    exact (h.own j hj).chg (setCell_chg w g k x) (fun g' hg' e => h.apart j i hj hi e1 g' hg' (by rw [hu]; subst e; rfl))

theorem own_unique {w : World} {b b' : Nat} {e : TypeId} {size n : Nat} {v : Value} {xs ys : List Value} (h : w.ownsRow b e size v n xs) (k : w.ownsRow b' e size v n ys) : xs = ys := by
  rcases h.2 with ⟨rfl, rfl⟩ | ⟨g, cap, cur, rfl, h1, h2, h3, h4, h5, h6⟩
  · have e1 : xs = [] := List.eq_nil_of_length_eq_zero (by simpa using h.1)
    have e2 : ys = [] := List.eq_nil_of_length_eq_zero (by simpa using k.1)
    rw [e1, e2]
  · rcases k.2 with ⟨e, _⟩ | ⟨g', cap', cur', e, k1, k2, k3, k4, k5, k6⟩
    · cases e
    · cases e
      rw [h2] at k2
      cases k2
      rw [← h6, ← k6]
/-- the values' forms, and their cells -/
theorem Held.form {n0 : Nat} {e : TypeId} {w : World} {u v : Value} {n m : Nat} {c : List Value} (h : Held n0 e w u v n m c) : ∃ U cap, u = .slice U n cap ∧ ∀ k, k < n → ∃ g, U = some ⟨g, 0, none⟩ ∧ w.cell? ⟨g, k, none⟩ = c[k]? := by
  have hcl : c.length = m := h.own.1
  rcases h.old with ⟨rfl, rfl⟩ | ⟨g, cap, rfl, h1, h2, h3⟩
  · exact ⟨none, 0, rfl, fun k hk => by omega⟩
  · refine ⟨_, cap, rfl, fun k hk => ⟨g, rfl, ?_⟩⟩
    have hk2 : k < c.length := by have := h.len; omega
    have h4 : (c.take n)[k]? = some c[k] := by rw [List.getElem?_take, if_pos hk, List.getElem?_eq_getElem hk2]
    have := h3 k _ h4
    rw [Nat.zero_add] at this
    rw [this, List.getElem?_eq_getElem hk2]
theorem own_cells {n0 : Nat} {e : TypeId} {w : World} {v : Value} {m : Nat} {c : List Value} (h : w.ownsRow n0 e 1 v m c) : ∃ V cap, v = .slice V m cap ∧ ∀ k, k < m → ∃ g, V = some ⟨g, 0, none⟩ ∧ w.cell? ⟨g, k, none⟩ = c[k]? ∧ w.frozen? ⟨g, k, none⟩ = false := by
  have hcl : c.length = m := by simpa using h.1
  rcases h.2 with ⟨rfl, rfl⟩ | ⟨g, cap, cur, rfl, h1, h2, h3, h4, h5, h6⟩
  · exact ⟨none, 0, rfl, fun k hk => by omega⟩
  · refine ⟨_, cap, rfl, fun k hk => ⟨g, rfl, ?_, frozen_of_row w g k cur e h2⟩⟩
    rw [cell_of_row w g k cur e (0, 0) h2]
    rw [← h6, List.getElem?_take, if_pos (by omega)]
    simp
end Go.Proofs.YtfbjjblgcgjndaaGreat

/- The disk in plain words: sectors that last, writes that wait, what is counted and what fails. -/
namespace Go.Proofs.YtfbjjblgcgjndaaGreat

structure Dsk where
  last : List (List Nat)
  cache : List (Nat × List Nat)
  dark : Bool
  trip : Int
  f : Nat → Int
  n : Nat → Int
def sectOk (s : List Nat) : Prop := s.length = 128 ∧ Bytes s
structure Dsk.Ok (D : Dsk) : Prop where
  last : ∀ s ∈ D.last, sectOk s
  cache : ∀ x ∈ D.cache, x.1 < D.last.length ∧ sectOk x.2
  pages : ∃ p, D.last.length = 8 * p ∧ 1 ≤ p ∧ p ≤ 16384
  trip : -1 ≤ D.trip ∧ D.trip ≤ 9223372036854775807
  f : ∀ j, -1 ≤ D.f j ∧ D.f j ≤ 9223372036854775807
  n : ∀ j, 0 ≤ D.n j
def Dsk.pages (D : Dsk) : Nat := D.last.length / 8
def zeroSect : List Nat := List.replicate 128 0
theorem zeroSect_ok : sectOk zeroSect := ⟨by simp [zeroSect], Bytes.zeros _⟩
def Dsk.new (p : Nat) : Dsk := ⟨List.replicate (8 * p) zeroSect, [], false, -1, fun _ => -1, fun _ => 0⟩
theorem Dsk.new_ok (p : Nat) (h1 : 1 ≤ p) (h2 : p ≤ 16384) : (Dsk.new p).Ok :=
  ⟨fun s hs => by rw [(List.mem_replicate.1 hs).2]; exact zeroSect_ok, fun x hx => by simp [Dsk.new] at hx, ⟨p, by simp [Dsk.new], h1, h2⟩, by simp [Dsk.new], fun j => by simp [Dsk.new], fun j => by simp [Dsk.new]⟩

def dec1 (x : Int) : Int := if 0 < x then x - 1 else x
theorem dec1_ok {x : Int} (h1 : -1 ≤ x) (h2 : x ≤ 9223372036854775807) : -1 ≤ dec1 x ∧ dec1 x ≤ 9223372036854775807 := by unfold dec1; split <;> omega
theorem dec1_pos {x : Int} (h : 0 < x) : dec1 x = x - 1 := by unfold dec1; rw [if_pos h]
theorem dec1_neg {x : Int} (h : ¬ 0 < x) : dec1 x = x := by unfold dec1; rw [if_neg h]
/-- the power goes -/
def Dsk.off (D : Dsk) : Dsk := { D with dark := true, trip := -1 }
/-- an operation is counted, and fails -/
def Dsk.fall (D : Dsk) (k : Nat) : Dsk := { D with trip := dec1 D.trip, n := turn D.n k (D.n k + 1), f := turn D.f k (-1) }
/-- an operation is counted, and goes on -/
def Dsk.go (D : Dsk) (k : Nat) : Dsk := { D with trip := dec1 D.trip, n := turn D.n k (D.n k + 1), f := turn D.f k (dec1 (D.f k)) }
/-- an operation of a kind begins: what it says, and what is left -/
def Dsk.begin (D : Dsk) (k : Nat) : Nat × Dsk :=
  if D.dark then (4, D) else if D.trip = 0 then (4, D.off) else if D.f k = 0 then (6, D.fall k) else (0, D.go k)
theorem Dsk.off_ok {D : Dsk} (h : D.Ok) : D.off.Ok := ⟨h.last, h.cache, h.pages, by simp [Dsk.off], h.f, h.n⟩
theorem Dsk.turn_n {D : Dsk} (h : D.Ok) (k : Nat) : ∀ j, 0 ≤ turn D.n k (D.n k + 1) j := fun j => by
  by_cases e : j = k
  · subst e; rw [turn_same]; have := h.n j; omega
  · rw [turn_other _ _ _ _ e]; exact h.n j
theorem Dsk.turn_f {D : Dsk} (h : D.Ok) (k : Nat) (x : Int) (h1 : -1 ≤ x) (h2 : x ≤ 9223372036854775807) : ∀ j, -1 ≤ turn D.f k x j ∧ turn D.f k x j ≤ 9223372036854775807 := fun j => by
  by_cases e : j = k
  · subst e; rw [turn_same]; exact ⟨h1, h2⟩
  · rw [turn_other _ _ _ _ e]; exact h.f j
theorem Dsk.fall_ok {D : Dsk} (h : D.Ok) (k : Nat) : (D.fall k).Ok := ⟨h.last, h.cache, h.pages, dec1_ok h.trip.1 h.trip.2, D.turn_f h k _ (by omega) (by omega), D.turn_n h k⟩
theorem Dsk.go_ok {D : Dsk} (h : D.Ok) (k : Nat) : (D.go k).Ok := ⟨h.last, h.cache, h.pages, dec1_ok h.trip.1 h.trip.2, D.turn_f h k _ (dec1_ok (h.f k).1 (h.f k).2).1 (dec1_ok (h.f k).1 (h.f k).2).2, D.turn_n h k⟩
theorem Dsk.begin_ok {D : Dsk} (h : D.Ok) (k : Nat) : (D.begin k).2.Ok := by
  unfold Dsk.begin
  split
  · exact h
  · split
    · exact D.off_ok h
    · split
      · exact D.fall_ok h k
      · exact D.go_ok h k
theorem Dsk.begin_last (D : Dsk) (k : Nat) : (D.begin k).2.last = D.last ∧ (D.begin k).2.cache = D.cache := by
  unfold Dsk.begin
  split
  · exact ⟨rfl, rfl⟩
  · split
    · exact ⟨rfl, rfl⟩
    · split <;> exact ⟨rfl, rfl⟩

/-- the last write of a sector that waits: its place -/
def lastIdx (c : List (Nat × List Nat)) (a : Nat) : Option Nat := (List.range c.length).reverse.find? fun i => ((c[i]?).map (·.1)) == some a
def lastWrite : List (Nat × List Nat) → Nat → Option (List Nat)
  | [], _ => none
  | (b, s) :: c, a => match lastWrite c a with
    | some t => some t
    | none => if b = a then some s else none
theorem lastWrite_append (c : List (Nat × List Nat)) (b : Nat) (s : List Nat) (a : Nat) : lastWrite (c ++ [(b, s)]) a = if b = a then some s else lastWrite c a := by
  induction c with
  | nil => simp [lastWrite]
  | cons x c ih =>
    obtain ⟨d, t⟩ := x
    simp only [List.cons_append, lastWrite, ih]
    by_cases h : b = a
    · rw [if_pos h, if_pos h]
    · rw [if_neg h, if_neg h]
theorem lastWrite_mem {c : List (Nat × List Nat)} {a : Nat} {s : List Nat} (h : lastWrite c a = some s) : (a, s) ∈ c := by
  induction c with
  | nil => simp [lastWrite] at h
  | cons x c ih =>
    obtain ⟨d, t⟩ := x
    simp only [lastWrite] at h
    cases hc : lastWrite c a with
    | some u => rw [hc] at h; simp at h; subst h; exact List.mem_cons_of_mem _ (ih hc)
    | none =>
      rw [hc] at h
      simp only at h
      split at h
      · rename_i e; subst e; cases h; exact List.mem_cons_self ..
      · cases h
/-- a sector as it was written last -/
def Dsk.sec (D : Dsk) (a : Nat) : List Nat := match lastWrite D.cache a with
  | some s => s
  | none => D.last.getD a []
theorem Dsk.sec_ok {D : Dsk} (h : D.Ok) (a : Nat) (ha : a < D.last.length) : sectOk (D.sec a) := by
  unfold Dsk.sec
  split
  · rename_i s hs
    exact (h.cache _ (lastWrite_mem hs)).2
  · rw [List.getD_eq_getElem?_getD, List.getElem?_eq_getElem ha]
    exact h.last _ (List.getElem_mem _)
/-- some sectors in a row -/
def Dsk.secs (D : Dsk) (a k : Nat) : List Nat := ((List.range k).map fun i => D.sec (a + i)).flatten
theorem Dsk.secs_succ (D : Dsk) (a k : Nat) : D.secs a (k + 1) = D.secs a k ++ D.sec (a + k) := by
  simp [Dsk.secs, List.range_succ]
theorem Dsk.secs_zero (D : Dsk) (a : Nat) : D.secs a 0 = [] := by simp [Dsk.secs]
theorem Dsk.secs_ok {D : Dsk} (h : D.Ok) (a k : Nat) (ha : a + k ≤ D.last.length) : (D.secs a k).length = 128 * k ∧ Bytes (D.secs a k) := by
  induction k with
  | zero => rw [Dsk.secs_zero]; exact ⟨rfl, Bytes.nil⟩
  | succ k ih =>
    obtain ⟨h1, h2⟩ := ih (by omega)
    obtain ⟨h3, h4⟩ := D.sec_ok h (a + k) (by omega)
    rw [Dsk.secs_succ]
    exact ⟨by rw [List.length_append, h1, h3]; omega, h2.append h4⟩

/-- a page is written, or its first sector: the parts one by one -/
def puts (a : Nat) (b : List Nat) : Nat → List (Nat × List Nat)
  | 0 => []
  | k + 1 => puts a b k ++ [(a + k, (b.drop (128 * k)).take 128)]
def Dsk.put (D : Dsk) (a : Nat) (b : List Nat) (k : Nat) : Dsk := { D with cache := D.cache ++ puts a b k }
theorem part_ok {b : List Nat} (hb : Bytes b) {k : Nat} (h : 128 * (k + 1) ≤ b.length) : sectOk ((b.drop (128 * k)).take 128) :=
  ⟨by rw [List.length_take, List.length_drop]; omega, (hb.drop _).take _⟩
theorem puts_length (a : Nat) (b : List Nat) (k : Nat) : (puts a b k).length = k := by
  induction k with
  | zero => rfl
  | succ k ih => simp [puts, ih]
theorem puts_ok {a : Nat} {b : List Nat} (hb : Bytes b) {k L : Nat} (h : 128 * k ≤ b.length) (ha : a + k ≤ L) : ∀ x ∈ puts a b k, x.1 < L ∧ sectOk x.2 := by
  induction k with
  | zero => intro x hx; simp [puts] at hx
  | succ k ih =>
    intro x hx
    simp only [puts, List.mem_append, List.mem_singleton] at hx
    rcases hx with hx | rfl
    · exact ih (by omega) (by omega) x hx
    · exact ⟨by simp only; omega, part_ok hb h⟩
theorem Dsk.put_ok {D : Dsk} (h : D.Ok) {a : Nat} {b : List Nat} (hb : Bytes b) {k : Nat} (hk : 128 * k ≤ b.length) (ha : a + k ≤ D.last.length) : (D.put a b k).Ok :=
  ⟨h.last, fun x hx => by
    rcases List.mem_append.1 hx with hx | hx
    · exact h.cache x hx
    · exact puts_ok hb hk ha x hx, h.pages, h.trip, h.f, h.n⟩

/-- those writes last that are kept -/
def settled (last : List (List Nat)) (c : List (Nat × List Nat)) (kept : Nat → Bool) : Nat → List (List Nat)
  | 0 => last
  | i + 1 => match c[i]? with
    | some x => if kept i then (settled last c kept i).set x.1 x.2 else settled last c kept i
    | none => settled last c kept i
theorem settled_length (last : List (List Nat)) (c : List (Nat × List Nat)) (kept : Nat → Bool) (i : Nat) : (settled last c kept i).length = last.length := by
  induction i with
  | zero => rfl
  | succ i ih =>
    unfold settled
    split
    · split
      · rw [List.length_set, ih]
      · exact ih
    · exact ih
theorem settled_ok {last : List (List Nat)} {c : List (Nat × List Nat)} (h : ∀ s ∈ last, sectOk s) (hc : ∀ x ∈ c, sectOk x.2) (kept : Nat → Bool) (i : Nat) : ∀ s ∈ settled last c kept i, sectOk s := by
  induction i with
  | zero => exact h
  | succ i ih =>
    unfold settled
    split
    · rename_i x hx
      split
      · intro s hs
        rcases List.mem_or_eq_of_mem_set hs with hs | rfl
        · exact ih s hs
        · exact hc x (List.mem_of_getElem? hx)
      · exact ih
    · exact ih
def Dsk.settle (D : Dsk) (kept : Nat → Bool) : Dsk := { D with last := settled D.last D.cache kept D.cache.length, cache := [] }
theorem Dsk.settle_ok {D : Dsk} (h : D.Ok) (kept : Nat → Bool) : (D.settle kept).Ok :=
  ⟨settled_ok h.last (fun x hx => (h.cache x hx).2) kept _, fun x hx => by simp [Dsk.settle] at hx, by obtain ⟨p, h1, h2⟩ := h.pages; exact ⟨p, by rw [← h1]; exact settled_length _ _ _ _, h2⟩, h.trip, h.f, h.n⟩
def Dsk.calm (D : Dsk) : Dsk := { D with dark := false, trip := -1, f := fun _ => -1 }
theorem Dsk.calm_ok {D : Dsk} (h : D.Ok) : D.calm.Ok := ⟨h.last, h.cache, h.pages, by simp [Dsk.calm], fun j => by simp [Dsk.calm], h.n⟩
end Go.Proofs.YtfbjjblgcgjndaaGreat

/- The disk in memory. -/
namespace Go.Proofs.YtfbjjblgcgjndaaGreat
open Go.RowKit Go.Maps

/-- a block of k cells, each its own -/
def RecAt (w : World) (b : Nat) (t : TypeId) (k : Nat) (F : Nat → Value) : Prop := w.heap[b]? = some (.cells (lst F k).toArray t (0, 0))
theorem RecAt.cell {w : World} {b : Nat} {t : TypeId} {k : Nat} {F : Nat → Value} (h : RecAt w b t k F) (i : Nat) (hi : i < k) : w.cell? ⟨b, i, none⟩ = some (F i) := by
  rw [cell_of_row w b i _ t (0, 0) h]
  have := lst_get F k i hi
  simpa using this
theorem RecAt.frozen {w : World} {b : Nat} {t : TypeId} {k : Nat} {F : Nat → Value} (h : RecAt w b t k F) (i : Nat) : w.frozen? ⟨b, i, none⟩ = false := frozen_of_row w b i _ t h
theorem RecAt.lt {w : World} {b : Nat} {t : TypeId} {k : Nat} {F : Nat → Value} (h : RecAt w b t k F) : b < w.heap.size := (Array.getElem?_eq_some_iff.1 h).1
theorem lst_put (F : Nat → Value) (k i : Nat) (x : Value) : (lst F k).set i x = lst (turn F i x) k := by
  apply List.ext_getElem?
  intro q
  by_cases hq : q < k
  · rw [lst_get _ _ _ hq]
    by_cases e : q = i
    · subst e; rw [turn_same, List.getElem?_set_self (by rw [lst_length]; exact hq)]
    · rw [turn_other _ _ _ _ e, List.getElem?_set_ne (by omega), lst_get _ _ _ hq]
  · rw [List.getElem?_eq_none (by rw [List.length_set, lst_length]; omega), List.getElem?_eq_none (by rw [lst_length]; omega)]
theorem RecAt.set {w : World} {b : Nat} {t : TypeId} {k : Nat} {F : Nat → Value} (h : RecAt w b t k F) (i : Nat) (x : Value) : RecAt (w.setCell ⟨b, i, none⟩ x) b t k (turn F i x) := by
  have := heap_setCell_same w b i _ t x h
  unfold RecAt
  rw [this, ← lst_put]
  simp
theorem RecAt.keep {w w' : World} {b : Nat} {t : TypeId} {k : Nat} {F : Nat → Value} {G : Nat → Prop} (h : RecAt w b t k F) (hc : Chg G w w') (hG : ¬ G b) : RecAt w' b t k F := by
  unfold RecAt; rw [hc.block b h.lt hG]; exact h
theorem RecAt.congr {w : World} {b : Nat} {t : TypeId} {k : Nat} {F F' : Nat → Value} (h : RecAt w b t k F) (he : ∀ i, i < k → F i = F' i) : RecAt w b t k F' := by
  unfold RecAt; rw [← lst_congr he]; exact h
theorem RecAt.of {w : World} {b : Nat} {t : TypeId} {k : Nat} {F : Nat → Value} {cs : Array Value} (h : w.heap[b]? = some (.cells cs t (0, 0))) (he : cs = (lst F k).toArray) : RecAt w b t k F := by
  subst he; exact h

/-- the cells of a write that waits -/
def wcell (x : Nat × List Nat) : List Value := .int .i64 (x.1 : Int) :: ns .u8 x.2
def wcells (c : List (Nat × List Nat)) : List Value := c.flatMap wcell
theorem wcells_append (c d : List (Nat × List Nat)) : wcells (c ++ d) = wcells c ++ wcells d := by simp [wcells]
theorem wcells_length {c : List (Nat × List Nat)} (h : ∀ x ∈ c, sectOk x.2) : (wcells c).length = c.length * 129 := by
  induction c with
  | nil => rfl
  | cons x c ih =>
    have h1 := (h x (by simp)).1
    have h2 := ih (fun y hy => h y (by simp [hy]))
    simp only [wcells, List.flatMap_cons, List.length_append, List.length_cons] at h2 ⊢
    rw [h2]
    simp [wcell, ns_length, h1]
    omega
theorem wcells_get {c : List (Nat × List Nat)} (h : ∀ x ∈ c, sectOk x.2) (i : Nat) (hi : i < c.length) (j : Nat) (hj : j < 129) : (wcells c)[i * 129 + j]? = (wcell c[i])[j]? := by
  induction c generalizing i with
  | nil => simp at hi
  | cons x c ih =>
    have h1 := (h x (by simp)).1
    have hl : (wcell x).length = 129 := by simp [wcell, ns_length, h1]
    have hw : wcells (x :: c) = wcell x ++ wcells c := by simp [wcells]
    rw [hw]
    cases i with
    | zero => rw [List.getElem?_append_left (by omega)]; simp
    | succ i =>
      rw [List.getElem?_append_right (by omega), hl, show (i + 1) * 129 + j - 129 = i * 129 + j by omega]
      rw [ih (fun y hy => h y (by simp [hy])) i (by simpa using hi)]
      simp
/-- the sectors that last, one behind the other -/
structure LastAt (w : World) (b : Nat) (l : List (List Nat)) : Prop where
  range : ∀ i, (h : i < l.length) → w.rangeAt b (i * 128) (ns .u8 l[i])
  there : w.there b 0 (l.length * 128)
theorem LastAt.keep {w w' : World} {b : Nat} {l : List (List Nat)} {G : Nat → Prop} (h : LastAt w b l) (hc : Chg G w w') (hG : ¬ G b) (hl : b < w.heap.size) : LastAt w' b l := by
  have hcell : ∀ o, w'.cell? ⟨b, o, none⟩ = w.cell? ⟨b, o, none⟩ := fun o => by unfold World.cell?; rw [hc.block b hl hG]
  have hfr : ∀ o, w'.frozen? ⟨b, o, none⟩ = w.frozen? ⟨b, o, none⟩ := fun o => by unfold World.frozen?; rw [hc.block b hl hG]
  exact ⟨fun i hi j v hv => by rw [hcell]; exact h.range i hi j v hv, fun j hj => by rw [hcell, hfr]; exact h.there j hj⟩
theorem LastAt.set {w : World} {b : Nat} {l : List (List Nat)} (h : LastAt w b l) (hs : ∀ s ∈ l, s.length = 128) (i : Nat) (hi : i < l.length) (s : List Nat) (hsl : s.length = 128) : LastAt (w.setCells b (i * 128) (ns .u8 s)) b (l.set i s) := by
  have ht : w.there b (i * 128) (ns .u8 s).length := fun j hj => by
    rw [ns_length, hsl] at hj
    have := h.there (i * 128 + j) (by have : (i + 1) * 128 ≤ l.length * 128 := Nat.mul_le_mul_right _ hi; omega)
    simpa using this
  refine ⟨fun k hk => ?_, ?_⟩
  · rw [List.length_set] at hk
    by_cases e : k = i
    · subst e
      simp only [List.getElem_set_self]
      exact World.rangeAt_setCells_same w b _ _ ht
    · rw [List.getElem_set_ne (Ne.symm e)]
      refine World.rangeAt_setCells_apart (h.range k hk) b _ _ (.inr ?_)
      rw [ns_length, ns_length, hs _ (List.getElem_mem _), hsl]
      omega
  · rw [List.length_set]
    exact World.there_setCells h.there b _ _
theorem setCells_chg (b : Nat) : ∀ (vs : List Value) (o : Nat) (w : World), Chg (fun g => g = b) w (w.setCells b o vs)
  | [], _, w => Chg.refl _ w
  | v :: r, o, w => by
    rw [World.setCells]
    exact (setCell_chg w b o v).trans (setCells_chg b r (o + 1) _) (fun _ _ h => h)

/-- which write is a sector's last, as the map says -/
def seenKey (a : Nat) : Lit := .int .i64 (a : Int)
def SeenOk (M : DataW Unit) (c : List (Nat × List Nat)) : Prop :=
  IsMap M ∧ ∀ a : Nat, (lastWrite c a = none → has M (seenKey a) = false) ∧ ∀ s, lastWrite c a = some s → has M (seenKey a) = true ∧ ∃ i : Nat, c[i]? = some (a, s) ∧ ∀ z, M.atKey (seenKey a) z = .lit (.int .i64 (i : Int))
theorem SeenOk.nil : SeenOk (.map []) [] := ⟨isMap_empty, fun a => ⟨fun _ => rfl, fun s hs => by simp [lastWrite] at hs⟩⟩
theorem seenKey_lit (a : Nat) : WideAt.IsKeyLit (seenKey a) := by simp [seenKey, WideAt.IsKeyLit]
theorem seenKey_ne {a b : Nat} (h : a ≠ b) : seenKey a ≠ seenKey b := by
  intro e; unfold seenKey at e; injection e with _ e; exact h (by omega)
theorem SeenOk.put {M : DataW Unit} {c : List (Nat × List Nat)} (h : SeenOk M c) (b : Nat) (s : List Nat) : SeenOk (M.put (seenKey b) (.lit (.int .i64 (c.length : Int)))) (c ++ [(b, s)]) := by
  refine ⟨h.1.put _ _, fun a => ⟨fun hn => ?_, fun t ht => ?_⟩⟩
  · rw [lastWrite_append] at hn
    split at hn
    · cases hn
    · rename_i e
      rw [has_put_other (seenKey_ne (Ne.symm e))]
      exact (h.2 a).1 hn
  · rw [lastWrite_append] at ht
    split at ht
    · rename_i e
      subst e
      cases ht
      refine ⟨has_put_same h.1 (seenKey_lit _) _, c.length, by simp, fun z => atKey_put_same h.1 (seenKey_lit _) _ _⟩
    · rename_i e
      obtain ⟨h1, i, h2, h3⟩ := (h.2 a).2 t ht
      refine ⟨by rw [has_put_other (seenKey_ne (Ne.symm e))]; exact h1, i, by rw [List.getElem?_append_left (List.getElem?_eq_some_iff.1 h2).1]; exact h2, fun z => by rw [atKey_put_other (seenKey_ne (Ne.symm e))]; exact h3 z⟩

/-- the disk's own cells -/
def dcell (L C : Value) (m : Nat) (D : Dsk) : Nat → Value
  | 0 => L
  | 1 => C
  | 2 => .map (some m)
  | 3 => .bool D.dark
  | 4 => .int .i64 D.trip
  | 5 => .int .i64 (D.f 0)
  | 6 => .int .i64 (D.f 1)
  | 7 => .int .i64 (D.f 2)
  | 8 => .int .i64 (D.f 3)
  | 9 => .int .i64 (D.n 0)
  | 10 => .int .i64 (D.n 1)
  | 11 => .int .i64 (D.n 2)
  | 12 => .int .i64 (D.n 3)
  | _ => undef
/-- its parts: the sectors' block, the cache, the map -/
structure Dparts where
  b : Nat
  C : Value
  m : Nat
structure DiskIn (n0 : Nat) (w : World) (p : Nat) (D : Dsk) (q : Dparts) (M : DataW Unit) : Prop where
  rcd : RecAt w p 104 13 (dcell (.slice (some ⟨q.b, 0, none⟩) D.last.length D.last.length) q.C q.m D)
  last : LastAt w q.b D.last
  cache : w.ownsRow n0 110 129 q.C D.cache.length (wcells D.cache)
  map : w.ownsMap Tryz.prog 3 (plainElem Tryz.prog 3) q.m D.cache.length M
  seen : SeenOk M D.cache
  bases : n0 ≤ p ∧ n0 ≤ q.b ∧ n0 ≤ q.m ∧ q.b < w.heap.size ∧ q.m < w.heap.size
  sep : p ≠ q.b ∧ p ≠ q.m ∧ q.b ≠ q.m ∧ ¬ blk q.C p ∧ ¬ blk q.C q.b ∧ ¬ blk q.C q.m
def Dparts.foot (p : Nat) (q : Dparts) (g : Nat) : Prop := g = p ∨ g = q.b ∨ g = q.m ∨ blk q.C g
/-- a disk at p; all its blocks are among S -/
def DiskAt (n0 : Nat) (w : World) (p : Nat) (D : Dsk) (S : Nat → Prop) : Prop := D.Ok ∧ ∃ q M, DiskIn n0 w p D q M ∧ ∀ g, q.foot p g → S g
theorem DiskIn.lt {n0 : Nat} {w : World} {p : Nat} {D : Dsk} {q : Dparts} {M : DataW Unit} (h : DiskIn n0 w p D q M) {g : Nat} (hg : q.foot p g) : n0 ≤ g ∧ g < w.heap.size := by
  rcases hg with rfl | rfl | rfl | hg
  · exact ⟨h.bases.1, h.rcd.lt⟩
  · exact ⟨h.bases.2.1, h.bases.2.2.2.1⟩
  · exact ⟨h.bases.2.2.1, h.bases.2.2.2.2⟩
  · exact row_lt h.cache hg
theorem map_chg {w w' : World} {G : Nat → Prop} {k : TypeId} {R : Value → Option (DataW Unit × List MemPlace)} {b n : Nat} {M : DataW Unit} (h : w.ownsMap Tryz.prog k R b n M) (hc : Chg G w w') (hG : ¬ G b) (hl : b < w.heap.size) : w'.ownsMap Tryz.prog k R b n M := by
  obtain ⟨es, clock, h1, h2⟩ := h
  exact ⟨es, clock, by rw [hc.block b hl hG]; exact h1, h2⟩
theorem DiskIn.keep {n0 : Nat} {w w' : World} {p : Nat} {D : Dsk} {q : Dparts} {M : DataW Unit} {G : Nat → Prop} (h : DiskIn n0 w p D q M) (hc : Chg G w w') (hG : ∀ g, q.foot p g → ¬ G g) : DiskIn n0 w' p D q M :=
  ⟨h.rcd.keep hc (hG _ (.inl rfl)), h.last.keep hc (hG _ (.inr (.inl rfl))) h.bases.2.2.2.1, own_chg h.cache hc (fun g hg => hG g (.inr (.inr (.inr hg)))), map_chg h.map hc (hG _ (.inr (.inr (.inl rfl)))) h.bases.2.2.2.2, h.seen,
    ⟨h.bases.1, h.bases.2.1, h.bases.2.2.1, Nat.lt_of_lt_of_le h.bases.2.2.2.1 hc.size, Nat.lt_of_lt_of_le h.bases.2.2.2.2 hc.size⟩, h.sep⟩
theorem DiskAt.keep {n0 : Nat} {w w' : World} {p : Nat} {D : Dsk} {S G : Nat → Prop} (h : DiskAt n0 w p D S) (hc : Chg G w w') (hG : ∀ g, g < w.heap.size → S g → ¬ G g) : DiskAt n0 w' p D S := by
  obtain ⟨ok, q, M, h1, h2⟩ := h
  exact ⟨ok, q, M, h1.keep hc (fun g hg => hG g (h1.lt hg).2 (h2 g hg)), h2⟩
theorem DiskAt.below {n0 : Nat} {w w' : World} {p : Nat} {D : Dsk} {S : Nat → Prop} (h : DiskAt n0 w p D S) (hb : Below w.heap.size w w') : DiskAt n0 w' p D S :=
  h.keep (G := fun _ => False) (.of_below hb) (fun _ _ _ h => h)
theorem DiskAt.mono {n0 : Nat} {w : World} {p : Nat} {D : Dsk} {S S' : Nat → Prop} (h : DiskAt n0 w p D S) (hS : ∀ g, n0 ≤ g → g < w.heap.size → S g → S' g) : DiskAt n0 w p D S' := by
  obtain ⟨ok, q, M, h1, h2⟩ := h
  exact ⟨ok, q, M, h1, fun g hg => hS g (h1.lt hg).1 (h1.lt hg).2 (h2 g hg)⟩
end Go.Proofs.YtfbjjblgcgjndaaGreat

/- A ring of blocks, in plain words: what is taken out, what is laid in. -/
namespace Go.Proofs.YtfbjjblgcgjndaaGreat
open Go.RowKit

/-- from a over l to z: each one's next, and who came ahead of it -/
def Link (nx pv : Nat → Nat) : Nat → List Nat → Nat → Prop
  | a, [], z => nx a = z ∧ pv z = a
  | a, b :: l, z => nx a = b ∧ pv b = a ∧ Link nx pv b l z
theorem Link.congr {nx pv nx' pv' : Nat → Nat} {l : List Nat} {a z : Nat} (h : Link nx pv a l z) (h1 : ∀ x, x ∈ a :: l → nx' x = nx x) (h2 : ∀ x, x ∈ l ++ [z] → pv' x = pv x) : Link nx' pv' a l z := by
  induction l generalizing a with
  | nil => exact ⟨by rw [h1 a (by simp)]; exact h.1, by rw [h2 z (by simp)]; exact h.2⟩
  | cons b l ih =>
    obtain ⟨x, y, t⟩ := h
    exact ⟨by rw [h1 a (by simp)]; exact x, by rw [h2 b (by simp)]; exact y, ih t (fun q hq => h1 q (List.mem_cons_of_mem _ hq)) (fun q hq => h2 q (by simp at hq ⊢; exact .inr hq))⟩
theorem Link.split {nx pv : Nat → Nat} {l1 l2 : List Nat} {a b z : Nat} (h : Link nx pv a (l1 ++ b :: l2) z) : Link nx pv a l1 b ∧ Link nx pv b l2 z := by
  induction l1 generalizing a with
  | nil => exact ⟨⟨h.1, h.2.1⟩, h.2.2⟩
  | cons c l1 ih =>
    obtain ⟨x, y, t⟩ := h
    obtain ⟨t1, t2⟩ := ih t
    exact ⟨⟨x, y, t1⟩, t2⟩
theorem Link.last {nx pv : Nat → Nat} {l : List Nat} {a z : Nat} (h : Link nx pv a l z) : pv z ∈ a :: l := by
  induction l generalizing a with
  | nil => rw [h.2]; simp
  | cons b l ih => exact List.mem_cons_of_mem _ (ih h.2.2)
theorem Link.first {nx pv : Nat → Nat} {l : List Nat} {a z : Nat} (h : Link nx pv a l z) : nx a ∈ l ++ [z] := by
  cases l with
  | nil => rw [h.1]; simp
  | cons b l => rw [h.1]; simp
/-- b is taken out -/
theorem Link.cut {nx pv : Nat → Nat} {l1 l2 : List Nat} {a b z : Nat} (h : Link nx pv a (l1 ++ b :: l2) z) (n1 : (a :: (l1 ++ b :: l2)).Nodup) (n2 : ((l1 ++ b :: l2) ++ [z]).Nodup) : Link (turn nx (pv b) (nx b)) (turn pv (nx b) (pv b)) a (l1 ++ l2) z := by
  induction l1 generalizing a with
  | nil =>
    obtain ⟨x, y, t⟩ := h
    rw [y]
    cases l2 with
    | nil =>
      obtain ⟨t1, t2⟩ := t
      rw [t1]
      exact ⟨turn_same _ _ _, turn_same _ _ _⟩
    | cons c l2 =>
      obtain ⟨t1, t2, t3⟩ := t
      rw [t1]
      refine ⟨turn_same _ _ _, turn_same _ _ _, t3.congr (fun q hq => turn_other _ _ _ _ ?_) (fun q hq => turn_other _ _ _ _ ?_)⟩
      · rintro rfl
        simp only [List.nil_append, List.nodup_cons, List.mem_cons, not_or] at n1
        rcases List.mem_cons.1 hq with e | e
        · exact n1.1.2.1 e
        · exact n1.1.2.2 e
      · rintro rfl
        simp only [List.nil_append, List.cons_append, List.nodup_cons] at n2
        exact n2.2.1 hq
  | cons x l1 ih =>
    obtain ⟨h1, h2, t⟩ := h
    have hs := t.split
    have m1 : pv b ∈ x :: l1 := hs.1.last
    have m2 : nx b ∈ l2 ++ [z] := hs.2.first
    simp only [List.cons_append, List.nodup_cons, List.mem_cons, List.mem_append, not_or] at n1 n2
    refine ⟨?_, ?_, ih t ?_ ?_⟩
    · rw [turn_other _ _ _ _ ?_]; exact h1
      rintro rfl
      rcases List.mem_cons.1 m1 with e | e
      · exact n1.1.1 e
      · exact n1.1.2.1 e
    · rw [turn_other _ _ _ _ ?_]; exact h2
      rintro rfl
      rcases List.mem_append.1 m2 with e | e
      · exact n2.1.1.2.2 e
      · simp at e; exact n2.1.2.1 e
    · simp only [List.nodup_cons, List.mem_append, List.mem_cons, not_or]
      exact n1.2
    · exact n2.2
/-- h is laid in, ahead of z -/
theorem Link.snoc {nx pv : Nat → Nat} {l : List Nat} {a h z : Nat} (k : Link nx pv a l z) (n1 : (a :: l).Nodup) (n2 : (l ++ [z]).Nodup) (hn : h ∉ a :: l) (hz : h ≠ z) :
    Link (turn (turn nx h z) (pv z) h) (turn (turn pv h (pv z)) z h) a (l ++ [h]) z := by
  induction l generalizing a with
  | nil =>
    obtain ⟨x, y⟩ := k
    rw [y]
    simp only [List.mem_cons, List.not_mem_nil, or_false] at hn
    refine ⟨turn_same _ _ _, ?_, ?_, turn_same _ _ _⟩
    · rw [turn_other _ _ _ _ hz, turn_same]
    · rw [turn_other _ _ _ _ hn, turn_same]
  | cons b l ih =>
    obtain ⟨x, y, t⟩ := k
    have m1 := t.last
    simp only [List.nodup_cons, List.mem_cons, not_or] at n1 hn
    simp only [List.cons_append, List.nodup_cons, List.mem_append, List.mem_cons, List.not_mem_nil, or_false, not_or] at n2
    refine ⟨?_, ?_, ih t ?_ n2.2 ?_⟩
    · rw [turn_other _ _ _ _ ?_, turn_other _ _ _ _ (fun e => hn.1 e.symm)]; exact x
      rintro rfl
      rcases List.mem_cons.1 m1 with e | e
      · exact n1.1.1 e
      · exact n1.1.2 e
    · rw [turn_other _ _ _ _ n2.1.2, turn_other _ _ _ _ (fun e => hn.2.1 e.symm)]; exact y
    · exact List.nodup_cons.2 n1.2
    · simp only [List.mem_cons, not_or]; exact hn.2

/-- a node's cells -/
def ncell (nx pv : Nat → Nat) (dat : Nat → Nat → Value) (b : Nat) : Nat → Value
  | 0 => .pointer (some ⟨pv b, 0, none⟩)
  | 1 => .pointer (some ⟨nx b, 0, none⟩)
  | i => dat b i
/-- the ring in memory: e, and those of l, the eldest first -/
structure RingIn (w : World) (e : Nat) (l : List Nat) (nx pv : Nat → Nat) (dat : Nat → Nat → Value) : Prop where
  link : Link nx pv e l e
  nodup : (e :: l).Nodup
  node : ∀ b, b ∈ e :: l → RecAt w b 118 5 (ncell nx pv dat b)
theorem nodup_rot {e : Nat} {l : List Nat} (h : (e :: l).Nodup) : (l ++ [e]).Nodup := by
  rw [List.nodup_append]
  rw [List.nodup_cons] at h
  exact ⟨h.2, by simp, fun a ha b hb => by simp at hb; subst hb; rintro rfl; exact h.1 ha⟩
theorem nodes_setNx {w : World} {L : List Nat} {nx pv : Nat → Nat} {dat : Nat → Nat → Value} (h : ∀ b, b ∈ L → RecAt w b 118 5 (ncell nx pv dat b)) (m v : Nat) : ∀ b, b ∈ L → RecAt (w.setCell ⟨m, 1, none⟩ (.pointer (some ⟨v, 0, none⟩))) b 118 5 (ncell (turn nx m v) pv dat b) := fun b hb => by
  by_cases e : b = m
  · subst e
    refine ((h b hb).set 1 _).congr fun i hi => ?_
    match i with
    | 0 => rfl
    | 1 => simp [turn, ncell]
    | 2 => rfl
    | 3 => rfl
    | 4 => rfl
  · refine ((h b hb).keep (setCell_chg w m 1 _) (fun e' => e e')).congr fun i hi => ?_
    match i with
    | 0 => rfl
    | 1 => simp [turn, ncell, e]
    | 2 => rfl
    | 3 => rfl
    | 4 => rfl
theorem nodes_setPv {w : World} {L : List Nat} {nx pv : Nat → Nat} {dat : Nat → Nat → Value} (h : ∀ b, b ∈ L → RecAt w b 118 5 (ncell nx pv dat b)) (m v : Nat) : ∀ b, b ∈ L → RecAt (w.setCell ⟨m, 0, none⟩ (.pointer (some ⟨v, 0, none⟩))) b 118 5 (ncell nx (turn pv m v) dat b) := fun b hb => by
  by_cases e : b = m
  · subst e
    refine ((h b hb).set 0 _).congr fun i hi => ?_
    match i with
    | 0 => simp [turn, ncell]
    | 1 => rfl
    | 2 => rfl
    | 3 => rfl
    | 4 => rfl
  · refine ((h b hb).keep (setCell_chg w m 0 _) (fun e' => e e')).congr fun i hi => ?_
    match i with
    | 0 => simp [turn, ncell, e]
    | 1 => rfl
    | 2 => rfl
    | 3 => rfl
    | 4 => rfl
/-- what 'out' leaves -/
theorem RingIn.out {w : World} {e : Nat} {l1 l2 : List Nat} {b : Nat} {nx pv : Nat → Nat} {dat : Nat → Nat → Value} (h : RingIn w e (l1 ++ b :: l2) nx pv dat) :
    RingIn ((w.setCell ⟨pv b, 1, none⟩ (.pointer (some ⟨nx b, 0, none⟩))).setCell ⟨nx b, 0, none⟩ (.pointer (some ⟨pv b, 0, none⟩))) e (l1 ++ l2) (turn nx (pv b) (nx b)) (turn pv (nx b) (pv b)) dat ∧
      RecAt ((w.setCell ⟨pv b, 1, none⟩ (.pointer (some ⟨nx b, 0, none⟩))).setCell ⟨nx b, 0, none⟩ (.pointer (some ⟨pv b, 0, none⟩))) b 118 5 (ncell nx pv dat b) ∧ pv b ≠ b ∧ nx b ≠ b ∧ pv b ∈ e :: (l1 ++ l2) ∧ nx b ∈ e :: (l1 ++ l2) := by
  have hs := h.link.split
  have m1 : pv b ∈ e :: l1 := hs.1.last
  have m2 : nx b ∈ l2 ++ [e] := hs.2.first
  have nd := h.nodup
  have nd2 := nd
  rw [List.nodup_cons, List.nodup_append, List.nodup_cons] at nd2
  obtain ⟨d1, d2, ⟨d3, d4⟩, d5⟩ := nd2
  have hbe : b ≠ e := fun x => d1 (by rw [← x]; simp)
  have k1 : pv b ≠ b := fun x => by
    rw [x] at m1
    rcases List.mem_cons.1 m1 with y | y
    · exact hbe y
    · exact d5 b y b (by simp) rfl
  have k2 : nx b ≠ b := fun x => by
    rw [x] at m2
    rcases List.mem_append.1 m2 with y | y
    · exact d3 y
    · simp at y; exact hbe y
  have sub : ∀ x, x ∈ e :: (l1 ++ l2) → x ∈ e :: (l1 ++ b :: l2) := fun x hx => by
    simp only [List.mem_cons, List.mem_append] at hx ⊢
    rcases hx with hx | hx | hx
    · exact .inl hx
    · exact .inr (.inl hx)
    · exact .inr (.inr (.inr hx))
  refine ⟨⟨h.link.cut nd (nodup_rot nd), ?_, fun x hx => ?_⟩, ?_, k1, k2, ?_, ?_⟩
  · refine nd.sublist ?_
    exact List.Sublist.cons_cons _ (List.Sublist.append_left (List.sublist_cons_self _ _) _)
  · exact nodes_setPv (nodes_setNx h.node (pv b) (nx b)) (nx b) (pv b) x (sub x hx)
  · refine (nodes_setPv (nodes_setNx h.node (pv b) (nx b)) (nx b) (pv b) b (by simp)).congr fun i hi => ?_
    match i with
    | 0 => simp [ncell, turn, Ne.symm k2]
    | 1 => simp [ncell, turn, Ne.symm k1]
    | 2 => rfl
    | 3 => rfl
    | 4 => rfl
  · rcases List.mem_cons.1 m1 with y | y
    · rw [y]; simp
    · simp [y]
  · rcases List.mem_append.1 m2 with y | y
    · simp [y]
    · simp at y; rw [y]; simp
/-- what 'in' leaves: h's own block holds whatever it held in its other cells -/
theorem RingIn.inn {w : World} {e : Nat} {l : List Nat} {b : Nat} {nx pv : Nat → Nat} {dat : Nat → Nat → Value} (h : RingIn w e l nx pv dat) (hb : b ∉ e :: l) {F : Nat → Value} (hr : RecAt w b 118 5 F) (hF : ∀ i, 2 ≤ i → i < 5 → F i = dat b i) :
    RingIn ((((w.setCell ⟨b, 0, none⟩ (.pointer (some ⟨pv e, 0, none⟩))).setCell ⟨b, 1, none⟩ (.pointer (some ⟨e, 0, none⟩))).setCell ⟨pv e, 1, none⟩ (.pointer (some ⟨b, 0, none⟩))).setCell ⟨e, 0, none⟩ (.pointer (some ⟨b, 0, none⟩))) e (l ++ [b]) (turn (turn nx b e) (pv e) b) (turn (turn pv b (pv e)) e b) dat ∧ pv e ∈ e :: l ∧ pv e ≠ b := by
  have hm : pv e ∈ e :: l := h.link.last
  have hbe : b ≠ e := fun x => hb (by rw [x]; simp)
  have hmb : pv e ≠ b := fun x => hb (by rw [← x]; exact hm)
  refine ⟨⟨h.link.snoc h.nodup (nodup_rot h.nodup) hb hbe, ?_, ?_⟩, hm, hmb⟩
  · have := h.nodup
    rw [List.nodup_cons] at this ⊢
    refine ⟨?_, ?_⟩
    · simp only [List.mem_append, List.mem_cons, List.not_mem_nil, or_false, not_or]
      exact ⟨this.1, Ne.symm hbe⟩
    · rw [List.nodup_append]
      refine ⟨this.2, by simp, fun a ha c hc => ?_⟩
      simp at hc
      subst hc
      rintro rfl
      exact hb (List.mem_cons_of_mem _ ha)
  · -- all nodes, b among them
    have h0 : ∀ x, x ∈ b :: e :: l → RecAt ((w.setCell ⟨b, 0, none⟩ (.pointer (some ⟨pv e, 0, none⟩))).setCell ⟨b, 1, none⟩ (.pointer (some ⟨e, 0, none⟩))) x 118 5 (ncell (turn nx b e) (turn pv b (pv e)) dat x) := fun x hx => by
      rcases List.mem_cons.1 hx with rfl | hx
      · refine ((hr.set 0 _).set 1 _).congr fun i hi => ?_
        match i, hi with
        | 0, _ => simp [turn, ncell]
        | 1, _ => simp [turn, ncell]
        | 2, hi => simp only [turn, ncell]; exact hF 2 (by omega) (by omega)
        | 3, hi => simp only [turn, ncell]; exact hF 3 (by omega) (by omega)
        | 4, hi => simp only [turn, ncell]; exact hF 4 (by omega) (by omega)
      · exact nodes_setNx (nodes_setPv h.node b (pv e)) b e x hx
    have h1 := nodes_setPv (nodes_setNx h0 (pv e) b) e b
    intro x hx
    refine h1 x ?_
    simp only [List.mem_cons, List.mem_append, List.not_mem_nil, or_false] at hx ⊢
    rcases hx with hx | hx | hx
    · exact .inr (.inl hx)
    · exact .inr (.inr hx)
    · exact .inl hx
end Go.Proofs.YtfbjjblgcgjndaaGreat

/- Contracts of the hand's out and the pool's in. -/
namespace Go.Proofs.YtfbjjblgcgjndaaGreat
open Go.RowKit

theorem RingIn.below {w w' : World} {e : Nat} {l : List Nat} {nx pv : Nat → Nat} {dat : Nat → Nat → Value} (h : RingIn w e l nx pv dat) (hb : Below w.heap.size w w') : RingIn w' e l nx pv dat :=
  ⟨h.link, h.nodup, fun b hb' => (h.node b hb').keep (G := fun _ => False) (.of_below hb) (fun h => h)⟩
theorem RingIn.keep {w w' : World} {e : Nat} {l : List Nat} {nx pv : Nat → Nat} {dat : Nat → Nat → Value} {G : Nat → Prop} (h : RingIn w e l nx pv dat) (hc : Chg G w w') (hG : ∀ b, b ∈ e :: l → ¬ G b) : RingIn w' e l nx pv dat :=
  ⟨h.link, h.nodup, fun b hb' => (h.node b hb').keep hc (hG b hb')⟩
def OutGives (w : World) (e : Nat) (l1 l2 : List Nat) (b : Nat) (nx pv : Nat → Nat) (dat : Nat → Nat → Value) (x : Ending) (w' : World) : Prop :=
  x = .returned (.tuple #[]) ∧ RingIn w' e (l1 ++ l2) (turn nx (pv b) (nx b)) (turn pv (nx b) (pv b)) dat ∧ RecAt w' b 118 5 (ncell nx pv dat b) ∧ Chg (fun g => g ∈ e :: (l1 ++ l2)) w w'
theorem cell_other (w : World) (a : Addr) (v : Value) (b i : Nat) (h : b ≠ a.block) : (w.setCell a v).cell? ⟨b, i, none⟩ = w.cell? ⟨b, i, none⟩ := by
  unfold World.cell?
  rw [Below.heap_setCell w a v b h]
set_option maxRecDepth 100000 in
set_option maxHeartbeats 4000000 in
theorem out_any {w : World} {e : Nat} {l1 l2 : List Nat} {b : Nat} {nx pv : Nat → Nat} {dat : Nat → Nat → Value} (h : RingIn w e (l1 ++ b :: l2) nx pv dat) : Calls Tryz.prog 44 #[.pointer (some ⟨b, 0, none⟩)] w (OutGives w e l1 l2 b nx pv dat) := by
  obtain ⟨r1, r2, k1, k2, m1, m2⟩ := h.out
  have hb := h.node b (by simp)
  have sub : ∀ x, x ∈ e :: (l1 ++ l2) → x ∈ e :: (l1 ++ b :: l2) := fun x hx => by
    simp only [List.mem_cons, List.mem_append] at hx ⊢
    rcases hx with hx | hx | hx
    · exact .inl hx
    · exact .inr (.inl hx)
    · exact .inr (.inr (.inr hx))
  have hm := h.node (pv b) (sub _ m1)
  have hn := h.node (nx b) (sub _ m2)
  have c0 : w.cell? ⟨b, 0, none⟩ = some (.pointer (some ⟨pv b, 0, none⟩)) := hb.cell 0 (by omega)
  have c1 : w.cell? ⟨b, 1, none⟩ = some (.pointer (some ⟨nx b, 0, none⟩)) := hb.cell 1 (by omega)
  obtain ⟨u1, hu1⟩ : ∃ u, w.cell? ⟨pv b, 1, none⟩ = some u := ⟨_, hm.cell 1 (by omega)⟩
  obtain ⟨u2, hu2⟩ : ∃ u, w.cell? ⟨nx b, 0, none⟩ = some u := ⟨_, hn.cell 0 (by omega)⟩
  have f1 := hm.frozen 1
  have f2 := hn.frozen 0
  have hc : Chg (fun g => g ∈ e :: (l1 ++ l2)) w ((w.setCell ⟨pv b, 1, none⟩ (.pointer (some ⟨nx b, 0, none⟩))).setCell ⟨nx b, 0, none⟩ (.pointer (some ⟨pv b, 0, none⟩))).drew :=
    (((Chg.refl _ w).setCell _ _ (.inl m1)).setCell _ _ (.inl m2)).drew
  have HFIN := Lib.hid (show OutGives w e l1 l2 b nx pv dat (.returned (.tuple #[])) _ from ⟨rfl, r1.below (below_drew0 (Below.refl _ _)), r2.keep (G := fun _ => False) (.of_below (below_drew0 (Below.refl _ _))) (fun h => h), hc⟩)
  generalize pv b = m at *
  generalize nx b = n at *
  clear r1 r2 hb hm hn hc sub h m1 m2
  go_enter Tryz.func44, Tryz.ntmps44
  go_wp2_with fail
  go_region_held3 (fun W' => W'.cell? ⟨b, 0, none⟩ = some (.pointer (some ⟨m, 0, none⟩)) ∧ W'.cell? ⟨b, 1, none⟩ = some (.pointer (some ⟨n, 0, none⟩)))
    (first | exact ⟨c0, c1⟩ | exact ⟨(cell_other w ⟨m, 1, none⟩ _ b 0 (Ne.symm k1)).trans c0, (cell_other w ⟨m, 1, none⟩ _ b 1 (Ne.symm k1)).trans c1⟩ | exact ⟨(cell_other _ ⟨n, 0, none⟩ _ b 0 (Ne.symm k2)).trans ((cell_other w ⟨m, 1, none⟩ _ b 0 (Ne.symm k1)).trans c0), (cell_other _ ⟨n, 0, none⟩ _ b 1 (Ne.symm k2)).trans ((cell_other w ⟨m, 1, none⟩ _ b 1 (Ne.symm k1)).trans c1)⟩ | assumption) (fail)
  go_end0
  exact HFIN.out
def InGives (w : World) (e : Nat) (l : List Nat) (b : Nat) (nx pv : Nat → Nat) (dat : Nat → Nat → Value) (x : Ending) (w' : World) : Prop :=
  x = .returned (.tuple #[]) ∧ RingIn w' e (l ++ [b]) (turn (turn nx b e) (pv e) b) (turn (turn pv b (pv e)) e b) dat ∧ Chg (fun g => g ∈ e :: (l ++ [b])) w w'
set_option maxRecDepth 100000 in
set_option maxHeartbeats 4000000 in
theorem in_any {w : World} {P e : Nat} {l : List Nat} {b : Nat} {nx pv : Nat → Nat} {dat : Nat → Nat → Value} (hP : w.cell? ⟨P, 3, none⟩ = some (.pointer (some ⟨e, 0, none⟩))) (hPb : P ≠ b) (h : RingIn w e l nx pv dat) (hb : b ∉ e :: l) {F : Nat → Value} (hr : RecAt w b 118 5 F) (hF : ∀ i, 2 ≤ i → i < 5 → F i = dat b i) :
    Calls Tryz.prog 45 #[.pointer (some ⟨P, 0, none⟩), .pointer (some ⟨b, 0, none⟩)] w (InGives w e l b nx pv dat) := by
  obtain ⟨r1, m1, k1⟩ := h.inn hb hr hF
  have hbe : b ≠ e := fun x => hb (by rw [x]; simp)
  have c0 : w.cell? ⟨e, 0, none⟩ = some (.pointer (some ⟨pv e, 0, none⟩)) := (h.node e (by simp)).cell 0 (by omega)
  obtain ⟨u1, hu1⟩ : ∃ u, w.cell? ⟨b, 0, none⟩ = some u := ⟨_, hr.cell 0 (by omega)⟩
  obtain ⟨u2, hu2⟩ : ∃ u, w.cell? ⟨b, 1, none⟩ = some u := ⟨_, hr.cell 1 (by omega)⟩
  obtain ⟨u3, hu3⟩ : ∃ u, w.cell? ⟨pv e, 1, none⟩ = some u := ⟨_, (h.node _ m1).cell 1 (by omega)⟩
  have f1 := hr.frozen 0
  have f2 := hr.frozen 1
  have f3 := (h.node _ m1).frozen 1
  have f4 := (h.node e (by simp)).frozen 0
  obtain ⟨w1, hw1⟩ : ∃ w1, w1 = (((w.setCell ⟨b, 0, none⟩ (.pointer (some ⟨pv e, 0, none⟩))).setCell ⟨b, 1, none⟩ (.pointer (some ⟨e, 0, none⟩)))).drew := ⟨_, rfl⟩
  have d0 : w1.cell? ⟨b, 0, none⟩ = some (.pointer (some ⟨pv e, 0, none⟩)) := by
    rw [hw1]; exact ((hr.set 0 _).set 1 _).cell 0 (by omega)
  have d1 : w1.cell? ⟨b, 1, none⟩ = some (.pointer (some ⟨e, 0, none⟩)) := by
    rw [hw1]; exact ((hr.set 0 _).set 1 _).cell 1 (by omega)
  have o1 : ∀ x i, x ≠ b → w1.cell? ⟨x, i, none⟩ = w.cell? ⟨x, i, none⟩ := fun x i hx => by
    rw [hw1]; exact (cell_other _ ⟨b, 1, none⟩ _ x i hx).trans (cell_other w ⟨b, 0, none⟩ _ x i hx)
  have d3 : w1.cell? ⟨pv e, 1, none⟩ = some u3 := (o1 _ _ k1).trans hu3
  have d4 : w1.cell? ⟨e, 0, none⟩ = some (.pointer (some ⟨pv e, 0, none⟩)) := (o1 _ _ (Ne.symm hbe)).trans c0
  have e3 : w1.frozen? ⟨pv e, 1, none⟩ = false := by rw [hw1]; unfold World.frozen?; simp only [World.drew]; rw [Below.heap_setCell _ _ _ _ k1, Below.heap_setCell _ _ _ _ k1]; exact f3
  have e4 : w1.frozen? ⟨e, 0, none⟩ = false := by rw [hw1]; unfold World.frozen?; simp only [World.drew]; rw [Below.heap_setCell _ _ _ _ (Ne.symm hbe), Below.heap_setCell _ _ _ _ (Ne.symm hbe)]; exact f4
  have hc : Chg (fun g => g ∈ e :: (l ++ [b])) w ((w1.setCell ⟨pv e, 1, none⟩ (.pointer (some ⟨b, 0, none⟩))).setCell ⟨e, 0, none⟩ (.pointer (some ⟨b, 0, none⟩))).drew := by
    rw [hw1]
    refine (((((Chg.refl _ w).setCell _ _ (.inl (by simp))).setCell _ _ (.inl (by simp))).drew.setCell _ _ (.inl ?_)).setCell _ _ (.inl (by simp))).drew
    rcases List.mem_cons.1 m1 with y | y
    · show pv e ∈ _; rw [y]; simp
    · show pv e ∈ _; simp [y]
  have HFIN := Lib.hid (show InGives w e l b nx pv dat (.returned (.tuple #[])) ((w1.setCell ⟨pv e, 1, none⟩ (.pointer (some ⟨b, 0, none⟩))).setCell ⟨e, 0, none⟩ (.pointer (some ⟨b, 0, none⟩))).drew from ⟨rfl, by
    refine RingIn.below (w := (w1.setCell ⟨pv e, 1, none⟩ (.pointer (some ⟨b, 0, none⟩))).setCell ⟨e, 0, none⟩ (.pointer (some ⟨b, 0, none⟩))) ?_ (below_drew0 (Below.refl _ _))
    rw [hw1]
    exact r1.below (w' := ((((w.setCell ⟨b, 0, none⟩ (.pointer (some ⟨pv e, 0, none⟩))).setCell ⟨b, 1, none⟩ (.pointer (some ⟨e, 0, none⟩))).setCell ⟨pv e, 1, none⟩ (.pointer (some ⟨b, 0, none⟩))).setCell ⟨e, 0, none⟩ (.pointer (some ⟨b, 0, none⟩))).drew) (below_drew0 (Below.refl _ _)), hc⟩)
  have HW1 := Lib.hid hw1
  generalize pv e = m at *
  clear r1 hc h m1 hr hF hb o1 hw1
  go_enter Tryz.func45, Tryz.ntmps45
  go_wp2_with fail
  go_region_held3 (fun W' => W'.cell? ⟨P, 3, none⟩ = some (.pointer (some ⟨e, 0, none⟩)) ∧ W'.cell? ⟨e, 0, none⟩ = some (.pointer (some ⟨m, 0, none⟩)))
    (first | exact ⟨hP, c0⟩ | exact ⟨(cell_other w ⟨b, 0, none⟩ _ P 3 hPb).trans hP, (cell_other w ⟨b, 0, none⟩ _ e 0 (Ne.symm hbe)).trans c0⟩ | exact ⟨(cell_other _ ⟨b, 1, none⟩ _ P 3 hPb).trans ((cell_other w ⟨b, 0, none⟩ _ P 3 hPb).trans hP), (cell_other _ ⟨b, 1, none⟩ _ e 0 (Ne.symm hbe)).trans ((cell_other w ⟨b, 0, none⟩ _ e 0 (Ne.symm hbe)).trans c0)⟩ | assumption) (fail)
  rw [← HW1.out]
  clear hP c0 hu1 hu2 hu3 f1 f2 f3 f4
  go_wp2_with fail
  go_region_held3 (fun W' => W'.cell? ⟨b, 0, none⟩ = some (.pointer (some ⟨m, 0, none⟩)) ∧ W'.cell? ⟨b, 1, none⟩ = some (.pointer (some ⟨e, 0, none⟩)))
    (first | exact ⟨d0, d1⟩ | exact ⟨(cell_other w1 ⟨m, 1, none⟩ _ b 0 (Ne.symm k1)).trans d0, (cell_other w1 ⟨m, 1, none⟩ _ b 1 (Ne.symm k1)).trans d1⟩ | exact ⟨(cell_other _ ⟨e, 0, none⟩ _ b 0 hbe).trans ((cell_other w1 ⟨m, 1, none⟩ _ b 0 (Ne.symm k1)).trans d0), (cell_other _ ⟨e, 0, none⟩ _ b 1 hbe).trans ((cell_other w1 ⟨m, 1, none⟩ _ b 1 (Ne.symm k1)).trans d1)⟩ | assumption) (fail)
  go_end0
  exact HFIN.out
end Go.Proofs.YtfbjjblgcgjndaaGreat

/- Contracts of disk.none and disk.New. -/
namespace Go.Proofs.YtfbjjblgcgjndaaGreat
open Go.RowKit Go.Maps

set_option maxRecDepth 100000 in
theorem none_any (w : World) : Calls Tryz.prog 36 #[] w fun e w' => e = .returned (.agg #[.int .i64 (-1), .int .i64 (-1), .int .i64 (-1), .int .i64 (-1)]) ∧ w' = w.alloc (.cells #[.int .i64 (-1), .int .i64 (-1), .int .i64 (-1), .int .i64 (-1)] 100) := by
  go_enter Tryz.func36, Tryz.ntmps36
  go_wp2
  exact bodyPost_ret (v := .agg #[.int .i64 (-1), .int .i64 (-1), .int .i64 (-1), .int .i64 (-1)]) (by simp [results, Tryz.results36, go_sem]) rfl ⟨rfl, rfl⟩
def zero128 : Array Value := Array.replicate 128 (.int .u8 0)
theorem Tryz.info108 : (Tryz.prog.info? 108).map (fun i => (i.zero, i.size, i.bytes)) = some (some (.agg zero128), 128, 128) := by kernel_rfl
def blank (n : Nat) : Array Value := madeCells zero128 (n * 128)
theorem make_disk (n : Nat) (hn : n ≤ 131072) (w : World) : (Instr.makeSlice 98 (.int .i64 (n : Int)) (.int .i64 (n : Int))).run Tryz.prog w = .ok (.slice (some ⟨w.heap.size, 0, none⟩) n n) (w.alloc (.cells (blank n) 108)) := by
  obtain ⟨i0, hi, hzz⟩ := Option.map_eq_some_iff.1 Tryz.info108
  simp only [Prod.mk.injEq] at hzz
  obtain ⟨hz0, hz1, hz2⟩ := hzz
  have := run_makeSlice (P := Tryz.prog) w 98 108 i0 (.agg zero128) Tryz.underlying98 hi hz0 .i64 .i64 (n : Int) (n : Int) (by omega) (by omega) (by rw [hz1]; simp; omega) (by rw [hz2]; omega) (by omega)
  rw [this, hz1]
  simp [blank, Value.cells]
set_option maxRecDepth 100000 in
theorem new_no (n : Int) (w : World) (h : n < 1 ∨ 16384 < n) : Calls Tryz.prog 6 #[.int .i64 n] w fun e w' => e = .returned (.tuple #[.pointer none, .int .u16 70]) ∧ w = w' := by
  rcases h with h | h
  · go_enter Tryz.func6, Tryz.ntmps6
    go_wp2
    go_ret2
    exact ⟨rfl, rfl⟩
  · have h' : ¬ n < 1 := by omega
    go_enter Tryz.func6, Tryz.ntmps6
    go_wp2
    go_ret2
    exact ⟨rfl, rfl⟩
theorem hp_alloc (w : World) (o : Obj) (i : Nat) : (w.alloc o).heap[i]? = if i = w.heap.size then some o else w.heap[i]? := by
  by_cases h : i = w.heap.size
  · subst h; rw [if_pos rfl]; exact heap_alloc_new w o
  · rw [if_neg h]
    by_cases h2 : i < w.heap.size
    · exact heap_alloc_old w o h2
    · rw [Array.getElem?_eq_none (by simp; omega), Array.getElem?_eq_none (by omega)]
theorem hp_drew (w : World) : w.drew.heap = w.heap := rfl
theorem sz_alloc (w : World) (o : Obj) : (w.alloc o).heap.size = w.heap.size + 1 := by simp
set_option maxRecDepth 100000 in
theorem blank_get (n i : Nat) (h : i < n * 128) : (blank n)[i]? = some (.int .u8 0) := by
  unfold blank madeCells
  have hs : zero128.size = 128 := by simp [zero128]
  simp only [Array.getElem?_map, Array.getElem?_range, h, if_true, Option.map_some, hs]
  congr 1
  have : i % 128 < zero128.size := by rw [hs]; exact Nat.mod_lt _ (by decide)
  rw [getElem!_pos zero128 (i % 128) this]
  simp [zero128]
theorem blank_size (n : Nat) : (blank n).size = n * 128 := by simp [blank, size_madeCells]
theorem blank_last {w : World} {b n : Nat} (h : w.heap[b]? = some (.cells (blank n) 108 (0, 0))) : LastAt w b (List.replicate n zeroSect) := by
  refine ⟨fun i hi j v hv => ?_, fun j hj => ?_⟩
  · rw [List.length_replicate] at hi
    rw [List.getElem_replicate] at hv
    have hj : j < 128 := by
      have := (List.getElem?_eq_some_iff.1 hv).1
      rw [ns_length] at this
      simpa [zeroSect] using this
    have hv' : v = .int .u8 0 := by
      have h2 := ns_get .u8 zeroSect j (by simpa [zeroSect] using hj)
      rw [h2] at hv
      have : nth zeroSect j = 0 := by rw [nth_get _ _ (by simpa [zeroSect] using hj)]; exact List.getElem_replicate ..
      rw [this] at hv
      cases hv; rfl
    rw [cell_of_row w b _ _ 108 (0, 0) h, hv']
    refine blank_get n _ ?_
    have : (i + 1) * 128 ≤ n * 128 := Nat.mul_le_mul_right _ hi
    omega
  · rw [List.length_replicate] at hj
    refine ⟨?_, frozen_of_row w b _ _ 108 h⟩
    rw [cell_of_row w b _ _ 108 (0, 0) h, Nat.zero_add, blank_get n j hj]; rfl
theorem new_diskAt (n0 : Nat) (W : World) (p b m n : Nat) (h1 : 1 ≤ n) (h2 : n ≤ 16384) (hb : W.heap[b]? = some (.cells (blank (n * 8)) 108 (0, 0))) (hm : W.heap[m]? = some (.map #[] 0))
    (hp : W.heap[p]? = some (.cells #[.slice (some ⟨b, 0, none⟩) (n * 8) (n * 8), .slice none 0 0, .map (some m), .bool false, .int .i64 (-1), .int .i64 (-1), .int .i64 (-1), .int .i64 (-1), .int .i64 (-1), .int .i64 0, .int .i64 0, .int .i64 0, .int .i64 0] 104 (0, 0)))
    (hd : p ≠ b ∧ p ≠ m ∧ b ≠ m) (hn : n0 ≤ p ∧ n0 ≤ b ∧ n0 ≤ m) : DiskAt n0 W p (Dsk.new n) (fun g => n0 ≤ g ∧ g < W.heap.size) := by
  have hl : (Dsk.new n).last.length = n * 8 := by simp [Dsk.new]; omega
  have hbl : b < W.heap.size := (Array.getElem?_eq_some_iff.1 hb).1
  have hml : m < W.heap.size := (Array.getElem?_eq_some_iff.1 hm).1
  have hin : DiskIn n0 W p (Dsk.new n) ⟨b, .slice none 0 0, m⟩ (.map []) := by
    refine ⟨RecAt.of hp ?_, ?_, World.ownsRow_nil _ _ _ _, ?_, SeenOk.nil, ⟨hn.1, hn.2.1, hn.2.2, hbl, hml⟩, hd.1, hd.2.1, hd.2.2, by simp [blk, Value.ownBlock], by simp [blk, Value.ownBlock], by simp [blk, Value.ownBlock]⟩
    · rw [hl]; rfl
    · have := blank_last hb
      rw [show n * 8 = 8 * n by omega] at this
      exact this
    · exact ⟨#[], 0, hm, (World.ownsMap_made (H := Unit) W Tryz.prog 3 (plainElem Tryz.prog 3)).elim (fun es h => by obtain ⟨clock, h1, h2, _⟩ := h; have := heap_alloc_new W (.map #[] 0); rw [this] at h1; cases h1; exact h2), Nat.le_refl _, rfl⟩
  exact ⟨Dsk.new_ok n h1 h2, _, _, hin, fun g hg => hin.lt hg⟩
set_option maxRecDepth 100000 in
set_option maxHeartbeats 1000000 in
theorem new_ok (n : Nat) (w : World) (h1 : 1 ≤ n) (h2 : n ≤ 16384) : Calls Tryz.prog 6 #[.int .i64 (n : Int)] w fun e w' => ∃ p, e = .returned (.tuple #[.pointer (some ⟨p, 0, none⟩), .int .u16 0]) ∧ DiskAt w.heap.size w' p (Dsk.new n) (fun g => w.heap.size ≤ g ∧ g < w'.heap.size) ∧ Below w.heap.size w w' := by
  have hmk : ∀ w, (Instr.makeSlice 98 (.int .i64 ((n : Int) * 8)) (.int .i64 ((n : Int) * 8))).run Tryz.prog w = .ok (.slice (some ⟨w.heap.size, 0, none⟩) (n * 8) (n * 8)) (w.alloc (.cells (blank (n * 8)) 108)) := fun w => by
    have := make_disk (n * 8) (by omega) w
    rwa [show ((n * 8 : Nat) : Int) = (n : Int) * 8 from by push_cast; rfl] at this
  have hmm := @run_makeMap Tryz.prog
  have hwr : IntKind.i64.wrap ((n : Int) * 8) = ((n * 8 : Nat) : Int) := by rw [IntKind.wrap_i64]; omega
  go_enter Tryz.func6, Tryz.ntmps6
  go_wp2_with fail
  go_region_with ((go_at_call 36; refine (none_any _).mono ?_; rintro e w1 ⟨rfl, rfl⟩))
  all_goals
    go_wp2
    go_ret2
  · refine ⟨w.heap.size + 1 + 1 + 1, rfl, new_diskAt _ _ _ w.heap.size (w.heap.size + 1) n h1 h2 ?_ ?_ ?_ (by omega) (by omega), ?_⟩
    · simp only [hp_alloc, hp_drew, sz_alloc]; (repeat (first | rw [if_neg (by omega)] | rw [if_pos (by omega)] | rw [if_pos trivial])); try rfl
    · simp only [hp_alloc, hp_drew, sz_alloc]; (repeat (first | rw [if_neg (by omega)] | rw [if_pos (by omega)] | rw [if_pos trivial])); try rfl
    · simp only [hp_alloc, hp_drew, sz_alloc]; (repeat (first | rw [if_neg (by omega)] | rw [if_pos (by omega)] | rw [if_pos trivial])); try rfl
    · exact below_drew0 <| below_alloc0 (below_alloc0 (below_alloc0 (below_alloc0 (Below.refl _ _) _) _) _) _
  · refine ⟨w.heap.size + 1 + 1 + 1, rfl, new_diskAt _ _ _ w.heap.size (w.heap.size + 1 + 1) n h1 h2 ?_ ?_ ?_ (by omega) (by omega), ?_⟩
    · simp only [hp_alloc, hp_drew, sz_alloc]; (repeat (first | rw [if_neg (by omega)] | rw [if_pos (by omega)] | rw [if_pos trivial])); try rfl
    · simp only [hp_alloc, hp_drew, sz_alloc]; (repeat (first | rw [if_neg (by omega)] | rw [if_pos (by omega)] | rw [if_pos trivial])); try rfl
    · simp only [hp_alloc, hp_drew, sz_alloc]; (repeat (first | rw [if_neg (by omega)] | rw [if_pos (by omega)] | rw [if_pos trivial])); try rfl
    · exact below_drew0 <| below_alloc0 (below_alloc0 (below_alloc0 (below_alloc0 (Below.refl _ _) _) _) _) _
  · refine ⟨w.heap.size + 1 + 1 + 1, rfl, new_diskAt _ _ _ (w.heap.size + 1) w.heap.size n h1 h2 ?_ ?_ ?_ (by omega) (by omega), ?_⟩
    · simp only [hp_alloc, hp_drew, sz_alloc]; (repeat (first | rw [if_neg (by omega)] | rw [if_pos (by omega)] | rw [if_pos trivial])); try rfl
    · simp only [hp_alloc, hp_drew, sz_alloc]; (repeat (first | rw [if_neg (by omega)] | rw [if_pos (by omega)] | rw [if_pos trivial])); try rfl
    · simp only [hp_alloc, hp_drew, sz_alloc]; (repeat (first | rw [if_neg (by omega)] | rw [if_pos (by omega)] | rw [if_pos trivial])); try rfl
    · exact below_drew0 <| below_alloc0 (below_alloc0 (below_alloc0 (below_alloc0 (Below.refl _ _) _) _) _) _
  · refine ⟨w.heap.size + 1 + 1 + 1, rfl, new_diskAt _ _ _ (w.heap.size + 1 + 1) w.heap.size n h1 h2 ?_ ?_ ?_ (by omega) (by omega), ?_⟩
    · simp only [hp_alloc, hp_drew, sz_alloc]; (repeat (first | rw [if_neg (by omega)] | rw [if_pos (by omega)] | rw [if_pos trivial])); try rfl
    · simp only [hp_alloc, hp_drew, sz_alloc]; (repeat (first | rw [if_neg (by omega)] | rw [if_pos (by omega)] | rw [if_pos trivial])); try rfl
    · simp only [hp_alloc, hp_drew, sz_alloc]; (repeat (first | rw [if_neg (by omega)] | rw [if_pos (by omega)] | rw [if_pos trivial])); try rfl
    · exact below_drew0 <| below_alloc0 (below_alloc0 (below_alloc0 (below_alloc0 (Below.refl _ _) _) _) _) _
  · refine ⟨w.heap.size + 1 + 1 + 1, rfl, new_diskAt _ _ _ (w.heap.size + 1) (w.heap.size + 1 + 1) n h1 h2 ?_ ?_ ?_ (by omega) (by omega), ?_⟩
    · simp only [hp_alloc, hp_drew, sz_alloc]; (repeat (first | rw [if_neg (by omega)] | rw [if_pos (by omega)] | rw [if_pos trivial])); try rfl
    · simp only [hp_alloc, hp_drew, sz_alloc]; (repeat (first | rw [if_neg (by omega)] | rw [if_pos (by omega)] | rw [if_pos trivial])); try rfl
    · simp only [hp_alloc, hp_drew, sz_alloc]; (repeat (first | rw [if_neg (by omega)] | rw [if_pos (by omega)] | rw [if_pos trivial])); try rfl
    · exact below_drew0 <| below_alloc0 (below_alloc0 (below_alloc0 (below_alloc0 (Below.refl _ _) _) _) _) _
  · refine ⟨w.heap.size + 1 + 1 + 1, rfl, new_diskAt _ _ _ (w.heap.size + 1 + 1) (w.heap.size + 1) n h1 h2 ?_ ?_ ?_ (by omega) (by omega), ?_⟩
    · simp only [hp_alloc, hp_drew, sz_alloc]; (repeat (first | rw [if_neg (by omega)] | rw [if_pos (by omega)] | rw [if_pos trivial])); try rfl
    · simp only [hp_alloc, hp_drew, sz_alloc]; (repeat (first | rw [if_neg (by omega)] | rw [if_pos (by omega)] | rw [if_pos trivial])); try rfl
    · simp only [hp_alloc, hp_drew, sz_alloc]; (repeat (first | rw [if_neg (by omega)] | rw [if_pos (by omega)] | rw [if_pos trivial])); try rfl
    · exact below_drew0 <| below_alloc0 (below_alloc0 (below_alloc0 (below_alloc0 (Below.refl _ _) _) _) _) _
end Go.Proofs.YtfbjjblgcgjndaaGreat

/- Contract of the disk's op. -/
namespace Go.Proofs.YtfbjjblgcgjndaaGreat
open Go.RowKit Go.Maps

theorem all13 {P : Nat → Prop} (h0 : P 0) (h1 : P 1) (h2 : P 2) (h3 : P 3) (h4 : P 4) (h5 : P 5) (h6 : P 6) (h7 : P 7) (h8 : P 8) (h9 : P 9) (h10 : P 10) (h11 : P 11) (h12 : P 12) : ∀ i, i < 13 → P i := by
  intro i hi
  match i, hi with
  | 0, _ => exact h0
  | 1, _ => exact h1
  | 2, _ => exact h2
  | 3, _ => exact h3
  | 4, _ => exact h4
  | 5, _ => exact h5
  | 6, _ => exact h6
  | 7, _ => exact h7
  | 8, _ => exact h8
  | 9, _ => exact h9
  | 10, _ => exact h10
  | 11, _ => exact h11
  | 12, _ => exact h12
def OnlyP (p : Nat) (g : Nat) : Prop := g = p
/-- an operation fails at its beginning -/
def OpFails (L C : Value) (m p : Nat) (D : Dsk) (k : Nat) (w : World) (e : Ending) (w' : World) : Prop :=
  e = .returned (.int .u16 ((D.begin k).1 : Nat)) ∧ RecAt w' p 104 13 (dcell L C m (D.begin k).2) ∧ Chg (OnlyP p) w w'
theorem rec_off {L C : Value} {m p : Nat} {D : Dsk} {w : World} (h : RecAt w p 104 13 (dcell L C m D)) : RecAt ((w.setCell ⟨p, 3, none⟩ (.bool true)).setCell ⟨p, 4, none⟩ (.int .i64 (-1))) p 104 13 (dcell L C m D.off) :=
  ((h.set 3 _).set 4 _).congr (all13 rfl rfl rfl rfl rfl rfl rfl rfl rfl rfl rfl rfl rfl)
theorem two_chg (w : World) (p i j : Nat) (x y : Value) : Chg (OnlyP p) w ((w.setCell ⟨p, i, none⟩ x).setCell ⟨p, j, none⟩ y) :=
  ((Chg.refl _ w).setCell ⟨p, i, none⟩ x (.inl (show OnlyP p p from rfl))).setCell ⟨p, j, none⟩ y (.inl (show OnlyP p p from rfl))
theorem one_chg (w : World) (p i : Nat) (x : Value) : Chg (OnlyP p) w (w.setCell ⟨p, i, none⟩ x) := (Chg.refl _ w).setCell ⟨p, i, none⟩ x (.inl (show OnlyP p p from rfl))
theorem rec_trip {L C : Value} {m p : Nat} {D : Dsk} {w : World} (h : RecAt w p 104 13 (dcell L C m D)) (t : Int) : RecAt (w.setCell ⟨p, 4, none⟩ (.int .i64 t)) p 104 13 (dcell L C m { D with trip := t }) :=
  (h.set 4 _).congr (all13 rfl rfl rfl rfl rfl rfl rfl rfl rfl rfl rfl rfl rfl)
theorem rec_fall1 {L C : Value} {m p : Nat} {D : Dsk} {w : World} (h : RecAt w p 104 13 (dcell L C m { D with trip := dec1 D.trip })) : RecAt ((w.setCell ⟨p, 10, none⟩ (.int .i64 (D.n 1 + 1))).setCell ⟨p, 6, none⟩ (.int .i64 (-1))).drew p 104 13 (dcell L C m (D.fall 1)) :=
  show RecAt ((w.setCell ⟨p, 10, none⟩ (.int .i64 (D.n 1 + 1))).setCell ⟨p, 6, none⟩ (.int .i64 (-1))) p 104 13 _ from ((h.set 10 _).set 6 _).congr (all13 rfl rfl rfl rfl rfl rfl rfl rfl rfl rfl rfl rfl rfl)
theorem rec_go1a {L C : Value} {m p : Nat} {D : Dsk} {w : World} (h : RecAt w p 104 13 (dcell L C m { D with trip := dec1 D.trip })) (hf : 0 < D.f 1) : RecAt ((w.setCell ⟨p, 10, none⟩ (.int .i64 (D.n 1 + 1))).setCell ⟨p, 6, none⟩ (.int .i64 (D.f 1 - 1))).drew p 104 13 (dcell L C m (D.go 1)) := by
  unfold Dsk.go
  rw [dec1_pos hf]
  exact show RecAt ((w.setCell ⟨p, 10, none⟩ (.int .i64 (D.n 1 + 1))).setCell ⟨p, 6, none⟩ (.int .i64 (D.f 1 - 1))) p 104 13 _ from ((h.set 10 _).set 6 _).congr (all13 rfl rfl rfl rfl rfl rfl rfl rfl rfl rfl rfl rfl rfl)
theorem rec_go1b {L C : Value} {m p : Nat} {D : Dsk} {w : World} (h : RecAt w p 104 13 (dcell L C m { D with trip := dec1 D.trip })) (hf : ¬ 0 < D.f 1) : RecAt (w.setCell ⟨p, 10, none⟩ (.int .i64 (D.n 1 + 1))).drew p 104 13 (dcell L C m (D.go 1)) := by
  unfold Dsk.go
  rw [dec1_neg hf]
  exact show RecAt (w.setCell ⟨p, 10, none⟩ (.int .i64 (D.n 1 + 1))) p 104 13 _ from (h.set 10 _).congr (all13 rfl rfl rfl rfl rfl rfl rfl rfl rfl rfl rfl rfl rfl)
theorem rec_fall2 {L C : Value} {m p : Nat} {D : Dsk} {w : World} (h : RecAt w p 104 13 (dcell L C m { D with trip := dec1 D.trip })) : RecAt ((w.setCell ⟨p, 11, none⟩ (.int .i64 (D.n 2 + 1))).setCell ⟨p, 7, none⟩ (.int .i64 (-1))).drew p 104 13 (dcell L C m (D.fall 2)) :=
  show RecAt ((w.setCell ⟨p, 11, none⟩ (.int .i64 (D.n 2 + 1))).setCell ⟨p, 7, none⟩ (.int .i64 (-1))) p 104 13 _ from ((h.set 11 _).set 7 _).congr (all13 rfl rfl rfl rfl rfl rfl rfl rfl rfl rfl rfl rfl rfl)
theorem rec_go2a {L C : Value} {m p : Nat} {D : Dsk} {w : World} (h : RecAt w p 104 13 (dcell L C m { D with trip := dec1 D.trip })) (hf : 0 < D.f 2) : RecAt ((w.setCell ⟨p, 11, none⟩ (.int .i64 (D.n 2 + 1))).setCell ⟨p, 7, none⟩ (.int .i64 (D.f 2 - 1))).drew p 104 13 (dcell L C m (D.go 2)) := by
  unfold Dsk.go
  rw [dec1_pos hf]
  exact show RecAt ((w.setCell ⟨p, 11, none⟩ (.int .i64 (D.n 2 + 1))).setCell ⟨p, 7, none⟩ (.int .i64 (D.f 2 - 1))) p 104 13 _ from ((h.set 11 _).set 7 _).congr (all13 rfl rfl rfl rfl rfl rfl rfl rfl rfl rfl rfl rfl rfl)
theorem rec_go2b {L C : Value} {m p : Nat} {D : Dsk} {w : World} (h : RecAt w p 104 13 (dcell L C m { D with trip := dec1 D.trip })) (hf : ¬ 0 < D.f 2) : RecAt (w.setCell ⟨p, 11, none⟩ (.int .i64 (D.n 2 + 1))).drew p 104 13 (dcell L C m (D.go 2)) := by
  unfold Dsk.go
  rw [dec1_neg hf]
  exact show RecAt (w.setCell ⟨p, 11, none⟩ (.int .i64 (D.n 2 + 1))) p 104 13 _ from (h.set 11 _).congr (all13 rfl rfl rfl rfl rfl rfl rfl rfl rfl rfl rfl rfl rfl)
theorem rec_fall3 {L C : Value} {m p : Nat} {D : Dsk} {w : World} (h : RecAt w p 104 13 (dcell L C m { D with trip := dec1 D.trip })) : RecAt ((w.setCell ⟨p, 12, none⟩ (.int .i64 (D.n 3 + 1))).setCell ⟨p, 8, none⟩ (.int .i64 (-1))).drew p 104 13 (dcell L C m (D.fall 3)) :=
  show RecAt ((w.setCell ⟨p, 12, none⟩ (.int .i64 (D.n 3 + 1))).setCell ⟨p, 8, none⟩ (.int .i64 (-1))) p 104 13 _ from ((h.set 12 _).set 8 _).congr (all13 rfl rfl rfl rfl rfl rfl rfl rfl rfl rfl rfl rfl rfl)
theorem rec_go3a {L C : Value} {m p : Nat} {D : Dsk} {w : World} (h : RecAt w p 104 13 (dcell L C m { D with trip := dec1 D.trip })) (hf : 0 < D.f 3) : RecAt ((w.setCell ⟨p, 12, none⟩ (.int .i64 (D.n 3 + 1))).setCell ⟨p, 8, none⟩ (.int .i64 (D.f 3 - 1))).drew p 104 13 (dcell L C m (D.go 3)) := by
  unfold Dsk.go
  rw [dec1_pos hf]
  exact show RecAt ((w.setCell ⟨p, 12, none⟩ (.int .i64 (D.n 3 + 1))).setCell ⟨p, 8, none⟩ (.int .i64 (D.f 3 - 1))) p 104 13 _ from ((h.set 12 _).set 8 _).congr (all13 rfl rfl rfl rfl rfl rfl rfl rfl rfl rfl rfl rfl rfl)
theorem rec_go3b {L C : Value} {m p : Nat} {D : Dsk} {w : World} (h : RecAt w p 104 13 (dcell L C m { D with trip := dec1 D.trip })) (hf : ¬ 0 < D.f 3) : RecAt (w.setCell ⟨p, 12, none⟩ (.int .i64 (D.n 3 + 1))).drew p 104 13 (dcell L C m (D.go 3)) := by
  unfold Dsk.go
  rw [dec1_neg hf]
  exact show RecAt (w.setCell ⟨p, 12, none⟩ (.int .i64 (D.n 3 + 1))) p 104 13 _ from (h.set 12 _).congr (all13 rfl rfl rfl rfl rfl rfl rfl rfl rfl rfl rfl rfl rfl)

set_option maxRecDepth 100000 in
set_option maxHeartbeats 1000000 in
theorem op_fails1 (L C : Value) (m p : Nat) (D : Dsk) (fv : Value) (w : World) (h : RecAt w p 104 13 (dcell L C m D)) (ok : D.Ok) (hn : D.n 1 ≤ 4611686018427387904) (hb : (D.begin 1).1 ≠ 0) :
    Calls Tryz.prog 38 #[.pointer (some ⟨p, 0, none⟩), .int .i64 1, fv] w (OpFails L C m p D 1 w) := by
  have c3 : w.cell? ⟨p, 3, none⟩ = some (.bool D.dark) := h.cell 3 (by omega)
  have c4 : w.cell? ⟨p, 4, none⟩ = some (.int .i64 D.trip) := h.cell 4 (by omega)
  have cf : w.cell? ⟨p, 6, none⟩ = some (.int .i64 (D.f 1)) := h.cell 6 (by omega)
  have cn : w.cell? ⟨p, 10, none⟩ = some (.int .i64 (D.n 1)) := h.cell 10 (by omega)
  have f3 := h.frozen 3
  have f4 := h.frozen 4
  have ff := h.frozen 6
  have fn := h.frozen 10
  have t1 := ok.trip
  have n1 := ok.n 1
  unfold OpFails
  unfold Dsk.begin at hb ⊢
  by_cases hd : D.dark = true
  · rw [if_pos hd]
    rw [hd] at c3
    have HH := Lib.hid h
    clear h hb hd
    go_enter Tryz.func38, Tryz.ntmps38
    go_wp2
    go_ret
    exact ⟨rfl, HH.out, Chg.refl _ _⟩
  · have hd' : D.dark = false := by simpa using hd
    rw [if_neg hd] at hb ⊢
    rw [hd'] at c3
    by_cases ht : D.trip = 0
    · rw [if_pos ht]
      rw [ht] at c4
      have HH := Lib.hid (rec_off h)
      clear h hb hd hd' ht t1
      go_enter Tryz.func38, Tryz.ntmps38
      go_wp2_with fail
      go_ret
      exact ⟨rfl, HH.out, two_chg _ _ _ _ _ _⟩
    · rw [if_neg ht] at hb ⊢
      by_cases hf : D.f 1 = 0
      · rw [if_pos hf] at hb ⊢
        rw [hf] at cf
        have ht1 : (D.trip == 0) = false := by simpa using ht
        have HF := Lib.hid hf
        by_cases hp : 0 < D.trip
        · have H2 : RecAt (w.setCell ⟨p, 4, none⟩ (.int .i64 (D.trip - 1))) p 104 13 (dcell L C m { D with trip := dec1 D.trip }) := by rw [dec1_pos hp]; exact rec_trip h _
          have hc2 := one_chg w p 4 (.int .i64 (D.trip - 1))
          have HX := Lib.hid H2
          have HC := Lib.hid hc2
          clear h hb hd hd' ht hf H2 hc2
          go_enter Tryz.func38, Tryz.ntmps38
          go_wp2_with fail
          replace HX := HX.out
          replace HC := HC.out
          generalize w.setCell ⟨p, 4, none⟩ (.int .i64 (D.trip - 1)) = w2 at *
          have cf : w2.cell? ⟨p, 6, none⟩ = some (.int .i64 (D.f 1)) := HX.cell 6 (by omega)
          have cn : w2.cell? ⟨p, 10, none⟩ = some (.int .i64 (D.n 1)) := HX.cell 10 (by omega)
          rw [HF.out] at cf
          have ff := HX.frozen 6
          have fn := HX.frozen 10
          go_region
          all_goals
            go_wp2_with fail
            go_ret
            exact ⟨rfl, rec_fall1 HX, (HC.trans (two_chg w2 p 10 6 _ _) (fun _ _ h => h)).drew⟩
        · have H2 : RecAt w p 104 13 (dcell L C m { D with trip := dec1 D.trip }) := by rw [dec1_neg hp]; exact h
          have HX := Lib.hid H2
          have hc2 : Chg (OnlyP p) w w := Chg.refl _ _
          have HC := Lib.hid hc2
          clear h hb hd hd' ht hf H2 hc2
          go_enter Tryz.func38, Tryz.ntmps38
          go_wp2_with fail
          replace HX := HX.out
          replace HC := HC.out
          clear c3 c4 cf cn f3 f4 ff fn
          obtain ⟨w2, hw2⟩ : ∃ w2, w2 = w := ⟨_, rfl⟩
          rw [← hw2] at HX
          rw [show Code.wp _ _ _ _ w = Code.wp _ _ _ _ w2 from by rw [hw2]]
          have HC' : Chg (OnlyP p) w w2 := by rw [hw2]; exact HC
          clear HC hw2
          have HC := HC'
          have cf : w2.cell? ⟨p, 6, none⟩ = some (.int .i64 (D.f 1)) := HX.cell 6 (by omega)
          have cn : w2.cell? ⟨p, 10, none⟩ = some (.int .i64 (D.n 1)) := HX.cell 10 (by omega)
          rw [HF.out] at cf
          have ff := HX.frozen 6
          have fn := HX.frozen 10
          go_region
          all_goals
            go_wp2_with fail
            go_ret
            exact ⟨rfl, rec_fall1 HX, (HC.trans (two_chg w2 p 10 6 _ _) (fun _ _ h => h)).drew⟩
      · rw [if_neg hf] at hb
        exact absurd rfl hb

set_option maxRecDepth 100000 in
set_option maxHeartbeats 1000000 in
theorem op_fails2 (L C : Value) (m p : Nat) (D : Dsk) (fv : Value) (w : World) (h : RecAt w p 104 13 (dcell L C m D)) (ok : D.Ok) (hn : D.n 2 ≤ 4611686018427387904) (hb : (D.begin 2).1 ≠ 0) :
    Calls Tryz.prog 38 #[.pointer (some ⟨p, 0, none⟩), .int .i64 2, fv] w (OpFails L C m p D 2 w) := by
  have c3 : w.cell? ⟨p, 3, none⟩ = some (.bool D.dark) := h.cell 3 (by omega)
  have c4 : w.cell? ⟨p, 4, none⟩ = some (.int .i64 D.trip) := h.cell 4 (by omega)
  have cf : w.cell? ⟨p, 7, none⟩ = some (.int .i64 (D.f 2)) := h.cell 7 (by omega)
  have cn : w.cell? ⟨p, 11, none⟩ = some (.int .i64 (D.n 2)) := h.cell 11 (by omega)
  have f3 := h.frozen 3
  have f4 := h.frozen 4
  have ff := h.frozen 7
  have fn := h.frozen 11
  have t1 := ok.trip
  have n1 := ok.n 2
  unfold OpFails
  unfold Dsk.begin at hb ⊢
  by_cases hd : D.dark = true
  · rw [if_pos hd]
    rw [hd] at c3
    have HH := Lib.hid h
    clear h hb hd
    go_enter Tryz.func38, Tryz.ntmps38
    go_wp2
    go_ret
    exact ⟨rfl, HH.out, Chg.refl _ _⟩
  · have hd' : D.dark = false := by simpa using hd
    rw [if_neg hd] at hb ⊢
    rw [hd'] at c3
    by_cases ht : D.trip = 0
    · rw [if_pos ht]
      rw [ht] at c4
      have HH := Lib.hid (rec_off h)
      clear h hb hd hd' ht t1
      go_enter Tryz.func38, Tryz.ntmps38
      go_wp2_with fail
      go_ret
      exact ⟨rfl, HH.out, two_chg _ _ _ _ _ _⟩
    · rw [if_neg ht] at hb ⊢
      by_cases hf : D.f 2 = 0
      · rw [if_pos hf] at hb ⊢
        rw [hf] at cf
        have ht1 : (D.trip == 0) = false := by simpa using ht
        have HF := Lib.hid hf
        by_cases hp : 0 < D.trip
        · have H2 : RecAt (w.setCell ⟨p, 4, none⟩ (.int .i64 (D.trip - 1))) p 104 13 (dcell L C m { D with trip := dec1 D.trip }) := by rw [dec1_pos hp]; exact rec_trip h _
          have hc2 := one_chg w p 4 (.int .i64 (D.trip - 1))
          have HX := Lib.hid H2
          have HC := Lib.hid hc2
          clear h hb hd hd' ht hf H2 hc2
          go_enter Tryz.func38, Tryz.ntmps38
          go_wp2_with fail
          replace HX := HX.out
          replace HC := HC.out
          generalize w.setCell ⟨p, 4, none⟩ (.int .i64 (D.trip - 1)) = w2 at *
          have cf : w2.cell? ⟨p, 7, none⟩ = some (.int .i64 (D.f 2)) := HX.cell 7 (by omega)
          have cn : w2.cell? ⟨p, 11, none⟩ = some (.int .i64 (D.n 2)) := HX.cell 11 (by omega)
          rw [HF.out] at cf
          have ff := HX.frozen 7
          have fn := HX.frozen 11
          go_region
          all_goals
            go_wp2_with fail
            go_ret
            exact ⟨rfl, rec_fall2 HX, (HC.trans (two_chg w2 p 11 7 _ _) (fun _ _ h => h)).drew⟩
        · have H2 : RecAt w p 104 13 (dcell L C m { D with trip := dec1 D.trip }) := by rw [dec1_neg hp]; exact h
          have HX := Lib.hid H2
          have hc2 : Chg (OnlyP p) w w := Chg.refl _ _
          have HC := Lib.hid hc2
          clear h hb hd hd' ht hf H2 hc2
          go_enter Tryz.func38, Tryz.ntmps38
          go_wp2_with fail
          replace HX := HX.out
          replace HC := HC.out
          clear c3 c4 cf cn f3 f4 ff fn
          obtain ⟨w2, hw2⟩ : ∃ w2, w2 = w := ⟨_, rfl⟩
          rw [← hw2] at HX
          rw [show Code.wp _ _ _ _ w = Code.wp _ _ _ _ w2 from by rw [hw2]]
          have HC' : Chg (OnlyP p) w w2 := by rw [hw2]; exact HC
          clear HC hw2
          have HC := HC'
          have cf : w2.cell? ⟨p, 7, none⟩ = some (.int .i64 (D.f 2)) := HX.cell 7 (by omega)
          have cn : w2.cell? ⟨p, 11, none⟩ = some (.int .i64 (D.n 2)) := HX.cell 11 (by omega)
          rw [HF.out] at cf
          have ff := HX.frozen 7
          have fn := HX.frozen 11
          go_region
          all_goals
            go_wp2_with fail
            go_ret
            exact ⟨rfl, rec_fall2 HX, (HC.trans (two_chg w2 p 11 7 _ _) (fun _ _ h => h)).drew⟩
      · rw [if_neg hf] at hb
        exact absurd rfl hb

set_option maxRecDepth 100000 in
set_option maxHeartbeats 1000000 in
theorem op_fails3 (L C : Value) (m p : Nat) (D : Dsk) (fv : Value) (w : World) (h : RecAt w p 104 13 (dcell L C m D)) (ok : D.Ok) (hn : D.n 3 ≤ 4611686018427387904) (hb : (D.begin 3).1 ≠ 0) :
    Calls Tryz.prog 38 #[.pointer (some ⟨p, 0, none⟩), .int .i64 3, fv] w (OpFails L C m p D 3 w) := by
  have c3 : w.cell? ⟨p, 3, none⟩ = some (.bool D.dark) := h.cell 3 (by omega)
  have c4 : w.cell? ⟨p, 4, none⟩ = some (.int .i64 D.trip) := h.cell 4 (by omega)
  have cf : w.cell? ⟨p, 8, none⟩ = some (.int .i64 (D.f 3)) := h.cell 8 (by omega)
  have cn : w.cell? ⟨p, 12, none⟩ = some (.int .i64 (D.n 3)) := h.cell 12 (by omega)
  have f3 := h.frozen 3
  have f4 := h.frozen 4
  have ff := h.frozen 8
  have fn := h.frozen 12
  have t1 := ok.trip
  have n1 := ok.n 3
  unfold OpFails
  unfold Dsk.begin at hb ⊢
  by_cases hd : D.dark = true
  · rw [if_pos hd]
    rw [hd] at c3
    have HH := Lib.hid h
    clear h hb hd
    go_enter Tryz.func38, Tryz.ntmps38
    go_wp2
    go_ret
    exact ⟨rfl, HH.out, Chg.refl _ _⟩
  · have hd' : D.dark = false := by simpa using hd
    rw [if_neg hd] at hb ⊢
    rw [hd'] at c3
    by_cases ht : D.trip = 0
    · rw [if_pos ht]
      rw [ht] at c4
      have HH := Lib.hid (rec_off h)
      clear h hb hd hd' ht t1
      go_enter Tryz.func38, Tryz.ntmps38
      go_wp2_with fail
      go_ret
      exact ⟨rfl, HH.out, two_chg _ _ _ _ _ _⟩
    · rw [if_neg ht] at hb ⊢
      by_cases hf : D.f 3 = 0
      · rw [if_pos hf] at hb ⊢
        rw [hf] at cf
        have ht1 : (D.trip == 0) = false := by simpa using ht
        have HF := Lib.hid hf
        by_cases hp : 0 < D.trip
        · have H2 : RecAt (w.setCell ⟨p, 4, none⟩ (.int .i64 (D.trip - 1))) p 104 13 (dcell L C m { D with trip := dec1 D.trip }) := by rw [dec1_pos hp]; exact rec_trip h _
          have hc2 := one_chg w p 4 (.int .i64 (D.trip - 1))
          have HX := Lib.hid H2
          have HC := Lib.hid hc2
          clear h hb hd hd' ht hf H2 hc2
          go_enter Tryz.func38, Tryz.ntmps38
          go_wp2_with fail
          replace HX := HX.out
          replace HC := HC.out
          generalize w.setCell ⟨p, 4, none⟩ (.int .i64 (D.trip - 1)) = w2 at *
          have cf : w2.cell? ⟨p, 8, none⟩ = some (.int .i64 (D.f 3)) := HX.cell 8 (by omega)
          have cn : w2.cell? ⟨p, 12, none⟩ = some (.int .i64 (D.n 3)) := HX.cell 12 (by omega)
          rw [HF.out] at cf
          have ff := HX.frozen 8
          have fn := HX.frozen 12
          go_region
          all_goals
            go_wp2_with fail
            go_ret
            exact ⟨rfl, rec_fall3 HX, (HC.trans (two_chg w2 p 12 8 _ _) (fun _ _ h => h)).drew⟩
        · have H2 : RecAt w p 104 13 (dcell L C m { D with trip := dec1 D.trip }) := by rw [dec1_neg hp]; exact h
          have HX := Lib.hid H2
          have hc2 : Chg (OnlyP p) w w := Chg.refl _ _
          have HC := Lib.hid hc2
          clear h hb hd hd' ht hf H2 hc2
          go_enter Tryz.func38, Tryz.ntmps38
          go_wp2_with fail
          replace HX := HX.out
          replace HC := HC.out
          clear c3 c4 cf cn f3 f4 ff fn
          obtain ⟨w2, hw2⟩ : ∃ w2, w2 = w := ⟨_, rfl⟩
          rw [← hw2] at HX
          rw [show Code.wp _ _ _ _ w = Code.wp _ _ _ _ w2 from by rw [hw2]]
          have HC' : Chg (OnlyP p) w w2 := by rw [hw2]; exact HC
          clear HC hw2
          have HC := HC'
          have cf : w2.cell? ⟨p, 8, none⟩ = some (.int .i64 (D.f 3)) := HX.cell 8 (by omega)
          have cn : w2.cell? ⟨p, 12, none⟩ = some (.int .i64 (D.n 3)) := HX.cell 12 (by omega)
          rw [HF.out] at cf
          have ff := HX.frozen 8
          have fn := HX.frozen 12
          go_region
          all_goals
            go_wp2_with fail
            go_ret
            exact ⟨rfl, rec_fall3 HX, (HC.trans (two_chg w2 p 12 8 _ _) (fun _ _ h => h)).drew⟩
      · rw [if_neg hf] at hb
        exact absurd rfl hb

set_option maxRecDepth 100000 in
set_option maxHeartbeats 2000000 in
theorem op_go1 (L C : Value) (m p : Nat) (D : Dsk) (fi : FuncId) (caps : Array Value) (R : Nat → World → Prop) (w : World) (h : RecAt w p 104 13 (dcell L C m D)) (ok : D.Ok) (hn : D.n 1 ≤ 4611686018427387904) (hb : (D.begin 1).1 = 0)
    (hcf : ∀ args w, (callFunc fi args).run Tryz.prog w = .ok (.enter fi args) w)
    (hdo : ∀ w', RecAt w' p 104 13 (dcell L C m (D.go 1)) → Chg (OnlyP p) w w' → Calls Tryz.prog fi caps w' fun e w'' => ∃ x : Nat, e = .returned (.int .u16 (x : Nat)) ∧ R x w'') :
    Calls Tryz.prog 38 #[.pointer (some ⟨p, 0, none⟩), .int .i64 1, .func (.func fi) #[] caps] w fun e w'' => ∃ x : Nat, e = .returned (.int .u16 (x : Nat)) ∧ R x w'' := by
  have c3 : w.cell? ⟨p, 3, none⟩ = some (.bool D.dark) := h.cell 3 (by omega)
  have c4 : w.cell? ⟨p, 4, none⟩ = some (.int .i64 D.trip) := h.cell 4 (by omega)
  have cf : w.cell? ⟨p, 6, none⟩ = some (.int .i64 (D.f 1)) := h.cell 6 (by omega)
  have cn : w.cell? ⟨p, 10, none⟩ = some (.int .i64 (D.n 1)) := h.cell 10 (by omega)
  have f3 := h.frozen 3
  have f4 := h.frozen 4
  have ff := h.frozen 6
  have fn' := h.frozen 10
  have t1 := ok.trip
  have n1 := ok.n 1
  have ff1 := ok.f 1
  have HDO := Lib.hid hdo
  clear hdo
  obtain ⟨hd', ht, hf⟩ : D.dark = false ∧ ¬ D.trip = 0 ∧ ¬ D.f 1 = 0 := by
    unfold Dsk.begin at hb
    split at hb
    · simp at hb
    · split at hb
      · simp at hb
      · split at hb
        · simp at hb
        · rename_i a b c; exact ⟨by simpa using a, b, c⟩
  have hd := hd'
  rw [hd'] at c3
  clear hb
  have ht1 : (D.trip == 0) = false := by simpa using ht
  have hf1 : (D.f 1 == 0) = false := by simpa using hf
  by_cases hfp : 0 < D.f 1
  · have HFP := Lib.hid hfp
    by_cases hp : 0 < D.trip
    · have _t := trivial
      have H2 : RecAt (w.setCell ⟨p, 4, none⟩ (.int .i64 (D.trip - 1))) p 104 13 (dcell L C m { D with trip := dec1 D.trip }) := by rw [dec1_pos hp]; exact rec_trip h _
      have hc2 := one_chg w p 4 (.int .i64 (D.trip - 1))
      have HX := Lib.hid H2
      have HC := Lib.hid hc2
      clear h hd hd' ht hf H2 hc2
      go_enter Tryz.func38, Tryz.ntmps38
      go_wp2_with fail
      replace HX := HX.out
      replace HC := HC.out
      generalize w.setCell ⟨p, 4, none⟩ (.int .i64 (D.trip - 1)) = w2 at *
      have cf : w2.cell? ⟨p, 6, none⟩ = some (.int .i64 (D.f 1)) := HX.cell 6 (by omega)
      have cn : w2.cell? ⟨p, 10, none⟩ = some (.int .i64 (D.n 1)) := HX.cell 10 (by omega)
      have ff := HX.frozen 6
      have fn' := HX.frozen 10
      go_region
      all_goals
        go_wp2_with fail
        refine (HDO.out _ (rec_go1a HX (by have := HFP.out; omega)) (HC.trans (two_chg w2 p 10 6 _ _) (fun _ _ h => h)).drew).mono ?_
        rintro e w9 ⟨x, rfl, hR⟩
        have HR := Lib.hid hR
        clear hR
        go_wp2
        go_ret
        exact ⟨x, rfl, HR.out⟩
    · have _t := trivial
      have H2 : RecAt w p 104 13 (dcell L C m { D with trip := dec1 D.trip }) := by rw [dec1_neg hp]; exact h
      have HX := Lib.hid H2
      have hc2 : Chg (OnlyP p) w w := Chg.refl _ _
      have HC := Lib.hid hc2
      clear h hd hd' ht hf H2 hc2
      go_enter Tryz.func38, Tryz.ntmps38
      go_wp2_with fail
      replace HX := HX.out
      replace HC := HC.out
      clear c3 c4 cf cn f3 f4 ff fn'
      obtain ⟨w2, hw2⟩ : ∃ w2, w2 = w := ⟨_, rfl⟩
      rw [← hw2] at HX
      rw [show Code.wp _ _ _ _ w = Code.wp _ _ _ _ w2 from by rw [hw2]]
      have HC' : Chg (OnlyP p) w w2 := by rw [hw2]; exact HC
      clear HC hw2
      have HC := HC'
      have cf : w2.cell? ⟨p, 6, none⟩ = some (.int .i64 (D.f 1)) := HX.cell 6 (by omega)
      have cn : w2.cell? ⟨p, 10, none⟩ = some (.int .i64 (D.n 1)) := HX.cell 10 (by omega)
      have ff := HX.frozen 6
      have fn' := HX.frozen 10
      go_region
      all_goals
        go_wp2_with fail
        refine (HDO.out _ (rec_go1a HX (by have := HFP.out; omega)) (HC.trans (two_chg w2 p 10 6 _ _) (fun _ _ h => h)).drew).mono ?_
        rintro e w9 ⟨x, rfl, hR⟩
        have HR := Lib.hid hR
        clear hR
        go_wp2
        go_ret
        exact ⟨x, rfl, HR.out⟩
  · have HFP := Lib.hid hfp
    by_cases hp : 0 < D.trip
    · have _t := trivial
      have H2 : RecAt (w.setCell ⟨p, 4, none⟩ (.int .i64 (D.trip - 1))) p 104 13 (dcell L C m { D with trip := dec1 D.trip }) := by rw [dec1_pos hp]; exact rec_trip h _
      have hc2 := one_chg w p 4 (.int .i64 (D.trip - 1))
      have HX := Lib.hid H2
      have HC := Lib.hid hc2
      clear h hd hd' ht hf H2 hc2
      go_enter Tryz.func38, Tryz.ntmps38
      go_wp2_with fail
      replace HX := HX.out
      replace HC := HC.out
      generalize w.setCell ⟨p, 4, none⟩ (.int .i64 (D.trip - 1)) = w2 at *
      have cf : w2.cell? ⟨p, 6, none⟩ = some (.int .i64 (D.f 1)) := HX.cell 6 (by omega)
      have cn : w2.cell? ⟨p, 10, none⟩ = some (.int .i64 (D.n 1)) := HX.cell 10 (by omega)
      have ff := HX.frozen 6
      have fn' := HX.frozen 10
      go_region
      all_goals
        go_wp2_with fail
        refine (HDO.out _ (rec_go1b HX (by have := HFP.out; omega)) (HC.trans (one_chg w2 p 10 _) (fun _ _ h => h)).drew).mono ?_
        rintro e w9 ⟨x, rfl, hR⟩
        have HR := Lib.hid hR
        clear hR
        go_wp2
        go_ret
        exact ⟨x, rfl, HR.out⟩
    · have _t := trivial
      have H2 : RecAt w p 104 13 (dcell L C m { D with trip := dec1 D.trip }) := by rw [dec1_neg hp]; exact h
      have HX := Lib.hid H2
      have hc2 : Chg (OnlyP p) w w := Chg.refl _ _
      have HC := Lib.hid hc2
      clear h hd hd' ht hf H2 hc2
      go_enter Tryz.func38, Tryz.ntmps38
      go_wp2_with fail
      replace HX := HX.out
      replace HC := HC.out
      clear c3 c4 cf cn f3 f4 ff fn'
      obtain ⟨w2, hw2⟩ : ∃ w2, w2 = w := ⟨_, rfl⟩
      rw [← hw2] at HX
      rw [show Code.wp _ _ _ _ w = Code.wp _ _ _ _ w2 from by rw [hw2]]
      have HC' : Chg (OnlyP p) w w2 := by rw [hw2]; exact HC
      clear HC hw2
      have HC := HC'
      have cf : w2.cell? ⟨p, 6, none⟩ = some (.int .i64 (D.f 1)) := HX.cell 6 (by omega)
      have cn : w2.cell? ⟨p, 10, none⟩ = some (.int .i64 (D.n 1)) := HX.cell 10 (by omega)
      have ff := HX.frozen 6
      have fn' := HX.frozen 10
      go_region
      all_goals
        go_wp2_with fail
        refine (HDO.out _ (rec_go1b HX (by have := HFP.out; omega)) (HC.trans (one_chg w2 p 10 _) (fun _ _ h => h)).drew).mono ?_
        rintro e w9 ⟨x, rfl, hR⟩
        have HR := Lib.hid hR
        clear hR
        go_wp2
        go_ret
        exact ⟨x, rfl, HR.out⟩

set_option maxRecDepth 100000 in
set_option maxHeartbeats 2000000 in
theorem op_go2 (L C : Value) (m p : Nat) (D : Dsk) (fi : FuncId) (caps : Array Value) (R : Nat → World → Prop) (w : World) (h : RecAt w p 104 13 (dcell L C m D)) (ok : D.Ok) (hn : D.n 2 ≤ 4611686018427387904) (hb : (D.begin 2).1 = 0)
    (hcf : ∀ args w, (callFunc fi args).run Tryz.prog w = .ok (.enter fi args) w)
    (hdo : ∀ w', RecAt w' p 104 13 (dcell L C m (D.go 2)) → Chg (OnlyP p) w w' → Calls Tryz.prog fi caps w' fun e w'' => ∃ x : Nat, e = .returned (.int .u16 (x : Nat)) ∧ R x w'') :
    Calls Tryz.prog 38 #[.pointer (some ⟨p, 0, none⟩), .int .i64 2, .func (.func fi) #[] caps] w fun e w'' => ∃ x : Nat, e = .returned (.int .u16 (x : Nat)) ∧ R x w'' := by
  have c3 : w.cell? ⟨p, 3, none⟩ = some (.bool D.dark) := h.cell 3 (by omega)
  have c4 : w.cell? ⟨p, 4, none⟩ = some (.int .i64 D.trip) := h.cell 4 (by omega)
  have cf : w.cell? ⟨p, 7, none⟩ = some (.int .i64 (D.f 2)) := h.cell 7 (by omega)
  have cn : w.cell? ⟨p, 11, none⟩ = some (.int .i64 (D.n 2)) := h.cell 11 (by omega)
  have f3 := h.frozen 3
  have f4 := h.frozen 4
  have ff := h.frozen 7
  have fn' := h.frozen 11
  have t1 := ok.trip
  have n1 := ok.n 2
  have ff1 := ok.f 2
  have HDO := Lib.hid hdo
  clear hdo
  obtain ⟨hd', ht, hf⟩ : D.dark = false ∧ ¬ D.trip = 0 ∧ ¬ D.f 2 = 0 := by
    unfold Dsk.begin at hb
    split at hb
    · simp at hb
    · split at hb
      · simp at hb
      · split at hb
        · simp at hb
        · rename_i a b c; exact ⟨by simpa using a, b, c⟩
  have hd := hd'
  rw [hd'] at c3
  clear hb
  have ht1 : (D.trip == 0) = false := by simpa using ht
  have hf1 : (D.f 2 == 0) = false := by simpa using hf
  by_cases hfp : 0 < D.f 2
  · have HFP := Lib.hid hfp
    by_cases hp : 0 < D.trip
    · have _t := trivial
      have H2 : RecAt (w.setCell ⟨p, 4, none⟩ (.int .i64 (D.trip - 1))) p 104 13 (dcell L C m { D with trip := dec1 D.trip }) := by rw [dec1_pos hp]; exact rec_trip h _
      have hc2 := one_chg w p 4 (.int .i64 (D.trip - 1))
      have HX := Lib.hid H2
      have HC := Lib.hid hc2
      clear h hd hd' ht hf H2 hc2
      go_enter Tryz.func38, Tryz.ntmps38
      go_wp2_with fail
      replace HX := HX.out
      replace HC := HC.out
      generalize w.setCell ⟨p, 4, none⟩ (.int .i64 (D.trip - 1)) = w2 at *
      have cf : w2.cell? ⟨p, 7, none⟩ = some (.int .i64 (D.f 2)) := HX.cell 7 (by omega)
      have cn : w2.cell? ⟨p, 11, none⟩ = some (.int .i64 (D.n 2)) := HX.cell 11 (by omega)
      have ff := HX.frozen 7
      have fn' := HX.frozen 11
      go_region
      all_goals
        go_wp2_with fail
        refine (HDO.out _ (rec_go2a HX (by have := HFP.out; omega)) (HC.trans (two_chg w2 p 11 7 _ _) (fun _ _ h => h)).drew).mono ?_
        rintro e w9 ⟨x, rfl, hR⟩
        have HR := Lib.hid hR
        clear hR
        go_wp2
        go_ret
        exact ⟨x, rfl, HR.out⟩
    · have _t := trivial
      have H2 : RecAt w p 104 13 (dcell L C m { D with trip := dec1 D.trip }) := by rw [dec1_neg hp]; exact h
      have HX := Lib.hid H2
      have hc2 : Chg (OnlyP p) w w := Chg.refl _ _
      have HC := Lib.hid hc2
      clear h hd hd' ht hf H2 hc2
      go_enter Tryz.func38, Tryz.ntmps38
      go_wp2_with fail
      replace HX := HX.out
      replace HC := HC.out
      clear c3 c4 cf cn f3 f4 ff fn'
      obtain ⟨w2, hw2⟩ : ∃ w2, w2 = w := ⟨_, rfl⟩
      rw [← hw2] at HX
      rw [show Code.wp _ _ _ _ w = Code.wp _ _ _ _ w2 from by rw [hw2]]
      have HC' : Chg (OnlyP p) w w2 := by rw [hw2]; exact HC
      clear HC hw2
      have HC := HC'
      have cf : w2.cell? ⟨p, 7, none⟩ = some (.int .i64 (D.f 2)) := HX.cell 7 (by omega)
      have cn : w2.cell? ⟨p, 11, none⟩ = some (.int .i64 (D.n 2)) := HX.cell 11 (by omega)
      have ff := HX.frozen 7
      have fn' := HX.frozen 11
      go_region
      all_goals
        go_wp2_with fail
        refine (HDO.out _ (rec_go2a HX (by have := HFP.out; omega)) (HC.trans (two_chg w2 p 11 7 _ _) (fun _ _ h => h)).drew).mono ?_
        rintro e w9 ⟨x, rfl, hR⟩
        have HR := Lib.hid hR
        clear hR
        go_wp2
        go_ret
        exact ⟨x, rfl, HR.out⟩
  · have HFP := Lib.hid hfp
    by_cases hp : 0 < D.trip
    · have _t := trivial
      have H2 : RecAt (w.setCell ⟨p, 4, none⟩ (.int .i64 (D.trip - 1))) p 104 13 (dcell L C m { D with trip := dec1 D.trip }) := by rw [dec1_pos hp]; exact rec_trip h _
      have hc2 := one_chg w p 4 (.int .i64 (D.trip - 1))
      have HX := Lib.hid H2
      have HC := Lib.hid hc2
      clear h hd hd' ht hf H2 hc2
      go_enter Tryz.func38, Tryz.ntmps38
      go_wp2_with fail
      replace HX := HX.out
      replace HC := HC.out
      generalize w.setCell ⟨p, 4, none⟩ (.int .i64 (D.trip - 1)) = w2 at *
      have cf : w2.cell? ⟨p, 7, none⟩ = some (.int .i64 (D.f 2)) := HX.cell 7 (by omega)
      have cn : w2.cell? ⟨p, 11, none⟩ = some (.int .i64 (D.n 2)) := HX.cell 11 (by omega)
      have ff := HX.frozen 7
      have fn' := HX.frozen 11
      go_region
      all_goals
        go_wp2_with fail
        refine (HDO.out _ (rec_go2b HX (by have := HFP.out; omega)) (HC.trans (one_chg w2 p 11 _) (fun _ _ h => h)).drew).mono ?_
        rintro e w9 ⟨x, rfl, hR⟩
        have HR := Lib.hid hR
        clear hR
        go_wp2
        go_ret
        exact ⟨x, rfl, HR.out⟩
    · have _t := trivial
      have H2 : RecAt w p 104 13 (dcell L C m { D with trip := dec1 D.trip }) := by rw [dec1_neg hp]; exact h
      have HX := Lib.hid H2
      have hc2 : Chg (OnlyP p) w w := Chg.refl _ _
      have HC := Lib.hid hc2
      clear h hd hd' ht hf H2 hc2
      go_enter Tryz.func38, Tryz.ntmps38
      go_wp2_with fail
      replace HX := HX.out
      replace HC := HC.out
      clear c3 c4 cf cn f3 f4 ff fn'
      obtain ⟨w2, hw2⟩ : ∃ w2, w2 = w := ⟨_, rfl⟩
      rw [← hw2] at HX
      rw [show Code.wp _ _ _ _ w = Code.wp _ _ _ _ w2 from by rw [hw2]]
      have HC' : Chg (OnlyP p) w w2 := by rw [hw2]; exact HC
      clear HC hw2
      have HC := HC'
      have cf : w2.cell? ⟨p, 7, none⟩ = some (.int .i64 (D.f 2)) := HX.cell 7 (by omega)
      have cn : w2.cell? ⟨p, 11, none⟩ = some (.int .i64 (D.n 2)) := HX.cell 11 (by omega)
      have ff := HX.frozen 7
      have fn' := HX.frozen 11
      go_region
      all_goals
        go_wp2_with fail
        refine (HDO.out _ (rec_go2b HX (by have := HFP.out; omega)) (HC.trans (one_chg w2 p 11 _) (fun _ _ h => h)).drew).mono ?_
        rintro e w9 ⟨x, rfl, hR⟩
        have HR := Lib.hid hR
        clear hR
        go_wp2
        go_ret
        exact ⟨x, rfl, HR.out⟩

set_option maxRecDepth 100000 in
set_option maxHeartbeats 2000000 in
theorem op_go3 (L C : Value) (m p : Nat) (D : Dsk) (fi : FuncId) (caps : Array Value) (R : Nat → World → Prop) (w : World) (h : RecAt w p 104 13 (dcell L C m D)) (ok : D.Ok) (hn : D.n 3 ≤ 4611686018427387904) (hb : (D.begin 3).1 = 0)
    (hcf : ∀ args w, (callFunc fi args).run Tryz.prog w = .ok (.enter fi args) w)
    (hdo : ∀ w', RecAt w' p 104 13 (dcell L C m (D.go 3)) → Chg (OnlyP p) w w' → Calls Tryz.prog fi caps w' fun e w'' => ∃ x : Nat, e = .returned (.int .u16 (x : Nat)) ∧ R x w'') :
    Calls Tryz.prog 38 #[.pointer (some ⟨p, 0, none⟩), .int .i64 3, .func (.func fi) #[] caps] w fun e w'' => ∃ x : Nat, e = .returned (.int .u16 (x : Nat)) ∧ R x w'' := by
  have c3 : w.cell? ⟨p, 3, none⟩ = some (.bool D.dark) := h.cell 3 (by omega)
  have c4 : w.cell? ⟨p, 4, none⟩ = some (.int .i64 D.trip) := h.cell 4 (by omega)
  have cf : w.cell? ⟨p, 8, none⟩ = some (.int .i64 (D.f 3)) := h.cell 8 (by omega)
  have cn : w.cell? ⟨p, 12, none⟩ = some (.int .i64 (D.n 3)) := h.cell 12 (by omega)
  have f3 := h.frozen 3
  have f4 := h.frozen 4
  have ff := h.frozen 8
  have fn' := h.frozen 12
  have t1 := ok.trip
  have n1 := ok.n 3
  have ff1 := ok.f 3
  have HDO := Lib.hid hdo
  clear hdo
  obtain ⟨hd', ht, hf⟩ : D.dark = false ∧ ¬ D.trip = 0 ∧ ¬ D.f 3 = 0 := by
    unfold Dsk.begin at hb
    split at hb
    · simp at hb
    · split at hb
      · simp at hb
      · split at hb
        · simp at hb
        · rename_i a b c; exact ⟨by simpa using a, b, c⟩
  have hd := hd'
  rw [hd'] at c3
  clear hb
  have ht1 : (D.trip == 0) = false := by simpa using ht
  have hf1 : (D.f 3 == 0) = false := by simpa using hf
  by_cases hfp : 0 < D.f 3
  · have HFP := Lib.hid hfp
    by_cases hp : 0 < D.trip
    · have _t := trivial
      have H2 : RecAt (w.setCell ⟨p, 4, none⟩ (.int .i64 (D.trip - 1))) p 104 13 (dcell L C m { D with trip := dec1 D.trip }) := by rw [dec1_pos hp]; exact rec_trip h _
      have hc2 := one_chg w p 4 (.int .i64 (D.trip - 1))
      have HX := Lib.hid H2
      have HC := Lib.hid hc2
      clear h hd hd' ht hf H2 hc2
      go_enter Tryz.func38, Tryz.ntmps38
      go_wp2_with fail
      replace HX := HX.out
      replace HC := HC.out
      generalize w.setCell ⟨p, 4, none⟩ (.int .i64 (D.trip - 1)) = w2 at *
      have cf : w2.cell? ⟨p, 8, none⟩ = some (.int .i64 (D.f 3)) := HX.cell 8 (by omega)
      have cn : w2.cell? ⟨p, 12, none⟩ = some (.int .i64 (D.n 3)) := HX.cell 12 (by omega)
      have ff := HX.frozen 8
      have fn' := HX.frozen 12
      go_region
      all_goals
        go_wp2_with fail
        refine (HDO.out _ (rec_go3a HX (by have := HFP.out; omega)) (HC.trans (two_chg w2 p 12 8 _ _) (fun _ _ h => h)).drew).mono ?_
        rintro e w9 ⟨x, rfl, hR⟩
        have HR := Lib.hid hR
        clear hR
        go_wp2
        go_ret
        exact ⟨x, rfl, HR.out⟩
    · have _t := trivial
      have H2 : RecAt w p 104 13 (dcell L C m { D with trip := dec1 D.trip }) := by rw [dec1_neg hp]; exact h
      have HX := Lib.hid H2
      have hc2 : Chg (OnlyP p) w w := Chg.refl _ _
      have HC := Lib.hid hc2
      clear h hd hd' ht hf H2 hc2
      go_enter Tryz.func38, Tryz.ntmps38
      go_wp2_with fail
      replace HX := HX.out
      replace HC := HC.out
      clear c3 c4 cf cn f3 f4 ff fn'
      obtain ⟨w2, hw2⟩ : ∃ w2, w2 = w := ⟨_, rfl⟩
      rw [← hw2] at HX
      rw [show Code.wp _ _ _ _ w = Code.wp _ _ _ _ w2 from by rw [hw2]]
      have HC' : Chg (OnlyP p) w w2 := by rw [hw2]; exact HC
      clear HC hw2
      have HC := HC'
      have cf : w2.cell? ⟨p, 8, none⟩ = some (.int .i64 (D.f 3)) := HX.cell 8 (by omega)
      have cn : w2.cell? ⟨p, 12, none⟩ = some (.int .i64 (D.n 3)) := HX.cell 12 (by omega)
      have ff := HX.frozen 8
      have fn' := HX.frozen 12
      go_region
      all_goals
        go_wp2_with fail
        refine (HDO.out _ (rec_go3a HX (by have := HFP.out; omega)) (HC.trans (two_chg w2 p 12 8 _ _) (fun _ _ h => h)).drew).mono ?_
        rintro e w9 ⟨x, rfl, hR⟩
        have HR := Lib.hid hR
        clear hR
        go_wp2
        go_ret
        exact ⟨x, rfl, HR.out⟩
  · have HFP := Lib.hid hfp
    by_cases hp : 0 < D.trip
    · have _t := trivial
      have H2 : RecAt (w.setCell ⟨p, 4, none⟩ (.int .i64 (D.trip - 1))) p 104 13 (dcell L C m { D with trip := dec1 D.trip }) := by rw [dec1_pos hp]; exact rec_trip h _
      have hc2 := one_chg w p 4 (.int .i64 (D.trip - 1))
      have HX := Lib.hid H2
      have HC := Lib.hid hc2
      clear h hd hd' ht hf H2 hc2
      go_enter Tryz.func38, Tryz.ntmps38
      go_wp2_with fail
      replace HX := HX.out
      replace HC := HC.out
      generalize w.setCell ⟨p, 4, none⟩ (.int .i64 (D.trip - 1)) = w2 at *
      have cf : w2.cell? ⟨p, 8, none⟩ = some (.int .i64 (D.f 3)) := HX.cell 8 (by omega)
      have cn : w2.cell? ⟨p, 12, none⟩ = some (.int .i64 (D.n 3)) := HX.cell 12 (by omega)
      have ff := HX.frozen 8
      have fn' := HX.frozen 12
      go_region
      all_goals
        go_wp2_with fail
        refine (HDO.out _ (rec_go3b HX (by have := HFP.out; omega)) (HC.trans (one_chg w2 p 12 _) (fun _ _ h => h)).drew).mono ?_
        rintro e w9 ⟨x, rfl, hR⟩
        have HR := Lib.hid hR
        clear hR
        go_wp2
        go_ret
        exact ⟨x, rfl, HR.out⟩
    · have _t := trivial
      have H2 : RecAt w p 104 13 (dcell L C m { D with trip := dec1 D.trip }) := by rw [dec1_neg hp]; exact h
      have HX := Lib.hid H2
      have hc2 : Chg (OnlyP p) w w := Chg.refl _ _
      have HC := Lib.hid hc2
      clear h hd hd' ht hf H2 hc2
      go_enter Tryz.func38, Tryz.ntmps38
      go_wp2_with fail
      replace HX := HX.out
      replace HC := HC.out
      clear c3 c4 cf cn f3 f4 ff fn'
      obtain ⟨w2, hw2⟩ : ∃ w2, w2 = w := ⟨_, rfl⟩
      rw [← hw2] at HX
      rw [show Code.wp _ _ _ _ w = Code.wp _ _ _ _ w2 from by rw [hw2]]
      have HC' : Chg (OnlyP p) w w2 := by rw [hw2]; exact HC
      clear HC hw2
      have HC := HC'
      have cf : w2.cell? ⟨p, 8, none⟩ = some (.int .i64 (D.f 3)) := HX.cell 8 (by omega)
      have cn : w2.cell? ⟨p, 12, none⟩ = some (.int .i64 (D.n 3)) := HX.cell 12 (by omega)
      have ff := HX.frozen 8
      have fn' := HX.frozen 12
      go_region
      all_goals
        go_wp2_with fail
        refine (HDO.out _ (rec_go3b HX (by have := HFP.out; omega)) (HC.trans (one_chg w2 p 12 _) (fun _ _ h => h)).drew).mono ?_
        rintro e w9 ⟨x, rfl, hR⟩
        have HR := Lib.hid hR
        clear hR
        go_wp2
        go_ret
        exact ⟨x, rfl, HR.out⟩
end Go.Proofs.YtfbjjblgcgjndaaGreat
