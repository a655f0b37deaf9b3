/- Joined texts: Disk10, OwnB, OwnI, CrcMath, Crc1, Crc2, Buf, R00a. -/
import Derived.Lib.AppendZeros
import Derived.Test.YtfbjjblgcgjndaaPw1
import Derived.Test.YtfbjjblgcgjndaaPw3
set_option linter.unusedVariables false
set_option linter.unusedSimpArgs false

/- The disk's Read: what it finds, and a page that is out of range. -/
namespace Go.Proofs.Ytfbjjblgcgjndaa
open Go.RowKit Go.Maps

theorem run_alloc183 (w : World) : (Instr.alloc 183 true (.tuple #[])).run Try.prog w = .ok (.pointer (some ⟨w.heap.size, 0, none⟩)) (w.alloc (.cells zero128 183)) := by
  obtain ⟨i183, h183, e183⟩ := Option.map_eq_some_iff.1 Try.info183
  simp only [Prod.mk.injEq] at e183
  have hz : zero128.size = 128 := by simp [zero128]
  generalize zero128 = Z at *
  simp [Instr.alloc, zeroValue, typeInfo, newVar, sizeOf, h183, e183.1, hz, Value.cells, newRow]
def alloc183 : Sem Next := do pure (.value (← Instr.alloc 183 true (.tuple #[])))
theorem execOp_alloc183 (ρ : Operand → Value) (dst : Option Tmp) (ty : TypeId) (pos : String) (after : Array Edge) (guard : Option (Nat × Bool)) :
    execOp ρ ⟨dst, .alloc 183, ty, pos, after, guard⟩ = alloc183 := by
  unfold execOp alloc183
  rfl
theorem run_alloc183' (w : World) : alloc183.run Try.prog w = .ok (.value (.pointer (some ⟨w.heap.size, 0, none⟩))) (w.alloc (.cells zero128 183)) := by
  unfold alloc183
  simp only [Sem.run_bind, Sem.run_pure, run_alloc183, Result.andThen_ok]
theorem store183 (w : World) (c : Array Value) (hc : c.size = 128) (s : List Nat) (hs : s.length = 128) : (storeCells ⟨w.heap.size, 0, none⟩ (ns .u8 s)).run Try.prog (w.alloc (.cells c 183)) = .ok () (w.alloc (.cells (ns .u8 s).toArray 183)) := by
  have := run_storeCells_new (P := Try.prog) w 183 c (ns .u8 s).toArray (by rw [Try.info183']; simp [ns_length, hs]) (by rw [hc]; simp [ns_length, hs]) (all_oneCell_toArray (ns_one .u8 s))
  simpa using this
/-- a sector as it lasts, in memory -/
theorem LastAt.at {w : World} {b : Nat} {l : List (List Nat)} (h : LastAt w b l) (i : Nat) (hi : i < l.length) : w.rangeAt b (i * 128) (ns .u8 (l.getD i [])) := by
  rw [List.getD_eq_getElem?_getD, List.getElem?_eq_getElem hi]
  exact h.range i hi
/-- what a map says of a sector -/
theorem SeenOk.says {M : DataW Unit} {D : Dsk} (h : SeenOk M D.cache) (a : Nat) :
    (has M (seenKey a) = false ∧ D.sec a = D.last.getD a []) ∨ (has M (seenKey a) = true ∧ ∃ (i : Nat) (x : Nat × List Nat), D.cache[i]? = some x ∧ D.sec a = x.2 ∧ ∀ z, M.atKey (seenKey a) z = .lit (.int .i64 (i : Int))) := by
  cases hl : lastWrite D.cache a with
  | none => exact .inl ⟨(h.2 a).1 hl, by unfold Dsk.sec; rw [hl]⟩
  | some s =>
    obtain ⟨h1, i, h2, h3⟩ := (h.2 a).2 s hl
    exact .inr ⟨h1, i, (a, s), h2, by unfold Dsk.sec; rw [hl], h3⟩
theorem Try.zero3 : (Try.prog.info? 3).map (·.zero) = some (some (.int .i64 0)) := by kernel_rfl
theorem zeroValue3 (w : World) : (zeroValue 3).run Try.prog w = .ok (.int .i64 0) w := by
  obtain ⟨i3, h3, e3⟩ := Option.map_eq_some_iff.1 Try.zero3
  simp [zeroValue, typeInfo, h3, e3]
theorem DiskIn.look {n0 : Nat} {w : World} {p : Nat} {D : Dsk} {q : Dparts} {M : DataW Unit} (h : DiskIn n0 w p D q M) (a : Nat) (ha : a ≤ 1000000000000) :
    (D.sec a = D.last.getD a [] ∧ ∃ c, (Instr.lookup 175 (.map (some q.m)) (.int .i64 (a : Int)) true).run Try.prog w = .ok (.tuple #[.int .i64 c, .bool false]) w) ∨
    (∃ (i : Nat) (x : Nat × List Nat), D.cache[i]? = some x ∧ D.sec a = x.2 ∧ (Instr.lookup 175 (.map (some q.m)) (.int .i64 (a : Int)) true).run Try.prog w = .ok (.tuple #[.int .i64 (i : Int), .bool true]) w) := by
  have ha' : (a : Int) ≤ 1000000000000 := by omega
  have hwf : (Lit.int .i64 (a : Int)).wf = true := by go_wf
  have hkey : keyOf Try.prog 3 (.int .i64 (a : Int)) = some (seenKey a) := keyOf_int_mk Try.underlying3 hwf
  obtain ⟨v, ps, hrun, hv⟩ := h.map.look_ok key3 Try.underlying175 (zeroValue3 w) (zd := .lit (.int .i64 0)) (zp := []) (plainElem_int Try.underlying3 (by go_wf)) hkey
  obtain ⟨c, rfl, hc, _⟩ := plainElem_int_inv Try.underlying3 hv
  have hc1 := congrArg Prod.fst hc
  simp only at hc1
  rcases h.seen.says a with ⟨h1, h2⟩ | ⟨h1, i, x, h2, h3, h4⟩
  · rw [h1] at hrun
    exact .inl ⟨h2, c, hrun⟩
  · rw [h1] at hrun
    rw [h4] at hc1
    have hci : (i : Int) = c := by simpa using hc1
    rw [← hci] at hrun
    exact .inr ⟨i, x, h2, h3, hrun⟩
set_option maxRecDepth 100000 in
set_option maxHeartbeats 1000000 in
theorem read_range (n0 : Nat) (w : World) (p : Nat) (D : Dsk) (S : Nat → Prop) (pg : Int) (bp bd br : Nat) (h : DiskAt n0 w p D S) (h1 : Box w bp (.int .i64 pg) 3) (h2 : Box w bd (.pointer (some ⟨p, 0, none⟩)) 74)
    (hr : pg < 0 ∨ (D.pages : Int) ≤ pg) : Calls Try.prog 126 #[.pointer (some ⟨bp, 0, none⟩), .pointer (some ⟨bd, 0, none⟩), .pointer (some ⟨br, 0, none⟩)] w fun e w' => e = .returned (.int .u16 2) ∧ Below w.heap.size w w' := by
  have c1 := h1.cell
  have c2 := h2.cell
  have hp := fun n => (pages_any (h.below (below_drewN (Below.refl w.heap.size w) n))).mono fun _ _ (h : _ ∧ _) => And.intro h.1 h.2.symm
  have HP := Lib.hid hp
  clear hp h h1 h2
  by_cases hneg : pg < 0
  · have hd : decide (pg < 0) = true := by simpa using hneg
    have HH := Lib.hid hneg
    clear hr hneg
    go_enter Try.func126, Try.ntmps126
    go_wp2_with fail
    go_quiet ((go_at_call 121; exact Calls.quiet_of_same (HP.out _)))
    go_wp2_with fail
    go_ret
    exact ⟨rfl, below_drewN (Below.refl _ _) _⟩
  · have hge : (D.pages : Int) ≤ pg := by omega
    have hd : decide (pg < 0) = false := by simpa using hneg
    have hd2 : decide ((D.pages : Int) ≤ pg) = true := by simpa using hge
    clear hr
    generalize D.pages = N at *
    go_enter Try.func126, Try.ntmps126
    go_wp2_with fail
    go_quiet ((go_at_call 121; exact Calls.quiet_of_same (HP.out _)))
    go_wp2_with fail
    go_ret
    exact ⟨rfl, below_drewN (Below.refl _ _) _⟩
end Go.Proofs.Ytfbjjblgcgjndaa

/- Contract of ownBytes: lists with memory of their own pass. -/
namespace Go.Proofs.Ytfbjjblgcgjndaa
open Go.RowKit

theorem Try.info23 : (Try.prog.info? 23).map (fun i => (i.zero, i.size, i.bytes)) = some (some (.slice none 0 0), 1, 24) := by kernel_rfl
def vpBytes (i k : Nat) : Value := .int .u8 (((i : Int) * 97 + (k : Int) * 13) % 256)
def vnBytes (i k : Nat) : Value := .int .u8 (((-1 - (i : Int)) * 97 + (k : Int) * 13) % 256)
def goneBytes (M : Nat) (u : Nat → Value) (g : Nat) : Prop := ∃ i, i < M ∧ blk (u i) g
/-- the first pass: those below p are written -/
def OneBytes (n0 : Nat) (w wr : World) (M : Nat) (u : Nat → Value) (n : Nat → Nat) (X : Nat → Prop) (p : Nat) : Prop :=
  ∃ c, Apart n0 5 wr M u n c X ∧ (∀ j, j < p → c j = lst (vpBytes j) (n j)) ∧ Chg (goneBytes M u) w wr
def OneInBytes (n0 : Nat) (w wr : World) (M : Nat) (u : Nat → Value) (n : Nat → Nat) (X : Nat → Prop) (p k : Nat) : Prop :=
  ∃ c, Apart n0 5 wr M u n c X ∧ (∀ j, j < p → c j = lst (vpBytes j) (n j)) ∧ (∀ q, q < k → (c p)[q]? = some (vpBytes p q)) ∧ Chg (goneBytes M u) w wr
theorem OneBytes.inn {n0 : Nat} {w wr : World} {M : Nat} {u : Nat → Value} {n : Nat → Nat} {X : Nat → Prop} {p : Nat} (h : OneBytes n0 w wr M u n X p) : OneInBytes n0 w wr M u n X p 0 := by
  obtain ⟨c, a, b, d⟩ := h
  exact ⟨c, a, b, fun q hq => by omega, d⟩
theorem OneInBytes.out {n0 : Nat} {w wr : World} {M : Nat} {u : Nat → Value} {n : Nat → Nat} {X : Nat → Prop} {p : Nat} (h : OneInBytes n0 w wr M u n X p (n p)) (hp : p < M) : OneBytes n0 w wr M u n X (p + 1) := by
  obtain ⟨c, a, b, d, e⟩ := h
  refine ⟨c, a, fun j hj => ?_, e⟩
  by_cases h1 : j = p
  · subst h1
    have hl : (c j).length = n j := (a.own j hp).1
    apply List.ext_getElem?
    intro q
    by_cases hq : q < n j
    · rw [d q hq, lst_get _ _ _ hq]
    · rw [List.getElem?_eq_none (by omega), List.getElem?_eq_none (by rw [lst_length]; omega)]
  · exact b j (by omega)
theorem OneInBytes.step {n0 : Nat} {w wr : World} {M : Nat} {u : Nat → Value} {n : Nat → Nat} {X : Nat → Prop} {p k g cap : Nat} (h : OneInBytes n0 w wr M u n X p k) (hp : p < M) (hk : k < n p) (hu : u p = .slice (some ⟨g, 0, none⟩) (n p) cap) :
    OneInBytes n0 w (wr.setCell ⟨g, k, none⟩ (vpBytes p k)) M u n X p (k + 1) := by
  obtain ⟨c, a, b, d, e⟩ := h
  have hl : (c p).length = n p := (a.own p hp).1
  refine ⟨_, a.store p hp hu k _, fun j hj => ?_, fun q hq => ?_, e.setCell _ _ (.inl ⟨p, hp, by rw [hu]; rfl⟩)⟩
  · rw [turn_other _ _ _ _ (by omega)]; exact b j hj
  · rw [turn_same]
    by_cases h1 : q = k
    · subst h1
      rw [List.getElem?_set_self (by omega)]
    · rw [List.getElem?_set_ne (by omega)]
      exact d q (by omega)
theorem OneInBytes.form {n0 : Nat} {w wr : World} {M : Nat} {u : Nat → Value} {n : Nat → Nat} {X : Nat → Prop} {p k : Nat} (h : OneInBytes n0 w wr M u n X p k) (hp : p < M) :
    ∃ V cap, u p = .slice V (n p) cap ∧ ∀ q, q < n p → ∃ g x, V = some ⟨g, 0, none⟩ ∧ wr.cell? ⟨g, q, none⟩ = some x ∧ wr.frozen? ⟨g, q, none⟩ = false := by
  obtain ⟨c, a, b, d, e⟩ := h
  obtain ⟨V, cap, h1, h2⟩ := rw_cells (a.own p hp)
  have hl : (c p).length = n p := (a.own p hp).1
  refine ⟨V, cap, h1, fun q hq => ?_⟩
  obtain ⟨g, e1, e2, e3⟩ := h2 q hq
  exact ⟨g, _, e1, by rw [e2]; exact List.getElem?_eq_getElem (by omega), e3⟩

/-- the second pass: those below p have grown; the long list -/
structure TwoBytes (n0 : Nat) (w wr : World) (M : Nat) (u : Nat → Value) (n : Nat → Nat) (X : Nat → Prop) (p : Nat) (L : Value) (v : Nat → Value) (m : Nat → Nat) (c : Nat → List Value) : Prop where
  many : Many n0 w.heap.size 5 wr M u v n m c (fun g => X g ∨ blk L g)
  done : ∀ j, j < p → m j = n j + 16 ∧ c j = lst (vpBytes j) (n j) ++ lst (vnBytes j) 16
  rest : ∀ j, p < j → j < M → v j = u j ∧ m j = n j ∧ c j = lst (vpBytes j) (n j)
  long : wr.ownsRow w.heap.size 23 1 L p (lst v p)
  chg : Chg (goneBytes M u) w wr
def TwoOutBytes (n0 : Nat) (w wr : World) (M : Nat) (u : Nat → Value) (n : Nat → Nat) (X : Nat → Prop) (p : Nat) (L : Value) : Prop :=
  ∃ v m c, TwoBytes n0 w wr M u n X p L v m c ∧ (p < M → v p = u p ∧ m p = n p ∧ c p = lst (vpBytes p) (n p))
def TwoInBytes (n0 : Nat) (w wr : World) (M : Nat) (u : Nat → Value) (n : Nat → Nat) (X : Nat → Prop) (p : Nat) (L : Value) (k : Nat) (x : Value) : Prop :=
  ∃ v m c, TwoBytes n0 w wr M u n X p L v m c ∧ x = v p ∧ m p = n p + k ∧ c p = lst (vpBytes p) (n p) ++ lst (vnBytes p) k
theorem OneBytes.two {n0 : Nat} {w wr : World} {M : Nat} {u : Nat → Value} {n : Nat → Nat} {X : Nat → Prop} (h : OneBytes n0 w wr M u n X M) : TwoOutBytes n0 w wr M u n X 0 (.slice none 0 0) := by
  obtain ⟨c, a, b, d⟩ := h
  refine ⟨u, n, c, ⟨?_, fun j hj => by omega, fun j _ hj => ⟨rfl, rfl, b j hj⟩, World.ownsRow_nil _ _ _ _, d⟩, fun hp => ⟨rfl, rfl, b 0 hp⟩⟩
  refine a.many.shut fun g _ hg => ?_
  rcases hg with hg | hg
  · exact hg
  · cases hg
theorem TwoOutBytes.inn {n0 : Nat} {w wr : World} {M : Nat} {u : Nat → Value} {n : Nat → Nat} {X : Nat → Prop} {p : Nat} {L : Value} (h : TwoOutBytes n0 w wr M u n X p L) (hp : p < M) : TwoInBytes n0 w wr M u n X p L 0 (u p) := by
  obtain ⟨v, m, c, h1, h2⟩ := h
  obtain ⟨a, b, d⟩ := h2 hp
  exact ⟨v, m, c, h1, a.symm, b, by rw [d]; simp [lst]⟩
theorem TwoOutBytes.chg {n0 : Nat} {w wr : World} {M : Nat} {u : Nat → Value} {n : Nat → Nat} {X : Nat → Prop} {p : Nat} {L : Value} (h : TwoOutBytes n0 w wr M u n X p L) : Chg (goneBytes M u) w wr := by
  obtain ⟨v, m, c, h1, h2⟩ := h
  exact h1.chg
theorem TwoInBytes.chg {n0 : Nat} {w wr : World} {M : Nat} {u : Nat → Value} {n : Nat → Nat} {X : Nat → Prop} {p k : Nat} {L x : Value} (h : TwoInBytes n0 w wr M u n X p L k x) : Chg (goneBytes M u) w wr := by
  obtain ⟨v, m, c, h1, _⟩ := h
  exact h1.chg
theorem TwoInBytes.form {n0 : Nat} {w wr : World} {M : Nat} {u : Nat → Value} {n : Nat → Nat} {X : Nat → Prop} {p k : Nat} {L x : Value} (h : TwoInBytes n0 w wr M u n X p L k x) (hp : p < M) : ∃ V cap, u p = .slice V (n p) cap := by
  obtain ⟨v, m, c, h1, _⟩ := h
  obtain ⟨V, cap, e, _⟩ := (h1.many.held p hp).form
  exact ⟨V, cap, e⟩
theorem TwoInBytes.long {n0 : Nat} {w wr : World} {M : Nat} {u : Nat → Value} {n : Nat → Nat} {X : Nat → Prop} {p k : Nat} {L x : Value} (h : TwoInBytes n0 w wr M u n X p L k x) : ∃ v : Nat → Value, wr.ownsRow w.heap.size 23 1 L p (lst v p) ∧ x = v p := by
  obtain ⟨v, m, c, h1, h2, _⟩ := h
  exact ⟨v, h1.long, h2⟩
theorem TwoInBytes.own {n0 : Nat} {w wr : World} {M : Nat} {u : Nat → Value} {n : Nat → Nat} {X : Nat → Prop} {p k : Nat} {L x : Value} (h : TwoInBytes n0 w wr M u n X p L k x) (hp : p < M) : Rw n0 5 wr x (n p + k) (lst (vpBytes p) (n p) ++ lst (vnBytes p) k) := by
  obtain ⟨v, m, c, h1, h2, h3, h4⟩ := h
  have := (h1.many.held p hp).own
  rw [h3, h4, ← h2] at this; exact this
/-- a step of the walk that only makes memory -/
theorem TwoInBytes.keep {n0 : Nat} {w wr w' : World} {M : Nat} {u : Nat → Value} {n : Nat → Nat} {X : Nat → Prop} {p k : Nat} {L x : Value} (h : TwoInBytes n0 w wr M u n X p L k x) (hb : Below wr.heap.size wr w') : TwoInBytes n0 w w' M u n X p L k x := by
  obtain ⟨v, m, c, h1, h2, h3, h4⟩ := h
  have hc : Chg (fun _ => False) wr w' := .of_below hb
  exact ⟨v, m, c, ⟨h1.many.keep hc (fun g _ hg => hg.elim), h1.done, h1.rest, own_below h1.long hb, h1.chg.trans hc (fun _ _ h => h.elim)⟩, h2, h3, h4⟩
theorem TwoInBytes.push {n0 : Nat} {w wr w' : World} {M : Nat} {u : Nat → Value} {n : Nat → Nat} {X : Nat → Prop} {p k : Nat} {L x x' : Value} (h : TwoInBytes n0 w wr M u n X p L k x) (hp : p < M) (hX : ∀ g, X g → g < w.heap.size)
    (ho : Rw n0 5 w' x' (n p + k + 1) (lst (vpBytes p) (n p) ++ lst (vnBytes p) k ++ [vnBytes p k])) (hor : (wr.grownBy w' x.ownBlock ∧ x'.ownBlock = x.ownBlock) ∨ (wr.grownBy w' none ∧ ∃ g, x'.ownBlock = some g ∧ wr.heap.size ≤ g)) :
    TwoInBytes n0 w w' M u n X p L (k + 1) x' := by
  obtain ⟨v, m, c, h1, rfl, h3, h4⟩ := h
  have hX' : ∀ g, X g ∨ blk L g → g < wr.heap.size := by
    intro g hg
    rcases hg with hg | hg
    · exact Nat.lt_of_lt_of_le (hX g hg) h1.chg.size
    · exact (row_lt h1.long hg).2
  have hch := push_chg hor
  rw [← h4, ← h3] at ho
  have h5 := h1.many.push hX' h1.chg.size p hp ho hor
  refine ⟨turn v p x', turn m p (m p + 1), turn c p (c p ++ [vnBytes p k]), ⟨h5, fun j hj => ?_, fun j hj hjM => ?_, ?_, ?_⟩, (turn_same _ _ _).symm, by rw [turn_same, h3]; omega, ?_⟩
  · rw [turn_other _ _ _ _ (by omega), turn_other _ _ _ _ (by omega)]; exact h1.done j hj
  · rw [turn_other _ _ _ _ (by omega), turn_other _ _ _ _ (by omega), turn_other _ _ _ _ (by omega)]; exact h1.rest j hj hjM
  · have : lst (turn v p x') p = lst v p := lst_congr fun j hj => turn_other _ _ _ _ (by omega)
    rw [this]
    exact own_chg h1.long hch (fun g hg hg' => h1.many.out p hp g (.inr hg') (.inr hg))
  · refine h1.chg.trans hch fun g hg hg' => ?_
    rcases h1.many.new p hp g hg' with h | h
    · exact ⟨p, hp, h⟩
    · omega
  · rw [turn_same, h4, List.append_assoc, ← lst_succ]
theorem TwoInBytes.out {n0 : Nat} {w wr w' : World} {M : Nat} {u : Nat → Value} {n : Nat → Nat} {X : Nat → Prop} {p : Nat} {L L' x : Value} (h : TwoInBytes n0 w wr M u n X p L 16 x) (hp : p < M)
    (hl : ∀ v : Nat → Value, x = v p → wr.ownsRow w.heap.size 23 1 L p (lst v p) → w'.ownsRow w.heap.size 23 1 L' (p + 1) (lst v p ++ [x])) (hor : (wr.grownBy w' L.ownBlock ∧ L'.ownBlock = L.ownBlock) ∨ (wr.grownBy w' none ∧ ∃ g, L'.ownBlock = some g ∧ wr.heap.size ≤ g)) :
    TwoOutBytes n0 w w' M u n X (p + 1) L' := by
  obtain ⟨v, m, c, h1, h2, h3, h4⟩ := h
  have hch := push_chg hor
  have h5 := h1.many.shut (Y := fun g => X g ∨ blk L' g) (by
    intro g hg hY
    rcases hY with hY | hY
    · exact .inl hY
    · rcases push_blk hor hY with h | h
      · exact .inr h
      · omega)
  have h6 : Many n0 w.heap.size 5 w' M u v n m c (fun g => X g ∨ blk L' g) := by
    have h7 := h1.many.keep hch (fun g _ hg => .inr hg)
    exact ⟨h7.held, h7.apart, fun i hi g hg hY => h5.out i hi g hg hY, h7.new⟩
  have hlong := hl v h2 h1.long
  rw [h2, ← lst_succ] at hlong
  refine ⟨v, m, c, ⟨h6, fun j hj => ?_, fun j hj hjM => h1.rest j (by omega) hjM, hlong, ?_⟩, fun hp' => h1.rest (p + 1) (by omega) hp'⟩
  · by_cases e : j = p
    · subst e; exact ⟨h3, h4⟩
    · exact h1.done j (by omega)
  · refine h1.chg.trans hch fun g hg hg' => ?_
    have := (row_lt h1.long hg').1
    omega
/-- the third pass reads -/
theorem TwoOutBytes.drewN {n0 : Nat} {w wr : World} {M : Nat} {u : Nat → Value} {n : Nat → Nat} {X : Nat → Prop} {p : Nat} {L : Value} (h : TwoOutBytes n0 w wr M u n X p L) (q : Nat) : TwoOutBytes n0 w (wr.drewN q) M u n X p L := by
  obtain ⟨v, m, c, h1, h2⟩ := h
  have hb : Below wr.heap.size wr (wr.drewN q) := below_drewN (Below.refl _ _) q
  have hc : Chg (fun _ => False) wr (wr.drewN q) := .of_below hb
  exact ⟨v, m, c, ⟨h1.many.keep hc (fun g _ hg => hg.elim), h1.done, h1.rest, own_below h1.long hb, h1.chg.trans hc (fun _ _ h => h.elim)⟩, h2⟩
theorem TwoOutBytes.read {n0 : Nat} {w wr : World} {M : Nat} {u : Nat → Value} {n : Nat → Nat} {X : Nat → Prop} {L : Value} (h : TwoOutBytes n0 w wr M u n X M L) (p : Nat) (hp : p < M) :
    ∃ U cu V cv G cl, u p = .slice U (n p) cu ∧ L = .slice (some ⟨G, 0, none⟩) M cl ∧ wr.cell? ⟨G, p, none⟩ = some (.slice V (n p + 16) cv) ∧ (∀ k, k < n p → ∃ g, U = some ⟨g, 0, none⟩ ∧ wr.cell? ⟨g, k, none⟩ = some (vpBytes p k)) ∧
      (∃ g, V = some ⟨g, 0, none⟩ ∧ (∀ k, k < n p → wr.cell? ⟨g, k, none⟩ = some (vpBytes p k)) ∧ ∀ k, k < 16 → wr.cell? ⟨g, n p + k, none⟩ = some (vnBytes p k)) := by
  obtain ⟨v, m, c, h1, h2⟩ := h
  obtain ⟨hm, hc⟩ := h1.done p hp
  have hh := h1.many.held p hp
  rw [hm, hc] at hh
  obtain ⟨U, cu, e1, e2⟩ := hh.form
  obtain ⟨V, cv, f1, f2⟩ := rw_cells hh.own
  obtain ⟨W, cl, g1, g2⟩ := own_cells h1.long
  obtain ⟨G, rfl, g3, _⟩ := g2 p hp
  obtain ⟨g, rfl, _⟩ := f2 (n p) (by omega)
  have hpos : ∀ k, k < n p + 16 → wr.cell? ⟨g, k, none⟩ = (lst (vpBytes p) (n p) ++ lst (vnBytes p) 16)[k]? := fun k hk => by
    obtain ⟨g', e, e', _⟩ := f2 k hk
    cases e; exact e'
  refine ⟨U, cu, _, cv, G, cl, e1, g1, by rw [g3, lst_get _ _ _ hp, f1], fun k hk => ?_, g, rfl, fun k hk => ?_, fun k hk => ?_⟩
  · obtain ⟨g', e, e'⟩ := e2 k hk
    exact ⟨g', e, by rw [e', List.getElem?_append_left (by rw [lst_length]; exact hk), lst_get _ _ _ hk]⟩
  · rw [hpos k (by omega), List.getElem?_append_left (by rw [lst_length]; exact hk), lst_get _ _ _ hk]
  · rw [hpos (n p + k) (by omega), List.getElem?_append_right (by rw [lst_length]; omega), lst_length, show n p + k - n p = k by omega, lst_get _ _ _ hk]
/-- a cell of the list of lists -/
theorem outer_cell {w wr : World} {M : Nat} {A : Option Addr} {u : Nat → Value} (hA : At w A (lst u M)) {F : Nat → Prop} (hc : Chg F w wr) (hX : ∀ a, A = some a → ¬ F a.block) (p : Nat) (hp : p < M) : ∃ b o, A = some ⟨b, o, none⟩ ∧ wr.cell? ⟨b, o + p, none⟩ = some (u p) := by
  obtain ⟨b, o, e, hr⟩ := (hA.chg hc hX) (by intro h; have := congrArg List.length h; rw [lst_length] at this; simp at this; omega)
  exact ⟨b, o, e, hr p _ (lst_get _ _ _ hp)⟩

set_option maxRecDepth 100000 in
set_option maxHeartbeats 4000000 in
theorem own_Bytes (n0 : Nat) (A : Option Addr) (cc M : Nat) (u : Nat → Value) (n : Nat → Nat) (cs : Nat → List Value) (w : World) (hA : At w A (lst u M)) (hM : M ≤ 1000000000000) (hn : ∀ i, i < M → n i ≤ 1000000000000)
    (h : Apart n0 5 w M u n cs (fun g => ∃ a, A = some a ∧ g = a.block)) (hXl : ∀ a, A = some a → a.block < w.heap.size) (hn0 : n0 ≤ w.heap.size) :
    Calls Try.prog 95 #[.slice A M cc] w fun e w' => e = .returned (.bool true) ∧ Chg (goneBytes M u) w w' := by
  have hXo : ∀ a, A = some a → ¬ goneBytes M u a.block := by
    rintro a ha ⟨i, hi, hg⟩
    exact h.out i hi _ hg ⟨a, ha, rfl⟩
  have hstart : OneBytes n0 w w M u n (fun g => ∃ a, A = some a ∧ g = a.block) 0 := ⟨cs, h, fun j hj => by omega, Chg.refl _ _⟩
  have hXl' : ∀ g, (∃ a, A = some a ∧ g = a.block) → g < w.heap.size := by rintro g ⟨a, ha, rfl⟩; exact hXl a ha
  have HXL := Lib.hid hXl'
  have HXO := Lib.hid hXo
  have HN := Lib.hid hn
  have HA := Lib.hid hA
  have HN0 := Lib.hid hn0
  clear hXl hXl' hXo hn hA h hn0
  go_enter Try.func95, Try.ntmps95
  go_wp2
  go_loopw [3] (fun i wr => ∃ p : Nat, p ≤ M ∧ i = .int .i64 p ∧ OneBytes n0 w wr M u n (fun g => ∃ a, A = some a ∧ g = a.block) p) (fun i _ => M - (intOf i).toNat)
  case atStart => exact ⟨0, by omega, rfl, hstart⟩
  case round =>
    clear hstart
    obtain ⟨p, hp, rfl, hO⟩ := hrel
    by_cases hlt : p < M
    · obtain ⟨wo, rfl⟩ : ∃ wo : World, wo = wr := ⟨_, rfl⟩
      have hI := hO.inn
      have hnp := HN.out p hlt
      go_wp2
      go_loopw [4] (fun i wr => ∃ k : Nat, k ≤ n p ∧ i = .int .i64 k ∧ OneInBytes n0 w wr M u n (fun g => ∃ a, A = some a ∧ g = a.block) p k) (fun i _ => n p - (intOf i).toNat)
      case atStart => exact ⟨0, by omega, rfl, hI⟩
      case round =>
        clear hI hO
        obtain ⟨k, hk, rfl, hI⟩ := hrel
        obtain ⟨V, cap, hu, hcell⟩ := hI.form hlt
        have hch : Chg (goneBytes M u) w wr := by obtain ⟨_, _, _, _, e⟩ := hI; exact e
        obtain ⟨b, o, rfl, hco⟩ := outer_cell HA.out hch HXO.out p hlt
        rw [hu] at hco
        have HU := Lib.hid hu
        clear hu hch
        by_cases hkl : k < n p
        · obtain ⟨g, x, rfl, hcx, hfx⟩ := hcell k hkl
          clear hcell
          have hst := hI.step hlt hkl HU.out
          unfold vpBytes at hst
          go_wp2
          go_roundw
          case rel => exact ⟨k + 1, by omega, by go_num, hst⟩
          case measure => simp [intOf]; omega
        · obtain rfl : k = n p := by omega
          clear hcell
          have hout := hI.out hlt
          go_wp2
          go_roundw
          case rel => exact ⟨p + 1, by omega, by go_num, hout⟩
          case measure => simp [intOf]; omega
    · obtain rfl : M = p := by omega
      have hT := hO.two
      clear hO
      go_wp2
      go_loopw [5, 6] (fun L i wr => ∃ p : Nat, p ≤ M ∧ i = .int .i64 p ∧ TwoOutBytes n0 w wr M u n (fun g => ∃ a, A = some a ∧ g = a.block) p L) (fun _ i _ => M - (intOf i).toNat)
      case atStart => exact ⟨0, by omega, rfl, hT⟩
      case round =>
        clear hT
        obtain ⟨p, hp, rfl, hT⟩ := hrel
        by_cases hlt : p < M
        · obtain ⟨wo, rfl⟩ : ∃ wo : World, wo = wr := ⟨_, rfl⟩
          have hI := hT.inn hlt
          have hnp := HN.out p hlt
          obtain ⟨b, o, rfl, hco⟩ := outer_cell HA.out hT.chg HXO.out p hlt
          obtain ⟨V, cap, hu⟩ := hI.form hlt
          rw [hu] at hco hI
          clear hu hT
          go_wp2
          go_loopw [7, 8] (fun x i wr => ∃ k : Nat, k ≤ 16 ∧ i = .int .i64 k ∧ TwoInBytes n0 w wr M u n (fun g => ∃ a, (some (⟨b, o, none⟩ : Addr)) = some a ∧ g = a.block) p u5 k x) (fun _ i _ => 16 - (intOf i).toNat)
          case atStart => exact ⟨0, by omega, rfl, hI⟩
          case round =>
            clear hI
            obtain ⟨k, hk, rfl, hI⟩ := hrel
            by_cases hkl : k < 16
            · have hI1 := hI.keep (below_alloc0 (Below.refl _ _) (.cells #[vnBytes p k] 5))
              have hAt : At (wr.alloc (.cells #[vnBytes p k] 5)) (some ⟨wr.heap.size, 0, none⟩) [vnBytes p k] := At.box wr (vnBytes p k) 5 wr.heap.size rfl
              have hn0 : n0 ≤ (wr.alloc (.cells #[vnBytes p k] 5)).heap.size := Nat.le_trans HN0.out (Nat.le_trans hI.chg.size (by simp))
              unfold vnBytes at hI1 hAt hn0
              go_wp2_with (at_builtin; go_loud (refine wp_appendC rfl (.tmp 54) (.tmp 62) 23 5 (.int .u8 0) 1 rfl Try.underlying23 Try.info5 rfl n0 u7 (n p + k) _ rfl (hI1.own hlt) (some ⟨wr.heap.size, 0, none⟩) 1 1 _ rfl rfl hAt (by simp) (by simp [Value.oneCell']) (by decide) (by omega) (by omega) hn0 ?_); intro v1 w1 ho1 hor1)
              have hI2 := hI1.push hlt (HXL.out) ho1 hor1
              go_roundw
              case rel => exact ⟨k + 1, by omega, by go_num, hI2⟩
              case measure => simp [intOf]; omega
            · obtain rfl : k = 16 := by omega
              obtain ⟨V2, cap2, rfl, _⟩ := rw_cells (hI.own hlt)
              obtain ⟨v2, hl2, hx3⟩ := hI.long
              have hl3 := own_below hl2 (below_alloc0 (Below.refl _ _) (.cells #[.slice V2 (n p + 16) cap2] 23))
              have hAt : At (wr.alloc (.cells #[.slice V2 (n p + 16) cap2] 23)) (some ⟨wr.heap.size, 0, none⟩) [.slice V2 (n p + 16) cap2] := At.box wr _ 23 wr.heap.size rfl
              have hn0 : w.heap.size ≤ (wr.alloc (.cells #[.slice V2 (n p + 16) cap2] 23)).heap.size := Nat.le_trans hI.chg.size (by simp)
              have hI1 := hI.keep (below_alloc0 (Below.refl _ _) (.cells #[.slice V2 (n p + 16) cap2] 23))
              clear hx3
              go_wp2_with (at_builtin; go_loud (refine wp_append2 rfl (.tmp 64) (.tmp 66) 30 23 (.slice none 0 0) 1 24 rfl Try.underlying30 Try.info23 rfl (by decide) w.heap.size u5 p _ rfl hl3 (some ⟨wr.heap.size, 0, none⟩) 1 1 _ rfl rfl hAt (by simp) (by simp [Value.oneCell']) (by omega) (by omega) hn0 ?_); intro v1 w1 ho1 hor1)
              have hI2 := hI1.out hlt (fun v hx hv => by rw [own_unique hv hl3]; exact ho1) hor1
              go_roundw
              case rel => exact ⟨p + 1, by omega, by go_num, hI2⟩
              case measure => simp [intOf]; omega
        · obtain rfl : M = p := by omega
          go_wp2
          go_loopw [9] (fun i wr => ∃ p : Nat, p ≤ M ∧ i = .int .i64 p ∧ TwoOutBytes n0 w wr M u n (fun g => ∃ a, A = some a ∧ g = a.block) M u5) (fun i _ => M - (intOf i).toNat)
          case atStart => exact ⟨0, by omega, rfl, hT⟩
          case round =>
            clear hT
            obtain ⟨p, hp, rfl, hT⟩ := hrel
            by_cases hlt : p < M
            · obtain ⟨wo, rfl⟩ : ∃ wo : World, wo = wr := ⟨_, rfl⟩
              have hnp := HN.out p hlt
              have hco := outer_cell HA.out hT.chg HXO.out p hlt
              obtain ⟨b, o, rfl, hco⟩ := hco
              obtain ⟨U, cu, V, cv, G, cl, e1, e2, e3, e4, e5⟩ := hT.read p hlt
              rw [e1] at hco
              subst e2
              clear e1 e3 e4 e5
              go_wp2
              go_loopw [11] (fun i wr => ∃ k : Nat, k ≤ n p ∧ i = .int .i64 k ∧ TwoOutBytes n0 w wr M u n (fun g => ∃ a, (some (⟨b, o, none⟩ : Addr)) = some a ∧ g = a.block) M (.slice (some ⟨G, 0, none⟩) M cl)) (fun i _ => n p - (intOf i).toNat)
              case atStart => exact ⟨0, by omega, rfl, hT⟩
              case round =>
                clear hT
                obtain ⟨k, hk, rfl, hT⟩ := hrel
                by_cases hkl : k < n p
                · obtain ⟨b', o', hbo, hco⟩ := outer_cell HA.out hT.chg HXO.out p hlt
                  obtain ⟨rfl, rfl⟩ : b = b' ∧ o = o' := by cases hbo; exact ⟨rfl, rfl⟩
                  clear hbo
                  obtain ⟨U, cu, V, cv, G', cl', e1, e2, e3, e4, e5⟩ := hT.read p hlt
                  obtain ⟨rfl, rfl⟩ : G = G' ∧ cl = cl' := by cases e2; exact ⟨rfl, rfl⟩
                  clear e2
                  rw [e1] at hco
                  obtain ⟨g1, rfl, e6⟩ := e4 k hkl
                  obtain ⟨g2, rfl, e7, e8⟩ := e5
                  replace e7 := e7 k hkl
                  clear e1 e4 e8
                  unfold vpBytes at e6 e7
                  go_wp2
                  go_roundw
                  case rel => exact ⟨k + 1, by omega, by go_num, hT⟩
                  case measure => simp [intOf]; omega
                · obtain rfl : k = n p := by omega
                  go_wp2
                  go_loopw [12] (fun i wr => ∃ k : Nat, k ≤ 16 ∧ i = .int .i64 k ∧ TwoOutBytes n0 w wr M u n (fun g => ∃ a, (some (⟨b, o, none⟩ : Addr)) = some a ∧ g = a.block) M (.slice (some ⟨G, 0, none⟩) M cl)) (fun i _ => 16 - (intOf i).toNat)
                  case atStart => exact ⟨0, by omega, rfl, hT⟩
                  case round =>
                    clear hT
                    obtain ⟨k, hk, rfl, hT⟩ := hrel
                    by_cases hkl : k < 16
                    · obtain ⟨b', o', hbo, hco⟩ := outer_cell HA.out hT.chg HXO.out p hlt
                      obtain ⟨rfl, rfl⟩ : b = b' ∧ o = o' := by cases hbo; exact ⟨rfl, rfl⟩
                      clear hbo
                      obtain ⟨U, cu, V, cv, G', cl', e1, e2, e3, e4, e5⟩ := hT.read p hlt
                      obtain ⟨rfl, rfl⟩ : G = G' ∧ cl = cl' := by cases e2; exact ⟨rfl, rfl⟩
                      clear e2
                      rw [e1] at hco
                      obtain ⟨g2, rfl, e7, e8⟩ := e5
                      replace e8 := e8 k hkl
                      clear e1 e4 e7
                      unfold vnBytes at e8
                      go_wp2
                      go_roundw
                      case rel => exact ⟨k + 1, by omega, by go_num, hT⟩
                      case measure => simp [intOf]; omega
                    · obtain rfl : k = 16 := by omega
                      go_wp2
                      go_roundw
                      case rel => exact ⟨p + 1, by omega, by go_num, hT⟩
                      case measure => simp [intOf]; omega
            · obtain rfl : M = p := by omega
              have hch := hT.chg
              go_wp2
              go_ret
              exact ⟨rfl, hch⟩
end Go.Proofs.Ytfbjjblgcgjndaa

/- Contract of ownInts: lists with memory of their own pass. -/
namespace Go.Proofs.Ytfbjjblgcgjndaa
open Go.RowKit

theorem Try.info86 : (Try.prog.info? 86).map (fun i => (i.zero, i.size, i.bytes)) = some (some (.slice none 0 0), 1, 24) := by kernel_rfl
theorem Try.info3 : (Try.prog.info? 3).map (fun i => (i.zero, i.size, i.bytes)) = some (some (.int .i64 0), 1, 8) := by kernel_rfl
def vpInts (i k : Nat) : Value := .int .i64 ((i : Int) * 1000 + (k : Int))
def vnInts (i k : Nat) : Value := .int .i64 ((-1 - (i : Int)) * 1000 + (k : Int))
def goneInts (M : Nat) (u : Nat → Value) (g : Nat) : Prop := ∃ i, i < M ∧ blk (u i) g
/-- the first pass: those below p are written -/
def OneInts (n0 : Nat) (w wr : World) (M : Nat) (u : Nat → Value) (n : Nat → Nat) (X : Nat → Prop) (p : Nat) : Prop :=
  ∃ c, Apart n0 3 wr M u n c X ∧ (∀ j, j < p → c j = lst (vpInts j) (n j)) ∧ Chg (goneInts M u) w wr
def OneInInts (n0 : Nat) (w wr : World) (M : Nat) (u : Nat → Value) (n : Nat → Nat) (X : Nat → Prop) (p k : Nat) : Prop :=
  ∃ c, Apart n0 3 wr M u n c X ∧ (∀ j, j < p → c j = lst (vpInts j) (n j)) ∧ (∀ q, q < k → (c p)[q]? = some (vpInts p q)) ∧ Chg (goneInts M u) w wr
theorem OneInts.inn {n0 : Nat} {w wr : World} {M : Nat} {u : Nat → Value} {n : Nat → Nat} {X : Nat → Prop} {p : Nat} (h : OneInts n0 w wr M u n X p) : OneInInts n0 w wr M u n X p 0 := by
  obtain ⟨c, a, b, d⟩ := h
  exact ⟨c, a, b, fun q hq => by omega, d⟩
theorem OneInInts.out {n0 : Nat} {w wr : World} {M : Nat} {u : Nat → Value} {n : Nat → Nat} {X : Nat → Prop} {p : Nat} (h : OneInInts n0 w wr M u n X p (n p)) (hp : p < M) : OneInts n0 w wr M u n X (p + 1) := by
  obtain ⟨c, a, b, d, e⟩ := h
  refine ⟨c, a, fun j hj => ?_, e⟩
  by_cases h1 : j = p
  · subst h1
    have hl : (c j).length = n j := (a.own j hp).1
    apply List.ext_getElem?
    intro q
    by_cases hq : q < n j
    · rw [d q hq, lst_get _ _ _ hq]
    · rw [List.getElem?_eq_none (by omega), List.getElem?_eq_none (by rw [lst_length]; omega)]
  · exact b j (by omega)
theorem OneInInts.step {n0 : Nat} {w wr : World} {M : Nat} {u : Nat → Value} {n : Nat → Nat} {X : Nat → Prop} {p k g cap : Nat} (h : OneInInts n0 w wr M u n X p k) (hp : p < M) (hk : k < n p) (hu : u p = .slice (some ⟨g, 0, none⟩) (n p) cap) :
    OneInInts n0 w (wr.setCell ⟨g, k, none⟩ (vpInts p k)) M u n X p (k + 1) := by
  obtain ⟨c, a, b, d, e⟩ := h
  have hl : (c p).length = n p := (a.own p hp).1
  refine ⟨_, a.store p hp hu k _, fun j hj => ?_, fun q hq => ?_, e.setCell _ _ (.inl ⟨p, hp, by rw [hu]; rfl⟩)⟩
  · rw [turn_other _ _ _ _ (by omega)]; exact b j hj
  · rw [turn_same]
    by_cases h1 : q = k
    · subst h1
      rw [List.getElem?_set_self (by omega)]
    · rw [List.getElem?_set_ne (by omega)]
      exact d q (by omega)
theorem OneInInts.form {n0 : Nat} {w wr : World} {M : Nat} {u : Nat → Value} {n : Nat → Nat} {X : Nat → Prop} {p k : Nat} (h : OneInInts n0 w wr M u n X p k) (hp : p < M) :
    ∃ V cap, u p = .slice V (n p) cap ∧ ∀ q, q < n p → ∃ g x, V = some ⟨g, 0, none⟩ ∧ wr.cell? ⟨g, q, none⟩ = some x ∧ wr.frozen? ⟨g, q, none⟩ = false := by
  obtain ⟨c, a, b, d, e⟩ := h
  obtain ⟨V, cap, h1, h2⟩ := rw_cells (a.own p hp)
  have hl : (c p).length = n p := (a.own p hp).1
  refine ⟨V, cap, h1, fun q hq => ?_⟩
  obtain ⟨g, e1, e2, e3⟩ := h2 q hq
  exact ⟨g, _, e1, by rw [e2]; exact List.getElem?_eq_getElem (by omega), e3⟩

/-- the second pass: those below p have grown; the long list -/
structure TwoInts (n0 : Nat) (w wr : World) (M : Nat) (u : Nat → Value) (n : Nat → Nat) (X : Nat → Prop) (p : Nat) (L : Value) (v : Nat → Value) (m : Nat → Nat) (c : Nat → List Value) : Prop where
  many : Many n0 w.heap.size 3 wr M u v n m c (fun g => X g ∨ blk L g)
  done : ∀ j, j < p → m j = n j + 16 ∧ c j = lst (vpInts j) (n j) ++ lst (vnInts j) 16
  rest : ∀ j, p < j → j < M → v j = u j ∧ m j = n j ∧ c j = lst (vpInts j) (n j)
  long : wr.ownsRow w.heap.size 86 1 L p (lst v p)
  chg : Chg (goneInts M u) w wr
def TwoOutInts (n0 : Nat) (w wr : World) (M : Nat) (u : Nat → Value) (n : Nat → Nat) (X : Nat → Prop) (p : Nat) (L : Value) : Prop :=
  ∃ v m c, TwoInts n0 w wr M u n X p L v m c ∧ (p < M → v p = u p ∧ m p = n p ∧ c p = lst (vpInts p) (n p))
def TwoInInts (n0 : Nat) (w wr : World) (M : Nat) (u : Nat → Value) (n : Nat → Nat) (X : Nat → Prop) (p : Nat) (L : Value) (k : Nat) (x : Value) : Prop :=
  ∃ v m c, TwoInts n0 w wr M u n X p L v m c ∧ x = v p ∧ m p = n p + k ∧ c p = lst (vpInts p) (n p) ++ lst (vnInts p) k
theorem OneInts.two {n0 : Nat} {w wr : World} {M : Nat} {u : Nat → Value} {n : Nat → Nat} {X : Nat → Prop} (h : OneInts n0 w wr M u n X M) : TwoOutInts n0 w wr M u n X 0 (.slice none 0 0) := by
  obtain ⟨c, a, b, d⟩ := h
  refine ⟨u, n, c, ⟨?_, fun j hj => by omega, fun j _ hj => ⟨rfl, rfl, b j hj⟩, World.ownsRow_nil _ _ _ _, d⟩, fun hp => ⟨rfl, rfl, b 0 hp⟩⟩
  refine a.many.shut fun g _ hg => ?_
  rcases hg with hg | hg
  · exact hg
  · cases hg
theorem TwoOutInts.inn {n0 : Nat} {w wr : World} {M : Nat} {u : Nat → Value} {n : Nat → Nat} {X : Nat → Prop} {p : Nat} {L : Value} (h : TwoOutInts n0 w wr M u n X p L) (hp : p < M) : TwoInInts n0 w wr M u n X p L 0 (u p) := by
  obtain ⟨v, m, c, h1, h2⟩ := h
  obtain ⟨a, b, d⟩ := h2 hp
  exact ⟨v, m, c, h1, a.symm, b, by rw [d]; simp [lst]⟩
theorem TwoOutInts.chg {n0 : Nat} {w wr : World} {M : Nat} {u : Nat → Value} {n : Nat → Nat} {X : Nat → Prop} {p : Nat} {L : Value} (h : TwoOutInts n0 w wr M u n X p L) : Chg (goneInts M u) w wr := by
  obtain ⟨v, m, c, h1, h2⟩ := h
  exact h1.chg
theorem TwoInInts.chg {n0 : Nat} {w wr : World} {M : Nat} {u : Nat → Value} {n : Nat → Nat} {X : Nat → Prop} {p k : Nat} {L x : Value} (h : TwoInInts n0 w wr M u n X p L k x) : Chg (goneInts M u) w wr := by
  obtain ⟨v, m, c, h1, _⟩ := h
  exact h1.chg
theorem TwoInInts.form {n0 : Nat} {w wr : World} {M : Nat} {u : Nat → Value} {n : Nat → Nat} {X : Nat → Prop} {p k : Nat} {L x : Value} (h : TwoInInts n0 w wr M u n X p L k x) (hp : p < M) : ∃ V cap, u p = .slice V (n p) cap := by
  obtain ⟨v, m, c, h1, _⟩ := h
  obtain ⟨V, cap, e, _⟩ := (h1.many.held p hp).form
  exact ⟨V, cap, e⟩
theorem TwoInInts.long {n0 : Nat} {w wr : World} {M : Nat} {u : Nat → Value} {n : Nat → Nat} {X : Nat → Prop} {p k : Nat} {L x : Value} (h : TwoInInts n0 w wr M u n X p L k x) : ∃ v : Nat → Value, wr.ownsRow w.heap.size 86 1 L p (lst v p) ∧ x = v p := by
  obtain ⟨v, m, c, h1, h2, _⟩ := h
  exact ⟨v, h1.long, h2⟩
theorem TwoInInts.own {n0 : Nat} {w wr : World} {M : Nat} {u : Nat → Value} {n : Nat → Nat} {X : Nat → Prop} {p k : Nat} {L x : Value} (h : TwoInInts n0 w wr M u n X p L k x) (hp : p < M) : Rw n0 3 wr x (n p + k) (lst (vpInts p) (n p) ++ lst (vnInts p) k) := by
  obtain ⟨v, m, c, h1, h2, h3, h4⟩ := h
  have := (h1.many.held p hp).own
  rw [h3, h4, ← h2] at this; exact this
/-- a step of the walk that only makes memory -/
theorem TwoInInts.keep {n0 : Nat} {w wr w' : World} {M : Nat} {u : Nat → Value} {n : Nat → Nat} {X : Nat → Prop} {p k : Nat} {L x : Value} (h : TwoInInts n0 w wr M u n X p L k x) (hb : Below wr.heap.size wr w') : TwoInInts n0 w w' M u n X p L k x := by
  obtain ⟨v, m, c, h1, h2, h3, h4⟩ := h
  have hc : Chg (fun _ => False) wr w' := .of_below hb
  exact ⟨v, m, c, ⟨h1.many.keep hc (fun g _ hg => hg.elim), h1.done, h1.rest, own_below h1.long hb, h1.chg.trans hc (fun _ _ h => h.elim)⟩, h2, h3, h4⟩
theorem TwoInInts.push {n0 : Nat} {w wr w' : World} {M : Nat} {u : Nat → Value} {n : Nat → Nat} {X : Nat → Prop} {p k : Nat} {L x x' : Value} (h : TwoInInts n0 w wr M u n X p L k x) (hp : p < M) (hX : ∀ g, X g → g < w.heap.size)
    (ho : Rw n0 3 w' x' (n p + k + 1) (lst (vpInts p) (n p) ++ lst (vnInts p) k ++ [vnInts p k])) (hor : (wr.grownBy w' x.ownBlock ∧ x'.ownBlock = x.ownBlock) ∨ (wr.grownBy w' none ∧ ∃ g, x'.ownBlock = some g ∧ wr.heap.size ≤ g)) :
    TwoInInts n0 w w' M u n X p L (k + 1) x' := by
  obtain ⟨v, m, c, h1, rfl, h3, h4⟩ := h
  have hX' : ∀ g, X g ∨ blk L g → g < wr.heap.size := by
    intro g hg
    rcases hg with hg | hg
    · exact Nat.lt_of_lt_of_le (hX g hg) h1.chg.size
    · exact (row_lt h1.long hg).2
  have hch := push_chg hor
  rw [← h4, ← h3] at ho
  have h5 := h1.many.push hX' h1.chg.size p hp ho hor
  refine ⟨turn v p x', turn m p (m p + 1), turn c p (c p ++ [vnInts p k]), ⟨h5, fun j hj => ?_, fun j hj hjM => ?_, ?_, ?_⟩, (turn_same _ _ _).symm, by rw [turn_same, h3]; omega, ?_⟩
  · rw [turn_other _ _ _ _ (by omega), turn_other _ _ _ _ (by omega)]; exact h1.done j hj
  · rw [turn_other _ _ _ _ (by omega), turn_other _ _ _ _ (by omega), turn_other _ _ _ _ (by omega)]; exact h1.rest j hj hjM
  · have : lst (turn v p x') p = lst v p := lst_congr fun j hj => turn_other _ _ _ _ (by omega)
    rw [this]
    exact own_chg h1.long hch (fun g hg hg' => h1.many.out p hp g (.inr hg') (.inr hg))
  · refine h1.chg.trans hch fun g hg hg' => ?_
    rcases h1.many.new p hp g hg' with h | h
    · exact ⟨p, hp, h⟩
    · omega
  · rw [turn_same, h4, List.append_assoc, ← lst_succ]
theorem TwoInInts.out {n0 : Nat} {w wr w' : World} {M : Nat} {u : Nat → Value} {n : Nat → Nat} {X : Nat → Prop} {p : Nat} {L L' x : Value} (h : TwoInInts n0 w wr M u n X p L 16 x) (hp : p < M)
    (hl : ∀ v : Nat → Value, x = v p → wr.ownsRow w.heap.size 86 1 L p (lst v p) → w'.ownsRow w.heap.size 86 1 L' (p + 1) (lst v p ++ [x])) (hor : (wr.grownBy w' L.ownBlock ∧ L'.ownBlock = L.ownBlock) ∨ (wr.grownBy w' none ∧ ∃ g, L'.ownBlock = some g ∧ wr.heap.size ≤ g)) :
    TwoOutInts n0 w w' M u n X (p + 1) L' := by
  obtain ⟨v, m, c, h1, h2, h3, h4⟩ := h
  have hch := push_chg hor
  have h5 := h1.many.shut (Y := fun g => X g ∨ blk L' g) (by
    intro g hg hY
    rcases hY with hY | hY
    · exact .inl hY
    · rcases push_blk hor hY with h | h
      · exact .inr h
      · omega)
  have h6 : Many n0 w.heap.size 3 w' M u v n m c (fun g => X g ∨ blk L' g) := by
    have h7 := h1.many.keep hch (fun g _ hg => .inr hg)
    exact ⟨h7.held, h7.apart, fun i hi g hg hY => h5.out i hi g hg hY, h7.new⟩
  have hlong := hl v h2 h1.long
  rw [h2, ← lst_succ] at hlong
  refine ⟨v, m, c, ⟨h6, fun j hj => ?_, fun j hj hjM => h1.rest j (by omega) hjM, hlong, ?_⟩, fun hp' => h1.rest (p + 1) (by omega) hp'⟩
  · by_cases e : j = p
    · subst e; exact ⟨h3, h4⟩
    · exact h1.done j (by omega)
  · refine h1.chg.trans hch fun g hg hg' => ?_
    have := (row_lt h1.long hg').1
    omega
/-- the third pass reads -/
theorem TwoOutInts.drewN {n0 : Nat} {w wr : World} {M : Nat} {u : Nat → Value} {n : Nat → Nat} {X : Nat → Prop} {p : Nat} {L : Value} (h : TwoOutInts n0 w wr M u n X p L) (q : Nat) : TwoOutInts n0 w (wr.drewN q) M u n X p L := by
  obtain ⟨v, m, c, h1, h2⟩ := h
  have hb : Below wr.heap.size wr (wr.drewN q) := below_drewN (Below.refl _ _) q
  have hc : Chg (fun _ => False) wr (wr.drewN q) := .of_below hb
  exact ⟨v, m, c, ⟨h1.many.keep hc (fun g _ hg => hg.elim), h1.done, h1.rest, own_below h1.long hb, h1.chg.trans hc (fun _ _ h => h.elim)⟩, h2⟩
theorem TwoOutInts.read {n0 : Nat} {w wr : World} {M : Nat} {u : Nat → Value} {n : Nat → Nat} {X : Nat → Prop} {L : Value} (h : TwoOutInts n0 w wr M u n X M L) (p : Nat) (hp : p < M) :
    ∃ U cu V cv G cl, u p = .slice U (n p) cu ∧ L = .slice (some ⟨G, 0, none⟩) M cl ∧ wr.cell? ⟨G, p, none⟩ = some (.slice V (n p + 16) cv) ∧ (∀ k, k < n p → ∃ g, U = some ⟨g, 0, none⟩ ∧ wr.cell? ⟨g, k, none⟩ = some (vpInts p k)) ∧
      (∃ g, V = some ⟨g, 0, none⟩ ∧ (∀ k, k < n p → wr.cell? ⟨g, k, none⟩ = some (vpInts p k)) ∧ ∀ k, k < 16 → wr.cell? ⟨g, n p + k, none⟩ = some (vnInts p k)) := by
  obtain ⟨v, m, c, h1, h2⟩ := h
  obtain ⟨hm, hc⟩ := h1.done p hp
  have hh := h1.many.held p hp
  rw [hm, hc] at hh
  obtain ⟨U, cu, e1, e2⟩ := hh.form
  obtain ⟨V, cv, f1, f2⟩ := rw_cells hh.own
  obtain ⟨W, cl, g1, g2⟩ := own_cells h1.long
  obtain ⟨G, rfl, g3, _⟩ := g2 p hp
  obtain ⟨g, rfl, _⟩ := f2 (n p) (by omega)
  have hpos : ∀ k, k < n p + 16 → wr.cell? ⟨g, k, none⟩ = (lst (vpInts p) (n p) ++ lst (vnInts p) 16)[k]? := fun k hk => by
    obtain ⟨g', e, e', _⟩ := f2 k hk
    cases e; exact e'
  refine ⟨U, cu, _, cv, G, cl, e1, g1, by rw [g3, lst_get _ _ _ hp, f1], fun k hk => ?_, g, rfl, fun k hk => ?_, fun k hk => ?_⟩
  · obtain ⟨g', e, e'⟩ := e2 k hk
    exact ⟨g', e, by rw [e', List.getElem?_append_left (by rw [lst_length]; exact hk), lst_get _ _ _ hk]⟩
  · rw [hpos k (by omega), List.getElem?_append_left (by rw [lst_length]; exact hk), lst_get _ _ _ hk]
  · rw [hpos (n p + k) (by omega), List.getElem?_append_right (by rw [lst_length]; omega), lst_length, show n p + k - n p = k by omega, lst_get _ _ _ hk]
set_option maxRecDepth 100000 in
set_option maxHeartbeats 4000000 in
theorem own_Ints (n0 : Nat) (A : Option Addr) (cc M : Nat) (u : Nat → Value) (n : Nat → Nat) (cs : Nat → List Value) (w : World) (hA : At w A (lst u M)) (hM : M ≤ 1000000000000) (hn : ∀ i, i < M → n i ≤ 1000000000000)
    (h : Apart n0 3 w M u n cs (fun g => ∃ a, A = some a ∧ g = a.block)) (hXl : ∀ a, A = some a → a.block < w.heap.size) (hn0 : n0 ≤ w.heap.size) :
    Calls Try.prog 97 #[.slice A M cc] w fun e w' => e = .returned (.bool true) ∧ Chg (goneInts M u) w w' := by
  have hXo : ∀ a, A = some a → ¬ goneInts M u a.block := by
    rintro a ha ⟨i, hi, hg⟩
    exact h.out i hi _ hg ⟨a, ha, rfl⟩
  have hstart : OneInts n0 w w M u n (fun g => ∃ a, A = some a ∧ g = a.block) 0 := ⟨cs, h, fun j hj => by omega, Chg.refl _ _⟩
  have hXl' : ∀ g, (∃ a, A = some a ∧ g = a.block) → g < w.heap.size := by rintro g ⟨a, ha, rfl⟩; exact hXl a ha
  have HXL := Lib.hid hXl'
  have HXO := Lib.hid hXo
  have HN := Lib.hid hn
  have HA := Lib.hid hA
  have HN0 := Lib.hid hn0
  clear hXl hXl' hXo hn hA h hn0
  go_enter Try.func97, Try.ntmps97
  go_wp2
  go_loopw [3] (fun i wr => ∃ p : Nat, p ≤ M ∧ i = .int .i64 p ∧ OneInts n0 w wr M u n (fun g => ∃ a, A = some a ∧ g = a.block) p) (fun i _ => M - (intOf i).toNat)
  case atStart => exact ⟨0, by omega, rfl, hstart⟩
  case round =>
    clear hstart
    obtain ⟨p, hp, rfl, hO⟩ := hrel
    by_cases hlt : p < M
    · obtain ⟨wo, rfl⟩ : ∃ wo : World, wo = wr := ⟨_, rfl⟩
      have hI := hO.inn
      have hnp := HN.out p hlt
      go_wp2
      go_loopw [4] (fun i wr => ∃ k : Nat, k ≤ n p ∧ i = .int .i64 k ∧ OneInInts n0 w wr M u n (fun g => ∃ a, A = some a ∧ g = a.block) p k) (fun i _ => n p - (intOf i).toNat)
      case atStart => exact ⟨0, by omega, rfl, hI⟩
      case round =>
        clear hI hO
        obtain ⟨k, hk, rfl, hI⟩ := hrel
        obtain ⟨V, cap, hu, hcell⟩ := hI.form hlt
        have hch : Chg (goneInts M u) w wr := by obtain ⟨_, _, _, _, e⟩ := hI; exact e
        obtain ⟨b, o, rfl, hco⟩ := outer_cell HA.out hch HXO.out p hlt
        rw [hu] at hco
        have HU := Lib.hid hu
        clear hu hch
        by_cases hkl : k < n p
        · obtain ⟨g, x, rfl, hcx, hfx⟩ := hcell k hkl
          clear hcell
          have hst := hI.step hlt hkl HU.out
          unfold vpInts at hst
          go_wp2
          go_roundw
          case rel => exact ⟨k + 1, by omega, by go_num, hst⟩
          case measure => simp [intOf]; omega
        · obtain rfl : k = n p := by omega
          clear hcell
          have hout := hI.out hlt
          go_wp2
          go_roundw
          case rel => exact ⟨p + 1, by omega, by go_num, hout⟩
          case measure => simp [intOf]; omega
    · obtain rfl : M = p := by omega
      have hT := hO.two
      clear hO
      go_wp2
      go_loopw [5, 6] (fun L i wr => ∃ p : Nat, p ≤ M ∧ i = .int .i64 p ∧ TwoOutInts n0 w wr M u n (fun g => ∃ a, A = some a ∧ g = a.block) p L) (fun _ i _ => M - (intOf i).toNat)
      case atStart => exact ⟨0, by omega, rfl, hT⟩
      case round =>
        clear hT
        obtain ⟨p, hp, rfl, hT⟩ := hrel
        by_cases hlt : p < M
        · obtain ⟨wo, rfl⟩ : ∃ wo : World, wo = wr := ⟨_, rfl⟩
          have hI := hT.inn hlt
          have hnp := HN.out p hlt
          obtain ⟨b, o, rfl, hco⟩ := outer_cell HA.out hT.chg HXO.out p hlt
          obtain ⟨V, cap, hu⟩ := hI.form hlt
          rw [hu] at hco hI
          clear hu hT
          go_wp2
          go_loopw [7, 8] (fun x i wr => ∃ k : Nat, k ≤ 16 ∧ i = .int .i64 k ∧ TwoInInts n0 w wr M u n (fun g => ∃ a, (some (⟨b, o, none⟩ : Addr)) = some a ∧ g = a.block) p u5 k x) (fun _ i _ => 16 - (intOf i).toNat)
          case atStart => exact ⟨0, by omega, rfl, hI⟩
          case round =>
            clear hI
            obtain ⟨k, hk, rfl, hI⟩ := hrel
            by_cases hkl : k < 16
            · have hI1 := hI.keep (below_alloc0 (Below.refl _ _) (.cells #[vnInts p k] 3))
              have hAt : At (wr.alloc (.cells #[vnInts p k] 3)) (some ⟨wr.heap.size, 0, none⟩) [vnInts p k] := At.box wr (vnInts p k) 3 wr.heap.size rfl
              have hn0 : n0 ≤ (wr.alloc (.cells #[vnInts p k] 3)).heap.size := Nat.le_trans HN0.out (Nat.le_trans hI.chg.size (by simp))
              unfold vnInts at hI1 hAt hn0
              go_wp2_with (at_builtin; go_loud (refine wp_appendC rfl (.tmp 52) (.tmp 58) 86 3 (.int .i64 0) 8 rfl Try.underlying86 Try.info3 rfl n0 u7 (n p + k) _ rfl (hI1.own hlt) (some ⟨wr.heap.size, 0, none⟩) 1 1 _ rfl rfl hAt (by simp) (by simp [Value.oneCell']) (by decide) (by omega) (by omega) hn0 ?_); intro v1 w1 ho1 hor1)
              have hI2 := hI1.push hlt (HXL.out) ho1 hor1
              go_roundw
              case rel => exact ⟨k + 1, by omega, by go_num, hI2⟩
              case measure => simp [intOf]; omega
            · obtain rfl : k = 16 := by omega
              obtain ⟨V2, cap2, rfl, _⟩ := rw_cells (hI.own hlt)
              obtain ⟨v2, hl2, hx3⟩ := hI.long
              have hl3 := own_below hl2 (below_alloc0 (Below.refl _ _) (.cells #[.slice V2 (n p + 16) cap2] 86))
              have hAt : At (wr.alloc (.cells #[.slice V2 (n p + 16) cap2] 86)) (some ⟨wr.heap.size, 0, none⟩) [.slice V2 (n p + 16) cap2] := At.box wr _ 86 wr.heap.size rfl
              have hn0 : w.heap.size ≤ (wr.alloc (.cells #[.slice V2 (n p + 16) cap2] 86)).heap.size := Nat.le_trans hI.chg.size (by simp)
              have hI1 := hI.keep (below_alloc0 (Below.refl _ _) (.cells #[.slice V2 (n p + 16) cap2] 86))
              clear hx3
              go_wp2_with (at_builtin; go_loud (refine wp_append2 rfl (.tmp 60) (.tmp 62) 45 86 (.slice none 0 0) 1 24 rfl Try.underlying45 Try.info86 rfl (by decide) w.heap.size u5 p _ rfl hl3 (some ⟨wr.heap.size, 0, none⟩) 1 1 _ rfl rfl hAt (by simp) (by simp [Value.oneCell']) (by omega) (by omega) hn0 ?_); intro v1 w1 ho1 hor1)
              have hI2 := hI1.out hlt (fun v hx hv => by rw [own_unique hv hl3]; exact ho1) hor1
              go_roundw
              case rel => exact ⟨p + 1, by omega, by go_num, hI2⟩
              case measure => simp [intOf]; omega
        · obtain rfl : M = p := by omega
          go_wp2
          go_loopw [9] (fun i wr => ∃ p : Nat, p ≤ M ∧ i = .int .i64 p ∧ TwoOutInts n0 w wr M u n (fun g => ∃ a, A = some a ∧ g = a.block) M u5) (fun i _ => M - (intOf i).toNat)
          case atStart => exact ⟨0, by omega, rfl, hT⟩
          case round =>
            clear hT
            obtain ⟨p, hp, rfl, hT⟩ := hrel
            by_cases hlt : p < M
            · obtain ⟨wo, rfl⟩ : ∃ wo : World, wo = wr := ⟨_, rfl⟩
              have hnp := HN.out p hlt
              have hco := outer_cell HA.out hT.chg HXO.out p hlt
              obtain ⟨b, o, rfl, hco⟩ := hco
              obtain ⟨U, cu, V, cv, G, cl, e1, e2, e3, e4, e5⟩ := hT.read p hlt
              rw [e1] at hco
              subst e2
              clear e1 e3 e4 e5
              go_wp2
              go_loopw [11] (fun i wr => ∃ k : Nat, k ≤ n p ∧ i = .int .i64 k ∧ TwoOutInts n0 w wr M u n (fun g => ∃ a, (some (⟨b, o, none⟩ : Addr)) = some a ∧ g = a.block) M (.slice (some ⟨G, 0, none⟩) M cl)) (fun i _ => n p - (intOf i).toNat)
              case atStart => exact ⟨0, by omega, rfl, hT⟩
              case round =>
                clear hT
                obtain ⟨k, hk, rfl, hT⟩ := hrel
                by_cases hkl : k < n p
                · obtain ⟨b', o', hbo, hco⟩ := outer_cell HA.out hT.chg HXO.out p hlt
                  obtain ⟨rfl, rfl⟩ : b = b' ∧ o = o' := by cases hbo; exact ⟨rfl, rfl⟩
                  clear hbo
                  obtain ⟨U, cu, V, cv, G', cl', e1, e2, e3, e4, e5⟩ := hT.read p hlt
                  obtain ⟨rfl, rfl⟩ : G = G' ∧ cl = cl' := by cases e2; exact ⟨rfl, rfl⟩
                  clear e2
                  rw [e1] at hco
                  obtain ⟨g1, rfl, e6⟩ := e4 k hkl
                  obtain ⟨g2, rfl, e7, e8⟩ := e5
                  replace e7 := e7 k hkl
                  clear e1 e4 e8
                  unfold vpInts at e6 e7
                  go_wp2
                  go_roundw
                  case rel => exact ⟨k + 1, by omega, by go_num, hT⟩
                  case measure => simp [intOf]; omega
                · obtain rfl : k = n p := by omega
                  go_wp2
                  go_loopw [12] (fun i wr => ∃ k : Nat, k ≤ 16 ∧ i = .int .i64 k ∧ TwoOutInts n0 w wr M u n (fun g => ∃ a, (some (⟨b, o, none⟩ : Addr)) = some a ∧ g = a.block) M (.slice (some ⟨G, 0, none⟩) M cl)) (fun i _ => 16 - (intOf i).toNat)
                  case atStart => exact ⟨0, by omega, rfl, hT⟩
                  case round =>
                    clear hT
                    obtain ⟨k, hk, rfl, hT⟩ := hrel
                    by_cases hkl : k < 16
                    · obtain ⟨b', o', hbo, hco⟩ := outer_cell HA.out hT.chg HXO.out p hlt
                      obtain ⟨rfl, rfl⟩ : b = b' ∧ o = o' := by cases hbo; exact ⟨rfl, rfl⟩
                      clear hbo
                      obtain ⟨U, cu, V, cv, G', cl', e1, e2, e3, e4, e5⟩ := hT.read p hlt
                      obtain ⟨rfl, rfl⟩ : G = G' ∧ cl = cl' := by cases e2; exact ⟨rfl, rfl⟩
                      clear e2
                      rw [e1] at hco
                      obtain ⟨g2, rfl, e7, e8⟩ := e5
                      replace e8 := e8 k hkl
                      clear e1 e4 e7
                      unfold vnInts at e8
                      go_wp2
                      go_roundw
                      case rel => exact ⟨k + 1, by omega, by go_num, hT⟩
                      case measure => simp [intOf]; omega
                    · obtain rfl : k = 16 := by omega
                      go_wp2
                      go_roundw
                      case rel => exact ⟨p + 1, by omega, by go_num, hT⟩
                      case measure => simp [intOf]; omega
            · obtain rfl : M = p := by omega
              have hch := hT.chg
              go_wp2
              go_ret
              exact ⟨rfl, hch⟩
end Go.Proofs.Ytfbjjblgcgjndaa

/- Plain facts on the checksum: the reckoning bit by bit, by halves of bytes, its linearity, and what a turned bit does. -/
namespace Go.Proofs.Ytfbjjblgcgjndaa.Crc

def T (n : Nat) : Nat := if n % 2 = 1 then (n / 2) ^^^ 2197175160 else n / 2

def It : Nat → Nat → Nat
  | 0, n => n
  | k + 1, n => It k (T n)

theorem It_add (a b n : Nat) : It (a + b) n = It b (It a n) := by
  induction a generalizing n with
  | zero => simp [It]
  | succ a ih => rw [show a + 1 + b = (a + b) + 1 from by omega]; simp only [It]; exact ih _

theorem It_succ (k n : Nat) : It (k + 1) n = T (It k n) := by rw [It_add k 1 n]; rfl

theorem xor_mod2 (a b : Nat) : (a ^^^ b) % 2 = (a % 2 + b % 2) % 2 := by
  have h := Nat.testBit_xor a b 0
  simp only [Nat.testBit_zero] at h
  have h1 : (a ^^^ b) % 2 = 0 ∨ (a ^^^ b) % 2 = 1 := Nat.mod_two_eq_zero_or_one _
  rcases Nat.mod_two_eq_zero_or_one a with ha | ha <;> rcases Nat.mod_two_eq_zero_or_one b with hb | hb <;> rcases h1 with h1 | h1 <;> rw [ha, hb, h1] at h <;> simp at h <;> rw [ha, hb, h1]

theorem T_xor (a b : Nat) : T (a ^^^ b) = T a ^^^ T b := by
  unfold T
  have h := xor_mod2 a b
  have hd : (a ^^^ b) / 2 = a / 2 ^^^ b / 2 := Nat.xor_div_two
  rcases Nat.mod_two_eq_zero_or_one a with ha | ha <;> rcases Nat.mod_two_eq_zero_or_one b with hb | hb
  · rw [if_neg (by omega), if_neg (by omega), if_neg (by omega), hd]
  · rw [if_pos (by omega), if_neg (by omega), if_pos (by omega), hd, Nat.xor_assoc]
  · rw [if_pos (by omega), if_pos (by omega), if_neg (by omega), hd, Nat.xor_assoc, Nat.xor_assoc, Nat.xor_comm (b / 2)]
  · rw [if_neg (by omega), if_pos (by omega), if_pos (by omega), hd, Nat.xor_assoc, ← Nat.xor_assoc 2197175160, Nat.xor_comm 2197175160, Nat.xor_assoc (b / 2), Nat.xor_self, Nat.xor_zero]

theorem T_zero : T 0 = 0 := by decide
theorem T_lt (n : Nat) (h : n < 4294967296) : T n < 4294967296 := by
  unfold T
  split
  · exact Nat.xor_lt_two_pow (n := 32) (by omega) (by omega)
  · omega

theorem It_xor (k a b : Nat) : It k (a ^^^ b) = It k a ^^^ It k b := by
  induction k generalizing a b with
  | zero => rfl
  | succ k ih => simp only [It, T_xor]; exact ih _ _
theorem It_zero (k : Nat) : It k 0 = 0 := by
  induction k with
  | zero => rfl
  | succ k ih => simp only [It, T_zero]; exact ih
theorem It_lt (k n : Nat) (h : n < 4294967296) : It k n < 4294967296 := by
  induction k generalizing n with
  | zero => exact h
  | succ k ih => exact ih _ (T_lt n h)

theorem T_two (n : Nat) : T (2 * n) = n := by unfold T; rw [if_neg (by omega)]; omega
theorem It_shift (k n : Nat) : It k (2 ^ k * n) = n := by
  induction k generalizing n with
  | zero => simp [It]
  | succ k ih => simp only [It]; rw [show 2 ^ (k + 1) * n = 2 * (2 ^ k * n) from by rw [Nat.pow_succ]; rw [Nat.mul_comm (2^k) 2, Nat.mul_assoc], T_two]; exact ih n
theorem It_pow (i m : Nat) (h : i ≤ m) : It m (2 ^ i) = It (m - i) 1 := by
  have := It_shift i 1
  rw [Nat.mul_one] at this
  rw [show m = i + (m - i) from by omega, It_add, this]
  congr 1; omega

theorem T_ne (n : Nat) (h : n < 4294967296) (h0 : n ≠ 0) : T n ≠ 0 := by
  unfold T
  split
  · intro hx
    have h2 : n / 2 = 2197175160 := by
      have := congrArg (· ^^^ 2197175160) hx
      simp only [Nat.xor_assoc, Nat.xor_self, Nat.xor_zero, Nat.zero_xor] at this
      exact this
    omega
  · omega
theorem It_ne (k n : Nat) (h : n < 4294967296) (h0 : n ≠ 0) : It k n ≠ 0 := by
  induction k generalizing n with
  | zero => exact h0
  | succ k ih => exact ih _ (T_lt n h) (T_ne n h h0)

/-- half a byte at a time -/
theorem It_half (n : Nat) : It 4 n = n / 16 ^^^ It 4 (n % 16) := by
  have h : n = 2 ^ 4 * (n / 16) ^^^ n % 16 := by
    have h1 : 2 ^ 4 * (n / 16) ||| n % 16 = 2 ^ 4 * (n / 16) + n % 16 := by
      rw [Nat.two_pow_add_eq_or_of_lt (by omega)]
    have h2 : n = 2 ^ 4 * (n / 16) + n % 16 := by omega
    rw [← h1] at h2
    refine h2.trans ?_
    apply Nat.eq_of_testBit_eq
    intro i
    rw [Nat.testBit_or, Nat.testBit_xor]
    by_cases hi : i < 4
    · have : (2 ^ 4 * (n / 16)).testBit i = false := by rw [Nat.testBit_two_pow_mul]; simp; omega
      rw [this]; simp
    · have : (n % 16).testBit i = false := Nat.testBit_lt_two_pow (Nat.lt_of_lt_of_le (Nat.mod_lt _ (by omega)) (show 2 ^ 4 ≤ 2 ^ i from Nat.pow_le_pow_right (by omega) (by omega)))
      rw [this]; simp
  conv => lhs; rw [h]
  rw [It_xor, It_shift]

def B (n c : Nat) : Nat := It 8 (n ^^^ c)
theorem B_half (n c : Nat) : B n c = It 4 (It 4 (n ^^^ c)) := It_add 4 4 _

def run (n : Nat) (l : List Nat) : Nat := l.foldl B n
theorem run_nil (n : Nat) : run n [] = n := rfl
theorem run_cons (n c : Nat) (l : List Nat) : run n (c :: l) = run (B n c) l := rfl
theorem run_append (n : Nat) (l m : List Nat) : run n (l ++ m) = run (run n l) m := by simp [run, List.foldl_append]
theorem B_xor (a b c d : Nat) : B (a ^^^ b) (c ^^^ d) = B a c ^^^ B b d := by
  unfold B
  rw [← It_xor]; congr 1
  rw [Nat.xor_assoc, Nat.xor_assoc]; congr 1
  rw [← Nat.xor_assoc, Nat.xor_comm b c, Nat.xor_assoc]
theorem run_xor (a b : Nat) (l m : List Nat) (h : l.length = m.length) : run (a ^^^ b) (List.zipWith (· ^^^ ·) l m) = run a l ^^^ run b m := by
  induction l generalizing a b m with
  | nil => cases m with
    | nil => rfl
    | cons => simp at h
  | cons c l ih => cases m with
    | nil => simp at h
    | cons d m =>
      simp only [List.zipWith_cons_cons, run_cons, B_xor]
      exact ih _ _ _ (by simpa using h)
theorem run_zeros (k : Nat) : run 0 (List.replicate k 0) = 0 := by
  induction k with
  | zero => rfl
  | succ k ih => rw [List.replicate_succ, run_cons]; exact ih
theorem B_zero (n : Nat) : B n 0 = It 8 n := by unfold B; rw [Nat.xor_zero]
theorem run_skip (n k : Nat) : run n (List.replicate k 0) = It (8 * k) n := by
  induction k generalizing n with
  | zero => rfl
  | succ k ih => rw [List.replicate_succ, run_cons, ih, show 8 * (k + 1) = 8 + 8 * k from by omega, It_add, B_zero]
theorem B_lt (n c : Nat) (h : n < 4294967296) (hc : c < 256) : B n c < 4294967296 := It_lt _ _ (Nat.xor_lt_two_pow (n := 32) (by omega) (by omega))
theorem run_lt (n : Nat) (l : List Nat) (h : n < 4294967296) (hl : ∀ c ∈ l, c < 256) : run n l < 4294967296 := by
  induction l generalizing n with
  | nil => exact h
  | cons c l ih => exact ih _ (B_lt n c h (hl c (by simp))) (fun d hd => hl d (by simp [hd]))

/-- two states over one text part by what parts them -/
theorem run_apart (a b : Nat) (l : List Nat) : run (a ^^^ b) l = run a l ^^^ It (8 * l.length) b := by
  have h := run_xor a b l (List.replicate l.length 0) (by simp)
  rw [run_skip] at h
  rw [← h]; congr 1
  clear h
  induction l with
  | nil => rfl
  | cons c l ih => rw [List.length_cons, List.replicate_succ, List.zipWith_cons_cons, Nat.xor_zero, ← ih]

/-- one bit turned -/
theorem run_bit (n : Nat) (l : List Nat) (j r : Nat) (hj : j < l.length) (hr : r < 8) :
    run n (l.set j (l.getD j 0 ^^^ 2 ^ r)) = run n l ^^^ It (8 * l.length - (8 * j + r)) 1 := by
  induction l generalizing n j with
  | nil => simp at hj
  | cons c l ih =>
    cases j with
    | zero =>
      simp only [List.set_cons_zero, List.getD_cons_zero, run_cons]
      have : B n (c ^^^ 2 ^ r) = B n c ^^^ It (8 - r) 1 := by
        have := B_xor n 0 c (2 ^ r)
        rw [Nat.xor_zero] at this
        rw [this]; congr 1
        unfold B
        rw [Nat.zero_xor, It_pow r 8 (by omega)]
      rw [this, run_apart, List.length_cons, ← It_add]
      congr 2; omega
    | succ j =>
      simp only [List.set_cons_succ, List.getD_cons_succ, run_cons]
      rw [ih _ _ (by simpa using hj), List.length_cons]
      congr 2; omega

def inv (x : Nat) : Nat := 4294967295 - x
theorem inv_xor (x : Nat) (h : x < 4294967296) : inv x = 4294967295 ^^^ x := by
  unfold inv
  have h1 : x ^^^ (4294967295 ^^^ x) = 4294967295 := by rw [Nat.xor_comm 4294967295, ← Nat.xor_assoc, Nat.xor_self, Nat.zero_xor]
  apply Nat.eq_of_testBit_eq
  intro i
  rw [show 4294967295 - x = 2 ^ 32 - (x + 1) from by omega, Nat.testBit_two_pow_sub_succ h, Nat.testBit_xor]
  rw [show 4294967295 = 2 ^ 32 - 1 from by decide, Nat.testBit_two_pow_sub_one]
  by_cases hi : i < 32
  · simp [hi]
  · have : x.testBit i = false := Nat.testBit_lt_two_pow (Nat.lt_of_lt_of_le h (show 2 ^ 32 ≤ 2 ^ i from Nat.pow_le_pow_right (by omega) (by omega)))
    simp [hi, this]

def more (s : Nat) (l : List Nat) : Nat := inv (run (inv s) l)
def sum (l : List Nat) : Nat := more 0 l
theorem inv_inv (x : Nat) (h : x < 4294967296) : inv (inv x) = x := by unfold inv; omega
theorem inv_lt (x : Nat) : inv x < 4294967296 := by unfold inv; omega
theorem more_lt (s : Nat) (l : List Nat) : more s l < 4294967296 := inv_lt _
theorem more_append (s : Nat) (l m : List Nat) (hl : ∀ c ∈ l, c < 256) : more s (l ++ m) = more (more s l) m := by
  unfold more
  rw [run_append, inv_inv _ (run_lt _ _ (inv_lt _) hl)]

/-- the sums of two texts of one length, of their exclusive or, and of as many noughts come to nought -/
theorem sum_four (l m : List Nat) (h : l.length = m.length) (hl : ∀ c ∈ l, c < 256) (hm : ∀ c ∈ m, c < 256) :
    ((sum l ^^^ sum m) ^^^ sum (List.zipWith (· ^^^ ·) l m)) ^^^ sum (List.replicate l.length 0) = 0 := by
  have hx : ∀ c ∈ List.zipWith (· ^^^ ·) l m, c < 256 := by
    intro c hc
    rw [List.mem_iff_getElem] at hc
    obtain ⟨i, hi, rfl⟩ := hc
    rw [List.getElem_zipWith]
    exact Nat.xor_lt_two_pow (n := 8) (hl _ (List.getElem_mem _)) (hm _ (List.getElem_mem _))
  have hF : inv 0 < 4294967296 := inv_lt 0
  have a1 := run_lt _ _ hF hl
  have a2 := run_lt _ _ hF hm
  have a3 := run_lt _ _ hF hx
  have a4 := run_lt (inv 0) (List.replicate l.length 0) hF (by intro c hc; rw [List.mem_replicate] at hc; omega)
  unfold sum more
  rw [inv_xor _ a1, inv_xor _ a2, inv_xor _ a3, inv_xor _ a4]
  have e1 := run_xor (inv 0) (inv 0) l m h
  have e2 := run_xor (inv 0) (inv 0) (List.zipWith (· ^^^ ·) l m) (List.replicate l.length 0) (by simp [h])
  have e3 := run_xor (inv 0 ^^^ inv 0) (inv 0 ^^^ inv 0) (List.zipWith (· ^^^ ·) l m) (List.zipWith (· ^^^ ·) (List.zipWith (· ^^^ ·) l m) (List.replicate l.length 0)) (by simp [h])
  rw [e1, e2] at e3
  have e4 : List.zipWith (· ^^^ ·) (List.zipWith (· ^^^ ·) l m) (List.zipWith (· ^^^ ·) (List.zipWith (· ^^^ ·) l m) (List.replicate l.length 0)) = List.replicate l.length 0 := by
    apply List.ext_getElem
    · simp; omega
    · intro i h1 h2
      simp only [List.getElem_zipWith, List.getElem_replicate, Nat.xor_zero, Nat.xor_self]
  rw [e4] at e3
  simp only [Nat.xor_self, run_zeros] at e3
  generalize run (inv 0) l = A at *
  generalize run (inv 0) m = C at *
  generalize run (inv 0) (List.zipWith (· ^^^ ·) l m) = D at *
  generalize run (inv 0) (List.replicate l.length 0) = E at *
  generalize (4294967295 : Nat) = F at *
  apply Nat.eq_of_testBit_eq
  intro i
  have := congrArg (fun n => n.testBit i) e3
  simp only [Nat.testBit_xor, Nat.zero_testBit] at this ⊢
  revert this
  cases A.testBit i <;> cases C.testBit i <;> cases D.testBit i <;> cases E.testBit i <;> cases F.testBit i <;> decide

theorem xor_eq_zero (a b : Nat) : a ^^^ b = 0 ↔ a = b := by
  constructor
  · intro h
    have := congrArg (· ^^^ b) h
    simpa only [Nat.xor_assoc, Nat.xor_self, Nat.xor_zero, Nat.zero_xor] using this
  · intro h; rw [h, Nat.xor_self]

/-- a run of bits turned: what the first i places of 'change' that lie in n bits from 'from' on come to -/
def window (change k : Nat) : Nat → Nat
  | 0 => 0
  | i + 1 => if change.testBit i && decide (i < k) then window change k i ^^^ 2 ^ i else window change k i

theorem window_lt (c k i : Nat) : window c k i < 2 ^ i := by
  induction i with
  | zero => simp [window]
  | succ i ih =>
    unfold window
    have : 2 ^ i < 2 ^ (i + 1) := Nat.pow_lt_pow_right (by omega) (by omega)
    split
    · exact Nat.xor_lt_two_pow (Nat.lt_trans ih this) this
    · omega

theorem window_step_ne (c k i : Nat) (h : (c.testBit i && decide (i < k)) = true) : window c k (i + 1) ≠ 0 := by
  unfold window
  rw [if_pos h]
  intro hx
  have := (xor_eq_zero _ _).1 hx
  have := window_lt c k i
  omega
theorem window_step_eq (c k i : Nat) (h : (c.testBit i && decide (i < k)) = false) : window c k (i + 1) = window c k i := by
  conv => lhs; unfold window
  rw [if_neg (by rw [h]; decide)]

/-- what a text is behind the first i places: as the text, but for what the window comes to -/
def Turned (b x : List Nat) (k frm change i : Nat) : Prop :=
  x.length = b.length ∧ ∀ n, run n x = run n b ^^^ It k (window change k i) ∧ frm + k = 8 * b.length

theorem Turned.start (b : List Nat) (k frm change : Nat) (h : frm + k = 8 * b.length) : Turned b b k frm change 0 :=
  ⟨rfl, fun n => ⟨by simp [window, It_zero], h⟩⟩
theorem Turned.skip {b x : List Nat} {k frm change i : Nat} (h : Turned b x k frm change i) (hc : (change.testBit i && decide (i < k)) = false) : Turned b x k frm change (i + 1) := by
  refine ⟨h.1, fun n => ⟨?_, (h.2 n).2⟩⟩
  rw [window_step_eq _ _ _ hc]; exact (h.2 n).1
theorem Turned.turn {b x : List Nat} {k frm change i : Nat} (h : Turned b x k frm change i) (hc : (change.testBit i && decide (i < k)) = true) :
    Turned b (x.set ((frm + i) / 8) (x.getD ((frm + i) / 8) 0 ^^^ 2 ^ ((frm + i) % 8))) k frm change (i + 1) := by
  have hik : i < k := by simp at hc; exact hc.2
  have hk := (h.2 0).2
  have hl := h.1
  refine ⟨by rw [List.length_set]; exact h.1, fun n => ⟨?_, hk⟩⟩
  rw [run_bit n x _ _ (by omega) (by omega), (h.2 n).1]
  rw [show 8 * x.length - (8 * ((frm + i) / 8) + (frm + i) % 8) = k - i from by omega]
  rw [show window change k (i + 1) = window change k i ^^^ 2 ^ i from if_pos hc, It_xor, It_pow i k (by omega), Nat.xor_assoc]
theorem Turned.tells {b x : List Nat} {k frm change i : Nat} (h : Turned b x k frm change i) (hi : i ≤ 32) (n : Nat) :
    run n x = run n b ↔ window change k i = 0 := by
  rw [(h.2 n).1]
  constructor
  · intro he
    refine Decidable.byContradiction fun hne => ?_
    have hw : window change k i < 4294967296 := Nat.lt_of_lt_of_le (window_lt _ _ _) (show 2 ^ i ≤ 2 ^ 32 from Nat.pow_le_pow_right (by omega) hi)
    refine It_ne k _ hw hne ?_
    have := congrArg (run n b ^^^ ·) he
    simpa only [← Nat.xor_assoc, Nat.xor_self, Nat.zero_xor] using this
  · intro he
    rw [he, It_zero, Nat.xor_zero]
theorem inv_inj (a b : Nat) (ha : a < 4294967296) (hb : b < 4294967296) : inv a = inv b ↔ a = b := by unfold inv; omega
theorem sum_tells {b x : List Nat} {k frm change i : Nat} (h : Turned b x k frm change i) (hi : i ≤ 32) (hb : ∀ c ∈ b, c < 256) (hx : ∀ c ∈ x, c < 256) :
    sum x = sum b ↔ window change k i = 0 := by
  unfold sum more
  rw [inv_inj _ _ (run_lt _ _ (inv_lt _) hx) (run_lt _ _ (inv_lt _) hb)]
  exact h.tells hi _
end Go.Proofs.Ytfbjjblgcgjndaa.Crc

/- Contract of crc.half: the table of sixteen numbers, in a new block. -/
namespace Go.Proofs.Ytfbjjblgcgjndaa
open Go.RowKit

def tabAt (k : Nat) : Array Value := ((List.range 16).map fun j => Value.int .u32 (if j < k then (Crc.It 4 j : Nat) else (0 : Nat))).toArray
theorem tabAt_get (k j : Nat) (h : j < 16) : (tabAt k)[j]? = some (Value.int .u32 (if j < k then (Crc.It 4 j : Nat) else (0 : Nat))) := by
  simp [tabAt, h]
theorem tabAt_size (k : Nat) : (tabAt k).size = 16 := by simp [tabAt]
theorem tabAt_set (k : Nat) (h : k < 16) : (tabAt k).setIfInBounds k (.int .u32 (Crc.It 4 k : Nat)) = tabAt (k + 1) := by
  apply Array.ext_getElem?
  intro i
  by_cases hi : i < 16
  · rw [Array.getElem?_setIfInBounds, tabAt_get (k + 1) i hi, tabAt_size, if_pos h, tabAt_get k i hi]
    by_cases e : k = i
    · rw [if_pos e, ← e, if_pos (by omega)]
    · rw [if_neg e]
      by_cases hik : i < k
      · rw [if_pos hik, if_pos (by omega)]
      · rw [if_neg hik, if_neg (by omega)]
  · rw [Array.getElem?_eq_none (by rw [Array.size_setIfInBounds, tabAt_size]; omega), Array.getElem?_eq_none (by rw [tabAt_size]; omega)]
theorem tabAt_one (k : Nat) : (tabAt k).all (·.oneCell') = true := by
  rw [Array.all_eq_true_iff_forall_mem]
  intro v hv
  simp [tabAt] at hv
  obtain ⟨a, _, rfl⟩ := hv
  rfl
theorem Try.size145 : (Try.prog.info? 145).map (·.size) = some 16 := by kernel_rfl

theorem step_T (n : Nat) (h : n < 4294967296) :
    bits BinOp.xor IntKind.u32 ((n : Int) / 2) (2197175160 * bits BinOp.and IntKind.u32 (n : Int) 1 % 4294967296) = ((Crc.T n : Nat) : Int) := by
  have h1 : bits BinOp.and IntKind.u32 (n : Int) 1 = ((n % 2 : Nat) : Int) := by
    have := u32_and_nat n 1 h (by omega)
    rw [nat_mask1] at this
    exact this
  rw [h1]
  unfold Crc.T
  have h2 : (n : Int) / 2 = ((n / 2 : Nat) : Int) := by omega
  rw [h2]
  rcases Nat.mod_two_eq_zero_or_one n with hn | hn
  · rw [if_neg (by omega), hn]
    have := u32_xor_nat (n / 2) 0 (by omega) (by omega)
    rw [Nat.xor_zero] at this
    exact this
  · rw [if_pos hn, hn]
    exact u32_xor_nat (n / 2) 2197175160 (by omega) (by omega)

set_option maxHeartbeats 400000 in
theorem half_any (w : World) : Calls Try.prog 89 #[] w fun e w' => e = .returned (.agg (tabAt 16)) ∧ w.alloc (.cells (tabAt 16) 145) = w' := by
  go_enter Try.func89, Try.ntmps89
  go_wp2
  go_loopw [3] (fun i wr => ∃ k : Nat, k ≤ 16 ∧ i = .int .i64 k ∧ wr = w.alloc (.cells (tabAt k) 145)) (fun i _ => 16 - (intOf i).toNat)
  case atStart => exact ⟨0, by omega, rfl, rfl⟩
  case round =>
    obtain ⟨k, hk, rfl, rfl⟩ := hrel
    by_cases hlt : k < 16
    · have hget : (tabAt k)[k]? = some (Value.int .u32 0) := by rw [tabAt_get k k hlt, if_neg (by omega)]; rfl
      have hset := Lib.hid (tabAt_set k hlt)
      go_wp2
      go_loop [2, 8] (fun n j => ∃ i : Nat, i ≤ 4 ∧ j = .int .i64 i ∧ n = .int .u32 (Crc.It i k : Nat)) (fun _ j => 4 - (intOf j).toNat)
      case atStart => exact ⟨0, by omega, rfl, rfl⟩
      case round =>
        obtain ⟨i, hi, rfl, rfl⟩ := hrel
        have hb : Crc.It i k < 4294967296 := Crc.It_lt i k (by omega)
        by_cases hlt2 : i < 4
        · go_wp2
          go_round
          case rel => exact ⟨i + 1, by omega, by go_num, by rw [Crc.It_succ, step_T _ hb]⟩
          case measure => simp [intOf]; omega
        · obtain rfl : i = 4 := by omega
          go_wp2
          go_roundw
          case rel => exact ⟨k + 1, by omega, by go_num, by rw [hset.out]⟩
          case measure => simp [intOf]; omega
    · obtain rfl : k = 16 := by omega
      have hd : Try.prog.underlying 145 = some (.array 16 22) := Try.underlying145
      go_wp2_with (first
        | (with_reducible refine wpList_load_row rfl 145 (.tmp 0) rfl w.heap.size rfl 145 (tabAt 16) (0, 0) _ (heap_alloc_new w _) hd rfl (by rw [Try.size145, tabAt_size]) ?_)
        | (with_reducible refine wpList_store_row rfl 145 (.tmp 0) (.tmp 21) rfl w.heap.size (tabAt 16) rfl rfl 145 (tabAt 16) (heap_alloc_new w _) (by rw [Try.size145, tabAt_size]) rfl (tabAt_one 16) ?_; rw [World.setRow_alloc_new]))
      refine bodyPost_ret (results_cell_row (p := 0) (ty := 145) rfl _ _ w.heap.size 145 (tabAt 16) (0, 0) _ rfl (heap_alloc_new w _) hd rfl (by rw [Try.size145, tabAt_size])) rfl ⟨rfl, rfl⟩
end Go.Proofs.Ytfbjjblgcgjndaa

/- Contracts of crc.More, crc.Sum and of the reference's: all four come to the reckoning of CrcMath. -/
namespace Go.Proofs.Ytfbjjblgcgjndaa
open Go.RowKit

theorem nib (X : Nat) (h : X < 4294967296) : bits BinOp.xor IntKind.u32 ((X : Int) / 16) ((Crc.It 4 (X % 16) : Nat) : Int) = ((Crc.It 4 X : Nat) : Int) := by
  rw [Crc.It_half X]
  have e : (X : Int) / 16 = ((X / 16 : Nat) : Int) := by omega
  rw [e]
  exact u32_xor_nat _ _ (by omega) (Crc.It_lt _ _ (by omega))
theorem and15 (X : Nat) (h : X < 4294967296) : bits BinOp.and IntKind.u32 (X : Int) 15 = ((X % 16 : Nat) : Int) := by
  have := u32_and_nat X 15 h (by omega)
  rw [nat_mask4] at this
  exact this

theorem bnot (s : Nat) (h : s < 4294967296) : bits BinOp.xor IntKind.u32 IntKind.u32.max (s : Int) = ((Crc.inv s : Nat) : Int) := by
  have h1 : IntKind.u32.max = ((4294967295 : Nat) : Int) := by decide
  rw [h1, Crc.inv_xor s h]
  exact u32_xor_nat _ _ (by omega) h

set_option maxRecDepth 100000 in
set_option maxHeartbeats 400000 in
theorem more_any (s : Nat) (A : Option Addr) (c : Nat) (l : List Nat) (w : World) (hs : s < 4294967296) (hl : Bytes l) (hn : l.length ≤ 140737488351232) (hA : At w A (ns .u8 l)) :
    Calls Try.prog 28 #[.int .u32 (s : Int), .slice A l.length c] w fun e w' => e = .returned (.int .u32 (Crc.more s l : Nat)) ∧ Below w.heap.size w w' := by
  have hinv := bnot s hs
  have hz := Lib.hid Try.size145
  go_enter Try.func28, Try.ntmps28
  go_wp2_with (first
    | (go_at_call 89; refine (half_any _).mono ?_; rintro e w1 ⟨rfl, rfl⟩)
    | (with_reducible refine wpList_store_row rfl 145 (.tmp 5) (.tmp 9) rfl (w.heap.size + 1) (tabAt 16) rfl rfl 145 _ (heap_alloc2_new w _ _) (by rw [Try.size145, tabAt_size]) rfl (tabAt_one 16) ?_; rw [setRow_alloc2]))
  go_loop [6, 14] (fun n i => ∃ k : Nat, k ≤ l.length ∧ i = .int .i64 k ∧ n = .int .u32 (Crc.run (Crc.inv s) (l.take k) : Nat)) (fun _ i => l.length - (intOf i).toNat)
  case atStart => exact ⟨0, by omega, rfl, rfl⟩
  case round =>
    clear hinv
    obtain ⟨k, hk, rfl, rfl⟩ := hrel
    have hX := Crc.run_lt (Crc.inv s) (l.take k) (Crc.inv_lt s) (hl.take k)
    by_cases hlt : k < l.length
    · have hg := hl.nth k hlt
      obtain ⟨b, o, rfl, hc0⟩ := hA.num k hlt
      have hb : b < w.heap.size := World.block_lt_of_cell? w _ hc0
      have hts := Lib.hid (take_nth l k hlt)
      generalize hXe : Crc.run (Crc.inv s) (l.take k) = X at hX ⊢
      have HX := Lib.hid hXe
      clear hXe
      have h1 := u32_xor_nat X (nth l k) hX (by omega)
      have hX1 : X ^^^ nth l k < 4294967296 := Nat.xor_lt_two_pow (n := 32) (by omega) (by omega)
      generalize hY : X ^^^ nth l k = Y at h1 hX1
      have HY := Lib.hid hY
      clear hY
      have h2 := and15 Y hX1
      have h3 := nib Y hX1
      have h4 := tabAt_get 16 (Y % 16) (by omega)
      rw [if_pos (by omega)] at h4
      have hm1 : Y % 16 < 16 := by omega
      have hX2 := Crc.It_lt 4 Y hX1
      generalize hZ : Crc.It 4 Y = Z at h3 hX2
      have HZ := Lib.hid hZ
      clear hZ
      have h5 := and15 Z hX2
      have h6 := nib Z hX2
      have h7 := tabAt_get 16 (Z % 16) (by omega)
      rw [if_pos (by omega)] at h7
      have hm2 : Z % 16 < 16 := by omega
      go_wp2
      go_round
      case rel =>
        refine ⟨k + 1, by omega, by go_num, ?_⟩
        rw [hts.out, Crc.run_append, HX.out, Crc.run_cons, Crc.run_nil, Crc.B_half, HY.out, HZ.out]
      case measure => simp [intOf]; omega
    · obtain rfl : k = l.length := by omega
      rw [List.take_length] at hX
      have hfin := bnot _ hX
      go_wp2
      go_ret
      exact ⟨rfl, ((Below.refl _ _).alloc (Nat.le_refl _) _).alloc (by simp) _⟩

set_option maxHeartbeats 400000 in
theorem sum_any (A : Option Addr) (c : Nat) (l : List Nat) (w : World) (hl : Bytes l) (hn : l.length ≤ 140737488351232) (hA : At w A (ns .u8 l)) :
    Calls Try.prog 27 #[.slice A l.length c] w fun e w' => e = .returned (.int .u32 (Crc.sum l : Nat)) ∧ Below w.heap.size w w' := by
  go_enter Try.func27, Try.ntmps27
  go_wp2_with fail
  refine (more_any 0 A c l w (by omega) hl hn hA).mono ?_
  rintro e w1 ⟨rfl, hb⟩
  go_wp2
  go_ret
  exact ⟨rfl, hb⟩

theorem rstep (n : Nat) (h : n < 4294967296) : bits BinOp.xor IntKind.u32 ((n : Int) / 2) 2197175160 = (((n / 2) ^^^ 2197175160 : Nat) : Int) := by
  have e : (n : Int) / 2 = ((n / 2 : Nat) : Int) := by omega
  rw [e]; exact u32_xor_nat (n / 2) 2197175160 (by omega) (by omega)
theorem and1 (X : Nat) (h : X < 4294967296) : bits BinOp.and IntKind.u32 (X : Int) 1 = ((X % 2 : Nat) : Int) := by
  have := u32_and_nat X 1 h (by omega)
  rw [nat_mask1] at this
  exact this

set_option maxRecDepth 100000 in
set_option maxHeartbeats 400000 in
theorem rmore_any (s : Nat) (A : Option Addr) (c : Nat) (l : List Nat) (w : World) (hs : s < 4294967296) (hl : Bytes l) (hn : l.length ≤ 140737488351232) (hA : At w A (ns .u8 l)) :
    Calls Try.prog 32 #[.int .u32 (s : Int), .slice A l.length c] w fun e w' => e = .returned (.int .u32 (Crc.more s l : Nat)) ∧ w = w' := by
  have hinv := bnot s hs
  go_enter Try.func32, Try.ntmps32
  go_wp2
  go_loop [5, 6] (fun n i => ∃ k : Nat, k ≤ l.length ∧ i = .int .i64 k ∧ n = .int .u32 (Crc.run (Crc.inv s) (l.take k) : Nat)) (fun _ i => l.length - (intOf i).toNat)
  case atStart => exact ⟨0, by omega, rfl, rfl⟩
  case round =>
    clear hinv
    obtain ⟨k, hk, rfl, rfl⟩ := hrel
    have hX := Crc.run_lt (Crc.inv s) (l.take k) (Crc.inv_lt s) (hl.take k)
    by_cases hlt : k < l.length
    · have hg := hl.nth k hlt
      obtain ⟨b, o, rfl, hc0⟩ := hA.num k hlt
      have hb : b < w.heap.size := World.block_lt_of_cell? w _ hc0
      have hts := Lib.hid (take_nth l k hlt)
      generalize hXe : Crc.run (Crc.inv s) (l.take k) = X at hX ⊢
      have HX := Lib.hid hXe
      clear hXe
      have h1 := u32_xor_nat X (nth l k) hX (by omega)
      have hX1 : X ^^^ nth l k < 4294967296 := Nat.xor_lt_two_pow (n := 32) (by omega) (by omega)
      generalize hY : X ^^^ nth l k = Y at h1 hX1
      have HY := Lib.hid hY
      clear hY
      go_wp2
      go_loop [5, 7] (fun n i => ∃ j : Nat, j ≤ 8 ∧ i = .int .i64 j ∧ n = .int .u32 (Crc.It j Y : Nat)) (fun _ i => 8 - (intOf i).toNat)
      case atStart => exact ⟨0, by omega, rfl, rfl⟩
      case round =>
        obtain ⟨j, hj, rfl, rfl⟩ := hrel
        have hI := Crc.It_lt j Y hX1
        by_cases hlt2 : j < 8
        · have h2 := and1 _ hI
          have h3 := rstep _ hI
          rcases Nat.mod_two_eq_zero_or_one (Crc.It j Y) with hm | hm
          · rw [hm] at h2
            go_wp2
            go_round
            case rel =>
              refine ⟨j + 1, by omega, by go_num, ?_⟩
              rw [Crc.It_succ]; unfold Crc.T; rw [if_neg (by omega)]; go_num
            case measure => simp [intOf]; omega
          · rw [hm] at h2
            go_wp2
            go_round
            case rel =>
              refine ⟨j + 1, by omega, by go_num, ?_⟩
              rw [Crc.It_succ]; unfold Crc.T; rw [if_pos (by omega)]
            case measure => simp [intOf]; omega
        · obtain rfl : j = 8 := by omega
          go_wp2
          go_round
          case rel =>
            refine ⟨k + 1, by omega, by go_num, ?_⟩
            rw [hts.out, Crc.run_append, HX.out, Crc.run_cons, Crc.run_nil]; unfold Crc.B; rw [HY.out]
          case measure => simp [intOf]; omega
    · obtain rfl : k = l.length := by omega
      rw [List.take_length] at hX
      have hfin := bnot _ hX
      go_wp2
      go_ret
      exact ⟨rfl, rfl⟩

set_option maxHeartbeats 400000 in
theorem rsum_any (A : Option Addr) (c : Nat) (l : List Nat) (w : World) (hl : Bytes l) (hn : l.length ≤ 140737488351232) (hA : At w A (ns .u8 l)) :
    Calls Try.prog 31 #[.slice A l.length c] w fun e w' => e = .returned (.int .u32 (Crc.sum l : Nat)) ∧ w = w' := by
  go_enter Try.func31, Try.ntmps31
  go_wp2_with fail
  refine (rmore_any 0 A c l w (by omega) hl hn hA).mono ?_
  rintro e w1 ⟨rfl, rfl⟩
  go_wp2
  go_ret
  exact ⟨rfl, rfl⟩

end Go.Proofs.Ytfbjjblgcgjndaa

/- Bytes that a call owns: append of zeros, of one byte; numbers put low byte first. -/
namespace Go.Proofs.Ytfbjjblgcgjndaa
open Go.RowKit

/-- the k low bytes of n, the lowest first -/
def le : Nat → Nat → List Nat
  | _, 0 => []
  | n, k + 1 => (n % 256) :: le (n / 256) k
theorem le_length (n k : Nat) : (le n k).length = k := by
  induction k generalizing n with
  | zero => rfl
  | succ k ih => simp [le, ih]
theorem le_bytes (n k : Nat) : Bytes (le n k) := by
  induction k generalizing n with
  | zero => exact Bytes.nil
  | succ k ih => exact Bytes.cons (Nat.mod_lt _ (by decide)) (ih _)
theorem le_succ (n k : Nat) : le n (k + 1) = le n k ++ [n / 256 ^ k % 256] := by
  induction k generalizing n with
  | zero => simp [le]
  | succ k ih =>
    rw [le, ih (n / 256)]
    conv => rhs; rw [le]
    simp only [List.cons_append, List.cons.injEq, true_and]
    rw [Nat.div_div_eq_div_mul, Nat.pow_succ, Nat.mul_comm 256]
/-- the number that bytes are -/
def el : List Nat → Nat
  | [] => 0
  | b :: l => b + 256 * el l
theorem el_le (n k : Nat) : el (le n k) = n % 256 ^ k := by
  induction k generalizing n with
  | zero => simp [le, el, Nat.mod_one]
  | succ k ih =>
    rw [le, el, ih]
    rw [Nat.pow_succ, Nat.mul_comm (256 ^ k) 256, Nat.mod_mul]
theorem le_el (l : List Nat) (h : Bytes l) : le (el l) l.length = l := by
  induction l with
  | nil => rfl
  | cons b l ih =>
    have hb : b < 256 := h b (by simp)
    have hl : Bytes l := fun c hc => h c (by simp [hc])
    simp only [el, List.length_cons, le]
    rw [show (b + 256 * el l) % 256 = b from by omega, show (b + 256 * el l) / 256 = el l from by omega, ih hl]
theorem el_lt (l : List Nat) (h : Bytes l) : el l < 256 ^ l.length := by
  induction l with
  | nil => simp [el]
  | cons b l ih =>
    have hb : b < 256 := h b (by simp)
    have hl : Bytes l := fun c hc => h c (by simp [hc])
    have := ih hl
    simp only [el, List.length_cons, Nat.pow_succ]
    omega
theorem le_inj (n m k : Nat) (hn : n < 256 ^ k) (hm : m < 256 ^ k) (h : le n k = le m k) : n = m := by
  have := congrArg el h
  rw [el_le, el_le, Nat.mod_eq_of_lt hn, Nat.mod_eq_of_lt hm] at this
  exact this

theorem add_plain (g j : Nat) : (⟨g, 0, none⟩ : Addr).add j = ⟨g, j, none⟩ := by unfold Addr.add; split <;> simp_all
theorem blk_frozen {w : World} {g : Nat} {t : TypeId} {cs : Array Value} (h : w.heap[g]? = some (.cells cs t (0, 0))) (i : Nat) : w.frozen? ⟨g, i, none⟩ = false := by simp [World.frozen?, h]
theorem blk_set {w : World} {g : Nat} {t : TypeId} {cs : Array Value} (h : w.heap[g]? = some (.cells cs t (0, 0))) (i : Nat) (u : Value) : (w.setCell ⟨g, i, none⟩ u).heap[g]? = some (.cells (cs.setIfInBounds i u) t (0, 0)) := by
  simp [World.setCell, Array.getElem?_modify, h]
theorem setCells_far {g : Nat} : ∀ (vs : List Value) (o : Nat) {w : World} (k : Nat), k ≠ g → (w.setCells g o vs).heap[k]? = w.heap[k]?
  | [], _, _, _, _ => rfl
  | v :: r, o, w, k, hk => by
    rw [World.setCells, setCells_far r (o + 1) k hk]
    exact Below.heap_setCell w ⟨g, o, none⟩ v k hk
theorem setCells_same (g : Nat) : ∀ (vs : List Value) (o : Nat) (w : World), (w.setCells g o vs).os = w.os ∧ (w.setCells g o vs).tape = w.tape ∧ (w.setCells g o vs).output = w.output ∧ (w.setCells g o vs).heap.size = w.heap.size
  | [], _, _ => ⟨rfl, rfl, rfl, rfl⟩
  | v :: r, o, w => by
    obtain ⟨h1, h2, h3, h4⟩ := setCells_same g r (o + 1) (w.setCell ⟨g, o, none⟩ v)
    rw [World.setCells]
    exact ⟨h1, h2, h3, by rw [h4]; simp [World.setCell]⟩
theorem setCells_row {g : Nat} {e : TypeId} : ∀ (vs : List Value) (o : Nat) (w : World) (cur : Array Value), w.heap[g]? = some (.cells cur e (0, 0)) → o + vs.length ≤ cur.size →
    ∃ cur', (w.setCells g o vs).heap[g]? = some (.cells cur' e (0, 0)) ∧ cur'.size = cur.size ∧ cur'.toList = cur.toList.take o ++ vs ++ cur.toList.drop (o + vs.length)
  | [], o, w, cur, h, _ => ⟨cur, h, rfl, by simp⟩
  | v :: r, o, w, cur, h, hl => by
    have h2 := blk_set h o v
    simp only [List.length_cons] at hl
    obtain ⟨cur', h3, h4, h5⟩ := setCells_row r (o + 1) (w.setCell ⟨g, o, none⟩ v) _ h2 (by simp; omega)
    refine ⟨cur', h3, by rw [h4]; simp, ?_⟩
    rw [h5, Array.toList_setIfInBounds]
    have ho : o < cur.toList.length := by rw [Array.length_toList]; omega
    rw [List.take_set, List.drop_set_of_lt (by omega)]
    simp only [List.length_cons]
    rw [show o + 1 + r.length = o + (r.length + 1) by omega]
    congr 1
    rw [List.take_succ_eq_append_getElem ho, List.set_append_right _ _ (by rw [List.length_take]; omega)]
    have ho' : o < cur.size := by omega
    simp [Nat.min_eq_left (Nat.le_of_lt ho')]
section
variable {P : Program} {ops : Array Oper} {rest : List Oper} {o : Oper} {a : Act} {w : World} {Q : Exit → Act → World → Prop}
theorem run_append_zeros (w : World) (base : Nat) (t ti ty e : TypeId) (i : TypeInfo) (z : Value) (size bytes : Nat) (ht : P.underlying t = some (.slice e)) {k : IntKind} (hti : P.underlying ti = some (.int k)) (hi : P.info? e = some i) (hz : i.zero = some z)
    (hsize : i.size = size) (hby : i.bytes = bytes) (hzs : z.cells.size = size) (hsz : 0 < size) (hb0 : 0 < bytes)
    (v : Value) (n : Nat) (xs : List Value) (hown : w.ownsRow base e size v n xs) (kx : IntKind) (m : Nat) (h1 : ∀ u ∈ (Builtin.zeroCells z.cells m).toList, u.oneCell' = true)
    (hbytes : (n + m) * bytes ≤ 140737488355328) (hbase : base ≤ w.heap.size) :
    ∃ v' w', (Builtin.append_ #[t, ti] ty #[v, .int kx m]).run P w = .ok v' w' ∧ w'.ownsRow base e size v' (n + m) (xs ++ (Builtin.zeroCells z.cells m).toList) ∧ w.grownBy w' v.ownBlock ∧
      (v'.ownBlock = v.ownBlock ∨ v'.ownBlock = some w.heap.size) := by
  subst hsize
  subst hby
  have hle : n + m ≤ 140737488355328 := Nat.le_trans (Nat.le_mul_of_pos_right _ hb0) hbytes
  have h63 : n + m ≤ maxLen := by simp only [maxLen]; omega
  have hw : IntKind.i64.wrap (m : Int) = m := by rw [IntKind.wrap_i64]; omega
  have hw0 : IntKind.i64.wrap 0 = 0 := by rw [IntKind.wrap_i64]; rfl
  have hneg : ¬ ((m : Int) < 0) := by omega
  have hmb : m * i.bytes ≤ 140737488355328 := Nat.le_trans (Nat.mul_le_mul_right _ (Nat.le_add_left m n)) hbytes
  have hbig : ¬ (281474976710656 < (m : Int) * (i.bytes : Int)) := by
    rw [← Int.natCast_mul]
    omega
  have hsn : i.size ≠ 0 := by omega
  obtain ⟨news, hnews⟩ : ∃ news, news = (Builtin.zeroCells z.cells m).toList := ⟨_, rfl⟩
  rw [← hnews] at h1 ⊢
  have hl : news.length = m * i.size := by rw [hnews, Array.length_toList, size_zeroCells, hzs]
  have hna : Builtin.zeroCells z.cells m = news.toArray := by rw [hnews]
  have hlen : (xs ++ news).length = (n + m) * i.size := by rw [List.length_append, hown.1, hl, Nat.add_mul]
  have hnil : m = 0 → news = [] := fun h => List.eq_nil_of_length_eq_zero (by rw [hl, h, Nat.zero_mul])
  have grown : ∀ (old : Nat), old < n + m → ∀ (row : Option Nat),
      (w.drew.alloc (.cells (xs.toArray ++ news.toArray ++ Builtin.zeroCells z.cells (grownCap w (n + m) old e - (n + m))) e)).ownsRow base e i.size
        (.slice (some ⟨w.heap.size, 0, none⟩) (n + m) (grownCap w (n + m) old e)) (n + m) (xs ++ news) ∧
      w.grownBy (w.drew.alloc (.cells (xs.toArray ++ news.toArray ++ Builtin.zeroCells z.cells (grownCap w (n + m) old e - (n + m))) e)) row := by
    intro old ho row
    have hge := grownCap_ge w (n + m) old e
    have hcm : grownCap w (n + m) old e ≤ maxLen := grownCap_le_maxLen w (n + m) old e h63
    refine ⟨⟨hlen, .inr ⟨w.heap.size, _, _, rfl, hbase, heap_alloc_new w.drew _, hge, hcm, ?_, ?_⟩⟩, ⟨rfl, rfl, rfl, by simp, fun k hk _ => heap_alloc_old w.drew _ hk⟩⟩
    · simp only [Array.size_append, List.size_toArray, size_zeroCells, hzs, hown.1, hl, ← Nat.add_mul]
      congr 1
      omega
    · simp only [Array.toList_append, List.append_assoc]
      rw [← List.append_assoc, ← hlen]
      exact List.take_left
  have runs : ∀ (A : Option Addr) (cap : Nat), cap < n + m → (Builtin.firstCells i.size n (.slice A n cap)).run P w.drew = .ok xs.toArray w.drew → (Builtin.append_ #[t, ti] ty #[.slice A n cap, .int kx m]).run P w =
      .ok (.slice (some ⟨w.heap.size, 0, none⟩) (n + m) (grownCap w (n + m) cap e)) (w.drew.alloc (.cells (xs.toArray ++ news.toArray ++ Builtin.zeroCells z.cells (grownCap w (n + m) cap e - (n + m))) e)) := by
    intro A cap hcap hfo
    have hn : ¬ (n + m ≤ cap) := by omega
    have h63' : ¬ (9223372036854775807 < ((n : Int) + (m : Int))) := by omega
    have hfit := growslice_fits hcap hbytes
    have h48' : ¬ (281474976710656 < Builtin.nextslicecap (n + m) cap * i.bytes) := by omega
    by_cases hm : m = 0
    · have hnl := hnil hm
      subst hm
      rw [hnl]
      simp only [Nat.add_zero] at hn h63' h48' ⊢
      have h63'' : ¬ (9223372036854775807 < (n : Int)) := by omega
      simp [Builtin.append_, run_underlying ht, run_underlying hti, sizeOf, typeInfo, zeroValue, hi, hz, asInt, asIntOf, hw0, hn, h63'', h48', Question.forced, hfo, newRow, grownCap]
    · have hmz : ¬ (m * i.size = 0) := Nat.mul_ne_zero hm hsn
      simp [Builtin.append_, run_underlying ht, run_underlying hti, sizeOf, typeInfo, zeroValue, hi, hz, asInt, asIntOf, hw, hneg, hbig, hn, h63', h48', Question.forced, hfo, newRow, grownCap, hmz, hna]
      congr 2
      apply Array.ext'
      simp [List.append_assoc]
  rcases hown.2 with ⟨rfl, rfl⟩ | ⟨g, cap, cur, rfl, hbg, hg, hnc, hcm, hcs, htake⟩
  · have hx : xs = [] := List.eq_nil_of_length_eq_zero (by simpa using hown.1)
    subst hx
    by_cases hm : m = 0
    · have hnl := hnil hm
      subst hm
      rw [hnl]
      refine ⟨.slice none 0 0, w, ?_, World.ownsRow_nil w base e i.size, ⟨rfl, rfl, rfl, Nat.le_refl _, fun _ _ _ => rfl⟩, Or.inl rfl⟩
      simp [Builtin.append_, run_underlying ht, run_underlying hti, sizeOf, typeInfo, hi, asInt, asIntOf, hw0]
    · have hgr := grown 0 (by omega) (Value.ownBlock (.slice none 0 0))
      exact ⟨_, _, runs none 0 (by omega) (by simp [Builtin.firstCells]), hgr.1, hgr.2, Or.inr rfl⟩
  · by_cases hroom : n + m ≤ cap
    · have hfit : n * i.size + news.length ≤ cur.size := by rw [hl, hcs, ← Nat.add_mul]; exact Nat.mul_le_mul_right _ hroom
      obtain ⟨cur', h3, h4, h5⟩ := setCells_row news (n * i.size) w cur hg hfit
      obtain ⟨s1, s2, s3, s4⟩ := setCells_same g news (n * i.size) w
      have hst := run_storeCells_cells (P := P) g (n * i.size) news 0 w (fun j hj => by rw [cell_of_row w g _ cur e (0, 0) hg]; simp; omega) (fun j _ => blk_frozen hg _) h1
      simp only [Nat.add_zero] at hst
      refine ⟨.slice (some ⟨g, 0, none⟩) (n + m) cap, w.setCells g (n * i.size) news, ?_, ⟨hlen, .inr ⟨g, cap, cur', rfl, hbg, h3, hroom, hcm, by rw [h4, hcs], ?_⟩⟩, ⟨s1, s2, s3, by rw [s4]; exact Nat.le_refl _, fun k _ hk => setCells_far news _ k (fun e => hk (by simp [Value.ownBlock, e]))⟩, Or.inl rfl⟩
      · by_cases hm : m = 0
        · have hnl := hnil hm
          subst hm
          rw [hnl] at hst ⊢
          simp [Builtin.append_, run_underlying ht, run_underlying hti, sizeOf, typeInfo, hi, asInt, asIntOf, hw0, hnc, add_plain, hst]
        · have hmz : ¬ (m * i.size = 0) := Nat.mul_ne_zero hm hsn
          simp [Builtin.append_, run_underlying ht, run_underlying hti, sizeOf, typeInfo, zeroValue, hi, hz, asInt, asIntOf, hw, hneg, hbig, hroom, hmz, hna, add_plain, hst]
      · rw [h5]
        have h6 : cur.toList.take (n * i.size) = xs := htake
        rw [h6, ← hlen]
        exact List.take_left
    · have holds : ∀ j u, xs[j]? = some u → w.cell? ((⟨g, 0, none⟩ : Addr).add j) = some u := hown.cells (g := g) rfl
      have hgr := grown cap (by omega) (Value.ownBlock (.slice (some ⟨g, 0, none⟩) n cap))
      exact ⟨_, _, runs (some ⟨g, 0, none⟩) cap (by omega) (run_firstCells_some (P := P) w.drew i.size n _ n cap xs hown.1 (by simpa using holds)), hgr.1, hgr.2, Or.inr rfl⟩
/-- append of zeros, onto a row of the call's own -/
theorem wp_append_zeros (hgd : o.guard = none) (s x : Operand) (t ti e : TypeId) (z : Value) (bytes : Nat)
    (ho : o.op = .call { callee := .builtin .append, args := #[s, x], argTypes := #[t, ti] })
    (ht : P.underlying t = some (.slice e)) {k : IntKind} (hti : P.underlying ti = some (.int k)) (hinfo : (P.info? e).map (fun i => (i.zero, i.size, i.bytes)) = some (some z, 1, bytes)) (hz : z.cells = #[z]) (hz1 : z.oneCell' = true) (hb0 : 0 < bytes)
    (base : Nat) (v : Value) (n : Nat) (xs : List Value) (hs : a.eval s = v) (hown : w.ownsRow base e 1 v n xs) {kx : IntKind} (X : Int) (m : Nat) (hx : a.eval x = .int kx X) (hX : X = (m : Int))
    (hbytes : (n + m) * bytes ≤ 140737488355328) (hbase : base ≤ w.heap.size)
    (h : ∀ v' w', w'.ownsRow base e 1 v' (n + m) (xs ++ List.replicate m z) → w.grownBy w' v.ownBlock → wpList P ops Q rest (a.put o.dst v') w') :
    wpList P ops Q (o :: rest) a w := by
  subst hX
  obtain ⟨i0, hi, hzz⟩ := Option.map_eq_some_iff.1 hinfo
  simp only [Prod.mk.injEq] at hzz
  obtain ⟨hz0, hz1', hz2⟩ := hzz
  have hzc : (Builtin.zeroCells z.cells m).toList = List.replicate m z := by
    rw [hz]
    simp only [Builtin.zeroCells, List.size_toArray, List.length_cons, List.length_nil, Nat.mul_one, Nat.mod_one]
    apply List.ext_getElem
    · simp
    · intro i h1 h2; simp [Nat.mod_one]
  obtain ⟨v1, w1, hr1, h1, hg, hat⟩ := run_append_zeros (P := P) w base t ti o.type e i0 z 1 bytes ht hti hi hz0 hz1' hz2 (by rw [hz]; rfl) (by decide) hb0 v n xs hown kx m (by rw [hzc]; intro u hu; rw [List.mem_replicate] at hu; rw [hu.2]; exact hz1) hbytes hbase
  rw [hzc] at h1
  refine wpList_plain hgd fun K hK => ?_
  unfold Oper.wp execOp
  simp only [ho, resolve, invoke, builtin, Sem.run_bind, Sem.run_pure, Result.andThen_ok, List.map_toArray, List.map_cons, List.map_nil, hs, hx, hr1]
  exact hK _ _ (h v1 w1 h1 hg)
end

/-- a list of bytes that a call owns, in a block from n0 on -/
def Buf (n0 : Nat) (w : World) (v : Value) (l : List Nat) : Prop := w.ownsRow n0 5 1 v l.length (ns .u8 l)
theorem Buf.at {n0 : Nat} {w : World} {v : Value} {l : List Nat} (h : Buf n0 w v l) : ∃ A c, v = .slice A l.length c ∧ At w A (ns .u8 l) ∧ (A = none → c = 0) ∧ l.length ≤ c ∧ c ≤ maxLen := At.own h
theorem Buf.below {n0 : Nat} {w w1 : World} {v : Value} {l : List Nat} (h : Buf n0 w v l) (hb : Below w.heap.size w w1) : Buf n0 w1 v l := own_below h hb
theorem Buf.base {n0 : Nat} {w : World} {v : Value} {l : List Nat} (h : Buf n0 w v l) (k : Nat) (hk : v.ownBlock = some k) : n0 ≤ k := own_base h k hk
theorem Buf.nil (n0 : Nat) (w : World) : Buf n0 w (.slice none 0 0) [] := World.ownsRow_nil _ _ _ _
theorem Buf.new {n0 : Nat} (w : World) (l : List Nat) (hn : n0 ≤ w.heap.size) (hl : l.length ≤ 1000000) (b c : Nat) (hb : b = w.heap.size) (hc : c = l.length) : Buf n0 (w.alloc (.cells (ns .u8 l).toArray 5)) (.slice (some ⟨b, 0, none⟩) l.length c) l := by
  subst hb hc
  refine ⟨by simp [ns], .inr ⟨w.heap.size, l.length, (ns .u8 l).toArray, rfl, hn, heap_alloc_new w _, Nat.le_refl _, by simp only [maxLen]; omega, by simp [ns], ?_⟩⟩
  rw [List.take_of_length_le (by simp [ns])]

theorem size_grown {w w1 : World} {r : Option Nat} (h : w.grownBy w1 r) : w.heap.size ≤ w1.heap.size := h.size
theorem Buf.grown {n0 : Nat} {w0 w w1 : World} {v : Value} {l : List Nat} (h : Buf n0 w v l) (hb : Below n0 w0 w) (hg : w.grownBy w1 v.ownBlock) (hn : n0 ≤ w.heap.size) : Below n0 w0 w1 := below_grown hb hg hn h.base

/-- the append of one byte or of more, of what a call owns -/
theorem buf_append {P : Program} {ops : Array Oper} {rest : List Oper} {o : Oper} {a : Act} {w w0 : World} {Q : Exit → Act → World → Prop} (hgd : o.guard = none) (s x : Operand)
    (ho : o.op = .call { callee := .builtin .append, args := #[s, x], argTypes := #[23, 23] })
    (ht : P.underlying 23 = some (.slice 5)) (hinfo : (P.info? 5).map (fun i => (i.zero, i.size, i.bytes)) = some (some (.int .u8 0), 1, 1))
    (n0 : Nat) (v : Value) (l : List Nat) (hs : a.eval s = v) (hown : Buf n0 w v l)
    (A : Option Addr) (m c : Nat) (l2 : List Nat) (hx : a.eval x = .slice A m c) (hm : m = l2.length) (hAt : At w A (ns .u8 l2)) (hnil : A = none → c = 0)
    (hsm : l.length + l2.length ≤ 140737488355328) (hbase : n0 ≤ w.heap.size) (hb : Below n0 w0 w)
    (h : ∀ v' w', Buf n0 w' v' (l ++ l2) → Below n0 w0 w' → n0 ≤ w'.heap.size → wpList P ops Q rest (a.put o.dst v') w') :
    wpList P ops Q (o :: rest) a w := by
  subst hm
  refine wp_append hgd s x 23 5 (.int .u8 0) 1 1 ho ht hinfo rfl (by decide) n0 v l.length (ns .u8 l) hs hown A l2.length c (ns .u8 l2) hx (by simp [ns]) hAt hnil (ns_one _ _) (by omega) (by omega) hbase ?_
  intro v1 w1 h1 h2 _
  refine h v1 w1 ?_ (hown.grown hb h2 hbase) (Nat.le_trans hbase h2.size)
  unfold Buf
  rw [List.length_append, ns_append]; exact h1
theorem buf_zeros {P : Program} {ops : Array Oper} {rest : List Oper} {o : Oper} {a : Act} {w w0 : World} {Q : Exit → Act → World → Prop} (hgd : o.guard = none) (s x : Operand)
    (ho : o.op = .call { callee := .builtin .append, args := #[s, x], argTypes := #[23, 3] })
    (ht : P.underlying 23 = some (.slice 5)) (ht3 : P.underlying 3 = some (.int .i64)) (hinfo : (P.info? 5).map (fun i => (i.zero, i.size, i.bytes)) = some (some (.int .u8 0), 1, 1))
    (n0 : Nat) (v : Value) (l : List Nat) (hs : a.eval s = v) (hown : Buf n0 w v l) {kx : IntKind} (X : Int) (m : Nat) (hx : a.eval x = .int kx X) (hX : X = (m : Int))
    (hsm : l.length + m ≤ 140737488355328) (hbase : n0 ≤ w.heap.size) (hb : Below n0 w0 w)
    (h : ∀ v' w', Buf n0 w' v' (l ++ List.replicate m 0) → Below n0 w0 w' → n0 ≤ w'.heap.size → wpList P ops Q rest (a.put o.dst v') w') :
    wpList P ops Q (o :: rest) a w := by
  refine wp_append_zeros hgd s x 23 3 5 (.int .u8 0) 1 ho ht ht3 hinfo rfl rfl (by decide) n0 v l.length (ns .u8 l) hs hown X m hx hX (by omega) hbase ?_
  intro v1 w1 h1 h2
  refine h v1 w1 ?_ (hown.grown hb h2 hbase) (Nat.le_trans hbase h2.size)
  unfold Buf
  rw [List.length_append, ns_append, List.length_replicate]
  have : ns .u8 (List.replicate m 0) = List.replicate m (.int .u8 0) := by simp [ns]
  rw [this]; exact h1
end Go.Proofs.Ytfbjjblgcgjndaa

/- Contracts of the small helpers on byte lists: SameBytes, LentBytes, WholeBytes, SpoilBytes. -/
namespace Go.Proofs.Ytfbjjblgcgjndaa
open Go.RowKit

theorem list_ext_nth {l m : List Nat} (h : l.length = m.length) (hk : ∀ i, i < l.length → nth l i = nth m i) : l = m := by
  apply List.ext_getElem h
  intro i h1 h2
  have := hk i h1
  rwa [nth_get l i h1, nth_get m i h2] at this

/-- all places below k are the same -/
def Agree (l m : List Nat) (k : Nat) : Prop := ∀ i, i < k → nth l i = nth m i
theorem Agree.zero (l m : List Nat) : Agree l m 0 := fun i hi => by omega
theorem Agree.succ {l m : List Nat} {k : Nat} (h : Agree l m k) (e : nth l k = nth m k) : Agree l m (k + 1) := fun i hi => by
  by_cases h1 : i = k
  · subst h1; exact e
  · exact h i (by omega)

set_option maxRecDepth 100000 in
set_option maxHeartbeats 400000 in
theorem same_any (A B : Option Addr) (c d : Nat) (l m : List Nat) (w : World) (hl : l.length ≤ 140737488355328) (hm : m.length ≤ 140737488355328) (hA : At w A (ns .u8 l)) (hB : At w B (ns .u8 m)) :
    Calls Try.prog 45 #[.slice A l.length c, .slice B m.length d] w fun e w' => e = .returned (.bool (decide (l = m))) ∧ Below w.heap.size w w' := by
  by_cases hlen : l.length = m.length
  · have h0 : ((l.length : Int) != (m.length : Int)) = false := by simp [hlen]
    have h0' : (l.length == m.length) = true := by simp [hlen]
    have HL := Lib.hid hlen
    clear hlen
    go_enter Try.func45, Try.ntmps45
    go_wp2
    go_loopw [5] (fun i wr => ∃ k : Nat, k ≤ l.length ∧ i = .int .i64 k ∧ Agree l m k ∧ Below w.heap.size w wr) (fun i _ => l.length - (intOf i).toNat)
    case atStart => exact ⟨0, by omega, rfl, Agree.zero l m, Below.refl _ _⟩
    case round =>
      clear h0 h0'
      obtain ⟨k, hk, rfl, hag, hb⟩ := hrel
      by_cases hlt : k < l.length
      · obtain ⟨b1, o1, rfl, hc1⟩ := (hA.below hb).num k hlt
        have hlt' : k < m.length := by have := HL.out; omega
        obtain ⟨b2, o2, rfl, hc2⟩ := (hB.below hb).num k hlt'
        by_cases he : nth l k = nth m k
        · have hne : (((nth l k : Nat) : Int) != ((nth m k : Nat) : Int)) = false := by simp [he]
          have HE := Lib.hid he
          clear he
          go_wp2
          go_quiet (fail)
          go_wp2
          go_roundw
          case rel => exact ⟨k + 1, by omega, by go_num, hag.succ HE.out, below_drewN hb _⟩
          case measure => simp [intOf]; omega
        · have hne : (((nth l k : Nat) : Int) != ((nth m k : Nat) : Int)) = true := by simp; omega
          have hfin : decide (l = m) = false := by
            rw [decide_eq_false_iff_not]; intro e; exact he (by rw [e])
          have HF := Lib.hid hfin
          clear he hfin
          go_wp2
          go_quiet (fail)
          go_wp2
          go_ret
          exact ⟨by rw [HF.out]; rfl, below_drewN hb _⟩
      · obtain rfl : k = l.length := by omega
        have hfin : decide (l = m) = true := by
          rw [decide_eq_true_eq]; exact list_ext_nth HL.out hag
        have HF := Lib.hid hfin
        clear hfin
        go_wp2
        go_ret
        exact ⟨by rw [HF.out]; rfl, hb⟩
  · have h0 : ((l.length : Int) != (m.length : Int)) = true := by simp; omega
    have h0' : (l.length == m.length) = false := by simp; omega
    have hfin : decide (l = m) = false := by
      rw [decide_eq_false_iff_not]; intro e; exact hlen (by rw [e])
    have HF := Lib.hid hfin
    clear hlen hfin
    go_enter Try.func45, Try.ntmps45
    go_wp2
    go_ret
    exact ⟨by rw [HF.out]; rfl, Below.refl _ _⟩

/-- the block of a lent list: it, and two marks behind -/
def LentB (w : World) (b : Nat) (l : List Nat) : Prop := w.heap[b]? = some (.cells (ns .u8 (l ++ [91, 92])).toArray 5 (0, 0))
theorem LentB.below {w w' : World} {b : Nat} {l : List Nat} (h : LentB w b l) (hb : Below w.heap.size w w') : LentB w' b l := by
  have : b < w.heap.size := (Array.getElem?_eq_some_iff.1 h).1
  unfold LentB; rw [hb.block b this]; exact h
theorem LentB.at {w : World} {b : Nat} {l : List Nat} (h : LentB w b l) : At w (some ⟨b, 0, none⟩) (ns .u8 l) := by
  have h1 : At w (some ⟨b, 0, none⟩) (ns .u8 l ++ ns .u8 [91, 92]) := by rw [← ns_append]; exact At.whole h
  exact h1.pre

set_option maxRecDepth 100000 in
set_option maxHeartbeats 400000 in
theorem lent_any (A : Option Addr) (c : Nat) (l : List Nat) (w : World) (hl : l.length ≤ 1000000000) (hA : At w A (ns .u8 l)) (hnil : A = none → c = 0) :
    Calls Try.prog 26 #[.slice A l.length c] w fun e w' => e = .returned (.slice (some ⟨w.heap.size, 0, none⟩) l.length (l.length + 2)) ∧ LentB w' w.heap.size l ∧ Below w.heap.size w w' := by
  go_enter Try.func26, Try.ntmps26
  go_wp2_with (first
    | (with_reducible refine wp_make0 rfl _ _ 23 5 (.int .u8 0) 1 1 rfl Try.underlying23 Try.info5 w.heap.size .i64 .i64 _ (l.length + 2) rfl rfl (by omega) (by omega) (by omega) (Nat.le_refl _) ?_; intro w1 ho1 hg1; have hb1 := below_of_grown hg1)
    | (at_builtin; (refine wp_append_fits rfl (.tmp 8) (.tmp 9) 23 5 (.int .u8 0) 1 1 rfl Try.underlying23 Try.info5 (by decide) w.heap.size w.heap.size 0 (l.length + 2) [] rfl ho1 A l.length c (ns .u8 l) rfl (by simp [ns]) (hA.below hb1) hnil (ns_one .u8 l) (by omega) ?_); intro w2 ho2 hg2; simp only [Nat.zero_add, List.nil_append] at ho2 ⊢)
    | (at_builtin; (refine wp_append_fits rfl (.tmp 11) (.tmp 12) 23 5 (.int .u8 0) 1 1 rfl Try.underlying23 Try.info5 (by decide) w.heap.size w.heap.size l.length (l.length + 2) (ns .u8 l) rfl (ho2.alloc _) (some ⟨w2.heap.size, 0, none⟩) 2 2 [.int .u8 91, .int .u8 92] rfl (by simp) (At.whole (heap_alloc_new w2 _)) (by simp) (ns_one .u8 [91, 92]) (by omega) ?_); intro w3 ho3 hg3))
  go_ret
  refine ⟨rfl, ?_, ?_⟩
  · have := own_full ho3
    unfold LentB
    rw [this, ns_append]; rfl
  · exact below_grown (below_alloc0 (below_grown hb1 hg2 hb1.size (by simp)) _) hg3 (by have := hg2.size; have := hg1.size; simp; omega) (by simp)

set_option maxRecDepth 100000 in
set_option maxHeartbeats 400000 in
theorem whole_any (b : Nat) (B : Option Addr) (d : Nat) (l : List Nat) (w : World) (hl : l.length ≤ 1000000000) (hb : LentB w b l) (hB : At w B (ns .u8 l)) :
    Calls Try.prog 29 #[.slice (some ⟨b, 0, none⟩) l.length (l.length + 2), .slice B l.length d] w fun e w' => e = .returned (.bool true) ∧ Below w.heap.size w w' := by
  have hlen : (ns .u8 (l ++ [91, 92])).length = l.length + 2 := by simp [ns]
  have h1 : w.cell? ⟨b, l.length, none⟩ = some (.int .u8 91) := by
    rw [cell_of_row w b l.length _ 5 (0, 0) hb]; simp [ns]
  have h2 : w.cell? ⟨b, l.length + 1, none⟩ = some (.int .u8 92) := by
    rw [cell_of_row w b (l.length + 1) _ 5 (0, 0) hb]; simp [ns]
  clear hlen
  have HA := hb.at
  have hs := Lib.hid (same_any (some ⟨b, 0, none⟩) B (l.length + 2) d l l w (by omega) (by omega) HA hB)
  go_enter Try.func29, Try.ntmps29
  go_wp2_with (go_at_call 45; refine hs.out.mono ?_; rintro e w1 ⟨rfl, hbel⟩)
  go_ret
  exact ⟨by simp, hbel⟩

set_option maxRecDepth 100000 in
set_option maxHeartbeats 400000 in
theorem spoil_any (b n : Nat) (cs : Array Value) (w : World) (hn : n ≤ 1000000000) (hb : w.heap[b]? = some (.cells cs 5 (0, 0))) (hc : cs.size = n + 2) :
    Calls Try.prog 36 #[.slice (some ⟨b, 0, none⟩) n (n + 2)] w fun e w' => e = .returned (.tuple #[]) ∧ w.grownBy w' (some b) := by
  go_enter Try.func36, Try.ntmps36
  go_wp2
  go_loopw [3] (fun i wr => ∃ k : Nat, k ≤ n + 2 ∧ i = .int .i64 k ∧ (∃ cs : Array Value, wr.heap[b]? = some (.cells cs 5 (0, 0)) ∧ cs.size = n + 2) ∧ w.grownBy wr (some b)) (fun i _ => n + 2 - (intOf i).toNat)
  case atStart => exact ⟨0, by omega, rfl, ⟨cs, hb, hc⟩, World.grownBy.refl _ _⟩
  case round =>
    clear hb hc
    obtain ⟨k, hk, rfl, ⟨cs, hb, hc⟩, hg⟩ := hrel
    by_cases hlt : k < n + 2
    · obtain ⟨u, hcell⟩ : ∃ u, wr.cell? ⟨b, k, none⟩ = some u := ⟨cs[k], by rw [cell_of_row wr b k _ 5 (0, 0) hb]; exact Array.getElem?_eq_getElem (by omega)⟩
      have hfr := frozen_of_row wr b k cs 5 hb
      have HB := Lib.hid hb
      have HC := Lib.hid hc
      clear hb hc
      go_wp2
      go_roundw
      case rel =>
        refine ⟨k + 1, by omega, by go_num, ⟨_, heap_setCell_same wr b k cs 5 _ HB.out, by rw [Array.size_setIfInBounds]; exact HC.out⟩, ?_⟩
        exact ⟨hg.os, hg.tape, hg.output, by simp [World.setCell]; exact hg.size, fun i hi hne => by
          rw [Below.heap_setCell _ _ _ _ (by intro e; exact hne (by rw [e]))]; exact hg.block i hi hne⟩
      case measure => simp [intOf]; omega
    · obtain rfl : k = n + 2 := by omega
      go_wp2
      go_end0
      exact ⟨rfl, hg⟩
end Go.Proofs.Ytfbjjblgcgjndaa
