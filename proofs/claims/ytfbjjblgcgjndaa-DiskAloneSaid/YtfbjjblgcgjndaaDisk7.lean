/- Contract of the disk's settle. -/
import Derived.Test.YtfbjjblgcgjndaaDisk6
import Derived.MapKept
set_option linter.unusedVariables false
set_option linter.unusedSimpArgs false
namespace Go.Proofs.Ytfbjjblgcgjndaa
open Go.RowKit Go.Maps

def fresh129 : Array Value := #[Value.int .i64 0] ++ zero128
theorem run_alloc185 (w : World) : (Instr.alloc 185 true (.tuple #[])).run Try.prog w = .ok (.pointer (some ⟨w.heap.size, 0, none⟩)) (w.alloc (.cells fresh129 185)) := by
  obtain ⟨i185, h185, e185⟩ := Option.map_eq_some_iff.1 Try.info185
  simp only [Prod.mk.injEq] at e185
  have hz := zero129_size
  unfold fresh129
  generalize (#[Value.int .i64 0] ++ zero128) = Z at *
  simp [Instr.alloc, zeroValue, typeInfo, newVar, sizeOf, h185, e185.1, hz, Value.cells, newRow]
def alloc185 : Sem Next := do pure (.value (← Instr.alloc 185 true (.tuple #[])))
theorem execOp_alloc185 (ρ : Operand → Value) (dst : Option Tmp) (ty : TypeId) (pos : String) (after : Array Edge) (guard : Option (Nat × Bool)) :
    execOp ρ ⟨dst, .alloc 185, ty, pos, after, guard⟩ = alloc185 := by
  unfold execOp alloc185
  rfl
theorem run_alloc185' (w : World) : alloc185.run Try.prog w = .ok (.value (.pointer (some ⟨w.heap.size, 0, none⟩))) (w.alloc (.cells fresh129 185)) := by
  unfold alloc185
  simp only [Sem.run_bind, Sem.run_pure, run_alloc185, Result.andThen_ok]
theorem wipe {w : World} {R : Value → Option (DataW Unit × List MemPlace)} {m n : Nat} {M : DataW Unit} (h : w.ownsMap Try.prog 3 R m n M) : ∃ w', (∀ ty, (Builtin.clear_ #[175] ty #[.map (some m)]).run Try.prog w = .ok (.tuple #[]) w') ∧ w'.ownsMap Try.prog 3 R m 0 (.map []) ∧ Chg (fun g => g = m) w w' := by
  obtain ⟨es, clock, hb, hfit, _, _⟩ := h
  have hlt : m < w.heap.size := (Array.getElem?_eq_some_iff.1 hb).1
  refine ⟨{ w with heap := w.heap.setIfInBounds m (.map #[] clock) }, fun ty => ?_, ⟨#[], clock, ?_, ⟨by simp, ?_, by simp⟩, by simp, by simp⟩, ?_⟩
  · simp [Builtin.clear_, run_underlying Try.underlying175, run_getObj_map w m es clock hb, MapKept.run_setObj_map _ hb, Result.andThen]
  · simp [hlt]
  · exact ⟨by simp, by simp, by simp⟩
  · refine ⟨rfl, rfl, rfl, by simp, fun k hk hne => ?_⟩
    show (w.heap.setIfInBounds m _)[k]? = _
    rw [Array.getElem?_setIfInBounds_ne (fun e => hne e.symm)]
/-- a long array's load where the order is drawn and nothing is written -/
theorem still_load {P : Program} {ops : Array Oper} {w : World} {rest : List Oper} {op : Oper} {a : Act} {Q : Act → Prop} (hgd : op.guard = none) (ty : TypeId) (x : Operand) (ho : op.op = .load ty x)
    (b o : Nat) (hx : a.eval x = .pointer (some ⟨b, o, none⟩)) (cs : List Value) (d : TypeDesc) (hc : w.rangeAt b o cs)
    (hu : P.underlying ty = some d) (hd : d.isRow = true) (hi : (P.info? ty).map (·.size) = some cs.length)
    (h : wpStill P ops w Q rest (a.put op.dst (.agg cs.toArray))) : wpStill P ops w Q (op :: rest) a := by
  refine wpStill_step fun K hK => ?_
  have hw : Region.wanted op (yielded ops a.tmps) = true := by simp [Region.wanted, hgd]
  rw [if_pos hw]
  unfold Oper.still execOp
  simp only [ho, hx, Instr.loadAt, Instr.sureAddr, Sem.run_bind, Sem.run_pure, Result.andThen_ok, run_loadVar_mid w b o ty cs d hc hu hd hi, Oper.stillUpon_value]
  exact hK _ h
section
variable {P : Program}
theorem wpList_clear {ops : Array Oper} {rest : List Oper} {o : Oper} {a : Act} {w w' : World} {Q : Exit → Act → World → Prop} (hgd : o.guard = none) (x : Operand) (t : TypeId) (v : Value) (ho : o.op = .call { callee := .builtin .clear, args := #[x], argTypes := #[t] })
    (hx : a.eval x = v) (hr : ∀ ty, (Builtin.clear_ #[t] ty #[v]).run P w = .ok (.tuple #[]) w') (h : wpList P ops Q rest (a.put o.dst (.tuple #[])) w') : wpList P ops Q (o :: rest) a w := by
  refine wpList_plain hgd fun _ hK => ?_
  unfold Oper.wp execOp
  simp only [ho, resolve, invoke, builtin, Sem.run_bind, Sem.run_pure, Result.andThen_ok, List.map_toArray, List.map_cons, List.map_nil, hx, hr]
  exact hK _ _ h
end
theorem fresh129_size : fresh129.size = 129 := zero129_size
/-- as far as a write: the disk with these writes laid -/
def Dsk.laid (D : Dsk) (kept : Nat → Bool) (j : Nat) : Dsk := { D with last := settled D.last D.cache kept j }
theorem Dsk.laid_zero (D : Dsk) (kept : Nat → Bool) : D.laid kept 0 = D := rfl
theorem Dsk.laid_no {D : Dsk} {kept : Nat → Bool} {j : Nat} (hk : kept j = false) : D.laid kept (j + 1) = D.laid kept j := by
  have : settled D.last D.cache kept (j + 1) = settled D.last D.cache kept j := by
    show (match D.cache[j]? with
      | some x => if kept j then (settled D.last D.cache kept j).set x.1 x.2 else settled D.last D.cache kept j
      | none => settled D.last D.cache kept j) = _
    cases D.cache[j]? with
    | none => rfl
    | some x => simp [hk]
  unfold Dsk.laid
  rw [this]
theorem Dsk.laid_yes {D : Dsk} {kept : Nat → Bool} {j : Nat} {x : Nat × List Nat} (hx : D.cache[j]? = some x) (hk : kept j = true) : D.laid kept (j + 1) = { D.laid kept j with last := (D.laid kept j).last.set x.1 x.2 } := by
  simp [Dsk.laid, settled, hx, hk]
theorem DiskIn.lay {n0 : Nat} {w : World} {p : Nat} {D : Dsk} {q : Dparts} {M : DataW Unit} (h : DiskIn n0 w p D q M) (ok : ∀ s ∈ D.last, s.length = 128) (i : Nat) (hi : i < D.last.length) (s : List Nat) (hs : s.length = 128) :
    DiskIn n0 (w.setCells q.b (i * 128) (ns .u8 s)) p { D with last := D.last.set i s } q M ∧ Chg (fun g => g = q.b) w (w.setCells q.b (i * 128) (ns .u8 s)) := by
  obtain ⟨s1, s2, s3, s4, s5, s6⟩ := h.sep
  obtain ⟨b1, b2, b3, b4, b5⟩ := h.bases
  have hc := setCells_chg q.b (ns .u8 s) (i * 128) w
  refine ⟨⟨?_, h.last.set ok i hi s hs, own_chg h.cache hc (fun g hg e => s5 (by rw [← show g = q.b from e]; exact hg)), map_chg h.map hc (fun e => s3 (show q.m = q.b from e).symm) b5, h.seen, ⟨b1, b2, b3, Nat.lt_of_lt_of_le b4 hc.size, Nat.lt_of_lt_of_le b5 hc.size⟩, h.sep⟩, hc⟩
  have := h.rcd.keep hc (fun e => s1 e)
  simp only [List.length_set]
  exact this
/-- the cache is thrown away -/
theorem DiskIn.thrown {n0 : Nat} {w w' : World} {p : Nat} {D : Dsk} {q : Dparts} {M : DataW Unit} (h : DiskIn n0 w p D q M) (hm : w'.ownsMap Try.prog 3 (plainElem Try.prog 3) q.m 0 (.map [] : DataW Unit)) (hc : Chg (fun g => g = q.m) (w.setCell ⟨p, 1, none⟩ (.slice none 0 0)) w') :
    DiskIn n0 w' p { D with cache := [] } ⟨q.b, .slice none 0 0, q.m⟩ (.map []) ∧ Chg (fun g => g = p ∨ g = q.m) w w' := by
  obtain ⟨s1, s2, s3, s4, s5, s6⟩ := h.sep
  obtain ⟨b1, b2, b3, b4, b5⟩ := h.bases
  have c1 := setCell_chg w p 1 (.slice none 0 0)
  have ct : Chg (fun g => g = p ∨ g = q.m) w w' := (c1.mono (G := fun g => g = p ∨ g = q.m) (fun _ _ h => .inl h)).trans hc (fun _ _ h => .inr h)
  refine ⟨⟨?_, ?_, World.ownsRow_nil _ _ _ _, hm, SeenOk.nil, ⟨b1, b2, b3, Nat.lt_of_lt_of_le b4 ct.size, Nat.lt_of_lt_of_le b5 ct.size⟩, s1, s2, s3, by simp [blk, Value.ownBlock], by simp [blk, Value.ownBlock], by simp [blk, Value.ownBlock]⟩, ct⟩
  · exact ((h.rcd.set 1 (.slice none 0 0)).keep hc (fun e => s2 e)).congr (all13 rfl rfl rfl rfl rfl rfl rfl rfl rfl rfl rfl rfl rfl)
  · exact h.last.keep ct (fun e => e.elim (fun e => s1 e.symm) (fun e => s3 e)) b4
theorem Dsk.laid_all (D : Dsk) (kept : Nat → Bool) : { D.laid kept D.cache.length with cache := [] } = D.settle kept := rfl
end Go.Proofs.Ytfbjjblgcgjndaa
