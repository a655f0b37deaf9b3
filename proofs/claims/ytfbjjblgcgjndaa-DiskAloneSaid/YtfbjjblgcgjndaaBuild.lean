/- A write that waits is built: struct and slice of one. -/
import Derived.Test.YtfbjjblgcgjndaaDisk3
import Derived.ArgAppend
import Derived.Laws.OwnMore
set_option linter.unusedVariables false
set_option linter.unusedSimpArgs false
namespace Go.Proofs.Ytfbjjblgcgjndaa
open Go.RowKit Go.Maps

def pourStep (off : Nat) (cs : Array Value) (p : Value × Nat) : Array Value := cs.setIfInBounds (off + p.2) p.1
theorem pour (off : Nat) : ∀ (vs : List Value) (k : Nat) (cs : Array Value), off + k + vs.length ≤ cs.size →
    ((vs.zipIdx k).foldl (fun cs (p : Value × Nat) => cs.setIfInBounds (off + p.2) p.1) cs).size = cs.size ∧
    ∀ i, ((vs.zipIdx k).foldl (fun cs (p : Value × Nat) => cs.setIfInBounds (off + p.2) p.1) cs)[i]? = if off + k ≤ i ∧ i < off + k + vs.length then vs[i - (off + k)]? else cs[i]?
  | [], k, cs, h => by simp; intro i h1 h2; omega
  | v :: vs, k, cs, h => by
    simp only [List.length_cons] at h
    obtain ⟨h1, h2⟩ := pour off vs (k + 1) (cs.setIfInBounds (off + k) v) (by simp; omega)
    simp only [List.zipIdx_cons, List.foldl_cons]
    refine ⟨by rw [h1]; simp, fun i => ?_⟩
    rw [h2]
    simp only [List.length_cons]
    by_cases e : i = off + k
    · subst e
      rw [if_neg (by omega), if_pos (by omega)]
      rw [Array.getElem?_setIfInBounds_self_of_lt (by omega)]
      simp
    · by_cases e2 : off + (k + 1) ≤ i ∧ i < off + (k + 1) + vs.length
      · rw [if_pos e2, if_pos (by omega)]
        rw [show i - (off + k) = (i - (off + (k + 1))) + 1 by omega]
        simp
      · rw [if_neg e2, if_neg (by omega), Array.getElem?_setIfInBounds_ne (by omega)]
theorem poured (off : Nat) (vs : List Value) (cs : Array Value) (h : off + vs.length = cs.size) :
    (vs.zipIdx.foldl (fun cs (p : Value × Nat) => cs.setIfInBounds (off + p.2) p.1) cs) = (cs.toList.take off ++ vs).toArray := by
  obtain ⟨h1, h2⟩ := pour off vs 0 cs (by omega)
  apply Array.ext_getElem?
  intro i
  rw [h2]
  simp only [Nat.add_zero]
  by_cases e : off ≤ i ∧ i < off + vs.length
  · rw [if_pos e]
    simp only [List.getElem?_toArray]
    rw [List.getElem?_append_right (by simp; omega)]
    congr 1
    simp; omega
  · rw [if_neg e]
    simp only [List.getElem?_toArray]
    by_cases e3 : i < off
    · rw [List.getElem?_append_left (by simp; omega), List.getElem?_take, if_pos e3]; simp
    · rw [Array.getElem?_eq_none (by omega), List.getElem?_eq_none (by simp; omega)]
theorem Try.info3' : (Try.prog.info? 3).map (·.size) = some 1 := by kernel_rfl
theorem Try.info183' : (Try.prog.info? 183).map (·.size) = some 128 := by kernel_rfl
theorem Try.info185 : (Try.prog.info? 185).map (fun i => (i.zero, i.size, i.bytes)) = some (some (.agg (#[.int .i64 0] ++ zero128)), 129, 136) := by kernel_rfl
theorem zero129_size : (#[Value.int .i64 0] ++ zero128).size = 129 := by simp [zero128]
set_option maxRecDepth 100000 in
theorem run_build (a : Int) (l : List Nat) (hl : l.length = 128) (w : World) : (Instr.build 185 #[(0, .int .i64 a), (1, .agg (ns .u8 l).toArray)]).run Try.prog w = .ok (.agg (Value.int .i64 a :: ns .u8 l).toArray) w := by
  obtain ⟨i3, h3, e3⟩ := Option.map_eq_some_iff.1 Try.info3'
  obtain ⟨i183, h183, e183⟩ := Option.map_eq_some_iff.1 Try.info183'
  obtain ⟨i185, h185, e185⟩ := Option.map_eq_some_iff.1 Try.info185
  simp only [Prod.mk.injEq] at e185
  have hz := zero129_size
  generalize (#[Value.int .i64 0] ++ zero128) = Z at *
  have hnl : (ns .u8 l).length = 128 := by rw [ns_length, hl]
  have hp := poured 1 (ns .u8 l) (Z.setIfInBounds 0 (.int .i64 a)) (by simp [hz, hnl])
  have ht : (Z.setIfInBounds 0 (.int .i64 a)).toList.take 1 = [.int .i64 a] := by
    rw [Array.toList_setIfInBounds]
    obtain ⟨zl⟩ := Z
    cases zl with
    | nil => simp at hz
    | cons x xs => simp
  rw [ht] at hp
  simp [Instr.build, zeroValue, sizeOf, typeInfo, run_underlying Try.underlying185, h3, h183, h185, e185.1, e3, e183]
  simp [Instr.fill, Value.cells, hz, hnl]
  rw [hp]
  rfl
theorem Try.u178 : Try.prog.underlying 178 = some (.slice 185) := Try.underlying178
set_option maxRecDepth 100000 in
theorem run_buildSlice (cs : List Value) (hl : cs.length = 129) (w : World) : (Instr.buildSlice 178 1 #[(0, .agg cs.toArray)]).run Try.prog w = .ok (.slice (some ⟨w.heap.size, 0, none⟩) 1 1) (w.alloc (.cells cs.toArray 185)) := by
  obtain ⟨i185, h185, e185⟩ := Option.map_eq_some_iff.1 Try.info185
  simp only [Prod.mk.injEq] at e185
  have hz := zero129_size
  generalize (#[Value.int .i64 0] ++ zero128) = Z at *
  obtain ⟨Y, hY⟩ : ∃ Y, Y = (Array.range 129).map (Z[· % Z.size]!) := ⟨_, rfl⟩
  have hYs : Y.size = 129 := by rw [hY]; simp
  have hp := poured 0 cs Y (by rw [hYs]; omega)
  simp [Instr.buildSlice, zeroValue, sizeOf, typeInfo, run_underlying Try.underlying178, h185, e185.1, e185.2.1]
  rw [show (Array.map (fun x => (Value.agg Z).cells[x % (Value.agg Z).cells.size]!) (Array.range 129)) = Y from hY.symm]
  simp [Instr.fill, Value.cells, hYs, hl, newRow]
  simp at hp
  rw [hp]

theorem run_build' (u v : Value) (hu : u.cells.size = 1) (hv : v.cells.size = 128) (w : World) : (Instr.build 185 #[(0, u), (1, v)]).run Try.prog w = .ok (.agg (u.cells ++ v.cells)) w := by
  obtain ⟨i3, h3, e3⟩ := Option.map_eq_some_iff.1 Try.info3'
  obtain ⟨i183, h183, e183⟩ := Option.map_eq_some_iff.1 Try.info183'
  obtain ⟨i185, h185, e185⟩ := Option.map_eq_some_iff.1 Try.info185
  simp only [Prod.mk.injEq] at e185
  have hz := zero129_size
  generalize (#[Value.int .i64 0] ++ zero128) = Z at *
  simp [Instr.build, zeroValue, sizeOf, typeInfo, run_underlying Try.underlying185, h3, h183, h185, e185.1, e3, e183]
  obtain ⟨x, hx⟩ : ∃ x, u.cells = #[x] := by
    obtain ⟨⟨l⟩, hl⟩ : ∃ l, u.cells = l := ⟨_, rfl⟩
    rw [hl] at hu ⊢
    match l, hu with
    | [x], _ => exact ⟨x, rfl⟩
  obtain ⟨⟨ys⟩, hys⟩ : ∃ l, v.cells = l := ⟨_, rfl⟩
  rw [hys] at hv ⊢
  have hyl : ys.length = 128 := by simpa using hv
  have hp := poured 1 ys (Z.setIfInBounds 0 x) (by simp [hz, hyl])
  have ht : (Z.setIfInBounds 0 x).toList.take 1 = [x] := by
    rw [Array.toList_setIfInBounds]
    obtain ⟨zl⟩ := Z
    cases zl with
    | nil => simp at hz
    | cons x xs => simp
  rw [ht] at hp
  have hzc : (Value.agg Z).cells = Z := rfl
  simp [Instr.fill, hx, hys, hzc, hz, hyl]
  rw [hp]
  simp
def build185 (u v : Value) : Sem Next := do pure (.value (← Instr.build 185 #[(0, u), (1, v)]))
theorem execOp_build185 (ρ : Operand → Value) (dst : Option Tmp) (x y : Operand) (ty : TypeId) (pos : String) (after : Array Edge) (guard : Option (Nat × Bool)) :
    execOp ρ ⟨dst, .build 185 #[(0, x), (1, y)], ty, pos, after, guard⟩ = build185 (ρ x) (ρ y) := by
  unfold execOp build185
  simp only [List.map_toArray, List.map_cons, List.map_nil]
theorem run_build185 (k : IntKind) (a : Int) (cs : List Value) (h : cs.length = 128) (w : World) : (build185 (.int k a) (.agg cs.toArray)).run Try.prog w = .ok (.value (.agg (Value.int k a :: cs).toArray)) w := by
  unfold build185
  have := run_build' (.int k a) (.agg cs.toArray) rfl (by simpa [Value.cells] using h) w
  simp only [Sem.run_bind, this, Sem.run_pure, Result.andThen_ok]
  simp [Value.cells]
theorem run_buildSlice' (u : Value) (hu : u.cells.size = 129) (w : World) : (Instr.buildSlice 178 1 #[(0, u)]).run Try.prog w = .ok (.slice (some ⟨w.heap.size, 0, none⟩) 1 1) (w.alloc (.cells u.cells 185)) := by
  obtain ⟨i185, h185, e185⟩ := Option.map_eq_some_iff.1 Try.info185
  simp only [Prod.mk.injEq] at e185
  have hz := zero129_size
  generalize (#[Value.int .i64 0] ++ zero128) = Z at *
  obtain ⟨Y, hY⟩ : ∃ Y, Y = (Array.range 129).map (Z[· % Z.size]!) := ⟨_, rfl⟩
  have hYs : Y.size = 129 := by rw [hY]; simp
  obtain ⟨⟨ys⟩, hys⟩ : ∃ l, u.cells = l := ⟨_, rfl⟩
  rw [hys] at hu
  have hyl : ys.length = 129 := by simpa using hu
  have hp := poured 0 ys Y (by rw [hYs]; omega)
  simp [Instr.buildSlice, zeroValue, sizeOf, typeInfo, run_underlying Try.underlying178, h185, e185.1, e185.2.1]
  rw [show (Array.map (fun x => (Value.agg Z).cells[x % (Value.agg Z).cells.size]!) (Array.range 129)) = Y from hY.symm]
  simp [Instr.fill, hys, hYs, hyl, newRow]
  simp at hp
  rw [hp]
def one185 (u : Value) : Sem Next := do pure (.value (← Instr.buildSlice 178 1 #[(0, u)]))
theorem execOp_one185 (ρ : Operand → Value) (dst : Option Tmp) (x : Operand) (ty : TypeId) (pos : String) (after : Array Edge) (guard : Option (Nat × Bool)) :
    execOp ρ ⟨dst, .buildSlice 178 1 #[(0, x)], ty, pos, after, guard⟩ = one185 (ρ x) := by
  unfold execOp one185
  simp only [List.map_toArray, List.map_cons, List.map_nil]
theorem run_one185 (cs : List Value) (h : cs.length = 129) (w : World) : (one185 (.agg cs.toArray)).run Try.prog w = .ok (.value (.slice (some ⟨w.heap.size, 0, none⟩) 1 1)) (w.alloc (.cells cs.toArray 185)) := by
  unfold one185
  have := run_buildSlice' (.agg cs.toArray) (by simpa [Value.cells] using h) w
  simp only [Sem.run_bind, this, Sem.run_pure, Result.andThen_ok]
  simp [Value.cells]

section
variable {P : Program}
/-- append: it fits, and the row's block is written; or a new block is made, and nothing is written -/
theorem run_append2 (w : World) (base : Nat) (t ty e : TypeId) (i : TypeInfo) (z : Value) (size bytes : Nat) (ht : P.underlying t = some (.slice e)) (hi : P.info? e = some i) (hz : i.zero = some z) (hsize : i.size = size) (hby : i.bytes = bytes) (hzs : z.cells.size = size) (hsz : 0 < size)
    (v : Value) (n : Nat) (xs : List Value) (hown : w.ownsRow base e size v n xs) (ad : Addr) (m c : Nat) (news : List Value) (hl : news.length = m * size) (hnews : ∀ j u, news[j]? = some u → w.cell? (ad.add j) = some u) (h1 : ∀ u ∈ news, u.oneCell' = true)
    (h63 : n + m ≤ maxLen) (hbytes : (n + m) * bytes ≤ 140737488355328) (hbase : base ≤ w.heap.size) :
    ∃ v' w', (Builtin.append_ #[t, t] ty #[v, .slice (some ad) m c]).run P w = .ok v' w' ∧ w'.ownsRow base e size v' (n + m) (xs ++ news) ∧
      ((w.grownBy w' v.ownBlock ∧ v'.ownBlock = v.ownBlock) ∨ (w.grownBy w' none ∧ ∃ g, v'.ownBlock = some g ∧ w.heap.size ≤ g)) := by
  rcases hown.2 with ⟨hv, hn0⟩ | ⟨g, cap, cur, hv, hb, hh, h3, h4, h5, h6⟩
  · obtain ⟨v', w', hr, a1, a2, _, a4⟩ := run_append_own_at (P := P) w base t ty e i z size bytes ht hi hz hsize hby hzs hsz v n xs hown ad m c news hl hnews h1 h63 hbytes hbase
    refine ⟨v', w', hr, a1, ?_⟩
    have hvo : v.ownBlock = none := by rw [hv]; rfl
    rw [hvo] at a2 a4 ⊢
    rcases a4 with a4 | a4
    · exact .inl ⟨a2, a4⟩
    · exact .inr ⟨a2, _, a4, Nat.le_refl _⟩
  · subst hv
    by_cases hroom : n + m ≤ cap
    · obtain ⟨w', hr, a1, a2⟩ := run_append_fits (P := P) w base t ty e i size ht hi hsize g n cap xs hown ad m c news hl hnews h1 hroom
      exact ⟨_, w', hr, a1, .inl ⟨a2, rfl⟩⟩
    · obtain ⟨v', w', hr, a1, a2⟩ := run_append_arg_grows (P := P) w t ty e i z size bytes ht hi hz hsize hby hzs hsz ⟨g, 0, none⟩ n cap xs hown.1 (by
        intro j u hu
        rw [Addr.add_mid, cell_of_row w g _ cur e (0, 0) hh]
        rw [← h6, List.getElem?_take] at hu
        split at hu
        · simpa using hu
        · cases hu) ad m c news hl hnews (by omega) h63 hbytes
      have hge : ∃ g', v'.ownBlock = some g' ∧ w.heap.size ≤ g' := by
        rcases a1.2 with ⟨_, hz⟩ | ⟨g', cap', cur', rfl, hb', _⟩
        · omega
        · exact ⟨g', rfl, hb'⟩
      refine ⟨v', w', hr, own_up a1 ?_, .inr ⟨a2, hge⟩⟩
      intro g' hg'
      obtain ⟨g'', e1, e2⟩ := hge
      rw [e1] at hg'; cases hg'; omega
/-- at a step of a region that draws its order -/
theorem step_append2 {ops : Array Oper} {o : Oper} {a : Act} {w : World} {K : Act → World → Prop} {Q : Exit → Act → World → Prop} {E : Prop} (hgd : o.guard = none) (s x : Operand) (t e : TypeId) (z : Value) (size bytes : Nat)
    (ho : o.op = .call { callee := .builtin .append, args := #[s, x], argTypes := #[t, t] })
    (ht : P.underlying t = some (.slice e)) (hinfo : (P.info? e).map (fun i => (i.zero, i.size, i.bytes)) = some (some z, size, bytes)) (hzs : z.cells.size = size) (h0 : 0 < size)
    (base : Nat) (v : Value) (n : Nat) (xs : List Value) (hs : a.eval s = v) (hown : w.ownsRow base e size v n xs)
    (ad : Addr) (m c : Nat) (news : List Value) (hx : a.eval x = .slice (some ad) m c) (hl : news.length = m * size) (hAt : At w (some ad) news) (h1 : ∀ u ∈ news, u.oneCell' = true)
    (h63 : n + m ≤ 140737488355328) (hbytes : (n + m) * bytes ≤ 140737488355328) (hbase : base ≤ w.heap.size)
    (h : ∀ v' w', w'.ownsRow base e size v' (n + m) (xs ++ news) → (w.grownBy w' v.ownBlock ∧ v'.ownBlock = v.ownBlock) ∨ (w.grownBy w' none ∧ ∃ g, v'.ownBlock = some g ∧ w.heap.size ≤ g) → K (a.put o.dst v') w') :
    if Region.wanted o (yielded ops a.tmps) = true then Oper.wp P o a w K Q else E := by
  have hw : Region.wanted o (yielded ops a.tmps) = true := by simp [Region.wanted, hgd]
  rw [if_pos hw]
  obtain ⟨i0, hi, hzz⟩ := Option.map_eq_some_iff.1 hinfo
  simp only [Prod.mk.injEq] at hzz
  obtain ⟨hz0, hz1, hz2⟩ := hzz
  have hnews : ∀ j u, news[j]? = some u → w.cell? (ad.add j) = some u := fun j u hu => by
    obtain ⟨b, o, e, hr⟩ := hAt (by intro hn; rw [hn] at hu; simp at hu)
    cases e
    rw [Addr.add_mid]; exact hr j u hu
  obtain ⟨v', w', hr, h2, h3⟩ := run_append2 (P := P) w base t o.type e i0 z size bytes ht hi hz0 hz1 hz2 hzs h0 v n xs hown ad m c news hl hnews h1 (by simp only [maxLen]; omega) hbytes hbase
  unfold Oper.wp execOp
  simp only [ho, resolve, invoke, builtin, Sem.run_bind, Sem.run_pure, Result.andThen_ok, List.map_toArray, List.map_cons, List.map_nil, hs, hx, hr]
  exact h v' w' h2 h3
end
end Go.Proofs.Ytfbjjblgcgjndaa
