/- Joined texts: Disk3, Build, Last, Disk4, Disk5, Disk6, Disk7, Settle, Disk8, Disk9, Disk10. -/
import Derived.ArgAppend
import Derived.Laws.OwnMore
import Derived.OrdersHeld
import Derived.Deep.RegionHeld3
import Derived.MapKept
import Derived.Test.YtfbjjblgcgjndaaGreatPz1
set_option linter.unusedVariables false
set_option linter.unusedSimpArgs false

/- Contracts of the disk's Pages and of what Write does. -/
namespace Go.Proofs.YtfbjjblgcgjndaaGreat
open Go.RowKit Go.Maps

theorem ret_int {k : IntKind} {a b : Int} (h : a = b) : Ending.returned (.int k a) = .returned (.int k b) := by rw [h]
set_option maxRecDepth 100000 in
theorem pages_in (L C : Value) (m p : Nat) (D : Dsk) (A : Option Addr) (w : World) (h : RecAt w p 104 13 (dcell (.slice A D.last.length D.last.length) C m D)) (hl : D.last.length ≤ 131072) :
    Calls Tryz.prog 40 #[.pointer (some ⟨p, 0, none⟩)] w fun e w' => e = .returned (.int .i64 (D.pages : Int)) ∧ w = w' := by
  have c0 : w.cell? ⟨p, 0, none⟩ = some (.slice A D.last.length D.last.length) := h.cell 0 (by omega)
  unfold Dsk.pages
  clear h
  go_enter Tryz.func40, Tryz.ntmps40
  go_wp2
  go_ret
  exact ⟨ret_int (by omega), rfl⟩
theorem pages_any {n0 : Nat} {w : World} {p : Nat} {D : Dsk} {S : Nat → Prop} (h : DiskAt n0 w p D S) :
    Calls Tryz.prog 40 #[.pointer (some ⟨p, 0, none⟩)] w fun e w' => e = .returned (.int .i64 (D.pages : Int)) ∧ w = w' := by
  obtain ⟨ok, q, M, h1, h2⟩ := h
  exact pages_in (.slice none 0 0) q.C q.m p D _ w h1.rcd (by obtain ⟨k, h1, h2, h3⟩ := ok.pages; omega)
/-- a box of one cell -/
def Box (w : World) (b : Nat) (v : Value) (t : TypeId) : Prop := w.heap[b]? = some (.cells #[v] t (0, 0))
theorem Box.cell {w : World} {b : Nat} {v : Value} {t : TypeId} (h : Box w b v t) : w.cell? ⟨b, 0, none⟩ = some v := by rw [cell_of_row w b 0 _ t (0, 0) h]; rfl
theorem Box.lt {w : World} {b : Nat} {v : Value} {t : TypeId} (h : Box w b v t) : b < w.heap.size := (Array.getElem?_eq_some_iff.1 h).1
theorem Box.keep {w w' : World} {b : Nat} {v : Value} {t : TypeId} {G : Nat → Prop} (h : Box w b v t) (hc : Chg G w w') (hG : ¬ G b) : Box w' b v t := by
  unfold Box; rw [hc.block b h.lt hG]; exact h

set_option maxRecDepth 100000 in
set_option maxHeartbeats 1000000 in
theorem write_range (n0 : Nat) (w : World) (p : Nat) (D : Dsk) (S : Nat → Prop) (pg : Int) (bp bd bb : Nat) (bv : Value) (h : DiskAt n0 w p D S) (h1 : Box w bp (.int .i64 pg) 3) (h2 : Box w bd (.pointer (some ⟨p, 0, none⟩)) 26)
    (hr : pg < 0 ∨ (D.pages : Int) ≤ pg) : Calls Tryz.prog 39 #[.pointer (some ⟨bp, 0, none⟩), .pointer (some ⟨bd, 0, none⟩), .pointer (some ⟨bb, 0, none⟩)] w fun e w' => e = .returned (.int .u16 2) ∧ Below w.heap.size w w' := by
  have c1 := h1.cell
  have c2 := h2.cell
  have hp := fun n => (pages_any (h.below (below_drewN (Below.refl w.heap.size w) n))).mono fun _ _ (h : _ ∧ _) => And.intro h.1 h.2.symm
  have HP := Lib.hid hp
  clear hp h h1 h2
  by_cases hneg : pg < 0
  · have hd : decide (pg < 0) = true := by simpa using hneg
    have HH := Lib.hid hneg
    clear hr hneg
    go_enter Tryz.func39, Tryz.ntmps39
    go_wp2_with fail
    go_quiet ((go_at_call 40; exact Calls.quiet_of_same (HP.out _)))
    go_wp2_with fail
    go_ret
    exact ⟨rfl, below_drewN (Below.refl _ _) _⟩
  · have hge : (D.pages : Int) ≤ pg := by omega
    have hd : decide (pg < 0) = false := by simpa using hneg
    have hd2 : decide ((D.pages : Int) ≤ pg) = true := by simpa using hge
    clear hr
    generalize D.pages = N at *
    go_enter Tryz.func39, Tryz.ntmps39
    go_wp2_with fail
    go_quiet ((go_at_call 40; exact Calls.quiet_of_same (HP.out _)))
    go_wp2_with fail
    go_ret
    exact ⟨rfl, below_drewN (Below.refl _ _) _⟩

set_option maxRecDepth 100000 in
set_option maxHeartbeats 1000000 in
theorem write_arg (n0 : Nat) (w : World) (p : Nat) (D : Dsk) (S : Nat → Prop) (pg : Nat) (bp bd bb : Nat) (A : Option Addr) (n c : Nat) (h : DiskAt n0 w p D S) (h1 : Box w bp (.int .i64 (pg : Int)) 3) (h2 : Box w bd (.pointer (some ⟨p, 0, none⟩)) 26) (h3 : Box w bb (.slice A n c) 22)
    (hr : pg < D.pages) (hn : n ≠ 1024 ∧ n ≠ 128) : Calls Tryz.prog 39 #[.pointer (some ⟨bp, 0, none⟩), .pointer (some ⟨bd, 0, none⟩), .pointer (some ⟨bb, 0, none⟩)] w fun e w' => e = .returned (.int .u16 1) ∧ Below w.heap.size w w' := by
  have c1 := h1.cell
  have c2 := h2.cell
  have c3 := h3.cell
  have hp := fun n => (pages_any (h.below (below_drewN (Below.refl w.heap.size w) n))).mono fun _ _ (h : _ ∧ _) => And.intro h.1 h.2.symm
  have HP := Lib.hid hp
  have g1 : ((n : Int) != 1024) = true := by simp; omega
  have g2 : ((n : Int) != 128) = true := by simp; omega
  have g3 : (n != 1024) = true := by simp; omega
  have g4 : (n != 128) = true := by simp; omega
  have g5 : (n == 1024) = false := by simp; omega
  have g6 : (n == 128) = false := by simp; omega
  have hneg : ¬ ((pg : Int) < 0) := by omega
  have hd : decide ((pg : Int) < 0) = false := by simp
  have hd2 : decide ((D.pages : Int) ≤ (pg : Int)) = false := by simp; omega
  have hd3 : decide (D.pages ≤ pg) = false := by simp; omega
  clear hp h h1 h2 h3 hn
  generalize D.pages = N at *
  go_enter Tryz.func39, Tryz.ntmps39
  go_wp2_with fail
  go_quiet ((go_at_call 40; exact Calls.quiet_of_same (HP.out _)))
  go_wp2_with fail
  go_ret
  exact ⟨rfl, below_drewN (Below.refl _ _) _⟩
end Go.Proofs.YtfbjjblgcgjndaaGreat

/- A write that waits is built: struct and slice of one. -/
namespace Go.Proofs.YtfbjjblgcgjndaaGreat
open Go.RowKit Go.Maps

def pourStep (off : Nat) (cs : Array Value) (p : Value × Nat) : Array Value := cs.setIfInBounds (off + p.2) p.1
theorem pour (off : Nat) : ∀ (vs : List Value) (k : Nat) (cs : Array Value), off + k + vs.length ≤ cs.size →
    ((vs.zipIdx k).foldl (fun cs (p : Value × Nat) => cs.setIfInBounds (off + p.2) p.1) cs).size = cs.size ∧
    ∀ i, ((vs.zipIdx k).foldl (fun cs (p : Value × Nat) => cs.setIfInBounds (off + p.2) p.1) cs)[i]? = if off + k ≤ i ∧ i < off + k + vs.length then vs[i - (off + k)]? else cs[i]?
  | [], k, cs, h => by simp; intro i h1 h2; omega
  | v :: vs, k, cs, h => by
    simp only [List.length_cons] at h
    obtain ⟨h1, h2⟩ := pour off vs (k + 1) (cs.setIfInBounds (off + k) v) (by simp; omega)
    simp only [List.zipIdx_cons, List.foldl_cons]
    refine ⟨by rw [h1]; simp, fun i => ?_⟩
    rw [h2]
    simp only [List.length_cons]
    by_cases e : i = off + k
    · subst e
      rw [if_neg (by omega), if_pos (by omega)]
      rw [Array.getElem?_setIfInBounds_self_of_lt (by omega)]
      simp
    · by_cases e2 : off + (k + 1) ≤ i ∧ i < off + (k + 1) + vs.length
      · rw [if_pos e2, if_pos (by omega)]
        rw [show i - (off + k) = (i - (off + (k + 1))) + 1 by omega]
        simp
      · rw [if_neg e2, if_neg (by omega), Array.getElem?_setIfInBounds_ne (by omega)]
theorem poured (off : Nat) (vs : List Value) (cs : Array Value) (h : off + vs.length = cs.size) :
    (vs.zipIdx.foldl (fun cs (p : Value × Nat) => cs.setIfInBounds (off + p.2) p.1) cs) = (cs.toList.take off ++ vs).toArray := by
  obtain ⟨h1, h2⟩ := pour off vs 0 cs (by omega)
  apply Array.ext_getElem?
  intro i
  rw [h2]
  simp only [Nat.add_zero]
  by_cases e : off ≤ i ∧ i < off + vs.length
  · rw [if_pos e]
    simp only [List.getElem?_toArray]
    rw [List.getElem?_append_right (by simp; omega)]
    congr 1
    simp; omega
  · rw [if_neg e]
    simp only [List.getElem?_toArray]
    by_cases e3 : i < off
    · rw [List.getElem?_append_left (by simp; omega), List.getElem?_take, if_pos e3]; simp
    · rw [Array.getElem?_eq_none (by omega), List.getElem?_eq_none (by simp; omega)]
theorem Tryz.info3' : (Tryz.prog.info? 3).map (·.size) = some 1 := by kernel_rfl
theorem Tryz.info108' : (Tryz.prog.info? 108).map (·.size) = some 128 := by kernel_rfl
theorem Tryz.info110 : (Tryz.prog.info? 110).map (fun i => (i.zero, i.size, i.bytes)) = some (some (.agg (#[.int .i64 0] ++ zero128)), 129, 136) := by kernel_rfl
theorem zero129_size : (#[Value.int .i64 0] ++ zero128).size = 129 := by simp [zero128]
set_option maxRecDepth 100000 in
theorem run_build (a : Int) (l : List Nat) (hl : l.length = 128) (w : World) : (Instr.build 110 #[(0, .int .i64 a), (1, .agg (ns .u8 l).toArray)]).run Tryz.prog w = .ok (.agg (Value.int .i64 a :: ns .u8 l).toArray) w := by
  obtain ⟨i3, h3, e3⟩ := Option.map_eq_some_iff.1 Tryz.info3'
  obtain ⟨i183, h183, e183⟩ := Option.map_eq_some_iff.1 Tryz.info108'
  obtain ⟨i185, h185, e185⟩ := Option.map_eq_some_iff.1 Tryz.info110
  simp only [Prod.mk.injEq] at e185
  have hz := zero129_size
  generalize (#[Value.int .i64 0] ++ zero128) = Z at *
  have hnl : (ns .u8 l).length = 128 := by rw [ns_length, hl]
  have hp := poured 1 (ns .u8 l) (Z.setIfInBounds 0 (.int .i64 a)) (by simp [hz, hnl])
  have ht : (Z.setIfInBounds 0 (.int .i64 a)).toList.take 1 = [.int .i64 a] := by
    rw [Array.toList_setIfInBounds]
    obtain ⟨zl⟩ := Z
    cases zl with
    | nil => simp at hz
    | cons x xs => simp
  rw [ht] at hp
  simp [Instr.build, zeroValue, sizeOf, typeInfo, run_underlying Tryz.underlying110, h3, h183, h185, e185.1, e3, e183]
  simp [Instr.fill, Value.cells, hz, hnl]
  rw [hp]
  rfl
theorem Tryz.u178 : Tryz.prog.underlying 102 = some (.slice 110) := Tryz.underlying102
set_option maxRecDepth 100000 in
theorem run_buildSlice (cs : List Value) (hl : cs.length = 129) (w : World) : (Instr.buildSlice 102 1 #[(0, .agg cs.toArray)]).run Tryz.prog w = .ok (.slice (some ⟨w.heap.size, 0, none⟩) 1 1) (w.alloc (.cells cs.toArray 110)) := by
  obtain ⟨i185, h185, e185⟩ := Option.map_eq_some_iff.1 Tryz.info110
  simp only [Prod.mk.injEq] at e185
  have hz := zero129_size
  generalize (#[Value.int .i64 0] ++ zero128) = Z at *
  obtain ⟨Y, hY⟩ : ∃ Y, Y = (Array.range 129).map (Z[· % Z.size]!) := ⟨_, rfl⟩
  have hYs : Y.size = 129 := by rw [hY]; simp
  have hp := poured 0 cs Y (by rw [hYs]; omega)
  simp [Instr.buildSlice, zeroValue, sizeOf, typeInfo, run_underlying Tryz.underlying102, h185, e185.1, e185.2.1]
  rw [show (Array.map (fun x => (Value.agg Z).cells[x % (Value.agg Z).cells.size]!) (Array.range 129)) = Y from hY.symm]
  simp [Instr.fill, Value.cells, hYs, hl, newRow]
  simp at hp
  rw [hp]

theorem run_build' (u v : Value) (hu : u.cells.size = 1) (hv : v.cells.size = 128) (w : World) : (Instr.build 110 #[(0, u), (1, v)]).run Tryz.prog w = .ok (.agg (u.cells ++ v.cells)) w := by
  obtain ⟨i3, h3, e3⟩ := Option.map_eq_some_iff.1 Tryz.info3'
  obtain ⟨i183, h183, e183⟩ := Option.map_eq_some_iff.1 Tryz.info108'
  obtain ⟨i185, h185, e185⟩ := Option.map_eq_some_iff.1 Tryz.info110
  simp only [Prod.mk.injEq] at e185
  have hz := zero129_size
  generalize (#[Value.int .i64 0] ++ zero128) = Z at *
  simp [Instr.build, zeroValue, sizeOf, typeInfo, run_underlying Tryz.underlying110, h3, h183, h185, e185.1, e3, e183]
  obtain ⟨x, hx⟩ : ∃ x, u.cells = #[x] := by
    obtain ⟨⟨l⟩, hl⟩ : ∃ l, u.cells = l := ⟨_, rfl⟩
    rw [hl] at hu ⊢
    match l, hu with
    | [x], _ => exact ⟨x, rfl⟩
  obtain ⟨⟨ys⟩, hys⟩ : ∃ l, v.cells = l := ⟨_, rfl⟩
  rw [hys] at hv ⊢
  have hyl : ys.length = 128 := by simpa using hv
  have hp := poured 1 ys (Z.setIfInBounds 0 x) (by simp [hz, hyl])
  have ht : (Z.setIfInBounds 0 x).toList.take 1 = [x] := by
    rw [Array.toList_setIfInBounds]
    obtain ⟨zl⟩ := Z
    cases zl with
    | nil => simp at hz
    | cons x xs => simp
  rw [ht] at hp
  have hzc : (Value.agg Z).cells = Z := rfl
  simp [Instr.fill, hx, hys, hzc, hz, hyl]
  rw [hp]
  simp
def build185 (u v : Value) : Sem Next := do pure (.value (← Instr.build 110 #[(0, u), (1, v)]))
theorem execOp_build185 (ρ : Operand → Value) (dst : Option Tmp) (x y : Operand) (ty : TypeId) (pos : String) (after : Array Edge) (guard : Option (Nat × Bool)) :
    execOp ρ ⟨dst, .build 110 #[(0, x), (1, y)], ty, pos, after, guard⟩ = build185 (ρ x) (ρ y) := by
  unfold execOp build185
  simp only [List.map_toArray, List.map_cons, List.map_nil]
theorem run_build185 (k : IntKind) (a : Int) (cs : List Value) (h : cs.length = 128) (w : World) : (build185 (.int k a) (.agg cs.toArray)).run Tryz.prog w = .ok (.value (.agg (Value.int k a :: cs).toArray)) w := by
  unfold build185
  have := run_build' (.int k a) (.agg cs.toArray) rfl (by simpa [Value.cells] using h) w
  simp only [Sem.run_bind, this, Sem.run_pure, Result.andThen_ok]
  simp [Value.cells]
theorem run_buildSlice' (u : Value) (hu : u.cells.size = 129) (w : World) : (Instr.buildSlice 102 1 #[(0, u)]).run Tryz.prog w = .ok (.slice (some ⟨w.heap.size, 0, none⟩) 1 1) (w.alloc (.cells u.cells 110)) := by
  obtain ⟨i185, h185, e185⟩ := Option.map_eq_some_iff.1 Tryz.info110
  simp only [Prod.mk.injEq] at e185
  have hz := zero129_size
  generalize (#[Value.int .i64 0] ++ zero128) = Z at *
  obtain ⟨Y, hY⟩ : ∃ Y, Y = (Array.range 129).map (Z[· % Z.size]!) := ⟨_, rfl⟩
  have hYs : Y.size = 129 := by rw [hY]; simp
  obtain ⟨⟨ys⟩, hys⟩ : ∃ l, u.cells = l := ⟨_, rfl⟩
  rw [hys] at hu
  have hyl : ys.length = 129 := by simpa using hu
  have hp := poured 0 ys Y (by rw [hYs]; omega)
  simp [Instr.buildSlice, zeroValue, sizeOf, typeInfo, run_underlying Tryz.underlying102, h185, e185.1, e185.2.1]
  rw [show (Array.map (fun x => (Value.agg Z).cells[x % (Value.agg Z).cells.size]!) (Array.range 129)) = Y from hY.symm]
  simp [Instr.fill, hys, hYs, hyl, newRow]
  simp at hp
  rw [hp]
def one185 (u : Value) : Sem Next := do pure (.value (← Instr.buildSlice 102 1 #[(0, u)]))
theorem execOp_one185 (ρ : Operand → Value) (dst : Option Tmp) (x : Operand) (ty : TypeId) (pos : String) (after : Array Edge) (guard : Option (Nat × Bool)) :
    execOp ρ ⟨dst, .buildSlice 102 1 #[(0, x)], ty, pos, after, guard⟩ = one185 (ρ x) := by
  unfold execOp one185
  simp only [List.map_toArray, List.map_cons, List.map_nil]
theorem run_one185 (cs : List Value) (h : cs.length = 129) (w : World) : (one185 (.agg cs.toArray)).run Tryz.prog w = .ok (.value (.slice (some ⟨w.heap.size, 0, none⟩) 1 1)) (w.alloc (.cells cs.toArray 110)) := by
  unfold one185
  have := run_buildSlice' (.agg cs.toArray) (by simpa [Value.cells] using h) w
  simp only [Sem.run_bind, this, Sem.run_pure, Result.andThen_ok]
  simp [Value.cells]

section
variable {P : Program}
/-- append: it fits, and the row's block is written; or a new block is made, and nothing is written -/
theorem run_append2 (w : World) (base : Nat) (t ty e : TypeId) (i : TypeInfo) (z : Value) (size bytes : Nat) (ht : P.underlying t = some (.slice e)) (hi : P.info? e = some i) (hz : i.zero = some z) (hsize : i.size = size) (hby : i.bytes = bytes) (hzs : z.cells.size = size) (hsz : 0 < size)
    (v : Value) (n : Nat) (xs : List Value) (hown : w.ownsRow base e size v n xs) (ad : Addr) (m c : Nat) (news : List Value) (hl : news.length = m * size) (hnews : ∀ j u, news[j]? = some u → w.cell? (ad.add j) = some u) (h1 : ∀ u ∈ news, u.oneCell' = true)
    (h63 : n + m ≤ maxLen) (hbytes : (n + m) * bytes ≤ 140737488355328) (hbase : base ≤ w.heap.size) :
    ∃ v' w', (Builtin.append_ #[t, t] ty #[v, .slice (some ad) m c]).run P w = .ok v' w' ∧ w'.ownsRow base e size v' (n + m) (xs ++ news) ∧
      ((w.grownBy w' v.ownBlock ∧ v'.ownBlock = v.ownBlock) ∨ (w.grownBy w' none ∧ ∃ g, v'.ownBlock = some g ∧ w.heap.size ≤ g)) := by
  rcases hown.2 with ⟨hv, hn0⟩ | ⟨g, cap, cur, hv, hb, hh, h3, h4, h5, h6⟩
  · obtain ⟨v', w', hr, a1, a2, _, a4⟩ := run_append_own_at (P := P) w base t ty e i z size bytes ht hi hz hsize hby hzs hsz v n xs hown ad m c news hl hnews h1 h63 hbytes hbase
    refine ⟨v', w', hr, a1, ?_⟩
    have hvo : v.ownBlock = none := by rw [hv]; rfl
    rw [hvo] at a2 a4 ⊢
    rcases a4 with a4 | a4
    · exact .inl ⟨a2, a4⟩
    · exact .inr ⟨a2, _, a4, Nat.le_refl _⟩
  · subst hv
    by_cases hroom : n + m ≤ cap
    · obtain ⟨w', hr, a1, a2⟩ := run_append_fits (P := P) w base t ty e i size ht hi hsize g n cap xs hown ad m c news hl hnews h1 hroom
      exact ⟨_, w', hr, a1, .inl ⟨a2, rfl⟩⟩
    · obtain ⟨v', w', hr, a1, a2⟩ := run_append_arg_grows (P := P) w t ty e i z size bytes ht hi hz hsize hby hzs hsz ⟨g, 0, none⟩ n cap xs hown.1 (by
        intro j u hu
        rw [Addr.add_mid, cell_of_row w g _ cur e (0, 0) hh]
        rw [← h6, List.getElem?_take] at hu
        split at hu
        · simpa using hu
        · cases hu) ad m c news hl hnews (by omega) h63 hbytes
      have hge : ∃ g', v'.ownBlock = some g' ∧ w.heap.size ≤ g' := by
        rcases a1.2 with ⟨_, hz⟩ | ⟨g', cap', cur', rfl, hb', _⟩
        · omega
        · exact ⟨g', rfl, hb'⟩
      refine ⟨v', w', hr, own_up a1 ?_, .inr ⟨a2, hge⟩⟩
      intro g' hg'
      obtain ⟨g'', e1, e2⟩ := hge
      rw [e1] at hg'; cases hg'; omega
/-- at a step of a region that draws its order -/
theorem step_append2 {ops : Array Oper} {o : Oper} {a : Act} {w : World} {K : Act → World → Prop} {Q : Exit → Act → World → Prop} {E : Prop} (hgd : o.guard = none) (s x : Operand) (t e : TypeId) (z : Value) (size bytes : Nat)
    (ho : o.op = .call { callee := .builtin .append, args := #[s, x], argTypes := #[t, t] })
    (ht : P.underlying t = some (.slice e)) (hinfo : (P.info? e).map (fun i => (i.zero, i.size, i.bytes)) = some (some z, size, bytes)) (hzs : z.cells.size = size) (h0 : 0 < size)
    (base : Nat) (v : Value) (n : Nat) (xs : List Value) (hs : a.eval s = v) (hown : w.ownsRow base e size v n xs)
    (ad : Addr) (m c : Nat) (news : List Value) (hx : a.eval x = .slice (some ad) m c) (hl : news.length = m * size) (hAt : At w (some ad) news) (h1 : ∀ u ∈ news, u.oneCell' = true)
    (h63 : n + m ≤ 140737488355328) (hbytes : (n + m) * bytes ≤ 140737488355328) (hbase : base ≤ w.heap.size)
    (h : ∀ v' w', w'.ownsRow base e size v' (n + m) (xs ++ news) → (w.grownBy w' v.ownBlock ∧ v'.ownBlock = v.ownBlock) ∨ (w.grownBy w' none ∧ ∃ g, v'.ownBlock = some g ∧ w.heap.size ≤ g) → K (a.put o.dst v') w') :
    if Region.wanted o (yielded ops a.tmps) = true then Oper.wp P o a w K Q else E := by
  have hw : Region.wanted o (yielded ops a.tmps) = true := by simp [Region.wanted, hgd]
  rw [if_pos hw]
  obtain ⟨i0, hi, hzz⟩ := Option.map_eq_some_iff.1 hinfo
  simp only [Prod.mk.injEq] at hzz
  obtain ⟨hz0, hz1, hz2⟩ := hzz
  have hnews : ∀ j u, news[j]? = some u → w.cell? (ad.add j) = some u := fun j u hu => by
    obtain ⟨b, o, e, hr⟩ := hAt (by intro hn; rw [hn] at hu; simp at hu)
    cases e
    rw [Addr.add_mid]; exact hr j u hu
  obtain ⟨v', w', hr, h2, h3⟩ := run_append2 (P := P) w base t o.type e i0 z size bytes ht hi hz0 hz1 hz2 hzs h0 v n xs hown ad m c news hl hnews h1 (by simp only [maxLen]; omega) hbytes hbase
  unfold Oper.wp execOp
  simp only [ho, resolve, invoke, builtin, Sem.run_bind, Sem.run_pure, Result.andThen_ok, List.map_toArray, List.map_cons, List.map_nil, hs, hx, hr]
  exact h v' w' h2 h3
end
end Go.Proofs.YtfbjjblgcgjndaaGreat

/- Regions that draw their order: what is read ahead of the last operation may be read first, though that one writes it. -/
namespace Go.Proofs.YtfbjjblgcgjndaaGreat
open Go.RowKit

section
variable {P : Program} {ops : Array Oper} {Q : Exit → Act → World → Prop} {md : Region.Mode} {S : World → Prop} {L : Nat}
/-- in whatever order; S holds as long as operation L is still to come -/
def AnyL (P : Program) (md : Region.Mode) (ops : Array Oper) (Q : Exit → Act → World → Prop) (S : World → Prop) (L : Nat) : Nat → Array Bool → Act → World → Prop
  | 0, l, a, w => Region.ready md ops l = [] ∧ Q .normal a w
  | k + 1, l, a, w => (Region.ready md ops l = [] → Q .normal a w) ∧
      ∀ i ∈ Region.ready md ops l, wpOp P ops Q i (fun a' w' => ((l.setIfInBounds i true).getD L true = false → S w') ∧ AnyL P md ops Q S L k (l.setIfInBounds i true) a' w') a w
theorem AnyL.any : ∀ (k : Nat) (l : Array Bool) (a : Act) (w : World), AnyL P md ops Q S L k l a w → wpAny P md ops Q k l a w
  | 0, _, _, _, h => h
  | k + 1, _, _, _, h => ⟨h.1, fun i hi => wpOp_mono (fun a' w' h' => AnyL.any k _ a' w' h'.2) (h.2 i hi)⟩
theorem AnyL.start {id : Nat} {a : Act} {w : World} (L : Nat) (S : World → Prop) (hm : P.follows .mixedOrders = true) (h : AnyL P .any ops Q S L ops.size (Array.replicate ops.size false) a w.drew) : (Code.region id ops true).wp P Q a w :=
  wp_region_any hm (AnyL.any _ _ _ _ h)
def bound (md : Region.Mode) (ops : Array Oper) (L i : Nat) : Bool := match ops[L]? with
  | some o => o.after.any fun e => Region.binds md e && e.on == i
  | none => false
theorem AnyL.first {i : Nat} {oi : Oper} {v : Value} (hi : ops[i]? = some oi) (hsel : ∀ (j : Nat) (o : Oper) cs b, ops[j]? = some o → o.op ≠ .select cs b) (hQ : ∀ c a w, Q (.panic c) (a.put oi.dst v) w → Q (.panic c) a w) (hb : bound md ops L i = true) :
    ∀ (k : Nat) (l : Array Bool) (a : Act) (w : World),
      (∀ j oj, ops[j]? = some oj → j ≠ i → l.getD j true = false → (∀ e ∈ oj.after, Region.binds md e = true → e.on ≠ i) → oi.apart ops oj = true) →
      i ∈ Region.ready md ops l → l.getD L true = false → YieldsIf P ops S oi v a → S w → AnyL P md ops Q S L k (l.setIfInBounds i true) (a.put oi.dst v) w → AnyL P md ops Q S L (k + 1) l a w := by
  obtain ⟨oL, hoL, d0, hd0, hb0, hon0⟩ : ∃ oL, ops[L]? = some oL ∧ ∃ e ∈ oL.after, Region.binds md e = true ∧ e.on = i := by
    unfold bound at hb
    split at hb
    · rename_i o ho
      rw [Array.any_eq_true] at hb
      obtain ⟨q, hq, h⟩ := hb
      simp only [Bool.and_eq_true, beq_iff_eq] at h
      exact ⟨o, ho, _, Array.getElem_mem hq, h.1, h.2⟩
    · cases hb
  intro k
  induction k with
  | zero =>
    intro l a w _ hr hlL hy hS H
    refine ⟨fun h => (by rw [h] at hr; cases hr), fun j hj => ?_⟩
    by_cases e : j = i
    · subst e; exact hy.wpOp hi hS ⟨fun _ => hS, H⟩
    · have := ready_mono hj e
      rw [H.1] at this
      cases this
  | succ k ih =>
    intro l a w hfree hr hlL hy hS H
    refine ⟨fun h => (by rw [h] at hr; cases hr), fun j hj => ?_⟩
    by_cases e : j = i
    · subst e; exact hy.wpOp hi hS ⟨fun _ => hS, H⟩
    · have step := H.2 j (ready_mono hj e)
      obtain ⟨un, oj, hoj, all⟩ := mem_ready.1 hj
      have free1 : ∀ e ∈ oj.after, Region.binds md e = true → e.on ≠ i := fun d hd hb heq => by
        have h1 := all d hd hb
        have h0 := (mem_ready.1 hr).1
        rw [heq] at h1
        rcases Nat.lt_or_ge i l.size with h' | h'
        · simp [h'] at h0 h1; rw [h0] at h1; cases h1
        · simp [Array.getElem?_eq_none h'] at h1
      have hjL : j ≠ L := fun e2 => by
        subst e2
        rw [hoj] at hoL
        cases hoL
        exact free1 d0 hd0 hb0 hon0
      have hiL : i ≠ L := fun e2 => by
        subst e2
        obtain ⟨_, oi', hoi', all'⟩ := mem_ready.1 hr
        rw [hoi'] at hoL
        cases hoL
        have h1 := all' d0 hd0 hb0
        rw [hon0] at h1
        have h0 := (mem_ready.1 hr).1
        rcases Nat.lt_or_ge i l.size with h' | h'
        · simp [h'] at h0 h1; rw [h0] at h1; cases h1
        · simp [Array.getElem?_eq_none h'] at h1
      have hl1 : ((l.setIfInBounds i true).setIfInBounds j true).getD L true = false := by rw [getD_set_ne true hjL, getD_set_ne true hiL]; exact hlL
      have hl2 : (l.setIfInBounds j true).getD L true = false := by rw [getD_set_ne true hjL]; exact hlL
      have step2 := wpOp_putIf hoj (hfree j oj hoj e un free1) (fun cs b => hsel i oi cs b hi) (fun cs b => hsel j oj cs b hoj) hQ hy step
      have hir : i ∈ Region.ready md ops (l.setIfInBounds j true) := ready_mono hr (Ne.symm e)
      refine wpOp_mono (fun a' w' h3 => ?_) step2
      obtain ⟨y1, y2, y3⟩ := h3
      refine ⟨fun _ => y2 hl1, ih (l.setIfInBounds j true) a' w' ?_ hir hl2 y1 (y2 hl1) ?_⟩
      · intro m om hm hmi hun hno
        refine hfree m om hm hmi ?_ hno
        by_cases hjm : j = m
        · subst hjm; exact un
        · rw [getD_set_ne true hjm] at hun; exact hun
      · rw [Array.setIfInBounds_comm _ _ e]; exact y3
theorem AnyL.take {i : Nat} {oi : Oper} {v : Value} {k : Nat} {l : Array Bool} {a : Act} {w : World} (hi : ops[i]? = some oi) (hs : Region.noSelect ops = true) (hf : Region.free md ops l i = true) (hr : (Region.ready md ops l).contains i = true) (hb : (bound md ops L i && !l.getD L true) = true)
    (hQ : ∀ c a w, Q (.panic c) (a.put oi.dst v) w → Q (.panic c) a w) (hy : YieldsIf P ops S oi v a) (hS : S w) (h : AnyL P md ops Q S L k (l.setIfInBounds i true) (a.put oi.dst v) w) : AnyL P md ops Q S L (k + 1) l a w := by
  simp only [Bool.and_eq_true, Bool.not_eq_true'] at hb
  exact AnyL.first hi (Region.noSelect_spec hs) hQ hb.1 k l a w (Region.free_spec hi hf) (by simpa using hr) hb.2 hy hS h
/-- one alone may come up -/
theorem AnyL.one {i : Nat} {o : Oper} {k : Nat} {l : Array Bool} {a : Act} {w : World} (hr : Region.ready md ops l = [i]) (ho : ops[i]? = some o) (hw : Region.wanted o (yielded ops a.tmps) = true)
    (h : ∀ K : Act → World → Prop, (∀ a' w', ((l.setIfInBounds i true).getD L true = false → S w') → AnyL P md ops Q S L k (l.setIfInBounds i true) a' w' → K a' w') → Oper.wp P o a w K Q) : AnyL P md ops Q S L (k + 1) l a w := by
  refine ⟨fun h0 => (by rw [hr] at h0; cases h0), fun j hj => ?_⟩
  rw [hr, List.mem_singleton] at hj
  subst hj
  refine wpOp_step ho fun K' hK => ?_
  rw [if_pos hw]
  exact h K' fun a' w' h1 h2 => hK a' w' ⟨h1, h2⟩
theorem AnyL.done {k : Nat} {l : Array Bool} {a : Act} {w : World} (hr : Region.ready md ops l = []) (h : Q .normal a w) : AnyL P md ops Q S L k l a w := by
  cases k with
  | zero => exact ⟨hr, h⟩
  | succ k => exact ⟨fun _ => h, fun i hi => by rw [hr] at hi; cases hi⟩
/-- append, at the operation -/
theorem oper_append2 {o : Oper} {a : Act} {w : World} {K : Act → World → Prop} (s x : Operand) (t e : TypeId) (z : Value) (size bytes : Nat)
    (ho : o.op = .call { callee := .builtin .append, args := #[s, x], argTypes := #[t, t] })
    (ht : P.underlying t = some (.slice e)) (hinfo : (P.info? e).map (fun i => (i.zero, i.size, i.bytes)) = some (some z, size, bytes)) (hzs : z.cells.size = size) (h0 : 0 < size)
    (base : Nat) (v : Value) (n : Nat) (xs : List Value) (hs : a.eval s = v) (hown : w.ownsRow base e size v n xs)
    (ad : Addr) (m c : Nat) (news : List Value) (hx : a.eval x = .slice (some ad) m c) (hl : news.length = m * size) (hAt : At w (some ad) news) (h1 : ∀ u ∈ news, u.oneCell' = true)
    (h63 : n + m ≤ 140737488355328) (hbytes : (n + m) * bytes ≤ 140737488355328) (hbase : base ≤ w.heap.size)
    (h : ∀ v' w', w'.ownsRow base e size v' (n + m) (xs ++ news) → (w.grownBy w' v.ownBlock ∧ v'.ownBlock = v.ownBlock) ∨ (w.grownBy w' none ∧ ∃ g, v'.ownBlock = some g ∧ w.heap.size ≤ g) → K (a.put o.dst v') w') :
    Oper.wp P o a w K Q := by
  obtain ⟨i0, hi, hzz⟩ := Option.map_eq_some_iff.1 hinfo
  simp only [Prod.mk.injEq] at hzz
  obtain ⟨hz0, hz1, hz2⟩ := hzz
  have hnews : ∀ j u, news[j]? = some u → w.cell? (ad.add j) = some u := fun j u hu => by
    obtain ⟨b, o, e, hr⟩ := hAt (by intro hn; rw [hn] at hu; simp at hu)
    cases e
    rw [Addr.add_mid]; exact hr j u hu
  obtain ⟨v', w', hr, h2, h3⟩ := run_append2 (P := P) w base t o.type e i0 z size bytes ht hi hz0 hz1 hz2 hzs h0 v n xs hown ad m c news hl hnews h1 (by simp only [maxLen]; omega) hbytes hbase
  unfold Oper.wp execOp
  simp only [ho, resolve, invoke, builtin, Sem.run_bind, Sem.run_pure, Result.andThen_ok, List.map_toArray, List.map_cons, List.map_nil, hs, hx, hr]
  exact h v' w' h2 h3
end
end Go.Proofs.YtfbjjblgcgjndaaGreat

/- What the disk's Write does: the loop. -/
namespace Go.Proofs.YtfbjjblgcgjndaaGreat
open Go.RowKit Go.Maps

attribute [local go_sem ↓] execOp_build185 execOp_one185
attribute [local go_sem] run_build185 run_one185
def zero129 : Array Value := #[.int .i64 0] ++ zero128
theorem Tryz.info185z : (Tryz.prog.info? 110).map (fun i => (i.zero, i.size, i.bytes)) = some (some (.agg zero129), 129, 136) := Tryz.info110
theorem zero129_agg : (Value.agg zero129).cells.size = 129 := zero129_size
theorem key3 : Keyed Tryz.prog 3 := int_keyed Tryz.underlying3

/-- what Write's statement reads -/
def PutS (p bd bb g o n c m cap : Nat) (V : Option Addr) (cs : List Value) (w : World) : Prop :=
  w.cell? ⟨bd, 0, none⟩ = some (.pointer (some ⟨p, 0, none⟩)) ∧ w.cell? ⟨bb, 0, none⟩ = some (.slice (some ⟨g, o, none⟩) n c) ∧ w.cell? ⟨p, 1, none⟩ = some (.slice V m cap)
theorem PutS.chg {p bd bb g o n c m cap : Nat} {V : Option Addr} {cs : List Value} {w w' : World} {G : Nat → Prop} (h : PutS p bd bb g o n c m cap V cs w) (hc : Chg G w w') (h1 : ¬ G bd) (h2 : ¬ G bb) (h3 : ¬ G p) : PutS p bd bb g o n c m cap V cs w' :=
  ⟨hc.cell h.1 h1, hc.cell h.2.1 h2, hc.cell h.2.2 h3⟩
def sectCells (a : Int) (l : List Nat) : List Value := .int .i64 a :: ns .u8 l
theorem run_arrayAt (w : World) (a : Addr) (c : Nat) : (Instr.arrayAt 108 (.slice (some a) 128 c)).run Tryz.prog w = .ok (.pointer (some a)) w := by
  simp [Instr.arrayAt, run_underlying Tryz.underlying108]

theorem foot_len {p qb qm n n' cap g : Nat} {V : Option Addr} (h : Dparts.foot p ⟨qb, .slice V n cap, qm⟩ g) : Dparts.foot p ⟨qb, .slice V n' cap, qm⟩ g := by
  rcases h with h | h | h | h
  · exact .inl h
  · exact .inr (.inl h)
  · exact .inr (.inr (.inl h))
  · refine .inr (.inr (.inr ?_))
    cases V with
    | none => cases h
    | some a => exact h
theorem put_step {n0 : Nat} {w2 w3 wA w4 : World} {p qb qm : Nat} {D : Dsk} {C C4 : Value} {M : DataW Unit} {a : Nat} {part : List Nat} (h : DiskIn n0 w2 p D ⟨qb, C, qm⟩ M)
    (hm : w3.ownsMap Tryz.prog 3 (plainElem Tryz.prog 3) qm (D.cache.length + 1) (M.put (seenKey a) (.lit (.int .i64 (D.cache.length : Int))))) (hg3 : w2.grownBy w3 (some qm)) (hA : Below w3.heap.size w3 wA)
    (ho : w4.ownsRow n0 110 129 C4 (D.cache.length + 1) (wcells D.cache ++ wcell (a, part))) (hor : (wA.grownBy w4 C.ownBlock ∧ C4.ownBlock = C.ownBlock) ∨ (wA.grownBy w4 none ∧ ∃ g, C4.ownBlock = some g ∧ wA.heap.size ≤ g)) :
    DiskIn n0 (w4.setCell ⟨p, 1, none⟩ C4) p { D with cache := D.cache ++ [(a, part)] } ⟨qb, C4, qm⟩ (M.put (seenKey a) (.lit (.int .i64 (D.cache.length : Int)))) ∧
      Chg (Dparts.foot p ⟨qb, C, qm⟩) w2 (w4.setCell ⟨p, 1, none⟩ C4) ∧ ∀ g, Dparts.foot p ⟨qb, C4, qm⟩ g → Dparts.foot p ⟨qb, C, qm⟩ g ∨ w2.heap.size ≤ g := by
  obtain ⟨s1, s2, s3, s4, s5, s6⟩ := h.sep
  obtain ⟨b1, b2, b3, b4, b5⟩ := h.bases
  have c3 : Chg (fun g => g = qm) w2 w3 := .of_grown hg3 (fun g hg => by cases hg; rfl)
  have cA : Chg (fun _ => False) w3 wA := .of_below hA
  have c4 := push_chg hor
  have c5 := setCell_chg w4 p 1 C4
  have hz : w2.heap.size ≤ wA.heap.size := Nat.le_trans c3.size cA.size
  have hb4 : ∀ g, blk C4 g → blk C g ∨ w2.heap.size ≤ g := fun g hg => by
    rcases push_blk hor hg with h | h
    · exact .inl h
    · exact .inr (Nat.le_trans hz h)
  have hsep4 : ∀ g, g < w2.heap.size → ¬ blk C g → ¬ blk C4 g := fun g h1 h2 h3 => by
    rcases hb4 g h3 with h | h
    · exact h2 h
    · omega
  have hpl := h.rcd.lt
  refine ⟨⟨?_, ?_, ?_, ?_, ?_, ⟨b1, b2, b3, ?_, ?_⟩, s1, s2, s3, hsep4 _ hpl s4, hsep4 _ b4 s5, hsep4 _ b5 s6⟩, ?_, ?_⟩
  · have r3 := h.rcd.keep c3 (fun e => s2 e)
    have r4 := (r3.keep cA (fun h => h)).keep c4 s4
    exact (r4.set 1 C4).congr (all13 rfl rfl rfl rfl rfl rfl rfl rfl rfl rfl rfl rfl rfl)
  · have l3 := h.last.keep c3 (fun e => s3 e) b4
    have l4 := (l3.keep cA (fun h => h) (Nat.lt_of_lt_of_le b4 c3.size)).keep c4 s5 (Nat.lt_of_lt_of_le b4 hz)
    exact l4.keep c5 (fun e => s1 e.symm) (Nat.lt_of_lt_of_le b4 (Nat.le_trans hz c4.size))
  · have := own_chg ho c5 (fun g hg e => hsep4 p hpl s4 (by rw [← e]; exact hg))
    simp only [List.length_append, List.length_cons, List.length_nil, wcells_append]
    have e : wcells [(a, part)] = wcell (a, part) := by simp [wcells]
    rw [e]; exact this
  · have m4 := map_chg (map_chg hm cA (fun h => h) (Nat.lt_of_lt_of_le b5 c3.size)) c4 s6 (Nat.lt_of_lt_of_le b5 hz)
    have := map_chg m4 c5 (fun e => s2 e.symm) (Nat.lt_of_lt_of_le b5 (Nat.le_trans hz c4.size))
    simpa using this
  · exact h.seen.put a part
  · exact Nat.lt_of_lt_of_le b4 (Nat.le_trans (Nat.le_trans hz c4.size) c5.size)
  · exact Nat.lt_of_lt_of_le b5 (Nat.le_trans (Nat.le_trans hz c4.size) c5.size)
  · refine (((c3.mono (G := Dparts.foot p ⟨qb, C, qm⟩) (fun g _ hg => ?_)).trans cA (fun _ _ h => h.elim)).trans c4 (fun g _ hg => ?_)).trans c5 (fun g _ hg => ?_)
    · exact .inr (.inr (.inl hg))
    · exact .inr (.inr (.inr hg))
    · exact .inl hg
  · intro g hg
    rcases hg with h | h | h | h
    · exact .inl (.inl h)
    · exact .inl (.inr (.inl h))
    · exact .inl (.inr (.inr (.inl h)))
    · rcases hb4 g h with h | h
      · exact .inl (.inr (.inr (.inr h)))
      · exact .inr h

set_option maxRecDepth 100000 in
set_option maxHeartbeats 8000000 in
theorem write_do (n0 : Nat) (w : World) (p : Nat) (D : Dsk) (S : Nat → Prop) (pg : Nat) (bp bd bb : Nat) (r : Inner) (k : Nat) (h : DiskAt n0 w p D S) (h1 : Box w bp (.int .i64 (pg : Int)) 3) (h2 : Box w bd (.pointer (some ⟨p, 0, none⟩)) 26) (h3 : Box w bb (.slice r.A r.l.length r.c) 22) (hr : r.Ok w)
    (hpg : pg < D.pages) (hn : r.l.length = 128 * k) (hk : k = 8 ∨ k = 1) (hc : D.cache.length ≤ 1000000000000) (hn0 : n0 ≤ w.heap.size)
    (hs1 : ∀ g, S g → g ≠ bp ∧ g ≠ bd ∧ g ≠ bb ∧ ∀ a, r.A = some a → a.block ≠ g) (hS : ∀ g, S g → g < w.heap.size) :
    Calls Tryz.prog 39 #[.pointer (some ⟨bp, 0, none⟩), .pointer (some ⟨bd, 0, none⟩), .pointer (some ⟨bb, 0, none⟩)] w fun e w' => e = .returned (.int .u16 0) ∧ DiskAt n0 w' p (D.put (8 * pg) r.l k) (fun g => S g ∨ (w.heap.size ≤ g ∧ g < w'.heap.size)) ∧ Chg S w w' := by
  have c1 := h1.cell
  have c2 := h2.cell
  have c3 := h3.cell
  have hp := fun n => (pages_any (h.below (below_drewN (Below.refl w.heap.size w) n))).mono fun _ _ (h : _ ∧ _) => And.intro h.1 h.2.symm
  have HP := Lib.hid hp
  have hneg : ¬ ((pg : Int) < 0) := by omega
  have hd : decide ((pg : Int) < 0) = false := by simp
  have hd2 : decide ((D.pages : Int) ≤ (pg : Int)) = false := by simp; omega
  have hd3 : decide (D.pages ≤ pg) = false := by simp; omega
  have hlen : r.l.length = 1024 ∨ r.l.length = 128 := by rcases hk with rfl | rfl <;> omega
  have HK := Lib.hid hk
  have HL := Lib.hid hn
  have HPG := Lib.hid hpg
  have hpb : pg < 16384 := by obtain ⟨q, a, b, c⟩ := h.1.pages; unfold Dsk.pages at hpg; omega
  have g1 : (((r.l.length : Int) != 1024) && ((r.l.length : Int) != 128)) = false := by rcases hlen with e | e <;> simp [e]
  have HD := Lib.hid h
  have H1 := Lib.hid h1
  have H2 := Lib.hid h2
  have H3 := Lib.hid h3
  have HR := Lib.hid hr
  have HS := Lib.hid hs1
  have HSS := Lib.hid hS
  clear hp h h1 h2 h3 hr hk hn hpg hs1 hS
  have hlen0 : 0 < r.l.length := by omega
  obtain ⟨gb, go, hA, hrange⟩ := HR.out.lies (by intro e; have := congrArg List.length e; rw [ns_length] at this; simp at this; rw [this] at hlen0; simp at hlen0)
  have HA := Lib.hid hA
  have HRANGE := Lib.hid hrange
  rw [hA] at c3
  clear hA hrange hlen0
  rcases hlen with hlen | hlen
  · have q1 : ((r.l.length : Int) == 1024) = (r.l.length == 1024) := by rw [hlen]; rfl
    have HLEN := Lib.hid hlen
    rw [hlen] at c3
    clear hlen q1 g1
    go_enter Tryz.func39, Tryz.ntmps39
    go_wp2_with fail
    go_quiet ((go_at_call 40; exact Calls.quiet_of_same (HP.out _)))
    go_wp2_with fail
    have hstart : DiskAt n0 (w.drewN nq) p (D.put (8 * pg) r.l 0) (fun g => S g ∨ (w.heap.size ≤ g ∧ g < (w.drewN nq).heap.size)) := by
      have := HD.out.below (below_drewN (Below.refl w.heap.size w) nq)
      have e : D.put (8 * pg) r.l 0 = D := by simp [Dsk.put, puts]
      rw [e]
      exact this.mono fun g _ _ hg => .inl hg
    have hchg : Chg S w (w.drewN nq) := (Chg.refl S w).drewN nq
    go_loopw [4] (fun i wr => ∃ j : Nat, 128 * j ≤ r.l.length ∧ i = .int .i64 j ∧ DiskAt n0 wr p (D.put (8 * pg) r.l j) (fun g => S g ∨ (w.heap.size ≤ g ∧ g < wr.heap.size)) ∧ Chg S w wr) (fun i _ => r.l.length - 128 * (intOf i).toNat)
    case atStart => exact ⟨0, by omega, rfl, hstart, hchg⟩
    case round =>
      clear hstart hchg c1 c2 c3
      obtain ⟨j, hj, rfl, hd, hch⟩ := hrel
      have b1 := H1.out.keep hch (fun h => (HS.out _ h).1 rfl)
      have b2 := H2.out.keep hch (fun h => (HS.out _ h).2.1 rfl)
      have b3 := H3.out.keep hch (fun h => (HS.out _ h).2.2.1 rfl)
      have c1 := b1.cell
      have c2 := b2.cell
      have c3 := b3.cell
      rw [HLEN.out, HA.out] at c3
      rw [HLEN.out] at hj
      obtain ⟨dok, q, M, hin, hft⟩ := hd
      by_cases hlt : 128 * (j + 1) ≤ r.l.length
      · have hj8 : j < 8 := by have := HLEN.out; omega
        obtain ⟨qb, qC, qm⟩ := q
        have hC := hin.cache
        obtain ⟨V, cap, hCV, _⟩ := At.own hC
        simp only at hCV
        subst hCV
        have d1 : wr.cell? ⟨p, 1, none⟩ = some (.slice V (D.put (8 * pg) r.l j).cache.length cap) := hin.rcd.cell 1 (by omega)
        have d2 : wr.cell? ⟨p, 2, none⟩ = some (.map (some qm)) := hin.rcd.cell 2 (by omega)
        have hcl : (D.put (8 * pg) r.l j).cache.length = D.cache.length + j := by simp [Dsk.put, puts_length]
        rw [hcl] at d1
        rw [HLEN.out] at hlt
        go_wp2_with fail
        go_still_tail 10, (by kernel_rfl)
        change wpList _ _ _ _ _ wr.drew
        have hin2 := hin.keep (w' := wr.drew) (G := fun _ => False) ((Chg.refl _ wr).drew) (fun _ _ h => h)
        have hch2 := hch.drew
        have e1 := b1.keep (w' := wr.drew) (G := fun _ => False) ((Chg.refl _ wr).drew) (fun h => h)
        have e2 := b2.keep (w' := wr.drew) (G := fun _ => False) ((Chg.refl _ wr).drew) (fun h => h)
        have e3 := b3.keep (w' := wr.drew) (G := fun _ => False) ((Chg.refl _ wr).drew) (fun h => h)
        have hsz2 : wr.drew.heap.size = wr.heap.size := rfl
        clear hin hch b1 b2 b3 c1 c2 c3 d1 d2 hC
        generalize wr.drew = w2 at *
        obtain ⟨a, ha⟩ : ∃ a, a = 8 * pg + j := ⟨_, rfl⟩
        have HA7 := Lib.hid ha
        have HA8 := Lib.hid (show ((a : Nat) : Int) = (pg : Int) * 8 + (j : Int) by rw [ha]; push_cast; omega)
        have hkl : Lit.int .i64 ((pg : Int) * 8 + (j : Int)) = seenKey a := by unfold seenKey; rw [ha]; congr 1; push_cast; omega
        have hkey : keyOf Tryz.prog 3 (.int .i64 ((pg : Int) * 8 + (j : Int))) = some (seenKey a) := by rw [← hkl]; exact keyOf_int_mk Tryz.underlying3 (by go_wf)
        have hmap := hin2.map
        rw [hcl] at hmap
        refine wpList_mapUpdate_own (H := Unit) w2 rfl _ _ _ 99 rfl 3 3 key3 Tryz.underlying99 (plainElem Tryz.prog 3) qm (D.cache.length + j) M rfl hmap (by unfold maxLen; omega) _ _ _ rfl rfl hkey _ [] (plainElem_int Tryz.underlying3 (by go_wf)) ?_
        intro w3 hm3 hg3
        have hA := HA.out
        have hrange := HRANGE.out
        have hch3 : Chg (fun g => g = qm) w2 w3 := .of_grown hg3 (fun g hg => by cases hg; rfl)
        have hSq : ∀ g, Dparts.foot p ⟨qb, .slice V (D.put (8 * pg) r.l j).cache.length cap, qm⟩ g → S g ∨ (w.heap.size ≤ g ∧ g < wr.heap.size) := hft
        have hglt : gb < w.heap.size := World.block_lt_of_cell? w _ (hrange 0 _ (ns_get .u8 r.l 0 (by have := HLEN.out; omega)))
        have hne : ∀ g, Dparts.foot p ⟨qb, .slice V (D.put (8 * pg) r.l j).cache.length cap, qm⟩ g → g ≠ bd ∧ g ≠ bb ∧ g ≠ gb := by
          intro g hg
          have l2 := H2.out.lt
          have l3 := H3.out.lt
          rcases hSq g hg with h | ⟨h, _⟩
          · have := HS.out g h
            exact ⟨this.2.1, this.2.2.1, fun e => this.2.2.2 _ hA e.symm⟩
          · exact ⟨by omega, by omega, by omega⟩
        have hqm := hne qm (.inr (.inr (.inl rfl)))
        have hpp := hne p (.inl rfl)
        have m2 := (e2.keep hch3 (fun h => hqm.1 h.symm)).cell
        have m3 := (e3.keep hch3 (fun h => hqm.2.1 h.symm)).cell
        rw [hA, HLEN.out] at m3
        have hrec3 := hin2.rcd.keep hch3 (fun h => hin2.sep.2.1 h)
        have m1 : w3.cell? ⟨p, 1, none⟩ = some (.slice V (D.put (8 * pg) r.l j).cache.length cap) := hrec3.cell 1 (by omega)
        rw [hcl] at m1
        have mfr : w3.frozen? ⟨p, 1, none⟩ = false := hrec3.frozen 1
        have hown3 := own_chg hin2.cache hch3 (fun g hg h => hin2.sep.2.2.2.2.2 (by rw [← h]; exact hg))
        obtain ⟨part, hpart⟩ : ∃ x, x = (r.l.drop (128 * j)).take 128 := ⟨_, rfl⟩
        have hpl : part.length = 128 := by rw [hpart, List.length_take, List.length_drop, HLEN.out]; omega
        have hrg : w3.rangeAt gb (go + j * 128) (ns .u8 part) := by
          intro i v hv
          have hi : i < 128 := by have := (List.getElem?_eq_some_iff.1 hv).1; rwa [ns_length, hpl] at this
          have h1 : (ns .u8 r.l)[j * 128 + i]? = some v := by
            rw [← hv, hpart]
            simp only [ns, List.getElem?_map, List.getElem?_take, List.getElem?_drop, if_pos hi]
            rw [show 128 * j + i = j * 128 + i by omega]
          have h2 := hrange _ _ h1
          have hSg : ¬ S gb := fun h => (HS.out _ h).2.2.2 _ hA rfl
          have h3 := (hch2.cell h2 hSg)
          have h4 := hch3.cell h3 (fun h => hqm.2.2 h.symm)
          rw [show go + j * 128 + i = go + (j * 128 + i) by omega]
          exact h4
        have hcr : 1024 ≤ r.c ∨ True := .inr trivial
        have hcap := HR.out.le
        rw [HLEN.out] at hcap
        have u183 := Tryz.underlying108
        have i183 : (Tryz.prog.info? 108).map (·.size) = some (ns .u8 part).length := by
          rw [ns_length, hpl]
          obtain ⟨i0, hi, hzz⟩ := Option.map_eq_some_iff.1 Tryz.info108
          simp only [Prod.mk.injEq] at hzz
          rw [hi]; simp [hzz.2.1]
        have harr := run_arrayAt
        have y1 : IntKind.i64.wrap ((j : Int) * 128) = (j : Int) * 128 := by rw [IntKind.wrap_i64]; omega
        have y2 : IntKind.i64.wrap ((j : Int) + 1) = (j : Int) + 1 := by rw [IntKind.wrap_i64]; omega
        have y3 : IntKind.i64.wrap (((j : Int) + 1) * 128) = ((j : Int) + 1) * 128 := by rw [IntKind.wrap_i64]; omega
        have y4 : (0 : Int) ≤ (j : Int) * 128 := by omega
        have y5 : (0 : Int) ≤ ((j : Int) + 1) * 128 := by omega
        have y6 : (j : Int) * 128 ≤ ((j : Int) + 1) * 128 := by omega
        have y7 : ((j : Int) + 1) * 128 ≤ (r.c : Int) := by omega
        have y8 : ((j : Int) * 128).toNat = j * 128 := by omega
        have y9 : (((j : Int) + 1) * 128).toNat = (j + 1) * 128 := by omega
        have y10 : (j + 1) * 128 - j * 128 = 128 := by omega
        have y11 : ¬ (r.c = j * 128) := by omega
        have y13 : (j : Int) ≤ (j : Int) + 1 := by omega
        have y12 : ¬ (r.c - j * 128 = 0) := by omega
        have hS0 : PutS p bd bb gb go (1024) r.c (D.cache.length + j) cap V [] w3.drew := ⟨m2, m3, m1⟩
        have hbl : (Value.int .i64 ((pg : Int) * 8 + (j : Int)) :: ns .u8 part).length = 129 := by rw [List.length_cons, ns_length, hpl]
        have hbl2 : (ns .u8 part).length = 128 := by rw [ns_length, hpl]
        have nC : ∀ g, blk (.slice V (D.cache.length + j) cap) g → g ≠ bd ∧ g ≠ bb ∧ g ≠ gb ∧ g ≠ p ∧ g ≠ qb ∧ g ≠ qm := by
          intro g hg
          rw [← hcl] at hg
          have h1 := hne g (.inr (.inr (.inr hg)))
          have h2 := hin2.sep
          exact ⟨h1.1, h1.2.1, h1.2.2, fun e => h2.2.2.2.1 (by rw [← e]; exact hg), fun e => h2.2.2.2.2.1 (by rw [← e]; exact hg), fun e => h2.2.2.2.2.2 (by rw [← e]; exact hg)⟩
        rw [hcl] at hown3
        have hownA := (hown3.drew).alloc (.cells (Value.int .i64 ((pg : Int) * 8 + (j : Int)) :: ns .u8 part).toArray 110)
        have hAtA : At (w3.drew.alloc (.cells (Value.int .i64 ((pg : Int) * 8 + (j : Int)) :: ns .u8 part).toArray 110)) (some ⟨w3.heap.size, 0, none⟩) (Value.int .i64 ((pg : Int) * 8 + (j : Int)) :: ns .u8 part) := At.whole (heap_alloc_new w3.drew _)
        have honeA : ∀ u ∈ (Value.int .i64 ((pg : Int) * 8 + (j : Int)) :: ns .u8 part), u.oneCell' = true := by
          intro u hu
          rcases List.mem_cons.1 hu with rfl | hu
          · rfl
          · exact ns_one .u8 part u hu
        have hbaseA : n0 ≤ (w3.drew.alloc (.cells (Value.int .i64 ((pg : Int) * 8 + (j : Int)) :: ns .u8 part).toArray 110)).heap.size := by
          have e1 := hch2.size
          have e2 := hch3.size
          rw [sz_alloc]
          show n0 ≤ w3.heap.size + 1
          omega
        have hrecA := hrec3.keep (w' := w3.drew.alloc (.cells (Value.int .i64 ((pg : Int) * 8 + (j : Int)) :: ns .u8 part).toArray 110)) (G := fun _ => False) (((Chg.refl _ w3).drew).alloc _) (fun h => h)
        have HRECA := Lib.hid hrecA
        clear hrecA
        have NC := Lib.hid nC
        have HOWN := Lib.hid hownA
        have HATA := Lib.hid hAtA
        have HONE := Lib.hid honeA
        have HBASE := Lib.hid hbaseA
        have HPP := Lib.hid hpp
        clear nC hownA hAtA honeA hbaseA hown3
        have HKEEP := Lib.hid hcl
        have HPART := Lib.hid hpart
        have HKL := Lib.hid hkl
        have HRG := Lib.hid hrange
        clear hpart hkl hA hrange
        have HSEP := Lib.hid hne
        have hSA := hS0.chg (((Chg.refl (fun _ => False) w3.drew).alloc (.cells (Value.int .i64 ((pg : Int) * 8 + (j : Int)) :: ns .u8 part).toArray 110))) (fun h => h) (fun h => h) (fun h => h)
        have HS0 := Lib.hid hS0
        have HSA := Lib.hid hSA
        clear hS0 hSA
        go_wp2_with fail
        refine wp_region_noPanic ?_
        refine AnyL.start 20 (PutS p bd bb gb go (1024) r.c (D.cache.length + j) cap V []) (by kernel_rfl) ?_
        refine AnyL.take (i := 0) (oi := { dst := some 45, op := Op.load 26 (Operand.tmp 1), type := 26, pos := "disk.go:117", after := #[], guard := none }) (v := ?_) rfl (by kernel_rfl) (by kernel_rfl) (by kernel_rfl) (by kernel_rfl) (fun _ _ _ h => h) (Or.inl ⟨by rfl, ?_⟩) HS0.out ?_
        rotate_left
        · (intro w5 hSw; obtain ⟨s1, s2, s3⟩ := hSw; go_simp; try with_reducible rfl)
        simp only [Act.put, List.setIfInBounds_toArray, List.set_cons_zero, List.set_cons_succ]
        refine AnyL.take (i := 1) (oi := { dst := some 46, op := Op.load 26 (Operand.tmp 1), type := 26, pos := "disk.go:117", after := #[], guard := none }) (v := ?_) rfl (by kernel_rfl) (by kernel_rfl) (by kernel_rfl) (by kernel_rfl) (fun _ _ _ h => h) (Or.inl ⟨by rfl, ?_⟩) HS0.out ?_
        rotate_left
        · (intro w5 hSw; obtain ⟨s1, s2, s3⟩ := hSw; go_simp; try with_reducible rfl)
        simp only [Act.put, List.setIfInBounds_toArray, List.set_cons_zero, List.set_cons_succ]
        refine AnyL.take (i := 2) (oi := { dst := some 47, op := Op.nilCheck (Operand.tmp 46), type := 0, pos := "disk.go:117", after := #[{ on := 1, ground := Ground.data }], guard := none }) (v := ?_) rfl (by kernel_rfl) (by kernel_rfl) (by kernel_rfl) (by kernel_rfl) (fun _ _ _ h => h) (Or.inl ⟨by rfl, ?_⟩) HS0.out ?_
        rotate_left
        · (intro w5 hSw; obtain ⟨s1, s2, s3⟩ := hSw; go_simp; try with_reducible rfl)
        simp only [Act.put, List.setIfInBounds_toArray, List.set_cons_zero, List.set_cons_succ]
        refine AnyL.take (i := 3) (oi := { dst := some 48, op := Op.fieldAddr 104 (Operand.tmp 47) 1, type := 0, pos := "disk.go:117", after := #[{ on := 2, ground := Ground.data }], guard := none }) (v := ?_) rfl (by kernel_rfl) (by kernel_rfl) (by kernel_rfl) (by kernel_rfl) (fun _ _ _ h => h) (Or.inl ⟨by rfl, ?_⟩) HS0.out ?_
        rotate_left
        · (intro w5 hSw; obtain ⟨s1, s2, s3⟩ := hSw; go_simp; try with_reducible rfl)
        simp only [Act.put, List.setIfInBounds_toArray, List.set_cons_zero, List.set_cons_succ]
        refine AnyL.take (i := 4) (oi := { dst := some 49, op := Op.load 102 (Operand.tmp 48), type := 102, pos := "disk.go:117", after := #[{ on := 3, ground := Ground.data }], guard := none }) (v := ?_) rfl (by kernel_rfl) (by kernel_rfl) (by kernel_rfl) (by kernel_rfl) (fun _ _ _ h => h) (Or.inl ⟨by rfl, ?_⟩) HS0.out ?_
        rotate_left
        · (intro w5 hSw; obtain ⟨s1, s2, s3⟩ := hSw; go_simp; try with_reducible rfl)
        simp only [Act.put, List.setIfInBounds_toArray, List.set_cons_zero, List.set_cons_succ]
        refine AnyL.take (i := 5) (oi := { dst := some 50, op := Op.move (Operand.tmp 5), type := 3, pos := "disk.go:117", after := #[], guard := none }) (v := ?_) rfl (by kernel_rfl) (by kernel_rfl) (by kernel_rfl) (by kernel_rfl) (fun _ _ _ h => h) (Or.inl ⟨by rfl, ?_⟩) HS0.out ?_
        rotate_left
        · (intro w5 hSw; obtain ⟨s1, s2, s3⟩ := hSw; go_simp; try with_reducible rfl)
        simp only [Act.put, List.setIfInBounds_toArray, List.set_cons_zero, List.set_cons_succ]
        refine AnyL.take (i := 6) (oi := { dst := some 51, op := Op.load 22 (Operand.tmp 2), type := 22, pos := "disk.go:117", after := #[], guard := none }) (v := ?_) rfl (by kernel_rfl) (by kernel_rfl) (by kernel_rfl) (by kernel_rfl) (fun _ _ _ h => h) (Or.inl ⟨by rfl, ?_⟩) HS0.out ?_
        rotate_left
        · (intro w5 hSw; obtain ⟨s1, s2, s3⟩ := hSw; go_simp; try with_reducible rfl)
        simp only [Act.put, List.setIfInBounds_toArray, List.set_cons_zero, List.set_cons_succ]
        refine AnyL.take (i := 7) (oi := { dst := some 52, op := Op.move (Operand.tmp 4), type := 3, pos := "disk.go:117", after := #[], guard := none }) (v := ?_) rfl (by kernel_rfl) (by kernel_rfl) (by kernel_rfl) (by kernel_rfl) (fun _ _ _ h => h) (Or.inl ⟨by rfl, ?_⟩) HS0.out ?_
        rotate_left
        · (intro w5 hSw; obtain ⟨s1, s2, s3⟩ := hSw; go_simp; try with_reducible rfl)
        simp only [Act.put, List.setIfInBounds_toArray, List.set_cons_zero, List.set_cons_succ]
        refine AnyL.take (i := 8) (oi := { dst := some 53, op := Op.binOp BinOp.mul 3 (Operand.tmp 52) (Operand.const (Value.int IntKind.i64 128)) 3, type := 3, pos := "disk.go:117", after := #[{ on := 7, ground := Ground.data }], guard := none }) (v := ?_) rfl (by kernel_rfl) (by kernel_rfl) (by kernel_rfl) (by kernel_rfl) (fun _ _ _ h => h) (Or.inl ⟨by rfl, ?_⟩) HS0.out ?_
        rotate_left
        · (intro w5 hSw; obtain ⟨s1, s2, s3⟩ := hSw; go_simp; try with_reducible rfl)
        simp only [Act.put, List.setIfInBounds_toArray, List.set_cons_zero, List.set_cons_succ]
        refine AnyL.take (i := 9) (oi := { dst := some 54, op := Op.move (Operand.tmp 4), type := 3, pos := "disk.go:117", after := #[], guard := none }) (v := ?_) rfl (by kernel_rfl) (by kernel_rfl) (by kernel_rfl) (by kernel_rfl) (fun _ _ _ h => h) (Or.inl ⟨by rfl, ?_⟩) HS0.out ?_
        rotate_left
        · (intro w5 hSw; obtain ⟨s1, s2, s3⟩ := hSw; go_simp; try with_reducible rfl)
        simp only [Act.put, List.setIfInBounds_toArray, List.set_cons_zero, List.set_cons_succ]
        refine AnyL.take (i := 10) (oi := { dst := some 55, op := Op.binOp BinOp.add 3 (Operand.tmp 54) (Operand.const (Value.int IntKind.i64 1)) 3, type := 3, pos := "disk.go:117", after := #[{ on := 9, ground := Ground.data }], guard := none }) (v := ?_) rfl (by kernel_rfl) (by kernel_rfl) (by kernel_rfl) (by kernel_rfl) (fun _ _ _ h => h) (Or.inl ⟨by rfl, ?_⟩) HS0.out ?_
        rotate_left
        · (intro w5 hSw; obtain ⟨s1, s2, s3⟩ := hSw; go_simp; try with_reducible rfl)
        simp only [Act.put, List.setIfInBounds_toArray, List.set_cons_zero, List.set_cons_succ]
        refine AnyL.take (i := 11) (oi := { dst := some 56, op := Op.binOp BinOp.mul 3 (Operand.tmp 55) (Operand.const (Value.int IntKind.i64 128)) 3, type := 3, pos := "disk.go:117", after := #[{ on := 10, ground := Ground.data }], guard := none }) (v := ?_) rfl (by kernel_rfl) (by kernel_rfl) (by kernel_rfl) (by kernel_rfl) (fun _ _ _ h => h) (Or.inl ⟨by rfl, ?_⟩) HS0.out ?_
        rotate_left
        · (intro w5 hSw; obtain ⟨s1, s2, s3⟩ := hSw; go_simp; try with_reducible rfl)
        simp only [Act.put, List.setIfInBounds_toArray, List.set_cons_zero, List.set_cons_succ]
        refine AnyL.one (i := 12) (o := { dst := some 57, op := Op.slice 22 (Operand.tmp 51) (some (Operand.tmp 53)) (some (Operand.tmp 56)) none, type := 22, pos := "disk.go:117", after := #[{ on := 6, ground := Ground.data }, { on := 8, ground := Ground.data }, { on := 11, ground := Ground.data }], guard := none }) (by kernel_rfl) rfl (by rfl) (fun K hK => ?_)
        have HKK := Lib.hid hK
        clear hK
        go_simp
        replace hK := HKK.out
        refine hK _ _ (fun _ => HS0.out) ?_
        (try clear HKK); (try clear hK); (try clear K)
        try simp only [Act.put, List.setIfInBounds_toArray, List.set_cons_zero, List.set_cons_succ]
        refine AnyL.one (i := 13) (o := { dst := some 58, op := Op.sliceToArrayPointer 108 (Operand.tmp 57), type := 0, pos := "disk.go:117", after := #[{ on := 12, ground := Ground.data }], guard := none }) (by kernel_rfl) rfl (by rfl) (fun K hK => ?_)
        have HKK := Lib.hid hK
        clear hK
        go_simp
        replace hK := HKK.out
        refine hK _ _ (fun _ => HS0.out) ?_
        (try clear HKK); (try clear hK); (try clear K)
        try simp only [Act.put, List.setIfInBounds_toArray, List.set_cons_zero, List.set_cons_succ]
        refine AnyL.one (i := 14) (o := { dst := some 59, op := Op.load 108 (Operand.tmp 58), type := 108, pos := "disk.go:117", after := #[{ on := 13, ground := Ground.data }], guard := none }) (by kernel_rfl) rfl (by rfl) (fun K hK => ?_)
        refine wp_load_mid _ _ rfl _ _ rfl (ns .u8 part) _ hrg u183 rfl i183 ?_
        refine hK _ _ (fun _ => HS0.out) ?_
        (try clear HKK); (try clear hK); (try clear K)
        try simp only [Act.put, List.setIfInBounds_toArray, List.set_cons_zero, List.set_cons_succ]
        refine AnyL.one (i := 15) (o := { dst := some 60, op := Op.build 110 #[(0, Operand.tmp 50), (1, Operand.tmp 59)], type := 110, pos := "disk.go:117", after := #[{ on := 5, ground := Ground.data }, { on := 14, ground := Ground.data }], guard := none }) (by kernel_rfl) rfl (by rfl) (fun K hK => ?_)
        have HKK := Lib.hid hK
        clear hK
        go_simp
        replace hK := HKK.out
        refine hK _ _ (fun _ => HS0.out) ?_
        (try clear HKK); (try clear hK); (try clear K)
        try simp only [Act.put, List.setIfInBounds_toArray, List.set_cons_zero, List.set_cons_succ]
        refine AnyL.one (i := 16) (o := { dst := some 61, op := Op.buildSlice 102 1 #[(0, Operand.tmp 60)], type := 102, pos := "disk.go:117", after := #[{ on := 15, ground := Ground.data }], guard := none }) (by kernel_rfl) rfl (by rfl) (fun K hK => ?_)
        have HKK := Lib.hid hK
        clear hK
        go_simp
        replace hK := HKK.out
        refine hK _ _ (fun _ => HSA.out) ?_
        (try clear HKK); (try clear hK); (try clear K)
        try simp only [Act.put, List.setIfInBounds_toArray, List.set_cons_zero, List.set_cons_succ]
        refine AnyL.one (i := 17) (o := { dst := some 62, op := Op.call { callee := Callee.builtin Builtin.append, args := #[Operand.tmp 49, Operand.tmp 61], argTypes := #[102, 102] }, type := 102, pos := "disk.go:117", after := #[{ on := 4, ground := Ground.data }, { on := 16, ground := Ground.data }], guard := none }) (by kernel_rfl) rfl (by rfl) (fun K hK => ?_)
        refine oper_append2 (.tmp 49) (.tmp 61) 102 110 (.agg zero129) 129 136 rfl Tryz.underlying102 Tryz.info185z zero129_agg (by decide) n0 (.slice V (D.cache.length + j) cap) (D.cache.length + j) _ rfl HOWN.out ⟨w3.heap.size, 0, none⟩ 1 1 _ rfl hbl HATA.out HONE.out (by omega) (by omega) HBASE.out ?_
        intro v4 w4 ho4 hor4
        obtain ⟨V4, cap4, rfl, _⟩ := At.own ho4
        have hrec4 := HRECA.out.keep (push_chg hor4) (fun h => (NC.out _ h).2.2.2.1 rfl)
        have q1 : w4.cell? ⟨p, 1, none⟩ = some (.slice V (D.put (8 * pg) r.l j).cache.length cap) := hrec4.cell 1 (by omega)
        have q2 := hrec4.frozen 1
        have hS4 := HSA.out.chg (push_chg hor4) (fun h => (NC.out _ h).1 rfl) (fun h => (NC.out _ h).2.1 rfl) (fun h => (NC.out _ h).2.2.2.1 rfl)
        have HS4 := Lib.hid hS4
        have HREC4 := Lib.hid hrec4
        have HO4 := Lib.hid ho4
        have HOR4 := Lib.hid hor4
        clear hrec4 ho4 hor4 hS4
        refine hK _ _ (fun _ => HS4.out) ?_
        (try clear HKK); (try clear hK); (try clear K)
        try simp only [Act.put, List.setIfInBounds_toArray, List.set_cons_zero, List.set_cons_succ]
        refine AnyL.one (i := 18) (o := { dst := some 63, op := Op.nilCheck (Operand.tmp 45), type := 0, pos := "disk.go:117", after := #[{ on := 0, ground := Ground.data }, { on := 0, ground := Ground.phase }, { on := 1, ground := Ground.phase }, { on := 2, ground := Ground.phase }, { on := 3, ground := Ground.phase }, { on := 4, ground := Ground.phase }, { on := 5, ground := Ground.phase }, { on := 6, ground := Ground.phase }, { on := 7, ground := Ground.phase }, { on := 8, ground := Ground.phase }, { on := 9, ground := Ground.phase }, { on := 10, ground := Ground.phase }, { on := 11, ground := Ground.phase }, { on := 12, ground := Ground.phase }, { on := 13, ground := Ground.phase }, { on := 14, ground := Ground.phase }, { on := 15, ground := Ground.phase }, { on := 16, ground := Ground.phase }, { on := 17, ground := Ground.phase }], guard := none }) (by kernel_rfl) rfl (by rfl) (fun K hK => ?_)
        have HKK := Lib.hid hK
        clear hK
        go_simp
        replace hK := HKK.out
        refine hK _ _ (fun _ => HS4.out) ?_
        (try clear HKK); (try clear hK); (try clear K)
        try simp only [Act.put, List.setIfInBounds_toArray, List.set_cons_zero, List.set_cons_succ]
        refine AnyL.one (i := 19) (o := { dst := some 64, op := Op.fieldAddr 104 (Operand.tmp 63) 1, type := 0, pos := "disk.go:117", after := #[{ on := 18, ground := Ground.data }, { on := 0, ground := Ground.phase }, { on := 1, ground := Ground.phase }, { on := 2, ground := Ground.phase }, { on := 3, ground := Ground.phase }, { on := 4, ground := Ground.phase }, { on := 5, ground := Ground.phase }, { on := 6, ground := Ground.phase }, { on := 7, ground := Ground.phase }, { on := 8, ground := Ground.phase }, { on := 9, ground := Ground.phase }, { on := 10, ground := Ground.phase }, { on := 11, ground := Ground.phase }, { on := 12, ground := Ground.phase }, { on := 13, ground := Ground.phase }, { on := 14, ground := Ground.phase }, { on := 15, ground := Ground.phase }, { on := 16, ground := Ground.phase }, { on := 17, ground := Ground.phase }], guard := none }) (by kernel_rfl) rfl (by rfl) (fun K hK => ?_)
        have HKK := Lib.hid hK
        clear hK
        go_simp
        replace hK := HKK.out
        refine hK _ _ (fun _ => HS4.out) ?_
        (try clear HKK); (try clear hK); (try clear K)
        try simp only [Act.put, List.setIfInBounds_toArray, List.set_cons_zero, List.set_cons_succ]
        refine AnyL.one (i := 20) (o := { dst := none, op := Op.store 102 (Operand.tmp 64) (Operand.tmp 62), type := 0, pos := "disk.go:117", after := #[{ on := 19, ground := Ground.data }, { on := 17, ground := Ground.data }, { on := 17, ground := Ground.chain }, { on := 0, ground := Ground.phase }, { on := 1, ground := Ground.phase }, { on := 2, ground := Ground.phase }, { on := 3, ground := Ground.phase }, { on := 4, ground := Ground.phase }, { on := 5, ground := Ground.phase }, { on := 6, ground := Ground.phase }, { on := 7, ground := Ground.phase }, { on := 8, ground := Ground.phase }, { on := 9, ground := Ground.phase }, { on := 10, ground := Ground.phase }, { on := 11, ground := Ground.phase }, { on := 12, ground := Ground.phase }, { on := 13, ground := Ground.phase }, { on := 14, ground := Ground.phase }, { on := 15, ground := Ground.phase }, { on := 16, ground := Ground.phase }, { on := 17, ground := Ground.phase }], guard := none }) (by kernel_rfl) rfl (by rfl) (fun K hK => ?_)
        have HKK := Lib.hid hK
        clear hK
        go_simp
        replace hK := HKK.out
        refine hK _ _ (fun h => by simp at h) ?_
        (try clear HKK); (try clear hK); (try clear K)
        try simp only [Act.put, List.setIfInBounds_toArray, List.set_cons_zero, List.set_cons_succ]
        refine AnyL.done (by kernel_rfl) ?_
        refine NoPanic.normal ?_
        have hst := put_step (a := a) (part := part) hin2 (by rw [HKEEP.out]; rw [show ((D.cache.length + j : Nat) : Int) = (D.cache.length : Int) + (j : Int) from by push_cast; rfl]; exact hm3) hg3 (below_alloc0 (below_drew0 (Below.refl w3.heap.size w3)) (.cells (Value.int .i64 ((pg : Int) * 8 + (j : Int)) :: ns .u8 part).toArray 110)) (by rw [HKEEP.out]; have h5 := HO4.out; rw [show wcell (a, part) = (Value.int .i64 ((pg : Int) * 8 + (j : Int)) :: ns .u8 part) from by unfold wcell; rw [HA8.out]]; exact h5) (by have h6 := HOR4.out; rw [HKEEP.out]; exact h6)
        rw [HKEEP.out] at hst
        have HST := Lib.hid hst
        clear hst
        go_wp2_with fail
        go_roundw
        case rel =>
          obtain ⟨t1, t2, t3⟩ := HST.out
          have hput : D.put (8 * pg) r.l (j + 1) = { D.put (8 * pg) r.l j with cache := (D.put (8 * pg) r.l j).cache ++ [(a, part)] } := by
            unfold Dsk.put
            simp only [puts, ← List.append_assoc]
            rw [HPART.out, HA7.out]
          have hchf := hch2.trans t2 (fun g hg1 hg2 => by
            rcases hSq g (foot_len hg2) with h | ⟨h, _⟩
            · exact h
            · omega)
          refine ⟨j + 1, by have := HLEN.out; omega, by go_num, ?_, hchf⟩
          rw [hput]
          refine ⟨by rw [← hput]; exact D.put_ok HD.out.1 HR.out.bytes (by have := HLEN.out; omega) (by obtain ⟨z1, z2, z3, z4⟩ := HD.out.1.pages; have := HPG.out; unfold Dsk.pages at this; omega), _, _, t1, fun g hg => ?_⟩
          have hlt := (t1.lt hg).2
          rcases t3 g hg with h | h
          · rcases hSq g (foot_len h) with h | ⟨h, _⟩
            · exact .inl h
            · exact .inr ⟨h, hlt⟩
          · exact .inr ⟨Nat.le_trans hch2.size h, hlt⟩
        case measure => have := HLEN.out; simp [intOf]; omega
      · have hjk : j = k := by have := HL.out; have := HLEN.out; omega
        subst hjk
        have hj2 : 1024 ≤ j * 128 ∨ True := .inr trivial
        have hge : ¬ ((j : Int) * 128 < (1024 : Int)) := by have := HL.out; have := HLEN.out; omega
        have HF := Lib.hid (show DiskAt n0 wr p (D.put (8 * pg) r.l j) (fun g => S g ∨ (w.heap.size ≤ g ∧ g < wr.heap.size)) from ⟨dok, q, M, hin, hft⟩)
        clear hin hft dok hj2
        go_wp2_with fail
        go_ret
        exact ⟨rfl, HF.out, hch⟩
  · have q1 : ((r.l.length : Int) == 1024) = (r.l.length == 1024) := by rw [hlen]; rfl
    have HLEN := Lib.hid hlen
    rw [hlen] at c3
    clear hlen q1 g1
    go_enter Tryz.func39, Tryz.ntmps39
    go_wp2_with fail
    go_quiet ((go_at_call 40; exact Calls.quiet_of_same (HP.out _)))
    go_wp2_with fail
    have hstart : DiskAt n0 (w.drewN nq) p (D.put (8 * pg) r.l 0) (fun g => S g ∨ (w.heap.size ≤ g ∧ g < (w.drewN nq).heap.size)) := by
      have := HD.out.below (below_drewN (Below.refl w.heap.size w) nq)
      have e : D.put (8 * pg) r.l 0 = D := by simp [Dsk.put, puts]
      rw [e]
      exact this.mono fun g _ _ hg => .inl hg
    have hchg : Chg S w (w.drewN nq) := (Chg.refl S w).drewN nq
    go_loopw [4] (fun i wr => ∃ j : Nat, 128 * j ≤ r.l.length ∧ i = .int .i64 j ∧ DiskAt n0 wr p (D.put (8 * pg) r.l j) (fun g => S g ∨ (w.heap.size ≤ g ∧ g < wr.heap.size)) ∧ Chg S w wr) (fun i _ => r.l.length - 128 * (intOf i).toNat)
    case atStart => exact ⟨0, by omega, rfl, hstart, hchg⟩
    case round =>
      clear hstart hchg c1 c2 c3
      obtain ⟨j, hj, rfl, hd, hch⟩ := hrel
      have b1 := H1.out.keep hch (fun h => (HS.out _ h).1 rfl)
      have b2 := H2.out.keep hch (fun h => (HS.out _ h).2.1 rfl)
      have b3 := H3.out.keep hch (fun h => (HS.out _ h).2.2.1 rfl)
      have c1 := b1.cell
      have c2 := b2.cell
      have c3 := b3.cell
      rw [HLEN.out, HA.out] at c3
      rw [HLEN.out] at hj
      obtain ⟨dok, q, M, hin, hft⟩ := hd
      by_cases hlt : 128 * (j + 1) ≤ r.l.length
      · have hj8 : j < 8 := by have := HLEN.out; omega
        obtain ⟨qb, qC, qm⟩ := q
        have hC := hin.cache
        obtain ⟨V, cap, hCV, _⟩ := At.own hC
        simp only at hCV
        subst hCV
        have d1 : wr.cell? ⟨p, 1, none⟩ = some (.slice V (D.put (8 * pg) r.l j).cache.length cap) := hin.rcd.cell 1 (by omega)
        have d2 : wr.cell? ⟨p, 2, none⟩ = some (.map (some qm)) := hin.rcd.cell 2 (by omega)
        have hcl : (D.put (8 * pg) r.l j).cache.length = D.cache.length + j := by simp [Dsk.put, puts_length]
        rw [hcl] at d1
        rw [HLEN.out] at hlt
        go_wp2_with fail
        go_still_tail 10, (by kernel_rfl)
        change wpList _ _ _ _ _ wr.drew
        have hin2 := hin.keep (w' := wr.drew) (G := fun _ => False) ((Chg.refl _ wr).drew) (fun _ _ h => h)
        have hch2 := hch.drew
        have e1 := b1.keep (w' := wr.drew) (G := fun _ => False) ((Chg.refl _ wr).drew) (fun h => h)
        have e2 := b2.keep (w' := wr.drew) (G := fun _ => False) ((Chg.refl _ wr).drew) (fun h => h)
        have e3 := b3.keep (w' := wr.drew) (G := fun _ => False) ((Chg.refl _ wr).drew) (fun h => h)
        have hsz2 : wr.drew.heap.size = wr.heap.size := rfl
        clear hin hch b1 b2 b3 c1 c2 c3 d1 d2 hC
        generalize wr.drew = w2 at *
        obtain ⟨a, ha⟩ : ∃ a, a = 8 * pg + j := ⟨_, rfl⟩
        have HA7 := Lib.hid ha
        have HA8 := Lib.hid (show ((a : Nat) : Int) = (pg : Int) * 8 + (j : Int) by rw [ha]; push_cast; omega)
        have hkl : Lit.int .i64 ((pg : Int) * 8 + (j : Int)) = seenKey a := by unfold seenKey; rw [ha]; congr 1; push_cast; omega
        have hkey : keyOf Tryz.prog 3 (.int .i64 ((pg : Int) * 8 + (j : Int))) = some (seenKey a) := by rw [← hkl]; exact keyOf_int_mk Tryz.underlying3 (by go_wf)
        have hmap := hin2.map
        rw [hcl] at hmap
        refine wpList_mapUpdate_own (H := Unit) w2 rfl _ _ _ 99 rfl 3 3 key3 Tryz.underlying99 (plainElem Tryz.prog 3) qm (D.cache.length + j) M rfl hmap (by unfold maxLen; omega) _ _ _ rfl rfl hkey _ [] (plainElem_int Tryz.underlying3 (by go_wf)) ?_
        intro w3 hm3 hg3
        have hA := HA.out
        have hrange := HRANGE.out
        have hch3 : Chg (fun g => g = qm) w2 w3 := .of_grown hg3 (fun g hg => by cases hg; rfl)
        have hSq : ∀ g, Dparts.foot p ⟨qb, .slice V (D.put (8 * pg) r.l j).cache.length cap, qm⟩ g → S g ∨ (w.heap.size ≤ g ∧ g < wr.heap.size) := hft
        have hglt : gb < w.heap.size := World.block_lt_of_cell? w _ (hrange 0 _ (ns_get .u8 r.l 0 (by have := HLEN.out; omega)))
        have hne : ∀ g, Dparts.foot p ⟨qb, .slice V (D.put (8 * pg) r.l j).cache.length cap, qm⟩ g → g ≠ bd ∧ g ≠ bb ∧ g ≠ gb := by
          intro g hg
          have l2 := H2.out.lt
          have l3 := H3.out.lt
          rcases hSq g hg with h | ⟨h, _⟩
          · have := HS.out g h
            exact ⟨this.2.1, this.2.2.1, fun e => this.2.2.2 _ hA e.symm⟩
          · exact ⟨by omega, by omega, by omega⟩
        have hqm := hne qm (.inr (.inr (.inl rfl)))
        have hpp := hne p (.inl rfl)
        have m2 := (e2.keep hch3 (fun h => hqm.1 h.symm)).cell
        have m3 := (e3.keep hch3 (fun h => hqm.2.1 h.symm)).cell
        rw [hA, HLEN.out] at m3
        have hrec3 := hin2.rcd.keep hch3 (fun h => hin2.sep.2.1 h)
        have m1 : w3.cell? ⟨p, 1, none⟩ = some (.slice V (D.put (8 * pg) r.l j).cache.length cap) := hrec3.cell 1 (by omega)
        rw [hcl] at m1
        have mfr : w3.frozen? ⟨p, 1, none⟩ = false := hrec3.frozen 1
        have hown3 := own_chg hin2.cache hch3 (fun g hg h => hin2.sep.2.2.2.2.2 (by rw [← h]; exact hg))
        obtain ⟨part, hpart⟩ : ∃ x, x = (r.l.drop (128 * j)).take 128 := ⟨_, rfl⟩
        have hpl : part.length = 128 := by rw [hpart, List.length_take, List.length_drop, HLEN.out]; omega
        have hrg : w3.rangeAt gb (go + j * 128) (ns .u8 part) := by
          intro i v hv
          have hi : i < 128 := by have := (List.getElem?_eq_some_iff.1 hv).1; rwa [ns_length, hpl] at this
          have h1 : (ns .u8 r.l)[j * 128 + i]? = some v := by
            rw [← hv, hpart]
            simp only [ns, List.getElem?_map, List.getElem?_take, List.getElem?_drop, if_pos hi]
            rw [show 128 * j + i = j * 128 + i by omega]
          have h2 := hrange _ _ h1
          have hSg : ¬ S gb := fun h => (HS.out _ h).2.2.2 _ hA rfl
          have h3 := (hch2.cell h2 hSg)
          have h4 := hch3.cell h3 (fun h => hqm.2.2 h.symm)
          rw [show go + j * 128 + i = go + (j * 128 + i) by omega]
          exact h4
        have hcr : 1024 ≤ r.c ∨ True := .inr trivial
        have hcap := HR.out.le
        rw [HLEN.out] at hcap
        have u183 := Tryz.underlying108
        have i183 : (Tryz.prog.info? 108).map (·.size) = some (ns .u8 part).length := by
          rw [ns_length, hpl]
          obtain ⟨i0, hi, hzz⟩ := Option.map_eq_some_iff.1 Tryz.info108
          simp only [Prod.mk.injEq] at hzz
          rw [hi]; simp [hzz.2.1]
        have harr := run_arrayAt
        have y1 : IntKind.i64.wrap ((j : Int) * 128) = (j : Int) * 128 := by rw [IntKind.wrap_i64]; omega
        have y2 : IntKind.i64.wrap ((j : Int) + 1) = (j : Int) + 1 := by rw [IntKind.wrap_i64]; omega
        have y3 : IntKind.i64.wrap (((j : Int) + 1) * 128) = ((j : Int) + 1) * 128 := by rw [IntKind.wrap_i64]; omega
        have y4 : (0 : Int) ≤ (j : Int) * 128 := by omega
        have y5 : (0 : Int) ≤ ((j : Int) + 1) * 128 := by omega
        have y6 : (j : Int) * 128 ≤ ((j : Int) + 1) * 128 := by omega
        have y7 : ((j : Int) + 1) * 128 ≤ (r.c : Int) := by omega
        have y8 : ((j : Int) * 128).toNat = j * 128 := by omega
        have y9 : (((j : Int) + 1) * 128).toNat = (j + 1) * 128 := by omega
        have y10 : (j + 1) * 128 - j * 128 = 128 := by omega
        have y11 : ¬ (r.c = j * 128) := by omega
        have y13 : (j : Int) ≤ (j : Int) + 1 := by omega
        have y12 : ¬ (r.c - j * 128 = 0) := by omega
        have hS0 : PutS p bd bb gb go (128) r.c (D.cache.length + j) cap V [] w3.drew := ⟨m2, m3, m1⟩
        have hbl : (Value.int .i64 ((pg : Int) * 8 + (j : Int)) :: ns .u8 part).length = 129 := by rw [List.length_cons, ns_length, hpl]
        have hbl2 : (ns .u8 part).length = 128 := by rw [ns_length, hpl]
        have nC : ∀ g, blk (.slice V (D.cache.length + j) cap) g → g ≠ bd ∧ g ≠ bb ∧ g ≠ gb ∧ g ≠ p ∧ g ≠ qb ∧ g ≠ qm := by
          intro g hg
          rw [← hcl] at hg
          have h1 := hne g (.inr (.inr (.inr hg)))
          have h2 := hin2.sep
          exact ⟨h1.1, h1.2.1, h1.2.2, fun e => h2.2.2.2.1 (by rw [← e]; exact hg), fun e => h2.2.2.2.2.1 (by rw [← e]; exact hg), fun e => h2.2.2.2.2.2 (by rw [← e]; exact hg)⟩
        rw [hcl] at hown3
        have hownA := (hown3.drew).alloc (.cells (Value.int .i64 ((pg : Int) * 8 + (j : Int)) :: ns .u8 part).toArray 110)
        have hAtA : At (w3.drew.alloc (.cells (Value.int .i64 ((pg : Int) * 8 + (j : Int)) :: ns .u8 part).toArray 110)) (some ⟨w3.heap.size, 0, none⟩) (Value.int .i64 ((pg : Int) * 8 + (j : Int)) :: ns .u8 part) := At.whole (heap_alloc_new w3.drew _)
        have honeA : ∀ u ∈ (Value.int .i64 ((pg : Int) * 8 + (j : Int)) :: ns .u8 part), u.oneCell' = true := by
          intro u hu
          rcases List.mem_cons.1 hu with rfl | hu
          · rfl
          · exact ns_one .u8 part u hu
        have hbaseA : n0 ≤ (w3.drew.alloc (.cells (Value.int .i64 ((pg : Int) * 8 + (j : Int)) :: ns .u8 part).toArray 110)).heap.size := by
          have e1 := hch2.size
          have e2 := hch3.size
          rw [sz_alloc]
          show n0 ≤ w3.heap.size + 1
          omega
        have hrecA := hrec3.keep (w' := w3.drew.alloc (.cells (Value.int .i64 ((pg : Int) * 8 + (j : Int)) :: ns .u8 part).toArray 110)) (G := fun _ => False) (((Chg.refl _ w3).drew).alloc _) (fun h => h)
        have HRECA := Lib.hid hrecA
        clear hrecA
        have NC := Lib.hid nC
        have HOWN := Lib.hid hownA
        have HATA := Lib.hid hAtA
        have HONE := Lib.hid honeA
        have HBASE := Lib.hid hbaseA
        have HPP := Lib.hid hpp
        clear nC hownA hAtA honeA hbaseA hown3
        have HKEEP := Lib.hid hcl
        have HPART := Lib.hid hpart
        have HKL := Lib.hid hkl
        have HRG := Lib.hid hrange
        clear hpart hkl hA hrange
        have HSEP := Lib.hid hne
        have hSA := hS0.chg (((Chg.refl (fun _ => False) w3.drew).alloc (.cells (Value.int .i64 ((pg : Int) * 8 + (j : Int)) :: ns .u8 part).toArray 110))) (fun h => h) (fun h => h) (fun h => h)
        have HS0 := Lib.hid hS0
        have HSA := Lib.hid hSA
        clear hS0 hSA
        go_wp2_with fail
        refine wp_region_noPanic ?_
        refine AnyL.start 20 (PutS p bd bb gb go (128) r.c (D.cache.length + j) cap V []) (by kernel_rfl) ?_
        refine AnyL.take (i := 0) (oi := { dst := some 45, op := Op.load 26 (Operand.tmp 1), type := 26, pos := "disk.go:117", after := #[], guard := none }) (v := ?_) rfl (by kernel_rfl) (by kernel_rfl) (by kernel_rfl) (by kernel_rfl) (fun _ _ _ h => h) (Or.inl ⟨by rfl, ?_⟩) HS0.out ?_
        rotate_left
        · (intro w5 hSw; obtain ⟨s1, s2, s3⟩ := hSw; go_simp; try with_reducible rfl)
        simp only [Act.put, List.setIfInBounds_toArray, List.set_cons_zero, List.set_cons_succ]
        refine AnyL.take (i := 1) (oi := { dst := some 46, op := Op.load 26 (Operand.tmp 1), type := 26, pos := "disk.go:117", after := #[], guard := none }) (v := ?_) rfl (by kernel_rfl) (by kernel_rfl) (by kernel_rfl) (by kernel_rfl) (fun _ _ _ h => h) (Or.inl ⟨by rfl, ?_⟩) HS0.out ?_
        rotate_left
        · (intro w5 hSw; obtain ⟨s1, s2, s3⟩ := hSw; go_simp; try with_reducible rfl)
        simp only [Act.put, List.setIfInBounds_toArray, List.set_cons_zero, List.set_cons_succ]
        refine AnyL.take (i := 2) (oi := { dst := some 47, op := Op.nilCheck (Operand.tmp 46), type := 0, pos := "disk.go:117", after := #[{ on := 1, ground := Ground.data }], guard := none }) (v := ?_) rfl (by kernel_rfl) (by kernel_rfl) (by kernel_rfl) (by kernel_rfl) (fun _ _ _ h => h) (Or.inl ⟨by rfl, ?_⟩) HS0.out ?_
        rotate_left
        · (intro w5 hSw; obtain ⟨s1, s2, s3⟩ := hSw; go_simp; try with_reducible rfl)
        simp only [Act.put, List.setIfInBounds_toArray, List.set_cons_zero, List.set_cons_succ]
        refine AnyL.take (i := 3) (oi := { dst := some 48, op := Op.fieldAddr 104 (Operand.tmp 47) 1, type := 0, pos := "disk.go:117", after := #[{ on := 2, ground := Ground.data }], guard := none }) (v := ?_) rfl (by kernel_rfl) (by kernel_rfl) (by kernel_rfl) (by kernel_rfl) (fun _ _ _ h => h) (Or.inl ⟨by rfl, ?_⟩) HS0.out ?_
        rotate_left
        · (intro w5 hSw; obtain ⟨s1, s2, s3⟩ := hSw; go_simp; try with_reducible rfl)
        simp only [Act.put, List.setIfInBounds_toArray, List.set_cons_zero, List.set_cons_succ]
        refine AnyL.take (i := 4) (oi := { dst := some 49, op := Op.load 102 (Operand.tmp 48), type := 102, pos := "disk.go:117", after := #[{ on := 3, ground := Ground.data }], guard := none }) (v := ?_) rfl (by kernel_rfl) (by kernel_rfl) (by kernel_rfl) (by kernel_rfl) (fun _ _ _ h => h) (Or.inl ⟨by rfl, ?_⟩) HS0.out ?_
        rotate_left
        · (intro w5 hSw; obtain ⟨s1, s2, s3⟩ := hSw; go_simp; try with_reducible rfl)
        simp only [Act.put, List.setIfInBounds_toArray, List.set_cons_zero, List.set_cons_succ]
        refine AnyL.take (i := 5) (oi := { dst := some 50, op := Op.move (Operand.tmp 5), type := 3, pos := "disk.go:117", after := #[], guard := none }) (v := ?_) rfl (by kernel_rfl) (by kernel_rfl) (by kernel_rfl) (by kernel_rfl) (fun _ _ _ h => h) (Or.inl ⟨by rfl, ?_⟩) HS0.out ?_
        rotate_left
        · (intro w5 hSw; obtain ⟨s1, s2, s3⟩ := hSw; go_simp; try with_reducible rfl)
        simp only [Act.put, List.setIfInBounds_toArray, List.set_cons_zero, List.set_cons_succ]
        refine AnyL.take (i := 6) (oi := { dst := some 51, op := Op.load 22 (Operand.tmp 2), type := 22, pos := "disk.go:117", after := #[], guard := none }) (v := ?_) rfl (by kernel_rfl) (by kernel_rfl) (by kernel_rfl) (by kernel_rfl) (fun _ _ _ h => h) (Or.inl ⟨by rfl, ?_⟩) HS0.out ?_
        rotate_left
        · (intro w5 hSw; obtain ⟨s1, s2, s3⟩ := hSw; go_simp; try with_reducible rfl)
        simp only [Act.put, List.setIfInBounds_toArray, List.set_cons_zero, List.set_cons_succ]
        refine AnyL.take (i := 7) (oi := { dst := some 52, op := Op.move (Operand.tmp 4), type := 3, pos := "disk.go:117", after := #[], guard := none }) (v := ?_) rfl (by kernel_rfl) (by kernel_rfl) (by kernel_rfl) (by kernel_rfl) (fun _ _ _ h => h) (Or.inl ⟨by rfl, ?_⟩) HS0.out ?_
        rotate_left
        · (intro w5 hSw; obtain ⟨s1, s2, s3⟩ := hSw; go_simp; try with_reducible rfl)
        simp only [Act.put, List.setIfInBounds_toArray, List.set_cons_zero, List.set_cons_succ]
        refine AnyL.take (i := 8) (oi := { dst := some 53, op := Op.binOp BinOp.mul 3 (Operand.tmp 52) (Operand.const (Value.int IntKind.i64 128)) 3, type := 3, pos := "disk.go:117", after := #[{ on := 7, ground := Ground.data }], guard := none }) (v := ?_) rfl (by kernel_rfl) (by kernel_rfl) (by kernel_rfl) (by kernel_rfl) (fun _ _ _ h => h) (Or.inl ⟨by rfl, ?_⟩) HS0.out ?_
        rotate_left
        · (intro w5 hSw; obtain ⟨s1, s2, s3⟩ := hSw; go_simp; try with_reducible rfl)
        simp only [Act.put, List.setIfInBounds_toArray, List.set_cons_zero, List.set_cons_succ]
        refine AnyL.take (i := 9) (oi := { dst := some 54, op := Op.move (Operand.tmp 4), type := 3, pos := "disk.go:117", after := #[], guard := none }) (v := ?_) rfl (by kernel_rfl) (by kernel_rfl) (by kernel_rfl) (by kernel_rfl) (fun _ _ _ h => h) (Or.inl ⟨by rfl, ?_⟩) HS0.out ?_
        rotate_left
        · (intro w5 hSw; obtain ⟨s1, s2, s3⟩ := hSw; go_simp; try with_reducible rfl)
        simp only [Act.put, List.setIfInBounds_toArray, List.set_cons_zero, List.set_cons_succ]
        refine AnyL.take (i := 10) (oi := { dst := some 55, op := Op.binOp BinOp.add 3 (Operand.tmp 54) (Operand.const (Value.int IntKind.i64 1)) 3, type := 3, pos := "disk.go:117", after := #[{ on := 9, ground := Ground.data }], guard := none }) (v := ?_) rfl (by kernel_rfl) (by kernel_rfl) (by kernel_rfl) (by kernel_rfl) (fun _ _ _ h => h) (Or.inl ⟨by rfl, ?_⟩) HS0.out ?_
        rotate_left
        · (intro w5 hSw; obtain ⟨s1, s2, s3⟩ := hSw; go_simp; try with_reducible rfl)
        simp only [Act.put, List.setIfInBounds_toArray, List.set_cons_zero, List.set_cons_succ]
        refine AnyL.take (i := 11) (oi := { dst := some 56, op := Op.binOp BinOp.mul 3 (Operand.tmp 55) (Operand.const (Value.int IntKind.i64 128)) 3, type := 3, pos := "disk.go:117", after := #[{ on := 10, ground := Ground.data }], guard := none }) (v := ?_) rfl (by kernel_rfl) (by kernel_rfl) (by kernel_rfl) (by kernel_rfl) (fun _ _ _ h => h) (Or.inl ⟨by rfl, ?_⟩) HS0.out ?_
        rotate_left
        · (intro w5 hSw; obtain ⟨s1, s2, s3⟩ := hSw; go_simp; try with_reducible rfl)
        simp only [Act.put, List.setIfInBounds_toArray, List.set_cons_zero, List.set_cons_succ]
        refine AnyL.one (i := 12) (o := { dst := some 57, op := Op.slice 22 (Operand.tmp 51) (some (Operand.tmp 53)) (some (Operand.tmp 56)) none, type := 22, pos := "disk.go:117", after := #[{ on := 6, ground := Ground.data }, { on := 8, ground := Ground.data }, { on := 11, ground := Ground.data }], guard := none }) (by kernel_rfl) rfl (by rfl) (fun K hK => ?_)
        have HKK := Lib.hid hK
        clear hK
        go_simp
        replace hK := HKK.out
        refine hK _ _ (fun _ => HS0.out) ?_
        (try clear HKK); (try clear hK); (try clear K)
        try simp only [Act.put, List.setIfInBounds_toArray, List.set_cons_zero, List.set_cons_succ]
        refine AnyL.one (i := 13) (o := { dst := some 58, op := Op.sliceToArrayPointer 108 (Operand.tmp 57), type := 0, pos := "disk.go:117", after := #[{ on := 12, ground := Ground.data }], guard := none }) (by kernel_rfl) rfl (by rfl) (fun K hK => ?_)
        have HKK := Lib.hid hK
        clear hK
        go_simp
        replace hK := HKK.out
        refine hK _ _ (fun _ => HS0.out) ?_
        (try clear HKK); (try clear hK); (try clear K)
        try simp only [Act.put, List.setIfInBounds_toArray, List.set_cons_zero, List.set_cons_succ]
        refine AnyL.one (i := 14) (o := { dst := some 59, op := Op.load 108 (Operand.tmp 58), type := 108, pos := "disk.go:117", after := #[{ on := 13, ground := Ground.data }], guard := none }) (by kernel_rfl) rfl (by rfl) (fun K hK => ?_)
        refine wp_load_mid _ _ rfl _ _ rfl (ns .u8 part) _ hrg u183 rfl i183 ?_
        refine hK _ _ (fun _ => HS0.out) ?_
        (try clear HKK); (try clear hK); (try clear K)
        try simp only [Act.put, List.setIfInBounds_toArray, List.set_cons_zero, List.set_cons_succ]
        refine AnyL.one (i := 15) (o := { dst := some 60, op := Op.build 110 #[(0, Operand.tmp 50), (1, Operand.tmp 59)], type := 110, pos := "disk.go:117", after := #[{ on := 5, ground := Ground.data }, { on := 14, ground := Ground.data }], guard := none }) (by kernel_rfl) rfl (by rfl) (fun K hK => ?_)
        have HKK := Lib.hid hK
        clear hK
        go_simp
        replace hK := HKK.out
        refine hK _ _ (fun _ => HS0.out) ?_
        (try clear HKK); (try clear hK); (try clear K)
        try simp only [Act.put, List.setIfInBounds_toArray, List.set_cons_zero, List.set_cons_succ]
        refine AnyL.one (i := 16) (o := { dst := some 61, op := Op.buildSlice 102 1 #[(0, Operand.tmp 60)], type := 102, pos := "disk.go:117", after := #[{ on := 15, ground := Ground.data }], guard := none }) (by kernel_rfl) rfl (by rfl) (fun K hK => ?_)
        have HKK := Lib.hid hK
        clear hK
        go_simp
        replace hK := HKK.out
        refine hK _ _ (fun _ => HSA.out) ?_
        (try clear HKK); (try clear hK); (try clear K)
        try simp only [Act.put, List.setIfInBounds_toArray, List.set_cons_zero, List.set_cons_succ]
        refine AnyL.one (i := 17) (o := { dst := some 62, op := Op.call { callee := Callee.builtin Builtin.append, args := #[Operand.tmp 49, Operand.tmp 61], argTypes := #[102, 102] }, type := 102, pos := "disk.go:117", after := #[{ on := 4, ground := Ground.data }, { on := 16, ground := Ground.data }], guard := none }) (by kernel_rfl) rfl (by rfl) (fun K hK => ?_)
        refine oper_append2 (.tmp 49) (.tmp 61) 102 110 (.agg zero129) 129 136 rfl Tryz.underlying102 Tryz.info185z zero129_agg (by decide) n0 (.slice V (D.cache.length + j) cap) (D.cache.length + j) _ rfl HOWN.out ⟨w3.heap.size, 0, none⟩ 1 1 _ rfl hbl HATA.out HONE.out (by omega) (by omega) HBASE.out ?_
        intro v4 w4 ho4 hor4
        obtain ⟨V4, cap4, rfl, _⟩ := At.own ho4
        have hrec4 := HRECA.out.keep (push_chg hor4) (fun h => (NC.out _ h).2.2.2.1 rfl)
        have q1 : w4.cell? ⟨p, 1, none⟩ = some (.slice V (D.put (8 * pg) r.l j).cache.length cap) := hrec4.cell 1 (by omega)
        have q2 := hrec4.frozen 1
        have hS4 := HSA.out.chg (push_chg hor4) (fun h => (NC.out _ h).1 rfl) (fun h => (NC.out _ h).2.1 rfl) (fun h => (NC.out _ h).2.2.2.1 rfl)
        have HS4 := Lib.hid hS4
        have HREC4 := Lib.hid hrec4
        have HO4 := Lib.hid ho4
        have HOR4 := Lib.hid hor4
        clear hrec4 ho4 hor4 hS4
        refine hK _ _ (fun _ => HS4.out) ?_
        (try clear HKK); (try clear hK); (try clear K)
        try simp only [Act.put, List.setIfInBounds_toArray, List.set_cons_zero, List.set_cons_succ]
        refine AnyL.one (i := 18) (o := { dst := some 63, op := Op.nilCheck (Operand.tmp 45), type := 0, pos := "disk.go:117", after := #[{ on := 0, ground := Ground.data }, { on := 0, ground := Ground.phase }, { on := 1, ground := Ground.phase }, { on := 2, ground := Ground.phase }, { on := 3, ground := Ground.phase }, { on := 4, ground := Ground.phase }, { on := 5, ground := Ground.phase }, { on := 6, ground := Ground.phase }, { on := 7, ground := Ground.phase }, { on := 8, ground := Ground.phase }, { on := 9, ground := Ground.phase }, { on := 10, ground := Ground.phase }, { on := 11, ground := Ground.phase }, { on := 12, ground := Ground.phase }, { on := 13, ground := Ground.phase }, { on := 14, ground := Ground.phase }, { on := 15, ground := Ground.phase }, { on := 16, ground := Ground.phase }, { on := 17, ground := Ground.phase }], guard := none }) (by kernel_rfl) rfl (by rfl) (fun K hK => ?_)
        have HKK := Lib.hid hK
        clear hK
        go_simp
        replace hK := HKK.out
        refine hK _ _ (fun _ => HS4.out) ?_
        (try clear HKK); (try clear hK); (try clear K)
        try simp only [Act.put, List.setIfInBounds_toArray, List.set_cons_zero, List.set_cons_succ]
        refine AnyL.one (i := 19) (o := { dst := some 64, op := Op.fieldAddr 104 (Operand.tmp 63) 1, type := 0, pos := "disk.go:117", after := #[{ on := 18, ground := Ground.data }, { on := 0, ground := Ground.phase }, { on := 1, ground := Ground.phase }, { on := 2, ground := Ground.phase }, { on := 3, ground := Ground.phase }, { on := 4, ground := Ground.phase }, { on := 5, ground := Ground.phase }, { on := 6, ground := Ground.phase }, { on := 7, ground := Ground.phase }, { on := 8, ground := Ground.phase }, { on := 9, ground := Ground.phase }, { on := 10, ground := Ground.phase }, { on := 11, ground := Ground.phase }, { on := 12, ground := Ground.phase }, { on := 13, ground := Ground.phase }, { on := 14, ground := Ground.phase }, { on := 15, ground := Ground.phase }, { on := 16, ground := Ground.phase }, { on := 17, ground := Ground.phase }], guard := none }) (by kernel_rfl) rfl (by rfl) (fun K hK => ?_)
        have HKK := Lib.hid hK
        clear hK
        go_simp
        replace hK := HKK.out
        refine hK _ _ (fun _ => HS4.out) ?_
        (try clear HKK); (try clear hK); (try clear K)
        try simp only [Act.put, List.setIfInBounds_toArray, List.set_cons_zero, List.set_cons_succ]
        refine AnyL.one (i := 20) (o := { dst := none, op := Op.store 102 (Operand.tmp 64) (Operand.tmp 62), type := 0, pos := "disk.go:117", after := #[{ on := 19, ground := Ground.data }, { on := 17, ground := Ground.data }, { on := 17, ground := Ground.chain }, { on := 0, ground := Ground.phase }, { on := 1, ground := Ground.phase }, { on := 2, ground := Ground.phase }, { on := 3, ground := Ground.phase }, { on := 4, ground := Ground.phase }, { on := 5, ground := Ground.phase }, { on := 6, ground := Ground.phase }, { on := 7, ground := Ground.phase }, { on := 8, ground := Ground.phase }, { on := 9, ground := Ground.phase }, { on := 10, ground := Ground.phase }, { on := 11, ground := Ground.phase }, { on := 12, ground := Ground.phase }, { on := 13, ground := Ground.phase }, { on := 14, ground := Ground.phase }, { on := 15, ground := Ground.phase }, { on := 16, ground := Ground.phase }, { on := 17, ground := Ground.phase }], guard := none }) (by kernel_rfl) rfl (by rfl) (fun K hK => ?_)
        have HKK := Lib.hid hK
        clear hK
        go_simp
        replace hK := HKK.out
        refine hK _ _ (fun h => by simp at h) ?_
        (try clear HKK); (try clear hK); (try clear K)
        try simp only [Act.put, List.setIfInBounds_toArray, List.set_cons_zero, List.set_cons_succ]
        refine AnyL.done (by kernel_rfl) ?_
        refine NoPanic.normal ?_
        have hst := put_step (a := a) (part := part) hin2 (by rw [HKEEP.out]; rw [show ((D.cache.length + j : Nat) : Int) = (D.cache.length : Int) + (j : Int) from by push_cast; rfl]; exact hm3) hg3 (below_alloc0 (below_drew0 (Below.refl w3.heap.size w3)) (.cells (Value.int .i64 ((pg : Int) * 8 + (j : Int)) :: ns .u8 part).toArray 110)) (by rw [HKEEP.out]; have h5 := HO4.out; rw [show wcell (a, part) = (Value.int .i64 ((pg : Int) * 8 + (j : Int)) :: ns .u8 part) from by unfold wcell; rw [HA8.out]]; exact h5) (by have h6 := HOR4.out; rw [HKEEP.out]; exact h6)
        rw [HKEEP.out] at hst
        have HST := Lib.hid hst
        clear hst
        go_wp2_with fail
        go_roundw
        case rel =>
          obtain ⟨t1, t2, t3⟩ := HST.out
          have hput : D.put (8 * pg) r.l (j + 1) = { D.put (8 * pg) r.l j with cache := (D.put (8 * pg) r.l j).cache ++ [(a, part)] } := by
            unfold Dsk.put
            simp only [puts, ← List.append_assoc]
            rw [HPART.out, HA7.out]
          have hchf := hch2.trans t2 (fun g hg1 hg2 => by
            rcases hSq g (foot_len hg2) with h | ⟨h, _⟩
            · exact h
            · omega)
          refine ⟨j + 1, by have := HLEN.out; omega, by go_num, ?_, hchf⟩
          rw [hput]
          refine ⟨by rw [← hput]; exact D.put_ok HD.out.1 HR.out.bytes (by have := HLEN.out; omega) (by obtain ⟨z1, z2, z3, z4⟩ := HD.out.1.pages; have := HPG.out; unfold Dsk.pages at this; omega), _, _, t1, fun g hg => ?_⟩
          have hlt := (t1.lt hg).2
          rcases t3 g hg with h | h
          · rcases hSq g (foot_len h) with h | ⟨h, _⟩
            · exact .inl h
            · exact .inr ⟨h, hlt⟩
          · exact .inr ⟨Nat.le_trans hch2.size h, hlt⟩
        case measure => have := HLEN.out; simp [intOf]; omega
      · have hjk : j = k := by have := HL.out; have := HLEN.out; omega
        subst hjk
        have hj2 : 1024 ≤ j * 128 ∨ True := .inr trivial
        have hge : ¬ ((j : Int) * 128 < (128 : Int)) := by have := HL.out; have := HLEN.out; omega
        have HF := Lib.hid (show DiskAt n0 wr p (D.put (8 * pg) r.l j) (fun g => S g ∨ (w.heap.size ≤ g ∧ g < wr.heap.size)) from ⟨dok, q, M, hin, hft⟩)
        clear hin hft dok hj2
        go_wp2_with fail
        go_ret
        exact ⟨rfl, HF.out, hch⟩
end Go.Proofs.YtfbjjblgcgjndaaGreat

/- Contract of the disk's Write. -/
namespace Go.Proofs.YtfbjjblgcgjndaaGreat
open Go.RowKit Go.Maps

/-- more blocks: new ones -/
def Wide (S : Nat → Prop) (s s' : Nat) (g : Nat) : Prop := S g ∨ (s ≤ g ∧ g < s')
theorem DiskIn.turned {n0 : Nat} {w w' : World} {p : Nat} {D D' : Dsk} {q : Dparts} {M : DataW Unit} (h : DiskIn n0 w p D q M) (hr : RecAt w' p 104 13 (dcell (.slice (some ⟨q.b, 0, none⟩) D.last.length D.last.length) q.C q.m D')) (hc : Chg (OnlyP p) w w') (h1 : D'.last = D.last) (h2 : D'.cache = D.cache) : DiskIn n0 w' p D' q M := by
  obtain ⟨s1, s2, s3, s4, s5, s6⟩ := h.sep
  obtain ⟨b1, b2, b3, b4, b5⟩ := h.bases
  refine ⟨by rw [h1]; exact hr, ?_, ?_, ?_, by rw [h2]; exact h.seen, ⟨b1, b2, b3, Nat.lt_of_lt_of_le b4 hc.size, Nat.lt_of_lt_of_le b5 hc.size⟩, h.sep⟩
  · rw [h1]; exact h.last.keep hc (fun e => s1 (show q.b = p from e).symm) b4
  · rw [h2]; exact own_chg h.cache hc (fun g hg e => s4 (by rw [← show g = p from e]; exact hg))
  · rw [h2]; exact map_chg h.map hc (fun e => s2 (show q.m = p from e).symm) b5
theorem Dsk.begin_go {D : Dsk} {k : Nat} (h : (D.begin k).1 = 0) : (D.begin k).2 = D.go k := by
  unfold Dsk.begin at h ⊢
  split
  · rename_i a; rw [if_pos a] at h; simp at h
  · rename_i a; rw [if_neg a] at h
    split
    · rename_i b; rw [if_pos b] at h; simp at h
    · rename_i b; rw [if_neg b] at h
      split
      · rename_i c; rw [if_pos c] at h; simp at h
      · rfl
def Dsk.write (D : Dsk) (pg : Int) (b : List Nat) : Nat × Dsk :=
  if (D.begin 2).1 ≠ 0 then D.begin 2
  else if pg < 0 ∨ (D.pages : Int) ≤ pg then (2, D.go 2)
  else if b.length ≠ 1024 ∧ b.length ≠ 128 then (1, D.go 2)
  else (0, (D.go 2).put (8 * pg.toNat) b (b.length / 128))
/-- what a disk's operation leaves: a number, and the disk -/
def DiskGives (n0 : Nat) (w : World) (p : Nat) (S : Nat → Prop) (x : Nat) (D' : Dsk) (e : Ending) (w' : World) : Prop :=
  e = .returned (.int .u16 (x : Nat)) ∧ DiskAt n0 w' p D' (Wide S w.heap.size w'.heap.size) ∧ Chg S w w'

set_option maxRecDepth 100000 in
set_option maxHeartbeats 1000000 in
theorem disk_write (n0 : Nat) (w : World) (p : Nat) (D : Dsk) (S : Nat → Prop) (pg : Int) (r : Inner) (h : DiskAt n0 w p D S) (hr : r.Ok w) (hc : D.cache.length ≤ 1000000000000) (hn : D.n 2 ≤ 4611686018427387904) (hn0 : n0 ≤ w.heap.size)
    (hrS : ∀ a, r.A = some a → ¬ S a.block) (hSp : ∀ g, S g → g < w.heap.size) (hp : S p) :
    Calls Tryz.prog 8 #[.pointer (some ⟨p, 0, none⟩), .int .i64 pg, .slice r.A r.l.length r.c] w (DiskGives n0 w p S (D.write pg r.l).1 (D.write pg r.l).2) := by
  obtain ⟨w1, hw1⟩ : ∃ w1, w1 = ((w.alloc (.cells #[.pointer (some ⟨p, 0, none⟩)] 26)).alloc (.cells #[.int .i64 pg] 3)).alloc (.cells #[.slice r.A r.l.length r.c] 22) := ⟨_, rfl⟩
  have hb1 : Below w.heap.size w w1 := by rw [hw1]; exact below_alloc0 (below_alloc0 (below_alloc0 (Below.refl _ _) _) _) _
  have hz1 : w1.heap.size = w.heap.size + 3 := by rw [hw1]; simp only [sz_alloc]
  have B1 : Box w1 w.heap.size (.pointer (some ⟨p, 0, none⟩)) 26 := by unfold Box; rw [hw1]; simp only [hp_alloc, sz_alloc]; (repeat (first | rw [if_neg (by omega)] | rw [if_pos (by omega)] | rw [if_pos trivial]))
  have B2 : Box w1 (w.heap.size + 1) (.int .i64 pg) 3 := by unfold Box; rw [hw1]; simp only [hp_alloc, sz_alloc]; (repeat (first | rw [if_neg (by omega)] | rw [if_pos (by omega)] | rw [if_pos trivial]))
  have B3 : Box w1 (w.heap.size + 1 + 1) (.slice r.A r.l.length r.c) 22 := by unfold Box; rw [hw1]; simp only [hp_alloc, sz_alloc]; (repeat (first | rw [if_neg (by omega)] | rw [if_pos (by omega)] | rw [if_pos trivial]))
  have hd1 := h.below hb1
  have hr1 := hr.below hb1
  obtain ⟨ok, q, M, hin, hft⟩ := hd1
  have hcf : ∀ args w, (callFunc 39 args).run Tryz.prog w = .ok (.enter 39 args) w := fun args w => rfl
  have c1 := B1.cell
  have hop : Calls Tryz.prog 38 #[.pointer (some ⟨p, 0, none⟩), .int .i64 2, .func (.func 39) #[] #[.pointer (some ⟨w.heap.size + 1, 0, none⟩), .pointer (some ⟨w.heap.size, 0, none⟩), .pointer (some ⟨w.heap.size + 1 + 1, 0, none⟩)]] w1 (DiskGives n0 w p S (D.write pg r.l).1 (D.write pg r.l).2) := by
    have hw01 : Chg S w w1 := .of_below hb1
    by_cases hb : (D.begin 2).1 = 0
    · have key : Calls Tryz.prog 38 #[.pointer (some ⟨p, 0, none⟩), .int .i64 2, .func (.func 39) #[] #[.pointer (some ⟨w.heap.size + 1, 0, none⟩), .pointer (some ⟨w.heap.size, 0, none⟩), .pointer (some ⟨w.heap.size + 1 + 1, 0, none⟩)]] w1
          (fun e w'' => ∃ x : Nat, e = .returned (.int .u16 (x : Nat)) ∧ (x = (D.write pg r.l).1 ∧ DiskAt n0 w'' p (D.write pg r.l).2 (Wide S w.heap.size w''.heap.size) ∧ Chg S w w'')) := by
        refine op_go2 _ _ _ p D 39 _ (fun x w'' => x = (D.write pg r.l).1 ∧ DiskAt n0 w'' p (D.write pg r.l).2 (Wide S w.heap.size w''.heap.size) ∧ Chg S w w'') w1 hin.rcd ok hn hb hcf ?_
        intro w2 hrec hch
        have hin2 := hin.turned hrec hch rfl rfl
        have hd2 : DiskAt n0 w2 p (D.go 2) S := ⟨D.go_ok ok 2, q, M, hin2, hft⟩
        have hpw := hSp p hp
        have b1 := B1.keep hch (fun e => by have := (show w.heap.size = p from e); omega)
        have b2 := B2.keep hch (fun e => by have := (show w.heap.size + 1 = p from e); omega)
        have b3 := B3.keep hch (fun e => by have := (show w.heap.size + 1 + 1 = p from e); omega)
        have hw02 : Chg S w w2 := hw01.trans hch (fun g _ e => by rw [show g = p from e]; exact hp)
        have hr2 : r.Ok w2 := ⟨hr1.lies.chg hch (fun a ha e => hrS a ha (by rw [show a.block = p from e]; exact hp)), hr1.nil, hr1.le, hr1.small, hr1.bytes⟩
        have hz2 := hch.size
        have hwr : D.write pg r.l = if pg < 0 ∨ (D.pages : Int) ≤ pg then (2, D.go 2) else if r.l.length ≠ 1024 ∧ r.l.length ≠ 128 then (1, D.go 2) else (0, (D.go 2).put (8 * pg.toNat) r.l (r.l.length / 128)) := by
          unfold Dsk.write; rw [if_neg (by simpa using hb)]
        by_cases c1 : pg < 0 ∨ (D.pages : Int) ≤ pg
        · rw [hwr, if_pos c1]
          refine (write_range n0 w2 p (D.go 2) S pg _ _ _ (.slice none 0 0) hd2 b2 b1 c1).mono ?_
          rintro e w3 ⟨rfl, hb3⟩
          exact ⟨2, rfl, rfl, (hd2.below hb3).mono (fun g _ _ hg => .inl hg), hw02.trans (.of_below (F := fun _ => False) hb3) (fun _ _ h => h.elim)⟩
        · obtain ⟨n, rfl⟩ : ∃ n : Nat, pg = (n : Int) := ⟨pg.toNat, by omega⟩
          by_cases c2 : r.l.length ≠ 1024 ∧ r.l.length ≠ 128
          · rw [hwr, if_neg c1, if_pos c2]
            refine (write_arg n0 w2 p (D.go 2) S n _ _ _ r.A r.l.length r.c hd2 b2 b1 b3 (by show n < D.pages; omega) c2).mono ?_
            rintro e w3 ⟨rfl, hb3⟩
            exact ⟨1, rfl, rfl, (hd2.below hb3).mono (fun g _ _ hg => .inl hg), hw02.trans (.of_below (F := fun _ => False) hb3) (fun _ _ h => h.elim)⟩
          · rw [hwr, if_neg c1, if_neg c2]
            refine (write_do n0 w2 p (D.go 2) S n _ _ _ r (r.l.length / 128) hd2 b2 b1 b3 hr2 (by show n < D.pages; omega) (by omega) (by omega) hc (Nat.le_trans hn0 hw02.size) ?_ (fun g hg => Nat.lt_of_lt_of_le (hSp g hg) hw02.size)).mono ?_
            · intro g hg
              have := hSp g hg
              exact ⟨by omega, by omega, by omega, fun a ha e => hrS a ha (by rw [e]; exact hg)⟩
            · rintro e w3 ⟨rfl, hd3, hc3⟩
              refine ⟨0, rfl, rfl, ?_, hw02.trans hc3 (fun _ _ h => h)⟩
              rw [Int.toNat_natCast]
              exact hd3.mono fun g _ _ hg => by
                rcases hg with hg | hg
                · exact .inl hg
                · have := hw02.size; exact .inr ⟨by omega, hg.2⟩
      refine key.mono ?_
      rintro e w3 ⟨x, rfl, rfl, h2, h3⟩
      exact ⟨rfl, h2, h3⟩
    · have hwr : D.write pg r.l = D.begin 2 := by unfold Dsk.write; rw [if_pos hb]
      rw [hwr]
      refine (op_fails2 _ _ _ p D _ w1 hin.rcd ok hn hb).mono ?_
      rintro e w2 ⟨rfl, hrec, hch⟩
      have hin2 := hin.turned hrec hch (D.begin_last 2).1 (D.begin_last 2).2
      exact ⟨rfl, ⟨D.begin_ok ok 2, q, M, hin2, fun g hg => .inl (hft g hg)⟩, hw01.trans hch (fun g _ e => by rw [show g = p from e]; exact hp)⟩
  have HOP := Lib.hid hop
  clear hop
  go_enter Tryz.func8, Tryz.ntmps8
  go_wp2_with fail
  rw [← hw1]
  have HW1 := Lib.hid hw1
  clear hw1
  go_wp2_with fail
  refine HOP.out.mono ?_
  rintro e w9 ⟨rfl, hd9, hc9⟩
  have HD9 := Lib.hid hd9
  have HC9 := Lib.hid hc9
  clear hd9 hc9
  go_wp2
  go_ret
  exact ⟨rfl, HD9.out, HC9.out⟩
end Go.Proofs.YtfbjjblgcgjndaaGreat

/- Contracts of the disk's Trip, Fail, Dark, Counts. -/
namespace Go.Proofs.YtfbjjblgcgjndaaGreat
open Go.RowKit Go.Maps

def Dsk.setTrip (D : Dsk) (n : Int) : Nat × Dsk := if n < 0 then (1, D) else if D.dark then (4, D) else (0, { D with trip := n })
def Dsk.setFail (D : Dsk) (k n : Int) : Nat × Dsk := if (k < 1 ∨ 3 < k) ∨ n < 0 then (1, D) else if D.dark then (4, D) else (0, { D with f := turn D.f k.toNat n })
theorem DiskAt.only {n0 : Nat} {w w' : World} {p : Nat} {D D' : Dsk} {S : Nat → Prop} (h : DiskAt n0 w p D S) (ok : D'.Ok) (h1 : D'.last = D.last) (h2 : D'.cache = D.cache) (hc : Chg (OnlyP p) w w')
    (hr : ∀ L C m, RecAt w p 104 13 (dcell L C m D) → RecAt w' p 104 13 (dcell L C m D')) : DiskAt n0 w' p D' S := by
  obtain ⟨_, q, M, hin, hft⟩ := h
  exact ⟨ok, q, M, hin.turned (hr _ _ _ hin.rcd) hc h1 h2, hft⟩
theorem DiskAt.here {n0 : Nat} {w : World} {p : Nat} {D : Dsk} {S : Nat → Prop} (h : DiskAt n0 w p D S) : S p := by
  obtain ⟨_, q, M, hin, hft⟩ := h
  exact hft p (.inl rfl)
theorem DiskAt.wide {n0 : Nat} {w : World} {p : Nat} {D : Dsk} {S : Nat → Prop} {a b : Nat} (h : DiskAt n0 w p D S) : DiskAt n0 w p D (Wide S a b) := h.mono fun g _ _ hg => .inl hg
theorem chg_p {p : Nat} {S : Nat → Prop} {w w' : World} (h : Chg (OnlyP p) w w') (hp : S p) : Chg S w w' := h.mono fun g _ e => by rw [show g = p from e]; exact hp

set_option maxRecDepth 100000 in
theorem disk_counts (n0 : Nat) (w : World) (p : Nat) (D : Dsk) (S : Nat → Prop) (h : DiskAt n0 w p D S) : Calls Tryz.prog 29 #[.pointer (some ⟨p, 0, none⟩)] w fun e w' => e = .returned (.agg #[.int .i64 (D.n 1), .int .i64 (D.n 2), .int .i64 (D.n 3)]) ∧ Below w.heap.size w w' := by
  obtain ⟨ok, q, M, hin, hft⟩ := h
  have c1 : w.cell? ⟨p, 10, none⟩ = some (.int .i64 (D.n 1)) := hin.rcd.cell 10 (by omega)
  have c2 : w.cell? ⟨p, 11, none⟩ = some (.int .i64 (D.n 2)) := hin.rcd.cell 11 (by omega)
  have c3 : w.cell? ⟨p, 12, none⟩ = some (.int .i64 (D.n 3)) := hin.rcd.cell 12 (by omega)
  have hlt := hin.rcd.lt
  clear hin hft
  go_enter Tryz.func29, Tryz.ntmps29
  go_wp2
  go_region
  go_wp2
  refine bodyPost_ret (v := .agg #[.int .i64 (D.n 1), .int .i64 (D.n 2), .int .i64 (D.n 3)]) (by simp [results, Tryz.results29, go_sem]) rfl ⟨rfl, ?_⟩
  exact below_drew0 (below_alloc0 (Below.refl _ _) _)
theorem rec_f {L C : Value} {m p : Nat} {D : Dsk} {w : World} (h : RecAt w p 104 13 (dcell L C m D)) (n : Int) : RecAt (w.setCell ⟨p, 6, none⟩ (.int .i64 n)) p 104 13 (dcell L C m { D with f := turn D.f 1 n }) ∧ RecAt (w.setCell ⟨p, 7, none⟩ (.int .i64 n)) p 104 13 (dcell L C m { D with f := turn D.f 2 n }) ∧ RecAt (w.setCell ⟨p, 8, none⟩ (.int .i64 n)) p 104 13 (dcell L C m { D with f := turn D.f 3 n }) :=
  ⟨(h.set 6 _).congr (all13 rfl rfl rfl rfl rfl rfl rfl rfl rfl rfl rfl rfl rfl), (h.set 7 _).congr (all13 rfl rfl rfl rfl rfl rfl rfl rfl rfl rfl rfl rfl rfl), (h.set 8 _).congr (all13 rfl rfl rfl rfl rfl rfl rfl rfl rfl rfl rfl rfl rfl)⟩
set_option maxRecDepth 100000 in
set_option maxHeartbeats 1000000 in
theorem disk_fail (n0 : Nat) (w : World) (p : Nat) (D : Dsk) (S : Nat → Prop) (k n : Int) (h : DiskAt n0 w p D S) (hn : n ≤ 9223372036854775807) : Calls Tryz.prog 25 #[.pointer (some ⟨p, 0, none⟩), .int .i64 k, .int .i64 n] w (DiskGives n0 w p S (D.setFail k n).1 (D.setFail k n).2) := by
  have hh := h
  obtain ⟨ok, q, M, hin, hft⟩ := h
  have c3 : w.cell? ⟨p, 3, none⟩ = some (.bool D.dark) := hin.rcd.cell 3 (by omega)
  have c6 : w.cell? ⟨p, 6, none⟩ = some (.int .i64 (D.f 1)) := hin.rcd.cell 6 (by omega)
  have c7 : w.cell? ⟨p, 7, none⟩ = some (.int .i64 (D.f 2)) := hin.rcd.cell 7 (by omega)
  have c8 : w.cell? ⟨p, 8, none⟩ = some (.int .i64 (D.f 3)) := hin.rcd.cell 8 (by omega)
  have f6 := hin.rcd.frozen 6
  have f7 := hin.rcd.frozen 7
  have f8 := hin.rcd.frozen 8
  unfold DiskGives Dsk.setFail
  clear hin hft
  by_cases h1 : (k < 1 ∨ 3 < k) ∨ n < 0
  · rw [if_pos h1]
    have HH := Lib.hid hh
    clear hh
    rcases (show k < 1 ∨ (¬ k < 1 ∧ 3 < k) ∨ (¬ k < 1 ∧ ¬ 3 < k ∧ n < 0) by omega) with a | ⟨a, b⟩ | ⟨a, b, c⟩
    all_goals
      clear h1
      go_enter Tryz.func25, Tryz.ntmps25
      go_wp2
      go_ret
      exact ⟨rfl, HH.out.wide, Chg.refl _ _⟩
  · rw [if_neg h1]
    have hk : k = 1 ∨ k = 2 ∨ k = 3 := by omega
    have hnn : ¬ n < 0 := by omega
    clear h1
    by_cases h2 : D.dark = true
    · rw [if_pos h2]
      rw [h2] at c3
      have HH := Lib.hid hh
      clear hh h2
      rcases hk with rfl | rfl | rfl
      all_goals
        go_enter Tryz.func25, Tryz.ntmps25
        go_wp2
        go_ret
        exact ⟨rfl, HH.out.wide, Chg.refl _ _⟩
    · rw [if_neg h2]
      have h3 : D.dark = false := by simpa using h2
      rw [h3] at c3
      have HP := Lib.hid hh.here
      have HH := Lib.hid hh
      have OK := Lib.hid ok
      clear hh h2 h3 ok
      rcases hk with rfl | rfl | rfl
      all_goals
        go_enter Tryz.func25, Tryz.ntmps25
        go_wp2
        go_ret
      · exact ⟨rfl, (HH.out.only (D' := { D with f := turn D.f 1 n }) ⟨OK.out.last, OK.out.cache, OK.out.pages, OK.out.trip, D.turn_f OK.out 1 n (by omega) hn, OK.out.n⟩ rfl rfl (one_chg w p 6 _) (fun L C m hr => (rec_f hr n).1)).wide, chg_p (one_chg w p 6 _) HP.out⟩
      · exact ⟨rfl, (HH.out.only (D' := { D with f := turn D.f 2 n }) ⟨OK.out.last, OK.out.cache, OK.out.pages, OK.out.trip, D.turn_f OK.out 2 n (by omega) hn, OK.out.n⟩ rfl rfl (one_chg w p 7 _) (fun L C m hr => (rec_f hr n).2.1)).wide, chg_p (one_chg w p 7 _) HP.out⟩
      · exact ⟨rfl, (HH.out.only (D' := { D with f := turn D.f 3 n }) ⟨OK.out.last, OK.out.cache, OK.out.pages, OK.out.trip, D.turn_f OK.out 3 n (by omega) hn, OK.out.n⟩ rfl rfl (one_chg w p 8 _) (fun L C m hr => (rec_f hr n).2.2)).wide, chg_p (one_chg w p 8 _) HP.out⟩
end Go.Proofs.YtfbjjblgcgjndaaGreat

/- Contract of the disk's settle. -/
namespace Go.Proofs.YtfbjjblgcgjndaaGreat
open Go.RowKit Go.Maps

def fresh129 : Array Value := #[Value.int .i64 0] ++ zero128
theorem run_alloc185 (w : World) : (Instr.alloc 110 true (.tuple #[])).run Tryz.prog w = .ok (.pointer (some ⟨w.heap.size, 0, none⟩)) (w.alloc (.cells fresh129 110)) := by
  obtain ⟨i185, h185, e185⟩ := Option.map_eq_some_iff.1 Tryz.info110
  simp only [Prod.mk.injEq] at e185
  have hz := zero129_size
  unfold fresh129
  generalize (#[Value.int .i64 0] ++ zero128) = Z at *
  simp [Instr.alloc, zeroValue, typeInfo, newVar, sizeOf, h185, e185.1, hz, Value.cells, newRow]
def alloc185 : Sem Next := do pure (.value (← Instr.alloc 110 true (.tuple #[])))
theorem execOp_alloc185 (ρ : Operand → Value) (dst : Option Tmp) (ty : TypeId) (pos : String) (after : Array Edge) (guard : Option (Nat × Bool)) :
    execOp ρ ⟨dst, .alloc 110, ty, pos, after, guard⟩ = alloc185 := by
  unfold execOp alloc185
  rfl
theorem run_alloc185' (w : World) : alloc185.run Tryz.prog w = .ok (.value (.pointer (some ⟨w.heap.size, 0, none⟩))) (w.alloc (.cells fresh129 110)) := by
  unfold alloc185
  simp only [Sem.run_bind, Sem.run_pure, run_alloc185, Result.andThen_ok]
theorem wipe {w : World} {R : Value → Option (DataW Unit × List MemPlace)} {m n : Nat} {M : DataW Unit} (h : w.ownsMap Tryz.prog 3 R m n M) : ∃ w', (∀ ty, (Builtin.clear_ #[99] ty #[.map (some m)]).run Tryz.prog w = .ok (.tuple #[]) w') ∧ w'.ownsMap Tryz.prog 3 R m 0 (.map []) ∧ Chg (fun g => g = m) w w' := by
  obtain ⟨es, clock, hb, hfit, _, _⟩ := h
  have hlt : m < w.heap.size := (Array.getElem?_eq_some_iff.1 hb).1
  refine ⟨{ w with heap := w.heap.setIfInBounds m (.map #[] clock) }, fun ty => ?_, ⟨#[], clock, ?_, ⟨by simp, ?_, by simp⟩, by simp, by simp⟩, ?_⟩
  · simp [Builtin.clear_, run_underlying Tryz.underlying99, run_getObj_map w m es clock hb, MapKept.run_setObj_map _ hb, Result.andThen]
  · simp [hlt]
  · exact ⟨by simp, by simp, by simp⟩
  · refine ⟨rfl, rfl, rfl, by simp, fun k hk hne => ?_⟩
    show (w.heap.setIfInBounds m _)[k]? = _
    rw [Array.getElem?_setIfInBounds_ne (fun e => hne e.symm)]
/-- a long array's load where the order is drawn and nothing is written -/
theorem still_load {P : Program} {ops : Array Oper} {w : World} {rest : List Oper} {op : Oper} {a : Act} {Q : Act → Prop} (hgd : op.guard = none) (ty : TypeId) (x : Operand) (ho : op.op = .load ty x)
    (b o : Nat) (hx : a.eval x = .pointer (some ⟨b, o, none⟩)) (cs : List Value) (d : TypeDesc) (hc : w.rangeAt b o cs)
    (hu : P.underlying ty = some d) (hd : d.isRow = true) (hi : (P.info? ty).map (·.size) = some cs.length)
    (h : wpStill P ops w Q rest (a.put op.dst (.agg cs.toArray))) : wpStill P ops w Q (op :: rest) a := by
  refine wpStill_step fun K hK => ?_
  have hw : Region.wanted op (yielded ops a.tmps) = true := by simp [Region.wanted, hgd]
  rw [if_pos hw]
  unfold Oper.still execOp
  simp only [ho, hx, Instr.loadAt, Instr.sureAddr, Sem.run_bind, Sem.run_pure, Result.andThen_ok, run_loadVar_mid w b o ty cs d hc hu hd hi, Oper.stillUpon_value]
  exact hK _ h
section
variable {P : Program}
theorem wpList_clear {ops : Array Oper} {rest : List Oper} {o : Oper} {a : Act} {w w' : World} {Q : Exit → Act → World → Prop} (hgd : o.guard = none) (x : Operand) (t : TypeId) (v : Value) (ho : o.op = .call { callee := .builtin .clear, args := #[x], argTypes := #[t] })
    (hx : a.eval x = v) (hr : ∀ ty, (Builtin.clear_ #[t] ty #[v]).run P w = .ok (.tuple #[]) w') (h : wpList P ops Q rest (a.put o.dst (.tuple #[])) w') : wpList P ops Q (o :: rest) a w := by
  refine wpList_plain hgd fun _ hK => ?_
  unfold Oper.wp execOp
  simp only [ho, resolve, invoke, builtin, Sem.run_bind, Sem.run_pure, Result.andThen_ok, List.map_toArray, List.map_cons, List.map_nil, hx, hr]
  exact hK _ _ h
end
theorem fresh129_size : fresh129.size = 129 := zero129_size
/-- as far as a write: the disk with these writes laid -/
def Dsk.laid (D : Dsk) (kept : Nat → Bool) (j : Nat) : Dsk := { D with last := settled D.last D.cache kept j }
theorem Dsk.laid_zero (D : Dsk) (kept : Nat → Bool) : D.laid kept 0 = D := rfl
theorem Dsk.laid_no {D : Dsk} {kept : Nat → Bool} {j : Nat} (hk : kept j = false) : D.laid kept (j + 1) = D.laid kept j := by
  have : settled D.last D.cache kept (j + 1) = settled D.last D.cache kept j := by
    show (match D.cache[j]? with
      | some x => if kept j then (settled D.last D.cache kept j).set x.1 x.2 else settled D.last D.cache kept j
      | none => settled D.last D.cache kept j) = _
    cases D.cache[j]? with
    | none => rfl
    | some x => simp [hk]
  unfold Dsk.laid
  rw [this]
theorem Dsk.laid_yes {D : Dsk} {kept : Nat → Bool} {j : Nat} {x : Nat × List Nat} (hx : D.cache[j]? = some x) (hk : kept j = true) : D.laid kept (j + 1) = { D.laid kept j with last := (D.laid kept j).last.set x.1 x.2 } := by
  simp [Dsk.laid, settled, hx, hk]
theorem DiskIn.lay {n0 : Nat} {w : World} {p : Nat} {D : Dsk} {q : Dparts} {M : DataW Unit} (h : DiskIn n0 w p D q M) (ok : ∀ s ∈ D.last, s.length = 128) (i : Nat) (hi : i < D.last.length) (s : List Nat) (hs : s.length = 128) :
    DiskIn n0 (w.setCells q.b (i * 128) (ns .u8 s)) p { D with last := D.last.set i s } q M ∧ Chg (fun g => g = q.b) w (w.setCells q.b (i * 128) (ns .u8 s)) := by
  obtain ⟨s1, s2, s3, s4, s5, s6⟩ := h.sep
  obtain ⟨b1, b2, b3, b4, b5⟩ := h.bases
  have hc := setCells_chg q.b (ns .u8 s) (i * 128) w
  refine ⟨⟨?_, h.last.set ok i hi s hs, own_chg h.cache hc (fun g hg e => s5 (by rw [← show g = q.b from e]; exact hg)), map_chg h.map hc (fun e => s3 (show q.m = q.b from e).symm) b5, h.seen, ⟨b1, b2, b3, Nat.lt_of_lt_of_le b4 hc.size, Nat.lt_of_lt_of_le b5 hc.size⟩, h.sep⟩, hc⟩
  have := h.rcd.keep hc (fun e => s1 e)
  simp only [List.length_set]
  exact this
/-- the cache is thrown away -/
theorem DiskIn.thrown {n0 : Nat} {w w' : World} {p : Nat} {D : Dsk} {q : Dparts} {M : DataW Unit} (h : DiskIn n0 w p D q M) (hm : w'.ownsMap Tryz.prog 3 (plainElem Tryz.prog 3) q.m 0 (.map [] : DataW Unit)) (hc : Chg (fun g => g = q.m) (w.setCell ⟨p, 1, none⟩ (.slice none 0 0)) w') :
    DiskIn n0 w' p { D with cache := [] } ⟨q.b, .slice none 0 0, q.m⟩ (.map []) ∧ Chg (fun g => g = p ∨ g = q.m) w w' := by
  obtain ⟨s1, s2, s3, s4, s5, s6⟩ := h.sep
  obtain ⟨b1, b2, b3, b4, b5⟩ := h.bases
  have c1 := setCell_chg w p 1 (.slice none 0 0)
  have ct : Chg (fun g => g = p ∨ g = q.m) w w' := (c1.mono (G := fun g => g = p ∨ g = q.m) (fun _ _ h => .inl h)).trans hc (fun _ _ h => .inr h)
  refine ⟨⟨?_, ?_, World.ownsRow_nil _ _ _ _, hm, SeenOk.nil, ⟨b1, b2, b3, Nat.lt_of_lt_of_le b4 ct.size, Nat.lt_of_lt_of_le b5 ct.size⟩, s1, s2, s3, by simp [blk, Value.ownBlock], by simp [blk, Value.ownBlock], by simp [blk, Value.ownBlock]⟩, ct⟩
  · exact ((h.rcd.set 1 (.slice none 0 0)).keep hc (fun e => s2 e)).congr (all13 rfl rfl rfl rfl rfl rfl rfl rfl rfl rfl rfl rfl rfl)
  · exact h.last.keep ct (fun e => e.elim (fun e => s1 e.symm) (fun e => s3 e)) b4
theorem Dsk.laid_all (D : Dsk) (kept : Nat → Bool) : { D.laid kept D.cache.length with cache := [] } = D.settle kept := rfl
end Go.Proofs.YtfbjjblgcgjndaaGreat

/- Contract of the disk's settle: the walk. -/
namespace Go.Proofs.YtfbjjblgcgjndaaGreat
open Go.RowKit Go.Maps
attribute [local go_sem ↓] execOp_alloc185
attribute [local go_sem] run_alloc185'
set_option maxRecDepth 100000 in
set_option maxHeartbeats 1000000 in
theorem settle_any (n0 : Nat) (w : World) (p : Nat) (D : Dsk) (S : Nat → Prop) (fi : FuncId) (caps : Array Value) (kept : Nat → Bool) (h : DiskAt n0 w p D S) (hc : D.cache.length ≤ 1000000000000)
    (hcf : ∀ args w, (callFunc fi args).run Tryz.prog w = .ok (.enter fi args) w)
    (hk : ∀ (i : Nat) w', i < D.cache.length → Chg S w w' → Calls Tryz.prog fi (#[.int .i64 i] ++ caps) w' fun e w'' => e = .returned (.bool (kept i)) ∧ ∃ k, w'' = w'.drewN k) :
    Calls Tryz.prog 57 #[.pointer (some ⟨p, 0, none⟩), .func (.func fi) #[] caps] w fun e w' => e = .returned (.tuple #[]) ∧ DiskAt n0 w' p (D.settle kept) S ∧ Chg S w w' := by
  obtain ⟨ok, q, M, hin, hft⟩ := h
  obtain ⟨V, cap, hCV, hAt, _⟩ := At.own hin.cache
  have c1 : w.cell? ⟨p, 1, none⟩ = some (.slice V D.cache.length cap) := by rw [← hCV]; exact hin.rcd.cell 1 (by omega)
  have hHK := Lib.hid hk
  have HIN := Lib.hid hin
  have HFT := Lib.hid hft
  have HAT := Lib.hid hAt
  have HCV := Lib.hid hCV
  have OK := Lib.hid ok
  have HC := Lib.hid hc
  clear hk hin hft hAt hCV ok hc
  go_enter Tryz.func57, Tryz.ntmps57
  go_wp2_with fail
  go_loopw [11] (fun i wr => ∃ j : Nat, j ≤ D.cache.length ∧ i = .int .i64 j ∧ DiskIn n0 wr p (D.laid kept j) q M ∧ Chg S w wr) (fun i _ => D.cache.length - (intOf i).toNat)
  case atStart => exact ⟨0, by omega, rfl, HIN.out, Chg.refl _ _⟩
  case round =>
    obtain ⟨j, hj, rfl, hd, hch⟩ := hrel
    by_cases hlt : j < D.cache.length
    · obtain ⟨V', cap', hCV', hAt', _⟩ := At.own hd.cache
      rw [HCV.out] at hCV'
      injection hCV' with e1 e2 e3
      subst e1 e3
      clear e2
      obtain ⟨b, o, hV, hr⟩ := hAt' (by intro e; have := congrArg List.length e; rw [wcells_length (c := (D.laid kept j).cache) (fun x hx => (OK.out.cache x hx).2)] at this; simp [Dsk.laid] at this; omega)
      clear hAt'
      have i185 : (Tryz.prog.info? 110).map (·.size) = some 129 := by
        obtain ⟨i0, hi, hzz⟩ := Option.map_eq_some_iff.1 Tryz.info110
        simp only [Prod.mk.injEq] at hzz
        rw [hi]; simp [hzz.2.1]
      subst hV
      have a1 : (j : Int) < (D.cache.length : Int) := by omega
      have HLT := Lib.hid hlt
      obtain ⟨x, hx⟩ : ∃ x, D.cache[j]? = some x := ⟨D.cache[j], List.getElem?_eq_getElem hlt⟩
      have hxm := List.mem_of_getElem? hx
      obtain ⟨hx1, hx2⟩ := OK.out.cache x hxm
      have hxl : (wcell x).length = 129 := by simp [wcell, ns_length, hx2.1]
      have hrx : wr.rangeAt b (o + j * 129) (wcell x) := by
        intro k v hv
        have hk : k < 129 := by have := (List.getElem?_eq_some_iff.1 hv).1; omega
        rw [show o + j * 129 + k = o + (j * 129 + k) by omega]
        refine hr _ _ ?_
        have := wcells_get (c := D.cache) (fun x hx => (OK.out.cache x hx).2) j hlt k hk
        rw [show (D.laid kept j).cache = D.cache from rfl, this, ← hv]
        rw [List.getElem?_eq_getElem hlt] at hx
        cases hx; rfl
      have HX := Lib.hid hx
      clear hx
      go_wp2_with fail
      refine wp_load_mid 110 _ rfl b (o + j * 129) rfl (wcell x) _ hrx Tryz.underlying110 rfl (by rw [hxl]; exact i185) ?_
      clear hr hrx
      have hst : (storeCells ⟨wr.heap.size, 0, none⟩ (wcell x)).run Tryz.prog (wr.alloc (.cells fresh129 110)) = .ok () (wr.alloc (.cells (wcell x).toArray 110)) := by
        have := run_storeCells_new (P := Tryz.prog) wr 110 fresh129 (wcell x).toArray (by rw [i185]; simp [hxl]) (by rw [fresh129_size]; simp [hxl]) (all_oneCell_toArray (fun v hv => by
          rcases List.mem_cons.1 hv with rfl | hv
          · rfl
          · exact ns_one _ _ v hv))
        simpa using this
      have HHCH := Lib.hid hch
      have HIND := Lib.hid hd
      have HXL := Lib.hid hxl
      have HX1 := Lib.hid hx1
      have HX2 := Lib.hid hx2
      clear hch hd hxl hx1 hx2 hxm
      have heq : wr.alloc (.cells fresh129 110) = wr.alloc (.cells fresh129 110) := rfl
      go_wp2_with fail
      have hb2 : Below wr.heap.size wr (wr.alloc (.cells (wcell x).toArray 110)) := below_alloc0 (Below.refl _ _) _
      have hch2 : Chg S w (wr.alloc (.cells (wcell x).toArray 110)) := HHCH.out.trans (.of_below (F := S) hb2) (fun _ _ h => h)
      refine (hHK.out j _ HLT.out hch2).mono ?_
      rintro e w2 ⟨rfl, nk, rfl⟩
      have HNEW := Lib.hid (heap_alloc_new wr (.cells (wcell x).toArray 110))
      have hd2 := HIND.out.keep (G := fun _ => False) (.of_below (below_drewN hb2 nk)) (fun _ _ h => h)
      have hnew : ((wr.alloc (.cells (wcell x).toArray 110)).drewN nk).heap[wr.heap.size]? = some (.cells (wcell x).toArray 110 (0, 0)) := HNEW.out
      have HCH2 := Lib.hid (hch2.drewN nk)
      clear hch2 hb2 hst
      generalize (wr.alloc (.cells (wcell x).toArray 110)).drewN nk = w2 at *
      have c0 : w2.cell? ⟨p, 0, none⟩ = some (.slice (some ⟨q.b, 0, none⟩) D.last.length D.last.length) := by
        have := hd2.rcd.cell 0 (by omega)
        simp only [Dsk.laid, dcell, settled_length] at this
        exact this
      have d0 : w2.cell? ⟨wr.heap.size, 0, none⟩ = some (.int .i64 (x.1 : Int)) := by
        rw [cell_of_row w2 _ 0 _ _ (0, 0) hnew]; simp [wcell]
      have HD2 := Lib.hid hd2
      have HNEW2 := Lib.hid hnew
      clear hd2 hnew HNEW
      by_cases hkj : kept j = true
      · rw [hkj]
        have a2 : (x.1 : Int) < (D.last.length : Int) := by have := HX1.out; omega
        go_wp2_with fail
        have hrl : w2.drew.rangeAt wr.heap.size 1 (ns .u8 x.2) := by
          intro k v hv
          have := cell_of_row w2.drew wr.heap.size (1 + k) _ _ (0, 0) HNEW2.out
          rw [this]
          simp only [wcell, List.getElem?_toArray]
          rw [show 1 + k = k + 1 by omega, List.getElem?_cons_succ]
          exact hv
        have HRL := Lib.hid hrl
        clear hrl
        go_still_tail 9, (by kernel_rfl)
        refine still_load rfl 108 _ rfl wr.heap.size 1 rfl (ns .u8 x.2) _ HRL.out Tryz.underlying108 rfl (by rw [Tryz.info108', ns_length, HX2.out.1]) ?_
        repeat still_step
        refine wpStill_nil ?_
        have hd3 := HD2.out.keep (w' := w2.drew) (G := fun _ => False) ((Chg.refl _ w2).drew) (fun _ _ h => h)
        have hsl : ∀ s ∈ (D.laid kept j).last, s.length = 128 := fun s hs => (settled_ok OK.out.last (fun x hx => (OK.out.cache x hx).2) kept j s hs).1
        have hxlt : x.1 < (D.laid kept j).last.length := by rw [show (D.laid kept j).last.length = D.last.length from settled_length _ _ _ _]; exact HX1.out
        have hth : w2.drew.there q.b (x.1 * 128) (ns .u8 x.2).toArray.size := by
          intro k hk
          have hk : k < 128 := by simpa [ns_length, HX2.out.1] using hk
          have := hd3.last.there (x.1 * 128 + k) (by have : (x.1 + 1) * 128 ≤ (D.laid kept j).last.length * 128 := Nat.mul_le_mul_right _ hxlt; omega)
          simpa using this
        obtain ⟨hd4, hc4⟩ := hd3.lay hsl x.1 hxlt x.2 HX2.out.1
        rw [← D.laid_yes HX.out hkj] at hd4
        have HD4 := Lib.hid hd4
        have HC4 := Lib.hid hc4
        have HTH := Lib.hid hth
        clear hd3 hd4 hc4 hxlt hsl hth hkj
        change wpList _ _ _ _ _ w2.drew
        refine wpList_store_mid rfl 108 _ _ rfl q.b (x.1 * 128) (ns .u8 x.2).toArray rfl rfl HTH.out (by rw [Tryz.info108']; simp [ns_length, HX2.out.1]) (all_oneCell_toArray (ns_one .u8 x.2)) ?_
        simp only [List.toList_toArray]
        have hcs : Chg S w (w2.drew.setCells q.b (x.1 * 128) (ns .u8 x.2)) := (HCH2.out.drew).trans HC4.out (fun g _ e => HFT.out g (.inr (.inl e)))
        have HCS := Lib.hid hcs
        clear hcs HC4 HTH
        generalize w2.drew.setCells q.b (x.1 * 128) (ns .u8 x.2) = w4 at *
        go_wp2
        case roundEnd =>
          have t1 := HC.out
          have t2 := HLT.out
          rw [show wrap64 ((j : Int) + 1) = (j : Int) + 1 by unfold wrap64; omega]
          exact ⟨⟨j + 1, by omega, by push_cast; rfl, HD4.out, HCS.out⟩, by simp only [intOf]; omega⟩
      · have hkj' : kept j = false := by simpa using hkj
        rw [hkj']
        have HD5 := Lib.hid (show DiskIn n0 w2 p (D.laid kept (j + 1)) q M by rw [D.laid_no hkj']; exact HD2.out)
        go_wp2
        case roundEnd =>
          have t1 := HC.out
          have t2 := HLT.out
          rw [show wrap64 ((j : Int) + 1) = (j : Int) + 1 by unfold wrap64; omega]
          exact ⟨⟨j + 1, by omega, by push_cast; rfl, HD5.out, HCH2.out⟩, by simp only [intOf]; omega⟩
    · obtain rfl : j = D.cache.length := by omega
      have c1 : wr.cell? ⟨p, 1, none⟩ = some q.C := hd.rcd.cell 1 (by omega)
      have c2 : wr.cell? ⟨p, 2, none⟩ = some (.map (some q.m)) := hd.rcd.cell 2 (by omega)
      have f1 := hd.rcd.frozen 1
      obtain ⟨w3, hcl, hm3, hc3⟩ := wipe (hd.map.setCell (a := ⟨p, 1, none⟩) (fun e => hd.sep.2.1 e.symm) (.slice none 0 0))
      obtain ⟨hd5, hc5⟩ := hd.thrown hm3 hc3
      rw [D.laid_all] at hd5
      have HD5 := Lib.hid hd5
      have HC5 := Lib.hid (hch.trans hc5 (fun g _ e => HFT.out g (e.elim .inl (fun e => .inr (.inr (.inl e))))))
      clear hd hd5 hc5 hc3 hm3 hch hlt hj
      go_wp2
      go_end0
      exact ⟨rfl, ⟨D.settle_ok OK.out kept, _, _, HD5.out, fun g hg => HFT.out g (by
        rcases hg with rfl | rfl | rfl | hg
        · exact .inl rfl
        · exact .inr (.inl rfl)
        · exact .inr (.inr (.inl rfl))
        · simp [blk, Value.ownBlock] at hg)⟩, HC5.out⟩
end Go.Proofs.YtfbjjblgcgjndaaGreat

/- Contracts of the disk's Sync and Cut. -/
namespace Go.Proofs.YtfbjjblgcgjndaaGreat
open Go.RowKit Go.Maps

def Dsk.sync (D : Dsk) : Nat × Dsk := if (D.begin 3).1 ≠ 0 then D.begin 3 else (0, (D.go 3).settle fun _ => true)
set_option maxRecDepth 100000 in
theorem all_any (i : Int) (w : World) : Calls Tryz.prog 93 #[.int .i64 i] w fun e w' => e = .returned (.bool true) ∧ w' = w := by
  go_enter Tryz.func93, Tryz.ntmps93
  go_wp2
  go_ret
  exact ⟨rfl, rfl⟩
theorem all_kept (i : Int) (w : World) : Calls Tryz.prog 93 (#[.int .i64 i] ++ #[]) w fun e w'' => e = .returned (.bool true) ∧ ∃ k, w'' = w.drewN k := by
  rw [Array.append_empty]
  refine (all_any i w).mono ?_
  rintro e w'' ⟨rfl, rfl⟩
  exact ⟨rfl, 0, rfl⟩
set_option maxRecDepth 100000 in
theorem sync_do (n0 : Nat) (w : World) (p bd : Nat) (D : Dsk) (S : Nat → Prop) (h : DiskAt n0 w p D S) (hb : Box w bd (.pointer (some ⟨p, 0, none⟩)) 26) (hc : D.cache.length ≤ 1000000000000) :
    Calls Tryz.prog 92 #[.pointer (some ⟨bd, 0, none⟩)] w fun e w' => e = .returned (.int .u16 ((0 : Nat) : Int)) ∧ DiskAt n0 w' p (D.settle fun _ => true) S ∧ Chg S w w' := by
  have c1 := hb.cell
  have hs := Lib.hid (settle_any n0 w p D S 93 #[] (fun _ => true) h hc (fun _ _ => rfl) (fun i w' _ _ => all_kept i w'))
  clear h hb hc
  go_enter Tryz.func92, Tryz.ntmps92
  go_wp2_with fail
  refine hs.out.mono ?_
  rintro e w9 ⟨rfl, hd, hch⟩
  have HD := Lib.hid hd
  have HC := Lib.hid hch
  clear hd hch
  go_wp2
  go_ret
  exact ⟨rfl, HD.out, HC.out⟩
set_option maxRecDepth 100000 in
set_option maxHeartbeats 1000000 in
theorem disk_sync (n0 : Nat) (w : World) (p : Nat) (D : Dsk) (S : Nat → Prop) (h : DiskAt n0 w p D S) (hc : D.cache.length ≤ 1000000000000) (hn : D.n 3 ≤ 4611686018427387904)
    (hSp : ∀ g, S g → g < w.heap.size) (hp : S p) :
    Calls Tryz.prog 56 #[.pointer (some ⟨p, 0, none⟩)] w (DiskGives n0 w p S D.sync.1 D.sync.2) := by
  obtain ⟨w1, hw1⟩ : ∃ w1, w1 = w.alloc (.cells #[.pointer (some ⟨p, 0, none⟩)] 26) := ⟨_, rfl⟩
  have hb1 : Below w.heap.size w w1 := by rw [hw1]; exact below_alloc0 (Below.refl _ _) _
  have B1 : Box w1 w.heap.size (.pointer (some ⟨p, 0, none⟩)) 26 := by unfold Box; rw [hw1]; exact heap_alloc_new w _
  have hd1 := h.below hb1
  obtain ⟨ok, q, M, hin, hft⟩ := hd1
  have hcf : ∀ args w, (callFunc 92 args).run Tryz.prog w = .ok (.enter 92 args) w := fun args w => rfl
  have c1 := B1.cell
  have hop : Calls Tryz.prog 38 #[.pointer (some ⟨p, 0, none⟩), .int .i64 3, .func (.func 92) #[] #[.pointer (some ⟨w.heap.size, 0, none⟩)]] w1 (DiskGives n0 w p S D.sync.1 D.sync.2) := by
    have hw01 : Chg S w w1 := .of_below hb1
    by_cases hb : (D.begin 3).1 = 0
    · have hwr : D.sync = (0, (D.go 3).settle fun _ => true) := by unfold Dsk.sync; rw [if_neg (by simpa using hb)]
      rw [hwr]
      have key : Calls Tryz.prog 38 #[.pointer (some ⟨p, 0, none⟩), .int .i64 3, .func (.func 92) #[] #[.pointer (some ⟨w.heap.size, 0, none⟩)]] w1
          (fun e w'' => ∃ x : Nat, e = .returned (.int .u16 (x : Nat)) ∧ (x = 0 ∧ DiskAt n0 w'' p ((D.go 3).settle fun _ => true) S ∧ Chg S w w'')) := by
        refine op_go3 _ _ _ p D 92 _ (fun x w'' => x = 0 ∧ DiskAt n0 w'' p ((D.go 3).settle fun _ => true) S ∧ Chg S w w'') w1 hin.rcd ok hn hb hcf ?_
        intro w2 hrec hch
        have hin2 := hin.turned hrec hch rfl rfl
        have hpw := hSp p hp
        have b1 := B1.keep hch (fun e => by have := (show w.heap.size = p from e); omega)
        refine (sync_do n0 w2 p _ (D.go 3) S ⟨D.go_ok ok 3, q, M, hin2, hft⟩ b1 hc).mono ?_
        rintro e w3 ⟨rfl, hd3, hc3⟩
        exact ⟨0, rfl, rfl, hd3, (hw01.trans hch (fun g _ e => by rw [show g = p from e]; exact hp)).trans hc3 (fun _ _ h => h)⟩
      refine key.mono ?_
      rintro e w3 ⟨x, rfl, rfl, h2, h3⟩
      exact ⟨rfl, h2.mono (fun _ _ _ h => .inl h), h3⟩
    · have hwr : D.sync = D.begin 3 := by unfold Dsk.sync; rw [if_pos hb]
      rw [hwr]
      refine (op_fails3 _ _ _ p D _ w1 hin.rcd ok hn hb).mono ?_
      rintro e w2 ⟨rfl, hrec, hch⟩
      have hin2 := hin.turned hrec hch (D.begin_last 3).1 (D.begin_last 3).2
      exact ⟨rfl, ⟨D.begin_ok ok 3, q, M, hin2, fun g hg => .inl (hft g hg)⟩, hw01.trans hch (fun g _ e => by rw [show g = p from e]; exact hp)⟩
  have HOP := Lib.hid hop
  clear hop
  go_enter Tryz.func56, Tryz.ntmps56
  go_wp2_with fail
  rw [← hw1]
  have HW1 := Lib.hid hw1
  clear hw1
  go_wp2_with fail
  refine HOP.out.mono ?_
  rintro e w9 ⟨rfl, hd9, hc9⟩
  have HD9 := Lib.hid hd9
  have HC9 := Lib.hid hc9
  clear hd9 hc9
  go_wp2
  go_ret
  exact ⟨rfl, HD9.out, HC9.out⟩
end Go.Proofs.YtfbjjblgcgjndaaGreat

/- Contract of the disk's Cut. -/
namespace Go.Proofs.YtfbjjblgcgjndaaGreat
open Go.RowKit Go.Maps

def Dsk.cut (D : Dsk) (bs : List Bool) : Dsk := (D.settle fun i => bs.getD i false).calm
set_option maxRecDepth 100000 in
set_option maxHeartbeats 1000000 in
theorem cut_kept (w : World) (b : Nat) (A : Option Addr) (c : Nat) (bs : List Bool) (i : Nat) (hb : Box w b (.slice A bs.length c) 68) (hA : At w A (bs.map .bool)) :
    Calls Tryz.prog 58 (#[.int .i64 i] ++ #[.pointer (some ⟨b, 0, none⟩)]) w fun e w'' => e = .returned (.bool (bs.getD i false)) ∧ ∃ k, w'' = w.drewN k := by
  rw [show (#[Value.int .i64 (i : Int)] ++ #[.pointer (some ⟨b, 0, none⟩)]) = #[.int .i64 (i : Int), .pointer (some ⟨b, 0, none⟩)] from rfl]
  have c1 := hb.cell
  by_cases hi : i < bs.length
  · obtain ⟨g, o, rfl, hr⟩ := hA (by intro e; have := congrArg List.length e; simp at this; subst this; simp at hi)
    have c2 : w.cell? ⟨g, o + i, none⟩ = some (.bool (bs.getD i false)) := hr i _ (by simp [hi, List.getD_eq_getElem?_getD])
    have a1 : (i : Int) < (bs.length : Int) := by omega
    generalize bs.getD i false = x at *
    clear hr hA hb hi
    have hd : decide ((i : Int) < (bs.length : Int)) = true := by simpa using a1
    go_enter Tryz.func58, Tryz.ntmps58
    go_wp2
    go_ret
    exact ⟨rfl, 0, rfl⟩
  · have hx : bs.getD i false = false := by simp [List.getD_eq_getElem?_getD, List.getElem?_eq_none (show bs.length ≤ i by omega)]
    have a1 : ¬ (i : Int) < (bs.length : Int) := by omega
    have hd : decide ((i : Int) < (bs.length : Int)) = false := by simpa using a1
    rw [hx]
    clear hA hb hi
    go_enter Tryz.func58, Tryz.ntmps58
    go_wp2
    go_ret
    exact ⟨rfl, 0, rfl⟩
theorem six_chg (w : World) (p : Nat) (a b c d e f : Value) : Chg (OnlyP p) w ((((((w.setCell ⟨p, 3, none⟩ a).setCell ⟨p, 4, none⟩ b).setCell ⟨p, 5, none⟩ c).setCell ⟨p, 6, none⟩ d).setCell ⟨p, 7, none⟩ e).setCell ⟨p, 8, none⟩ f) :=
  ((two_chg w p 3 4 a b).trans (two_chg _ p 5 6 c d) (fun _ _ h => h)).trans (two_chg _ p 7 8 e f) (fun _ _ h => h)
set_option maxRecDepth 100000 in
set_option maxHeartbeats 1000000 in
theorem disk_cut (n0 : Nat) (w : World) (p : Nat) (D : Dsk) (S : Nat → Prop) (A : Option Addr) (c : Nat) (bs : List Bool) (h : DiskAt n0 w p D S) (hc : D.cache.length ≤ 1000000000000)
    (hA : ∀ w', Chg S w w' → At w' A (bs.map .bool)) (hSp : ∀ g, S g → g < w.heap.size) :
    Calls Tryz.prog 27 #[.pointer (some ⟨p, 0, none⟩), .slice A bs.length c] w fun e w' => e = .returned (.tuple #[]) ∧ DiskAt n0 w' p (D.cut bs) S ∧ Chg S w w' := by
  obtain ⟨w1, hw1⟩ : ∃ w1, w1 = w.alloc (.cells #[.slice A bs.length c] 68) := ⟨_, rfl⟩
  have hb1 : Below w.heap.size w w1 := by rw [hw1]; exact below_alloc0 (Below.refl _ _) _
  have B1 : Box w1 w.heap.size (.slice A bs.length c) 68 := by unfold Box; rw [hw1]; exact heap_alloc_new w _
  have hset := Lib.hid (settle_any n0 w1 p D S 58 #[.pointer (some ⟨w.heap.size, 0, none⟩)] (fun i => bs.getD i false) (h.below hb1) hc (fun _ _ => rfl) (fun i w' hi hch => cut_kept w' w.heap.size A c bs i (B1.keep hch (fun e => by have := hSp _ e; omega))
    (hA w' ((Chg.of_below (F := S) hb1).trans hch (fun _ _ h => h)))))
  have hw01 := Lib.hid (show Chg S w w1 from .of_below hb1)
  clear B1 hb1 hA hSp h hc
  go_enter Tryz.func27, Tryz.ntmps27
  go_wp2_with fail
  rw [← hw1]
  have HW1 := Lib.hid hw1
  clear hw1
  go_wp2_with fail
  refine hset.out.mono ?_
  rintro e w2 ⟨rfl, hd, hch⟩
  have HD := Lib.hid hd
  have HC := Lib.hid hch
  clear hd hch
  go_wp2_with fail
  refine (none_any _).mono ?_
  rintro e w3 ⟨rfl, hw3⟩
  have hb3 : Below w2.heap.size w2 w3 := by rw [hw3]; exact below_alloc0 (Below.refl _ _) _
  have hd3 := HD.out.below hb3
  have HD3 := Lib.hid hd3
  have HC3 := Lib.hid (HC.out.trans (.of_below (F := S) hb3) (fun _ _ h => h))
  clear hw3 hb3
  obtain ⟨ok, q, M, hin, hft⟩ := hd3
  have HP := Lib.hid (hft p (.inl rfl))
  have HR := Lib.hid hin.rcd
  have OK := Lib.hid ok
  have c3 : w3.cell? ⟨p, 3, none⟩ = some (.bool (D.settle fun i => bs.getD i false).dark) := hin.rcd.cell 3 (by omega)
  have c4 : w3.cell? ⟨p, 4, none⟩ = some (.int .i64 (D.settle fun i => bs.getD i false).trip) := hin.rcd.cell 4 (by omega)
  have c5 : w3.cell? ⟨p, 5, none⟩ = some (.int .i64 ((D.settle fun i => bs.getD i false).f 0)) := hin.rcd.cell 5 (by omega)
  have c6 : w3.cell? ⟨p, 6, none⟩ = some (.int .i64 ((D.settle fun i => bs.getD i false).f 1)) := hin.rcd.cell 6 (by omega)
  have c7 : w3.cell? ⟨p, 7, none⟩ = some (.int .i64 ((D.settle fun i => bs.getD i false).f 2)) := hin.rcd.cell 7 (by omega)
  have c8 : w3.cell? ⟨p, 8, none⟩ = some (.int .i64 ((D.settle fun i => bs.getD i false).f 3)) := hin.rcd.cell 8 (by omega)
  have f3 := hin.rcd.frozen 3
  have f4 := hin.rcd.frozen 4
  have f5 := hin.rcd.frozen 5
  have f6 := hin.rcd.frozen 6
  have f7 := hin.rcd.frozen 7
  have f8 := hin.rcd.frozen 8
  clear hin hft ok
  go_wp2
  go_end0
  refine ⟨rfl, HD3.out.only (D' := D.cut bs) (Dsk.calm_ok OK.out) rfl rfl ?_ ?_, ?_⟩
  · exact six_chg _ _ _ _ _ _ _ _
  · intro L C m hr
    exact ((((((hr.set 3 _).set 4 _).set 5 _).set 6 _).set 7 _).set 8 _).congr (all13 rfl rfl rfl rfl rfl rfl rfl rfl rfl rfl rfl rfl rfl)
  · exact (hw01.out.trans HC3.out (fun _ _ h => h)).trans (six_chg _ _ _ _ _ _ _ _) (fun g _ e => by rw [show g = p from e]; exact HP.out)
end Go.Proofs.YtfbjjblgcgjndaaGreat

/- The disk's Read: what it finds, and a page that is out of range. -/
namespace Go.Proofs.YtfbjjblgcgjndaaGreat
open Go.RowKit Go.Maps

theorem run_alloc183 (w : World) : (Instr.alloc 108 true (.tuple #[])).run Tryz.prog w = .ok (.pointer (some ⟨w.heap.size, 0, none⟩)) (w.alloc (.cells zero128 108)) := by
  obtain ⟨i183, h183, e183⟩ := Option.map_eq_some_iff.1 Tryz.info108
  simp only [Prod.mk.injEq] at e183
  have hz : zero128.size = 128 := by simp [zero128]
  generalize zero128 = Z at *
  simp [Instr.alloc, zeroValue, typeInfo, newVar, sizeOf, h183, e183.1, hz, Value.cells, newRow]
def alloc183 : Sem Next := do pure (.value (← Instr.alloc 108 true (.tuple #[])))
theorem execOp_alloc183 (ρ : Operand → Value) (dst : Option Tmp) (ty : TypeId) (pos : String) (after : Array Edge) (guard : Option (Nat × Bool)) :
    execOp ρ ⟨dst, .alloc 108, ty, pos, after, guard⟩ = alloc183 := by
  unfold execOp alloc183
  rfl
theorem run_alloc183' (w : World) : alloc183.run Tryz.prog w = .ok (.value (.pointer (some ⟨w.heap.size, 0, none⟩))) (w.alloc (.cells zero128 108)) := by
  unfold alloc183
  simp only [Sem.run_bind, Sem.run_pure, run_alloc183, Result.andThen_ok]
theorem store183 (w : World) (c : Array Value) (hc : c.size = 128) (s : List Nat) (hs : s.length = 128) : (storeCells ⟨w.heap.size, 0, none⟩ (ns .u8 s)).run Tryz.prog (w.alloc (.cells c 108)) = .ok () (w.alloc (.cells (ns .u8 s).toArray 108)) := by
  have := run_storeCells_new (P := Tryz.prog) w 108 c (ns .u8 s).toArray (by rw [Tryz.info108']; simp [ns_length, hs]) (by rw [hc]; simp [ns_length, hs]) (all_oneCell_toArray (ns_one .u8 s))
  simpa using this
/-- a sector as it lasts, in memory -/
theorem LastAt.at {w : World} {b : Nat} {l : List (List Nat)} (h : LastAt w b l) (i : Nat) (hi : i < l.length) : w.rangeAt b (i * 128) (ns .u8 (l.getD i [])) := by
  rw [List.getD_eq_getElem?_getD, List.getElem?_eq_getElem hi]
  exact h.range i hi
/-- what a map says of a sector -/
theorem SeenOk.says {M : DataW Unit} {D : Dsk} (h : SeenOk M D.cache) (a : Nat) :
    (has M (seenKey a) = false ∧ D.sec a = D.last.getD a []) ∨ (has M (seenKey a) = true ∧ ∃ (i : Nat) (x : Nat × List Nat), D.cache[i]? = some x ∧ D.sec a = x.2 ∧ ∀ z, M.atKey (seenKey a) z = .lit (.int .i64 (i : Int))) := by
  cases hl : lastWrite D.cache a with
  | none => exact .inl ⟨(h.2 a).1 hl, by unfold Dsk.sec; rw [hl]⟩
  | some s =>
    obtain ⟨h1, i, h2, h3⟩ := (h.2 a).2 s hl
    exact .inr ⟨h1, i, (a, s), h2, by unfold Dsk.sec; rw [hl], h3⟩
theorem Tryz.zero3 : (Tryz.prog.info? 3).map (·.zero) = some (some (.int .i64 0)) := by kernel_rfl
theorem zeroValue3 (w : World) : (zeroValue 3).run Tryz.prog w = .ok (.int .i64 0) w := by
  obtain ⟨i3, h3, e3⟩ := Option.map_eq_some_iff.1 Tryz.zero3
  simp [zeroValue, typeInfo, h3, e3]
theorem DiskIn.look {n0 : Nat} {w : World} {p : Nat} {D : Dsk} {q : Dparts} {M : DataW Unit} (h : DiskIn n0 w p D q M) (a : Nat) (ha : a ≤ 1000000000000) :
    (D.sec a = D.last.getD a [] ∧ ∃ c, (Instr.lookup 99 (.map (some q.m)) (.int .i64 (a : Int)) true).run Tryz.prog w = .ok (.tuple #[.int .i64 c, .bool false]) w) ∨
    (∃ (i : Nat) (x : Nat × List Nat), D.cache[i]? = some x ∧ D.sec a = x.2 ∧ (Instr.lookup 99 (.map (some q.m)) (.int .i64 (a : Int)) true).run Tryz.prog w = .ok (.tuple #[.int .i64 (i : Int), .bool true]) w) := by
  have ha' : (a : Int) ≤ 1000000000000 := by omega
  have hwf : (Lit.int .i64 (a : Int)).wf = true := by go_wf
  have hkey : keyOf Tryz.prog 3 (.int .i64 (a : Int)) = some (seenKey a) := keyOf_int_mk Tryz.underlying3 hwf
  obtain ⟨v, ps, hrun, hv⟩ := h.map.look_ok key3 Tryz.underlying99 (zeroValue3 w) (zd := .lit (.int .i64 0)) (zp := []) (plainElem_int Tryz.underlying3 (by go_wf)) hkey
  obtain ⟨c, rfl, hc, _⟩ := plainElem_int_inv Tryz.underlying3 hv
  have hc1 := congrArg Prod.fst hc
  simp only at hc1
  rcases h.seen.says a with ⟨h1, h2⟩ | ⟨h1, i, x, h2, h3, h4⟩
  · rw [h1] at hrun
    exact .inl ⟨h2, c, hrun⟩
  · rw [h1] at hrun
    rw [h4] at hc1
    have hci : (i : Int) = c := by simpa using hc1
    rw [← hci] at hrun
    exact .inr ⟨i, x, h2, h3, hrun⟩
set_option maxRecDepth 100000 in
set_option maxHeartbeats 1000000 in
theorem read_range (n0 : Nat) (w : World) (p : Nat) (D : Dsk) (S : Nat → Prop) (pg : Int) (bp bd br : Nat) (h : DiskAt n0 w p D S) (h1 : Box w bp (.int .i64 pg) 3) (h2 : Box w bd (.pointer (some ⟨p, 0, none⟩)) 26)
    (hr : pg < 0 ∨ (D.pages : Int) ≤ pg) : Calls Tryz.prog 82 #[.pointer (some ⟨bp, 0, none⟩), .pointer (some ⟨bd, 0, none⟩), .pointer (some ⟨br, 0, none⟩)] w fun e w' => e = .returned (.int .u16 2) ∧ Below w.heap.size w w' := by
  have c1 := h1.cell
  have c2 := h2.cell
  have hp := fun n => (pages_any (h.below (below_drewN (Below.refl w.heap.size w) n))).mono fun _ _ (h : _ ∧ _) => And.intro h.1 h.2.symm
  have HP := Lib.hid hp
  clear hp h h1 h2
  by_cases hneg : pg < 0
  · have hd : decide (pg < 0) = true := by simpa using hneg
    have HH := Lib.hid hneg
    clear hr hneg
    go_enter Tryz.func82, Tryz.ntmps82
    go_wp2_with fail
    go_quiet ((go_at_call 40; exact Calls.quiet_of_same (HP.out _)))
    go_wp2_with fail
    go_ret
    exact ⟨rfl, below_drewN (Below.refl _ _) _⟩
  · have hge : (D.pages : Int) ≤ pg := by omega
    have hd : decide (pg < 0) = false := by simpa using hneg
    have hd2 : decide ((D.pages : Int) ≤ pg) = true := by simpa using hge
    clear hr
    generalize D.pages = N at *
    go_enter Tryz.func82, Tryz.ntmps82
    go_wp2_with fail
    go_quiet ((go_at_call 40; exact Calls.quiet_of_same (HP.out _)))
    go_wp2_with fail
    go_ret
    exact ⟨rfl, below_drewN (Below.refl _ _) _⟩
end Go.Proofs.YtfbjjblgcgjndaaGreat
