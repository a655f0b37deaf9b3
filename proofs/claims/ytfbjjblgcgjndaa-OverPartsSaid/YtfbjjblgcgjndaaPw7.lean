/- Joined texts: Over3, Over4, Over5, Over7, Over8, Over9. -/
import Derived.Maps.AppendAt
import Derived.Test.YtfbjjblgcgjndaaPw1
import Derived.Test.YtfbjjblgcgjndaaPw6
set_option linter.unusedVariables false
set_option linter.unusedSimpArgs false

/- over.Encode (34). -/
namespace Go.Proofs.Ytfbjjblgcgjndaa
open Go.RowKit Go.Shelf

attribute [local go_sem] Oper.semAt_some

def encOk (l u : List Nat) : Prop := need l.length ≠ 0 ∧ u.length = need l.length ∧ (u.any fun x => !isPg x) = false
def le4 (x : Nat) : List Nat := [x % 256, x / 256 % 256, x / 65536 % 256, x / 16777216 % 256]
/-- page j of a great value -/
def encRow (l u : List Nat) (j : Nat) : List Nat := le4 (if j + 1 < u.length then nth u (j + 1) else 0) ++ (l.drop (1004 * j)).take 1004
def encRows (l u : List Nat) : List (List Nat) := (List.range (need l.length)).map (encRow l u)
def EncGives (w : World) (l u : List Nat) (e : Ending) (w' : World) : Prop :=
  ∃ v F Y, e = .returned (.tuple #[v, .int .u16 0]) ∧ Rows23 w.heap.size w' v (encRows l u) F Y ∧ Below w.heap.size w w' ∧ ∀ i A n c, i < need l.length → F i = .slice A n c → n ≤ c
/-- rows that came out: each its own block, all apart -/
structure Apt (n0 : Nat) (w : World) (n : Nat) (L : List (List Nat)) (F : Nat → Value) (Y : Nat → Prop) : Prop where
  bufs : ∀ i, i < n → Buf n0 w (F i) (L.getD i [])
  apart : ∀ i j, i < n → j < n → i ≠ j → ∀ g, blk (F i) g → ¬ blk (F j) g
  sub : ∀ i g, i < n → blk (F i) g → Y g
def EncFull (w : World) (l u : List Nat) (e : Ending) (w' : World) : Prop :=
  ∃ v F Y, e = .returned (.tuple #[v, .int .u16 0]) ∧ Rows23 w.heap.size w' v (encRows l u) F Y ∧ Below w.heap.size w w' ∧ (∀ i A n c, i < need l.length → F i = .slice A n c → n ≤ c) ∧ Apt w.heap.size w' (need l.length) (encRows l u) F Y
/-- the rows behind the chunks pre -/
def rowsOf (l u pre : List Nat) : List (List Nat) := (List.range pre.length).map fun j => le4 (if j + 1 < u.length then nth u (j + 1) else 0) ++ (l.drop (1004 * nth pre j)).take 1004
theorem rowsOf_length (l u pre : List Nat) : (rowsOf l u pre).length = pre.length := by simp [rowsOf]
theorem rowsOf_snoc (l u pre : List Nat) (x : Nat) : rowsOf l u (pre ++ [x]) = rowsOf l u pre ++ [le4 (if pre.length + 1 < u.length then nth u (pre.length + 1) else 0) ++ (l.drop (1004 * x)).take 1004] := by
  unfold rowsOf
  rw [List.length_append, List.length_singleton, List.range_succ, List.map_append]
  congr 1
  · refine List.map_congr_left fun j hj => ?_
    have hj' := List.mem_range.1 hj
    have : nth (pre ++ [x]) j = nth pre j := by simp [nth, List.getD_eq_getElem?_getD, List.getElem?_append_left hj']
    rw [this]
  · have : nth (pre ++ [x]) pre.length = x := by simp [nth, List.getD_eq_getElem?_getD]
    simp [this]
theorem rowsOf_all (l u : List Nat) (h : u.length = need l.length) : rowsOf l u (List.range (need l.length)) = encRows l u := by
  unfold rowsOf encRows encRow
  rw [List.length_range]
  refine List.map_congr_left fun j hj => ?_
  have hj' := List.mem_range.1 hj
  have : nth (List.range (need l.length)) j = j := by simp [nth, List.getD_eq_getElem?_getD, hj']
  rw [this]
/-- between two rounds -/
structure EncI (w : World) (l u : List Nat) (S : Value) (b o c : Nat) (pre : List Nat) (W : World) (v : Value) (F : Nat → Value) (Y : Nat → Prop) : Prop where
  at_ : Boxed W w.heap.size 34 S
  n_ : Boxed W (w.heap.size + 1) 3 (.int .i64 (u.length : Int))
  out : Boxed W (w.heap.size + 1 + 1) 30 v
  s_ : Boxed W (w.heap.size + 1 + 1 + 1) 23 (.slice (some ⟨b, o, none⟩) l.length c)
  k_ : Boxed W (w.heap.size + 1 + 1 + 1 + 1) 3 (.int .i64 1004)
  rows : Rows23 (w.heap.size + 5) W v (rowsOf l u pre) F Y
  cells : ∀ g, Y g → ∃ cs t fr, W.heap[g]? = some (.cells cs t fr)
  below : Below w.heap.size w W
  room : ∀ i A n cp, i < pre.length → F i = .slice A n cp → n ≤ cp
  bufs : ∀ i, i < pre.length → Buf (w.heap.size + 5) W (F i) ((rowsOf l u pre).getD i [])
  apart : ∀ i j, i < pre.length → j < pre.length → i ≠ j → ∀ g, blk (F i) g → ¬ blk (F j) g
  sub : ∀ i g, i < pre.length → blk (F i) g → Y g
theorem EncI.own {w : World} {l u : List Nat} {S : Value} {b o c B : Nat} (hB : w.heap.size ≤ B) : OwnFrom B (fun (pre : List Nat) W => ∃ v F Y, EncI w l u S b o c pre W v F Y) := by
  rintro pre W W' row ⟨v, F, Y, h⟩ hg hr
  have hne : ∀ g cs t fr, W.heap[g]? = some (.cells cs t fr) → row ≠ some g := fun g cs t fr hc e => by
    obtain ⟨_, o', ho, hno⟩ := hr g e
    rw [hc] at ho; cases ho; cases hno
  have hbx : ∀ {g t v}, Boxed W g t v → Boxed W' g t v := fun {g t v} hb => hb.kept hg (fun e => hne g _ _ _ hb e.symm)
  have hch : Chg (fun g => row = some g) W W' := ⟨hg.os, hg.tape, hg.output, hg.size, fun k hk hF => hg.block k hk (fun e => hF e.symm)⟩
  have hY : ∀ g, Y g → row ≠ some g := fun g hy => by
    obtain ⟨cs, t, fr, hc⟩ := h.cells g hy
    exact hne g cs t fr hc
  have hv : ∀ g, blk v g → row ≠ some g := fun g hb e => by
    rcases h.rows.own.2 with ⟨rfl, _⟩ | ⟨g', cap, cur, rfl, _, hgb, _⟩
    · cases hb
    · obtain rfl : g' = g := by cases hb; rfl
      exact hne g' _ _ _ hgb e
  refine ⟨v, F, Y, hbx h.at_, hbx h.n_, hbx h.out, hbx h.s_, hbx h.k_, ⟨own_chg h.rows.own hch hv, fun i hi => (h.rows.rows i hi).keep hch (fun g hy => hY g hy), fun g hy => ⟨(h.rows.lt g hy).1, Nat.lt_of_lt_of_le (h.rows.lt g hy).2 hg.size⟩, h.rows.off⟩, fun g hy => ?_, ?_, h.room, fun i hi => own_chg (h.bufs i hi) hch (fun g hb => hY g (h.sub i g hi hb)), h.apart, h.sub⟩
  · obtain ⟨cs, t, fr, hc⟩ := h.cells g hy
    exact ⟨cs, t, fr, (hg.block g (Array.getElem?_eq_some_iff.1 hc).1 (fun e => hne g cs t fr hc e.symm)).trans hc⟩
  · exact ownFrom_below (β := Unit) (Nat.le_refl _) hB () W W' row h.below hg hr
theorem Rows23.push2 {n0 : Nat} {w w' : World} {v v' : Value} {L : List (List Nat)} {F : Nat → Value} {Y : Nat → Prop} {A : Option Addr} {n c : Nat} {s : List Nat} (h : Rows23 n0 w v L F Y) (hr : Buf n0 w (.slice A n c) s) (hoff : ∀ g, blk (.slice A n c) g → ¬ blk v g)
    (ho : w'.ownsRow n0 23 1 v' (L.length + 1) (lst F L.length ++ [.slice A n c])) (hc : Chg (blk v) w w') (hnew : ∀ g, g < w.heap.size → blk v' g → blk v g) :
    Rows23 n0 w' v' (L ++ [s]) (turn F L.length (.slice A n c)) (With Y (.slice A n c)) := by
  obtain ⟨hn, hA⟩ := buf_at hr
  have hnil : A = none → c = 0 := by
    obtain ⟨A', c', e, _, h2, _⟩ := hr.at
    injection e with e1 e2 e3
    subst e1 e3; exact h2
  have hl : (L ++ [s]).length = L.length + 1 := by simp
  refine ⟨?_, fun i hi => ?_, fun g hg => ?_, fun g hg hb => ?_⟩
  · rw [hl]
    have : lst (turn F L.length (.slice A n c)) (L.length + 1) = lst F L.length ++ [.slice A n c] := by
      rw [lst_succ, turn_same]
      congr 1
      exact lst_congr fun j hj => turn_other _ _ _ _ (by omega)
    rw [this]; exact ho
  · rw [hl] at hi
    by_cases e : i = L.length
    · subst e
      rw [turn_same]
      have : (L ++ [s]).getD L.length [] = s := by simp [List.getD_eq_getElem?_getD]
      rw [this]
      exact ⟨A, c, by rw [hn], hA.chg hc (fun a ha => hoff _ (by rw [ha]; rfl)), hnil, fun a ha => .inr (by rw [ha]; rfl)⟩
    · rw [turn_other _ _ _ _ e]
      have : (L ++ [s]).getD i [] = L.getD i [] := by rw [List.getD_eq_getElem?_getD, List.getElem?_append_left (by omega), ← List.getD_eq_getElem?_getD]
      rw [this]
      exact ((h.rows i (by omega)).keep hc h.off).mono (fun g hg => .inl hg)
  · rcases hg with hg | hg
    · exact ⟨(h.lt g hg).1, Nat.lt_of_lt_of_le (h.lt g hg).2 hc.size⟩
    · exact ⟨(row_lt hr hg).1, Nat.lt_of_lt_of_le (row_lt hr hg).2 hc.size⟩
  · rcases hg with hg | hg
    · exact h.off g hg (hnew g (h.lt g hg).2 hb)
    · exact hoff g hg (hnew g (row_lt hr hg).2 hb)
theorem bx_below {W W' : World} {g : Nat} {t : TypeId} {v : Value} (h : Boxed W g t v) (hb : Below W.heap.size W W') : Boxed W' g t v := (hb.block g h.lt).trans h
theorem bx_chg {W W' : World} {G : Nat → Prop} {g : Nat} {t : TypeId} {v : Value} (h : Boxed W g t v) (hb : Chg G W W') (hg : ¬ G g) : Boxed W' g t v := (hb.block g h.lt hg).trans h
theorem EncI.up {w : World} {l u : List Nat} {S : Value} {b o c : Nat} {pre : List Nat} {W W' : World} {v : Value} {F : Nat → Value} {Y : Nat → Prop} (h : EncI w l u S b o c pre W v F Y) (hb : Below W.heap.size W W') : EncI w l u S b o c pre W' v F Y :=
  ⟨bx_below h.at_ hb, bx_below h.n_ hb, bx_below h.out hb, bx_below h.s_ hb, bx_below h.k_ hb, h.rows.below hb, fun g hg => by
    obtain ⟨cs, t, fr, hc⟩ := h.cells g hg
    exact ⟨cs, t, fr, (hb.block g (Array.getElem?_eq_some_iff.1 hc).1).trans hc⟩, below_next0 h.below hb, h.room, fun i hi => own_below (h.bufs i hi) hb, h.apart, h.sub⟩
theorem buf_cells {n0 : Nat} {w : World} {v : Value} {l : List Nat} (h : Buf n0 w v l) {g : Nat} (hg : blk v g) : ∃ cs t fr, w.heap[g]? = some (.cells cs t fr) := by
  rcases h.2 with ⟨rfl, _⟩ | ⟨g', cap, cur, rfl, _, hgb, _⟩
  · cases hg
  · obtain rfl : g' = g := by cases hg; rfl
    exact ⟨_, _, _, hgb⟩
/-- a round's world -/
theorem enc_step {w : World} {l u : List Nat} {S : Value} {b o c : Nat} {pre : List Nat} {W W1 W3 : World} {v v' : Value} {F : Nat → Value} {Y : Nat → Prop} {x : Nat} {A : Option Addr} {n cp : Nat} (h : EncI w l u S b o c pre W v F Y) (hb1 : Below W.heap.size W W1) (hk1 : KeepsOthers W W1)
    (hr : Buf W.heap.size W1 (.slice A n cp) (le4 (if pre.length + 1 < u.length then nth u (pre.length + 1) else 0) ++ (l.drop (1004 * x)).take 1004))
    (ho : W3.ownsRow (w.heap.size + 5) 23 1 v' (pre.length + 1) (lst F pre.length ++ [.slice A n cp])) (hg : (W1.alloc (.cells #[.slice A n cp] 23)).grownBy W3 v.ownBlock) (hv : v'.ownBlock = v.ownBlock ∨ v'.ownBlock = some (W1.alloc (.cells #[.slice A n cp] 23)).heap.size) (hnc : n ≤ cp) :
    KeepsOthers W (W3.setCell ⟨w.heap.size + 1 + 1, 0, none⟩ v') ∧ KeepsTwo (w.heap.size + 1 + 1 + 1) (w.heap.size + 1 + 1 + 1 + 1) W (W3.setCell ⟨w.heap.size + 1 + 1, 0, none⟩ v') ∧ ∃ v F Y, EncI w l u S b o c (pre ++ [x]) (W3.setCell ⟨w.heap.size + 1 + 1, 0, none⟩ v') v F Y := by
  have h1 := h.up hb1
  have hb2 : Below W1.heap.size W1 (W1.alloc (.cells #[.slice A n cp] 23)) := below_alloc0 (Below.refl _ _) _
  have h2 := h1.up hb2
  have hr2 : Buf W.heap.size (W1.alloc (.cells #[.slice A n cp] 23)) (.slice A n cp) _ := hr.below hb2
  have hs1 := hb1.size
  have hs2 : (W1.alloc (.cells #[.slice A n cp] 23)).heap.size = W1.heap.size + 1 := by simp
  generalize hW2 : W1.alloc (.cells #[.slice A n cp] 23) = W2 at *
  have hn5 : w.heap.size + 5 ≤ W.heap.size := by have := h.k_.lt; omega
  have hc3 : Chg (blk v) W2 W3 := ⟨hg.os, hg.tape, hg.output, hg.size, fun k hk hF => hg.block k hk (fun e => hF (by unfold blk; exact e.symm))⟩
  have hvb : ∀ g, blk v g → w.heap.size + 5 ≤ g ∧ g < W2.heap.size := fun g hg => row_lt h2.rows.own hg
  have hvb' : ∀ g, blk v' g → w.heap.size + 5 ≤ g ∧ g < W3.heap.size := fun g hg => row_lt ho hg
  have hrow5 : Buf (w.heap.size + 5) W2 (.slice A n cp) _ := own_down hr2 hn5
  have hpush := h2.rows.push2 (v' := v') (w' := W3) hrow5 (fun g hg hgv => by
    have a1 := (row_lt hr2 hg).1
    have a2 := (row_lt h.rows.own hgv).2
    omega) (by rw [rowsOf_length]; exact ho) hc3 (fun g hgl hg' => by
    rcases hv with e | e
    · unfold blk at hg' ⊢; rw [← e]; exact hg'
    · unfold blk at hg'; rw [e] at hg'; cases hg'; omega)
  have c4 : Chg (fun g => g = w.heap.size + 1 + 1) W3 (W3.setCell ⟨w.heap.size + 1 + 1, 0, none⟩ v') := one_chg _ _ _ _
  have hout3 : Boxed W3 (w.heap.size + 1 + 1) 30 v := bx_chg h2.out hc3 (fun e => by have := hvb _ e; omega)
  have bx : ∀ {g t y}, Boxed W2 g t y → g < w.heap.size + 5 → g ≠ w.heap.size + 1 + 1 → Boxed (W3.setCell ⟨w.heap.size + 1 + 1, 0, none⟩ v') g t y := fun {g t y} hb hl hne => bx_chg (bx_chg hb hc3 (fun e => by have := hvb _ e; omega)) c4 (fun e => hne e)
  have hY3 : ∀ g, With Y (.slice A n cp) g → w.heap.size + 5 ≤ g := fun g hg => (hpush.lt g hg).1
  have hkeep : KeepsOthers W (W3.setCell ⟨w.heap.size + 1 + 1, 0, none⟩ v') := by
    refine ((hk1.trans (by rw [← hW2]; exact KeepsOthers.alloc W1 _)).trans (KeepsOthers.of_grownBy hg fun j o' ej hj => ?_)).trans (KeepsOthers.setCell _ _ _)
    rcases h2.rows.own.2 with ⟨rfl, _⟩ | ⟨g', cap, cur, rfl, _, hgb, _⟩
    · cases ej
    · obtain rfl : g' = j := by simpa [Value.ownBlock] using ej
      rw [hgb] at hj; cases hj; rfl
  refine ⟨hkeep, ⟨?_, ?_⟩, v', turn F (rowsOf l u pre).length (.slice A n cp), With Y (.slice A n cp), ?_⟩
  · exact (show _ = _ from bx h2.s_ (by omega) (by omega)).trans h.s_.symm
  · exact (show _ = _ from bx h2.k_ (by omega) (by omega)).trans h.k_.symm
  · refine ⟨bx h2.at_ (by omega) (by omega), bx h2.n_ (by omega) (by omega), hout3.set v', bx h2.s_ (by omega) (by omega), bx h2.k_ (by omega) (by omega), ?_, fun g hg' => ?_, ?_, fun i A' n' c' hi e => ?_, fun i hi => ?_, fun i j hi hj hij g hgi hgj => ?_, fun i g hi hgi => ?_⟩
    · rw [rowsOf_snoc]
      exact ⟨own_chg hpush.own c4 (fun g hg' e => by have := (row_lt hpush.own hg').1; omega), fun i hi => (hpush.rows i hi).keep c4 (fun g hg' e => by have := hY3 g hg'; omega), fun g hg' => ⟨hY3 g hg', Nat.lt_of_lt_of_le (hpush.lt g hg').2 c4.size⟩, hpush.off⟩
    · have hcl : ∃ cs t fr, W2.heap[g]? = some (.cells cs t fr) := by
        rcases hg' with hg' | hg'
        · exact h2.cells g hg'
        · exact buf_cells hr2 hg'
      obtain ⟨cs, t, fr, hcl⟩ := hcl
      have hlt := (Array.getElem?_eq_some_iff.1 hcl).1
      have hnv : ¬ blk v g := by
        rcases hg' with hg' | hg'
        · exact h2.rows.off g hg'
        · intro e
          have a1 := (row_lt hr2 hg').1
          have a2 := (row_lt h.rows.own e).2
          omega
      exact ⟨cs, t, fr, ((c4.block g (Nat.lt_of_lt_of_le hlt hc3.size) (fun e => by have := hY3 g hg'; omega)).trans (hc3.block g hlt hnv)).trans hcl⟩
    · exact (h2.below.trans (hc3.below (by omega) (fun g e => by have := (hvb g e).1; omega))).trans (c4.below (by have := hc3.size; omega) (fun g e => by omega))
    · rw [rowsOf_length] at e
      by_cases hi' : i = pre.length
      · subst hi'
        rw [turn_same] at e
        cases e; exact hnc
      · rw [turn_other _ _ _ _ hi'] at e
        exact h.room i A' n' c' (by rw [List.length_append, List.length_singleton] at hi; omega) e
    · rw [rowsOf_snoc, rowsOf_length]
      rw [List.length_append, List.length_singleton] at hi
      by_cases hi' : i = pre.length
      · subst hi'
        rw [turn_same]
        have e1 : (rowsOf l u pre ++ [le4 (if pre.length + 1 < u.length then nth u (pre.length + 1) else 0) ++ (l.drop (1004 * x)).take 1004]).getD pre.length [] = le4 (if pre.length + 1 < u.length then nth u (pre.length + 1) else 0) ++ (l.drop (1004 * x)).take 1004 := by
          rw [List.getD_eq_getElem?_getD, List.getElem?_append_right (by rw [rowsOf_length]; omega), rowsOf_length]; simp
        rw [e1]
        exact own_chg (own_chg hrow5 hc3 (fun g hg' hgv => by
          have a1 := (row_lt hr2 hg').1
          have a2 := (row_lt h.rows.own hgv).2
          omega)) c4 (fun g hg' e => by have := (row_lt hrow5 hg').1; omega)
      · rw [turn_other _ _ _ _ hi']
        have e1 : ∀ z, (rowsOf l u pre ++ [z]).getD i [] = (rowsOf l u pre).getD i [] := fun z => by
          rw [List.getD_eq_getElem?_getD, List.getElem?_append_left (by rw [rowsOf_length]; omega), ← List.getD_eq_getElem?_getD]
        rw [e1]
        exact own_chg (own_chg (h2.bufs i (by omega)) hc3 (fun g hg' hgv => h2.rows.off g (h2.sub i g (by omega) hg') hgv)) c4 (fun g hg' e => by have := (row_lt (h2.bufs i (by omega)) hg').1; omega)
    · rw [rowsOf_length] at hgi hgj
      rw [List.length_append, List.length_singleton] at hi hj
      by_cases hi' : i = pre.length
      · subst hi'
        rw [turn_same] at hgi
        rw [turn_other _ _ _ _ (Ne.symm hij)] at hgj
        have a1 := (row_lt hr2 hgi).1
        have a2 := (row_lt (h.bufs j (by omega)) hgj).2
        omega
      · rw [turn_other _ _ _ _ hi'] at hgi
        by_cases hj' : j = pre.length
        · subst hj'
          rw [turn_same] at hgj
          have a1 := (row_lt hr2 hgj).1
          have a2 := (row_lt (h.bufs i (by omega)) hgi).2
          omega
        · rw [turn_other _ _ _ _ hj'] at hgj
          exact h.apart i j (by omega) (by omega) hij g hgi hgj
    · rw [rowsOf_length] at hgi
      rw [List.length_append, List.length_singleton] at hi
      by_cases hi' : i = pre.length
      · subst hi'
        rw [turn_same] at hgi
        exact .inr hgi
      · rw [turn_other _ _ _ _ hi'] at hgi
        exact .inl (h.sub i g (by omega) hgi)
theorem Try.info5b : (Try.prog.info? 5).map (fun i => (i.zero, i.size, i.bytes)) = some (some (.int .u8 0), 1, 1) := by kernel_rfl
theorem Try.info23b : (Try.prog.info? 23).map (fun i => (i.zero, i.size, i.bytes)) = some (some (.slice none 0 0), 1, 24) := by kernel_rfl
theorem enc_box {w : World} {l u : List Nat} {S : Value} {b o c : Nat} {pre : List Nat} {W W2 W3 : World} {v : Value} {F : Nat → Value} {Y : Nat → Prop} (h : EncI w l u S b o c pre W v F Y) (hb2 : Below W.heap.size W W2) (hg : W2.grownBy W3 v.ownBlock) : Boxed W3 (w.heap.size + 1 + 1) 30 v :=
  ((h.up hb2).out).kept hg (fun e => by
    have := row_lt (h.up hb2).rows.own (show blk v (w.heap.size + 1 + 1) from e.symm)
    omega)
theorem part_cells {w W : World} {b o : Nat} {l : List Nat} (h : w.rangeAt b o (ns .u8 l)) (hl : 0 < l.length) (hb : Below w.heap.size w W) (x : Nat) : ∀ j u, (ns .u8 ((l.drop (1004 * x)).take 1004))[j]? = some u → W.cell? (Addr.add ⟨b, o + 1004 * x, none⟩ j) = some u := fun j u hu => by
  have hA : At W (some ⟨b, o, none⟩) (ns .u8 l) := (At.below (fun _ => ⟨b, o, rfl, h⟩) hb)
  obtain ⟨b', o', e, hr⟩ := hA.part (1004 * x) 1004 (by intro e; rw [e] at hu; simp at hu)
  cases e
  rw [Addr.add_mid]; exact hr j u hu
theorem opIn_append {F : Fence} {n : Nat} {P : Program} (w : World) {o : Oper} {a : Act} {Q : Exit → Act → World → Prop} {K : Act → World → Prop}
    (s x : Operand) (t : TypeId) (hop : o.op = Op.call { callee := Callee.builtin Builtin.append, args := #[s, x], argTypes := #[t, t] })
    (base : Nat) (e : TypeId) (i : TypeInfo) (z : Value) (size bytes : Nat) (h1 : P.underlying t = some (.slice e)) (h2 : P.info? e = some i) (h3 : i.zero = some z) (h4 : i.size = size) (h5 : i.bytes = bytes) (h6 : z.cells.size = size) (h7 : 0 < size)
    (v : Value) (k : Nat) (xs : List Value) (hs : a.eval s = v) (hown : w.ownsRow base e size v k xs) (ad : Addr) (m c : Nat) (news : List Value) (hx : a.eval x = .slice (some ad) m c) (hn : news.length = m * size)
    (hc : ∀ j u, news[j]? = some u → w.cell? (ad.add j) = some u) (h1c : ∀ u ∈ news, u.oneCell' = true) (b1 : k + m ≤ maxLen) (b2 : (k + m) * bytes ≤ 140737488355328) (b3 : base ≤ w.heap.size)
    (hK : ∀ v' w', w'.ownsRow base e size v' (k + m) (xs ++ news) → w.grownBy w' v.ownBlock → (v'.ownBlock = v.ownBlock ∨ v'.ownBlock = some w.heap.size) → K (a.put o.dst v') w') :
    Oper.wpIn F n P o a w K Q := by
  obtain ⟨v', w', hrun, r1, r2, _, r4⟩ := run_append_own_at (P := P) w base t o.type e i z size bytes h1 h2 h3 h4 h5 h6 h7 v k xs hown ad m c news hn hc h1c b1 b2 b3
  unfold Oper.wpIn
  refine ⟨?_, ?_⟩
  · simp [Oper.about, hop, resolve, Target.leads, Sem.run_pure]
  · rw [Oper.semAt_plain F _ _ (by rw [hop]; intro c hc'; cases hc')]
    simp [execOp, hop, resolve, invoke, builtin, hs, hx, hrun, Result.andThen]
    exact hK v' w' r1 r2 r4
theorem ite_of {c : Prop} [Decidable c] {A B : Prop} (h : c) (ha : A) : if c then A else B := by rw [if_pos h]; exact ha
theorem opIn_append_run {F : Fence} {n : Nat} {P : Program} {w w' : World} {o : Oper} {a : Act} {Q : Exit → Act → World → Prop} {K : Act → World → Prop} {v' : Value}
    (s x : Operand) (t : TypeId) (hop : o.op = Op.call { callee := Callee.builtin Builtin.append, args := #[s, x], argTypes := #[t, t] })
    (hrun : (Builtin.append_ #[t, t] o.type #[a.eval s, a.eval x]).run P w = .ok v' w') (hK : K (a.put o.dst v') w') : Oper.wpIn F n P o a w K Q := by
  unfold Oper.wpIn
  refine ⟨?_, ?_⟩
  · simp [Oper.about, hop, resolve, Target.leads, Sem.run_pure]
  · rw [Oper.semAt_plain F _ _ (by rw [hop]; intro c hc'; cases hc')]
    simp [execOp, hop, resolve, invoke, builtin, hrun, Result.andThen]
    exact hK
set_option maxRecDepth 100000 in
set_option maxHeartbeats 8000000 in
theorem encode_full (A B : Option Addr) (c cc : Nat) (l u : List Nat) (w : World) (hA : At w A (ns .u8 l)) (hB : At w B (ns .u32 u)) (hcap : l.length ≤ c) (hu : ∀ x, x ∈ u → x < 4294967296) (hok : encOk l u) :
    Calls Try.prog 34 #[.slice A l.length c, .slice B u.length cc] w (EncFull w l u) := by
  obtain ⟨hn0, hul, hno⟩ := hok
  obtain ⟨hl1, hl2, hne⟩ := need_yes hn0
  have hn9 := need_le l.length
  obtain ⟨N, hN⟩ : ∃ N, N = need l.length := ⟨_, rfl⟩
  have HND := Lib.hid (need_any l.length (by omega))
  rw [← hN] at HND hn0 hul hne hn9
  have HNO := Lib.hid (fun w' (h : Below w.heap.size w w') => holdsno_any B cc u w' (hB.below h) hu (by omega))
  rw [hno] at HNO
  obtain ⟨b, o, rfl, hcell⟩ := hA (by intro e; have : (ns .u8 l).length = 0 := by rw [e]; rfl
                                      rw [ns_length] at this; omega)
  have HC := Lib.hid hcell
  have HB := Lib.hid hB
  have HU := Lib.hid hu
  have HUL := Lib.hid hul
  have HNE := Lib.hid hne
  have HN := Lib.hid hN
  have hz1 : ((N : Int) == 0) = false := by simp; omega
  have hz2 : ¬ (N : Int) = 0 := by omega
  have hz3 : ((u.length : Int) != (N : Int)) = false := by simp; omega
  clear hcell hA hB hu hul hne hN hno hn0
  refine (callsIn_wide (n := 6)).1 ?_
  refine callsIn_of_wp_marks Try.func34 rfl trivial ?_ rfl
  simp only [Try.ntmps34, List.size_toArray, List.length_cons, List.length_nil, Nat.reduceAdd, Nat.reduceSub, Array.replicate_succ, Array.replicate_zero, List.push_toArray, List.append_toArray, List.nil_append, List.cons_append]
  gi_wp2_with (first
    | (refine ⟨trivial, ?_⟩; gi_at_call 42; refine (callsIn_wide.2 (HND.out _)).mono ?_; rintro e w' ⟨rfl, rfl⟩)
    | (refine ⟨trivial, ?_⟩; gi_at_call 90; refine (callsIn_wide.2 (HNO.out _ ?_)).mono ?_; (first | exact below_alloc0 (below_alloc0 (Below.refl _ _) _) _); rintro e w' ⟨rfl, rfl⟩)
    | (refine ⟨trivial, ?_⟩; gi_at_call 93; refine (chunk_in Fence.wide _ trivial rfl _ _ _ _).mono ?_; rintro e w' ⟨rfl, rfl⟩))
  have hfol : Try.prog.follows Departure.mixedOrders = true := by kernel_rfl
  obtain ⟨w5, hw5⟩ : ∃ w5, w5 = (((((w.alloc (Obj.cells #[Value.slice B u.length cc] 34)).alloc (Obj.cells #[Value.int IntKind.i64 (N : Int)] 3)).alloc (Obj.cells #[Value.slice none 0 0] 30)).alloc (Obj.cells #[Value.slice (some { block := b, off := o }) l.length c] 23)).alloc (Obj.cells #[Value.int IntKind.i64 1004] 3)) := ⟨_, rfl⟩
  rw [← hw5]
  have hi0 : EncI w l u (.slice B u.length cc) b o c [] w5 (.slice none 0 0) (fun _ => .slice none 0 0) (fun _ => False) := by
    have hz : ∀ (k : Nat) (W : World) (t : TypeId) (v : Value), W.heap.size = k → Boxed (W.alloc (.cells #[v] t)) k t v := fun k W t v e => by rw [← e]; exact Boxed.new W t v
    rw [hw5]
    refine ⟨((((hz w.heap.size w _ _ rfl).alloc _).alloc _).alloc _).alloc _, ?_, ((hz (w.heap.size + 1 + 1) _ _ _ (by simp)).alloc _).alloc _, (hz (w.heap.size + 1 + 1 + 1) _ _ _ (by simp)).alloc _, hz (w.heap.size + 1 + 1 + 1 + 1) _ _ _ (by simp), ?_, fun g hg => hg.elim, below_alloc0 (below_alloc0 (below_alloc0 (below_alloc0 (below_alloc0 (Below.refl _ _) _) _) _) _) _, fun i _ _ _ hi _ => by simp at hi, fun i hi => by simp at hi, fun i j hi => by simp at hi, fun i g hi => by simp at hi⟩
    · rw [HUL.out]; exact (((hz (w.heap.size + 1) _ _ _ (by simp)).alloc _).alloc _).alloc _
    · exact Rows23.nil _ _
  have hsz5 : w5.heap.size = w.heap.size + 5 := by rw [hw5]; simp
  have HI0 := Lib.hid hi0
  clear hw5 hi0
  refine wpIn_rangeFunc_ownF (w0 := w5) rfl (by omega) (gf := 149) (lb := #[Value.pointer (some { block := w.heap.size + 1 + 1 + 1, off := 0 }), Value.pointer (some { block := w.heap.size + 1 + 1 + 1 + 1, off := 0 })]) rfl trivial (enters_of Try.func149 (by kernel_rfl) rfl)
    (chunk_stops Fence.wide (6 - 1) trivial rfl (by omega) (w.heap.size + 1 + 1 + 1) (w.heap.size + 1 + 1 + 1 + 1) b o l.length c (by omega) hcap w5 (by omega) (by omega) HI0.out.s_.cell HI0.out.k_.cell)
    KeepsTwo.trans (fun W l' o o' hl h _ _ => KeepsTwo.put (w := w5) (by omega) (by omega) W l' o o' hl h) (Below.refl _ _) (fun _ => rfl)
    (fun (pre : List Nat) W => ∃ v F Y, EncI w l u (.slice B u.length cc) b o c pre W v F Y) (fun _ _ _ => False)
    (EncI.own (by omega)) (fun _ _ _ _ _ h _ _ => h) ⟨_, _, _, HI0.out⟩
    (fun x => { tmps := #[Value.slice (some { block := b, off := o }) l.length c, Value.slice B u.length cc, undef, Value.pointer (some { block := w.heap.size, off := 0 }), Value.slice none 0 0, Value.int IntKind.u16 0, Value.pointer (some { block := w.heap.size + 1, off := 0 }), Value.pointer (some { block := w.heap.size + 1 + 1, off := 0 }), chunkV b o l.length x, undef, undef, undef, Value.slice (some { block := b, off := o }) l.length c, Value.int IntKind.i64 (l.length : Int), Value.int IntKind.i64 (N : Int), Value.int IntKind.i64 (N : Int), Value.bool false, Value.bool false, Value.slice B u.length cc, Value.int IntKind.i64 (u.length : Int), Value.int IntKind.i64 (N : Int), Value.bool false, Value.bool false, Value.bool false, Value.slice B u.length cc, Value.bool false, Value.bool false, Value.slice (some { block := b, off := o }) l.length c, Value.func (Fn.func 149) #[] #[Value.pointer (some { block := w.heap.size + 1 + 1 + 1, off := 0 }), Value.pointer (some { block := w.heap.size + 1 + 1 + 1 + 1, off := 0 })], chunkV b o l.length x, undef, undef, undef, undef, undef, undef, undef, undef, undef, undef, undef, undef, undef, undef, undef, undef, undef, undef, undef, undef, undef, undef, undef, undef, undef, undef, undef, undef, undef], defers := [] }) ?assign ?body ?done ?stop
  case assign =>
    intro l' x W K hK
    gi_wp2
    exact hK
  case body =>
    rintro l' pre x W ⟨v, F, Y, hI⟩ hpl
    have c3 := hI.at_.cell
    have c6 := hI.n_.cell
    have c7 := hI.out.cell
    have f7 := hI.out.frozen
    have hrl : (rowsOf l u pre).length = pre.length := rowsOf_length _ _ _
    obtain ⟨vA, vc, rfl⟩ : ∃ vA vc, v = .slice vA pre.length vc := by
      rcases hI.rows.own.2 with ⟨rfl, h0⟩ | ⟨g', cap, cur, rfl, _⟩
      · refine ⟨none, 0, ?_⟩
        rw [← hrl]
        first | rw [h0] | rw [h0.1] | simp_all
      · exact ⟨_, cap, by rw [hrl]⟩
    have hpn : pre.length < N := by rw [HNE.out]; exact hpl
    obtain ⟨bb, oo, rfl, hbc⟩ := HB.out (by intro e; have : (ns .u32 u).length = 0 := by rw [e]; rfl
                                            rw [ns_length, HUL.out] at this; omega)
    have HBC := Lib.hid hbc
    have hj1 : IntKind.i64.wrap ((pre.length : Int) + 1) = (pre.length : Int) + 1 := by rw [IntKind.wrap_i64]; omega
    have HI := Lib.hid hI
    have HRL := Lib.hid hrl
    clear hI hpl hbc hrl
    by_cases hnx : pre.length + 1 < N
    · have e1 : (pre.length : Int) + 1 < (N : Int) := by omega
      have e2 : pre.length + 1 < u.length := by rw [HUL.out]; exact hnx
      have e2' : (pre.length : Int) + 1 < (u.length : Int) := by omega
      have e3 : (0 : Int) ≤ (pre.length : Int) + 1 := by omega
      have e4 : ((pre.length : Int) + 1).toNat = pre.length + 1 := by omega
      have hcb : W.cell? ⟨bb, oo + (pre.length + 1), none⟩ = some (.int .u32 (nth u (pre.length + 1) : Int)) := by
        have h1 : w.cell? ⟨bb, oo + (pre.length + 1), none⟩ = some (.int .u32 (nth u (pre.length + 1) : Int)) := HBC.out (pre.length + 1) _ (by simp [ns, nth_eq u (pre.length + 1) e2])
        have hlt : bb < w.heap.size := by
          unfold World.cell? at h1
          simp only at h1
          rcases hh : w.heap[bb]? with _ | ob
          · rw [hh] at h1; cases h1
          · exact (Array.getElem?_eq_some_iff.1 hh).1
        exact (HI.out.below.cell (p := ⟨bb, oo + (pre.length + 1), none⟩) hlt).trans h1
      have hxb := HU.out _ (nth_mem u (pre.length + 1) e2)
      obtain ⟨nx, hnx'⟩ : ∃ nx, nx = nth u (pre.length + 1) := ⟨_, rfl⟩
      rw [← hnx'] at hcb hxb
      have HNX := Lib.hid hnx'
      clear hnx'
      gi_wp2
      have hby : (#[Value.int IntKind.u8 ((nx : Int) % 256), Value.int IntKind.u8 ((nx : Int) / 256 % 256), Value.int IntKind.u8 ((nx : Int) / 65536 % 256), Value.int IntKind.u8 ((nx : Int) / 16777216)] : Array Value) = (ns .u8 (le4 (if pre.length + 1 < u.length then nth u (pre.length + 1) else 0))).toArray := by
        have h3 : nx / 16777216 % 256 = nx / 16777216 := by omega
        rw [if_pos e2, ← HNX.out]
        simp [le4, ns, h3]
      clear e1 e2' e3 e4 hcb hxb
      rw [hby]
      have hbuf : Buf W.heap.size (W.alloc (.cells (ns .u8 (le4 (if pre.length + 1 < u.length then nth u (pre.length + 1) else 0))).toArray 5)).drew (.slice (some ⟨W.heap.size, 0, none⟩) 4 4) (le4 (if pre.length + 1 < u.length then nth u (pre.length + 1) else 0)) :=
        (Buf.new (n0 := W.heap.size) W (le4 _) (Nat.le_refl _) (by simp [le4]) _ _ rfl (by simp [le4])).below (Below.drew (Below.refl _ _))
      have hbw : Below W.heap.size W (W.alloc (.cells (ns .u8 (le4 (if pre.length + 1 < u.length then nth u (pre.length + 1) else 0))).toArray 5)).drew := Below.drew (below_alloc0 (Below.refl _ _) _)
      have hko : KeepsOthers W (W.alloc (.cells (ns .u8 (le4 (if pre.length + 1 < u.length then nth u (pre.length + 1) else 0))).toArray 5)).drew := (KeepsOthers.alloc W _).trans (KeepsOthers.drew _)
      generalize hrw : le4 (if pre.length + 1 < u.length then nth u (pre.length + 1) else 0) = r4 at *
      have hr4 : r4.length = 4 := by rw [← hrw]; rfl
      have HRW := Lib.hid hrw
      clear hrw hby
      obtain ⟨i5, hi5, hz50, hz51, hz52⟩ := info_parts Try.info5b
      obtain ⟨i23, hi23, hz230, hz231, hz232⟩ := info_parts Try.info23b
      have hml : ((l.drop (1004 * x)).take 1004).length = min 1004 (l.length - 1004 * x) := by simp
      obtain ⟨v1, W1, hrun1, ho1, hg1, _, hn1⟩ := run_append_own_at (P := Try.prog) (W.alloc (.cells (ns .u8 r4).toArray 5)).drew W.heap.size 23 23 5 i5 _ 1 1 Try.underlying23 hi5 hz50 hz51 hz52 rfl (by decide) _ r4.length (ns .u8 r4) hbuf ⟨b, o + 1004 * x, none⟩ (min 1004 (l.length - 1004 * x)) (min 1004 (l.length - 1004 * x)) (ns .u8 ((l.drop (1004 * x)).take 1004)) (by rw [ns_length, hml]; omega) (part_cells HC.out (by omega) (HI.out.below.trans ((hbw.mono (by have := HI.out.below.size; exact this)))) x) (ns_one _ _) (by simp only [maxLen]; omega) (by omega) (by have := hbw.size; omega)
      have hbuf1 : Buf W.heap.size W1 v1 (r4 ++ (l.drop (1004 * x)).take 1004) := by
        unfold Buf; rw [List.length_append, ns_append, hml]; exact ho1
      obtain ⟨g1, cp1, rfl, _, _, hnc1, _⟩ := own_form ho1 (by omega)
      have hrun1' : Sem.run Try.prog (Builtin.append_ #[23, 23] 23 #[.slice (some ⟨W.heap.size, 0, none⟩) 4 4, chunkV b o l.length x]) (W.alloc (.cells (ns .u8 r4).toArray 5)).drew = .ok (.slice (some ⟨g1, 0, none⟩) (r4.length + min 1004 (l.length - 1004 * x)) cp1) W1 := hrun1
      have hbW1 : Below W.heap.size W W1 := hbw.trans (below_grown (Below.refl _ _) hg1 hbw.size (fun k e => by cases e; exact Nat.le_refl _))
      have hkW1 : KeepsOthers W W1 := hko.trans (KeepsOthers.of_grownBy hg1 fun j o' ej hj => by
        obtain ⟨cs, t, fr, hcs⟩ := buf_cells hbuf (show blk _ j from ej)
        rw [hcs] at hj; cases hj; rfl)
      have hb2 : Below W1.heap.size W1 (W1.alloc (.cells #[.slice (some ⟨g1, 0, none⟩) (r4.length + min 1004 (l.length - 1004 * x)) cp1] 23)) := below_alloc0 (Below.refl _ _) _
      have hbW2 := below_next0 hbW1 hb2
      have hI2 := HI.out.up hbW2
      have ho2 := hI2.rows.own
      rw [HRL.out] at ho2
      obtain ⟨v3, W3, hrun2, ho3, hg3, _, hn3⟩ := run_append_own_at (P := Try.prog) (W1.alloc (.cells #[.slice (some ⟨g1, 0, none⟩) (r4.length + min 1004 (l.length - 1004 * x)) cp1] 23)) (w.heap.size + 5) 30 30 23 i23 _ 1 24 Try.underlying30 hi23 hz230 hz231 hz232 rfl (by decide) _ pre.length _ ho2 ⟨W1.heap.size, 0, none⟩ 1 1 [.slice (some ⟨g1, 0, none⟩) (r4.length + min 1004 (l.length - 1004 * x)) cp1] rfl (fun j u' hu => by
        cases j with
        | zero =>
          have e : u' = .slice (some ⟨g1, 0, none⟩) (r4.length + min 1004 (l.length - 1004 * x)) cp1 := by simpa using hu.symm
          subst e
          exact cell_of_row _ _ 0 _ 23 (0, 0) (heap_alloc_new W1 _) |>.trans rfl
        | succ j => simp at hu) (by intro u' hu; have := List.mem_singleton.1 hu; subst this; rfl) (by simp only [maxLen]; omega) (by omega) (by have := HI.out.k_.lt; have := hbW2.size; omega)
      have hbox := enc_box HI.out hbW2 hg3
      have c7' := hbox.cell
      have f7' := hbox.frozen
      obtain ⟨g3, cp3, rfl, _⟩ := own_form ho3 (by omega)
      have hstep := enc_step (x := x) HI.out hbW1 hkW1 (by rw [HRW.out]; exact hbuf1) ho3 hg3 hn3 hnc1
      have HST := Lib.hid hstep
      have hrun2' : Sem.run Try.prog (Builtin.append_ #[30, 30] 30 #[.slice vA pre.length vc, .slice (some ⟨W1.heap.size, 0, none⟩) 1 1]) (W1.alloc (.cells #[.slice (some ⟨g1, 0, none⟩) (r4.length + min 1004 (l.length - 1004 * x)) cp1] 23)) = .ok (.slice (some ⟨g3, 0, none⟩) (pre.length + 1) cp3) W3 := hrun2
      have c7d : (W.alloc (.cells (ns .u8 r4).toArray 5)).drew.cell? ⟨w.heap.size + 1 + 1, 0, none⟩ = some (.slice vA pre.length vc) := (HI.out.up hbw).out.cell
      have c7e : W1.cell? ⟨w.heap.size + 1 + 1, 0, none⟩ = some (.slice vA pre.length vc) := (HI.out.up hbW1).out.cell
      have c7f : (W1.alloc (.cells #[.slice (some ⟨g1, 0, none⟩) (r4.length + min 1004 (l.length - 1004 * x)) cp1] 23)).cell? ⟨w.heap.size + 1 + 1, 0, none⟩ = some (.slice vA pre.length vc) := hI2.out.cell
      clear hnc1 hstep hrun1 hrun2 hbuf hbw hko hr4 hml ho1 hg1 hn1 hbuf1 hbW1 hkW1 hb2 hbW2 hI2 ho2 ho3 hg3 hn3 hbox hi5 hz50 hz51 hz52 hi23 hz230 hz231 hz232
      generalize (W.alloc (.cells (ns .u8 r4).toArray 5)) = Wa at *
      generalize r4.length + min 1004 (l.length - 1004 * x) = n1 at *
      refine wpIn_region_any hfol ?_
      change wpAnyIn _ _ _ _ _ _ _ _ _ (World.drew _)
      refine wpAnyIn_ready (rs := [0, 1, 2]) (by kernel_rfl) (by simp) ?_
      refine AllReadyIn.cons rfl (fun K hK => ?_) ?_
      · (go_simp; refine hK _ _ ?_; clear hK K)
        refine wpAnyIn_ready (rs := [1, 2]) (by kernel_rfl) (by simp) ?_
        refine AllReadyIn.cons rfl (fun K hK => ?_) ?_
        · (go_simp; refine hK _ _ ?_; clear hK K)
          refine wpAnyIn_ready (rs := [2]) (by kernel_rfl) (by simp) ?_
          refine AllReadyIn.cons rfl (fun K hK => ?_) ?_
          · (go_simp; refine hK _ _ ?_; clear hK K)
            refine wpAnyIn_ready (rs := [3]) (by kernel_rfl) (by simp) ?_
            refine AllReadyIn.cons rfl (fun K hK => ?_) ?_
            · (refine ite_of rfl ?_; refine opIn_append_run (.tmp 53) (.tmp 54) 23 rfl hrun1' ?_; go_simp; refine hK _ _ ?_; clear hK K)
              refine wpAnyIn_ready (rs := [4]) (by kernel_rfl) (by simp) ?_
              refine AllReadyIn.cons rfl (fun K hK => ?_) ?_
              · (go_simp; refine hK _ _ ?_; clear hK K)
                refine wpAnyIn_ready (rs := [5]) (by kernel_rfl) (by simp) ?_
                refine AllReadyIn.cons rfl (fun K hK => ?_) ?_
                · (refine ite_of rfl ?_; refine opIn_append_run (.tmp 52) (.tmp 56) 30 rfl hrun2' ?_; go_simp; refine hK _ _ ?_; clear hK K)
                  refine wpAnyIn_ready (rs := [6]) (by kernel_rfl) (by simp) ?_
                  refine AllReadyIn.cons rfl (fun K hK => ?_) ?_
                  · (go_simp; refine hK _ _ ?_; clear hK K)
                    refine wpAnyIn_done (by kernel_rfl) ?_ _
                    exact HST.out
                  exact AllReadyIn.nil
                exact AllReadyIn.nil
              exact AllReadyIn.nil
            exact AllReadyIn.nil
          exact AllReadyIn.nil
        refine AllReadyIn.cons rfl (fun K hK => ?_) ?_
        · (go_simp; refine hK _ _ ?_; clear hK K)
          refine wpAnyIn_ready (rs := [1]) (by kernel_rfl) (by simp) ?_
          refine AllReadyIn.cons rfl (fun K hK => ?_) ?_
          · (go_simp; refine hK _ _ ?_; clear hK K)
            refine wpAnyIn_ready (rs := [3]) (by kernel_rfl) (by simp) ?_
            refine AllReadyIn.cons rfl (fun K hK => ?_) ?_
            · (refine ite_of rfl ?_; refine opIn_append_run (.tmp 53) (.tmp 54) 23 rfl hrun1' ?_; go_simp; refine hK _ _ ?_; clear hK K)
              refine wpAnyIn_ready (rs := [4]) (by kernel_rfl) (by simp) ?_
              refine AllReadyIn.cons rfl (fun K hK => ?_) ?_
              · (go_simp; refine hK _ _ ?_; clear hK K)
                refine wpAnyIn_ready (rs := [5]) (by kernel_rfl) (by simp) ?_
                refine AllReadyIn.cons rfl (fun K hK => ?_) ?_
                · (refine ite_of rfl ?_; refine opIn_append_run (.tmp 52) (.tmp 56) 30 rfl hrun2' ?_; go_simp; refine hK _ _ ?_; clear hK K)
                  refine wpAnyIn_ready (rs := [6]) (by kernel_rfl) (by simp) ?_
                  refine AllReadyIn.cons rfl (fun K hK => ?_) ?_
                  · (go_simp; refine hK _ _ ?_; clear hK K)
                    refine wpAnyIn_done (by kernel_rfl) ?_ _
                    exact HST.out
                  exact AllReadyIn.nil
                exact AllReadyIn.nil
              exact AllReadyIn.nil
            exact AllReadyIn.nil
          exact AllReadyIn.nil
        exact AllReadyIn.nil
      refine AllReadyIn.cons rfl (fun K hK => ?_) ?_
      · (go_simp; refine hK _ _ ?_; clear hK K)
        refine wpAnyIn_ready (rs := [0, 2]) (by kernel_rfl) (by simp) ?_
        refine AllReadyIn.cons rfl (fun K hK => ?_) ?_
        · (go_simp; refine hK _ _ ?_; clear hK K)
          refine wpAnyIn_ready (rs := [2]) (by kernel_rfl) (by simp) ?_
          refine AllReadyIn.cons rfl (fun K hK => ?_) ?_
          · (go_simp; refine hK _ _ ?_; clear hK K)
            refine wpAnyIn_ready (rs := [3]) (by kernel_rfl) (by simp) ?_
            refine AllReadyIn.cons rfl (fun K hK => ?_) ?_
            · (refine ite_of rfl ?_; refine opIn_append_run (.tmp 53) (.tmp 54) 23 rfl hrun1' ?_; go_simp; refine hK _ _ ?_; clear hK K)
              refine wpAnyIn_ready (rs := [4]) (by kernel_rfl) (by simp) ?_
              refine AllReadyIn.cons rfl (fun K hK => ?_) ?_
              · (go_simp; refine hK _ _ ?_; clear hK K)
                refine wpAnyIn_ready (rs := [5]) (by kernel_rfl) (by simp) ?_
                refine AllReadyIn.cons rfl (fun K hK => ?_) ?_
                · (refine ite_of rfl ?_; refine opIn_append_run (.tmp 52) (.tmp 56) 30 rfl hrun2' ?_; go_simp; refine hK _ _ ?_; clear hK K)
                  refine wpAnyIn_ready (rs := [6]) (by kernel_rfl) (by simp) ?_
                  refine AllReadyIn.cons rfl (fun K hK => ?_) ?_
                  · (go_simp; refine hK _ _ ?_; clear hK K)
                    refine wpAnyIn_done (by kernel_rfl) ?_ _
                    exact HST.out
                  exact AllReadyIn.nil
                exact AllReadyIn.nil
              exact AllReadyIn.nil
            exact AllReadyIn.nil
          exact AllReadyIn.nil
        refine AllReadyIn.cons rfl (fun K hK => ?_) ?_
        · (go_simp; refine hK _ _ ?_; clear hK K)
          refine wpAnyIn_ready (rs := [0, 3]) (by kernel_rfl) (by simp) ?_
          refine AllReadyIn.cons rfl (fun K hK => ?_) ?_
          · (go_simp; refine hK _ _ ?_; clear hK K)
            refine wpAnyIn_ready (rs := [3]) (by kernel_rfl) (by simp) ?_
            refine AllReadyIn.cons rfl (fun K hK => ?_) ?_
            · (refine ite_of rfl ?_; refine opIn_append_run (.tmp 53) (.tmp 54) 23 rfl hrun1' ?_; go_simp; refine hK _ _ ?_; clear hK K)
              refine wpAnyIn_ready (rs := [4]) (by kernel_rfl) (by simp) ?_
              refine AllReadyIn.cons rfl (fun K hK => ?_) ?_
              · (go_simp; refine hK _ _ ?_; clear hK K)
                refine wpAnyIn_ready (rs := [5]) (by kernel_rfl) (by simp) ?_
                refine AllReadyIn.cons rfl (fun K hK => ?_) ?_
                · (refine ite_of rfl ?_; refine opIn_append_run (.tmp 52) (.tmp 56) 30 rfl hrun2' ?_; go_simp; refine hK _ _ ?_; clear hK K)
                  refine wpAnyIn_ready (rs := [6]) (by kernel_rfl) (by simp) ?_
                  refine AllReadyIn.cons rfl (fun K hK => ?_) ?_
                  · (go_simp; refine hK _ _ ?_; clear hK K)
                    refine wpAnyIn_done (by kernel_rfl) ?_ _
                    exact HST.out
                  exact AllReadyIn.nil
                exact AllReadyIn.nil
              exact AllReadyIn.nil
            exact AllReadyIn.nil
          refine AllReadyIn.cons rfl (fun K hK => ?_) ?_
          · (refine ite_of rfl ?_; refine opIn_append_run (.tmp 53) (.tmp 54) 23 rfl hrun1' ?_; go_simp; refine hK _ _ ?_; clear hK K)
            refine wpAnyIn_ready (rs := [0, 4]) (by kernel_rfl) (by simp) ?_
            refine AllReadyIn.cons rfl (fun K hK => ?_) ?_
            · (go_simp; refine hK _ _ ?_; clear hK K)
              refine wpAnyIn_ready (rs := [4]) (by kernel_rfl) (by simp) ?_
              refine AllReadyIn.cons rfl (fun K hK => ?_) ?_
              · (go_simp; refine hK _ _ ?_; clear hK K)
                refine wpAnyIn_ready (rs := [5]) (by kernel_rfl) (by simp) ?_
                refine AllReadyIn.cons rfl (fun K hK => ?_) ?_
                · (refine ite_of rfl ?_; refine opIn_append_run (.tmp 52) (.tmp 56) 30 rfl hrun2' ?_; go_simp; refine hK _ _ ?_; clear hK K)
                  refine wpAnyIn_ready (rs := [6]) (by kernel_rfl) (by simp) ?_
                  refine AllReadyIn.cons rfl (fun K hK => ?_) ?_
                  · (go_simp; refine hK _ _ ?_; clear hK K)
                    refine wpAnyIn_done (by kernel_rfl) ?_ _
                    exact HST.out
                  exact AllReadyIn.nil
                exact AllReadyIn.nil
              exact AllReadyIn.nil
            refine AllReadyIn.cons rfl (fun K hK => ?_) ?_
            · (go_simp; refine hK _ _ ?_; clear hK K)
              refine wpAnyIn_ready (rs := [0]) (by kernel_rfl) (by simp) ?_
              refine AllReadyIn.cons rfl (fun K hK => ?_) ?_
              · (go_simp; refine hK _ _ ?_; clear hK K)
                refine wpAnyIn_ready (rs := [5]) (by kernel_rfl) (by simp) ?_
                refine AllReadyIn.cons rfl (fun K hK => ?_) ?_
                · (refine ite_of rfl ?_; refine opIn_append_run (.tmp 52) (.tmp 56) 30 rfl hrun2' ?_; go_simp; refine hK _ _ ?_; clear hK K)
                  refine wpAnyIn_ready (rs := [6]) (by kernel_rfl) (by simp) ?_
                  refine AllReadyIn.cons rfl (fun K hK => ?_) ?_
                  · (go_simp; refine hK _ _ ?_; clear hK K)
                    refine wpAnyIn_done (by kernel_rfl) ?_ _
                    exact HST.out
                  exact AllReadyIn.nil
                exact AllReadyIn.nil
              exact AllReadyIn.nil
            exact AllReadyIn.nil
          exact AllReadyIn.nil
        exact AllReadyIn.nil
      refine AllReadyIn.cons rfl (fun K hK => ?_) ?_
      · (go_simp; refine hK _ _ ?_; clear hK K)
        refine wpAnyIn_ready (rs := [0, 1]) (by kernel_rfl) (by simp) ?_
        refine AllReadyIn.cons rfl (fun K hK => ?_) ?_
        · (go_simp; refine hK _ _ ?_; clear hK K)
          refine wpAnyIn_ready (rs := [1]) (by kernel_rfl) (by simp) ?_
          refine AllReadyIn.cons rfl (fun K hK => ?_) ?_
          · (go_simp; refine hK _ _ ?_; clear hK K)
            refine wpAnyIn_ready (rs := [3]) (by kernel_rfl) (by simp) ?_
            refine AllReadyIn.cons rfl (fun K hK => ?_) ?_
            · (refine ite_of rfl ?_; refine opIn_append_run (.tmp 53) (.tmp 54) 23 rfl hrun1' ?_; go_simp; refine hK _ _ ?_; clear hK K)
              refine wpAnyIn_ready (rs := [4]) (by kernel_rfl) (by simp) ?_
              refine AllReadyIn.cons rfl (fun K hK => ?_) ?_
              · (go_simp; refine hK _ _ ?_; clear hK K)
                refine wpAnyIn_ready (rs := [5]) (by kernel_rfl) (by simp) ?_
                refine AllReadyIn.cons rfl (fun K hK => ?_) ?_
                · (refine ite_of rfl ?_; refine opIn_append_run (.tmp 52) (.tmp 56) 30 rfl hrun2' ?_; go_simp; refine hK _ _ ?_; clear hK K)
                  refine wpAnyIn_ready (rs := [6]) (by kernel_rfl) (by simp) ?_
                  refine AllReadyIn.cons rfl (fun K hK => ?_) ?_
                  · (go_simp; refine hK _ _ ?_; clear hK K)
                    refine wpAnyIn_done (by kernel_rfl) ?_ _
                    exact HST.out
                  exact AllReadyIn.nil
                exact AllReadyIn.nil
              exact AllReadyIn.nil
            exact AllReadyIn.nil
          exact AllReadyIn.nil
        refine AllReadyIn.cons rfl (fun K hK => ?_) ?_
        · (go_simp; refine hK _ _ ?_; clear hK K)
          refine wpAnyIn_ready (rs := [0, 3]) (by kernel_rfl) (by simp) ?_
          refine AllReadyIn.cons rfl (fun K hK => ?_) ?_
          · (go_simp; refine hK _ _ ?_; clear hK K)
            refine wpAnyIn_ready (rs := [3]) (by kernel_rfl) (by simp) ?_
            refine AllReadyIn.cons rfl (fun K hK => ?_) ?_
            · (refine ite_of rfl ?_; refine opIn_append_run (.tmp 53) (.tmp 54) 23 rfl hrun1' ?_; go_simp; refine hK _ _ ?_; clear hK K)
              refine wpAnyIn_ready (rs := [4]) (by kernel_rfl) (by simp) ?_
              refine AllReadyIn.cons rfl (fun K hK => ?_) ?_
              · (go_simp; refine hK _ _ ?_; clear hK K)
                refine wpAnyIn_ready (rs := [5]) (by kernel_rfl) (by simp) ?_
                refine AllReadyIn.cons rfl (fun K hK => ?_) ?_
                · (refine ite_of rfl ?_; refine opIn_append_run (.tmp 52) (.tmp 56) 30 rfl hrun2' ?_; go_simp; refine hK _ _ ?_; clear hK K)
                  refine wpAnyIn_ready (rs := [6]) (by kernel_rfl) (by simp) ?_
                  refine AllReadyIn.cons rfl (fun K hK => ?_) ?_
                  · (go_simp; refine hK _ _ ?_; clear hK K)
                    refine wpAnyIn_done (by kernel_rfl) ?_ _
                    exact HST.out
                  exact AllReadyIn.nil
                exact AllReadyIn.nil
              exact AllReadyIn.nil
            exact AllReadyIn.nil
          refine AllReadyIn.cons rfl (fun K hK => ?_) ?_
          · (refine ite_of rfl ?_; refine opIn_append_run (.tmp 53) (.tmp 54) 23 rfl hrun1' ?_; go_simp; refine hK _ _ ?_; clear hK K)
            refine wpAnyIn_ready (rs := [0, 4]) (by kernel_rfl) (by simp) ?_
            refine AllReadyIn.cons rfl (fun K hK => ?_) ?_
            · (go_simp; refine hK _ _ ?_; clear hK K)
              refine wpAnyIn_ready (rs := [4]) (by kernel_rfl) (by simp) ?_
              refine AllReadyIn.cons rfl (fun K hK => ?_) ?_
              · (go_simp; refine hK _ _ ?_; clear hK K)
                refine wpAnyIn_ready (rs := [5]) (by kernel_rfl) (by simp) ?_
                refine AllReadyIn.cons rfl (fun K hK => ?_) ?_
                · (refine ite_of rfl ?_; refine opIn_append_run (.tmp 52) (.tmp 56) 30 rfl hrun2' ?_; go_simp; refine hK _ _ ?_; clear hK K)
                  refine wpAnyIn_ready (rs := [6]) (by kernel_rfl) (by simp) ?_
                  refine AllReadyIn.cons rfl (fun K hK => ?_) ?_
                  · (go_simp; refine hK _ _ ?_; clear hK K)
                    refine wpAnyIn_done (by kernel_rfl) ?_ _
                    exact HST.out
                  exact AllReadyIn.nil
                exact AllReadyIn.nil
              exact AllReadyIn.nil
            refine AllReadyIn.cons rfl (fun K hK => ?_) ?_
            · (go_simp; refine hK _ _ ?_; clear hK K)
              refine wpAnyIn_ready (rs := [0]) (by kernel_rfl) (by simp) ?_
              refine AllReadyIn.cons rfl (fun K hK => ?_) ?_
              · (go_simp; refine hK _ _ ?_; clear hK K)
                refine wpAnyIn_ready (rs := [5]) (by kernel_rfl) (by simp) ?_
                refine AllReadyIn.cons rfl (fun K hK => ?_) ?_
                · (refine ite_of rfl ?_; refine opIn_append_run (.tmp 52) (.tmp 56) 30 rfl hrun2' ?_; go_simp; refine hK _ _ ?_; clear hK K)
                  refine wpAnyIn_ready (rs := [6]) (by kernel_rfl) (by simp) ?_
                  refine AllReadyIn.cons rfl (fun K hK => ?_) ?_
                  · (go_simp; refine hK _ _ ?_; clear hK K)
                    refine wpAnyIn_done (by kernel_rfl) ?_ _
                    exact HST.out
                  exact AllReadyIn.nil
                exact AllReadyIn.nil
              exact AllReadyIn.nil
            exact AllReadyIn.nil
          exact AllReadyIn.nil
        exact AllReadyIn.nil
      exact AllReadyIn.nil
    · have e1 : ¬ (pre.length : Int) + 1 < (u.length : Int) := by have := HUL.out; omega
      gi_wp2
      have hby : (#[Value.int IntKind.u8 0, Value.int IntKind.u8 0, Value.int IntKind.u8 0, Value.int IntKind.u8 0] : Array Value) = (ns .u8 (le4 (if pre.length + 1 < u.length then nth u (pre.length + 1) else 0))).toArray := by
        rw [if_neg (by have := HUL.out; omega)]; rfl
      rw [hby]
      have hbuf : Buf W.heap.size (W.alloc (.cells (ns .u8 (le4 (if pre.length + 1 < u.length then nth u (pre.length + 1) else 0))).toArray 5)).drew (.slice (some ⟨W.heap.size, 0, none⟩) 4 4) (le4 (if pre.length + 1 < u.length then nth u (pre.length + 1) else 0)) :=
        (Buf.new (n0 := W.heap.size) W (le4 _) (Nat.le_refl _) (by simp [le4]) _ _ rfl (by simp [le4])).below (Below.drew (Below.refl _ _))
      have hbw : Below W.heap.size W (W.alloc (.cells (ns .u8 (le4 (if pre.length + 1 < u.length then nth u (pre.length + 1) else 0))).toArray 5)).drew := Below.drew (below_alloc0 (Below.refl _ _) _)
      have hko : KeepsOthers W (W.alloc (.cells (ns .u8 (le4 (if pre.length + 1 < u.length then nth u (pre.length + 1) else 0))).toArray 5)).drew := (KeepsOthers.alloc W _).trans (KeepsOthers.drew _)
      generalize hrw : le4 (if pre.length + 1 < u.length then nth u (pre.length + 1) else 0) = r4 at *
      have hr4 : r4.length = 4 := by rw [← hrw]; rfl
      have HRW := Lib.hid hrw
      clear hrw hby
      obtain ⟨i5, hi5, hz50, hz51, hz52⟩ := info_parts Try.info5b
      obtain ⟨i23, hi23, hz230, hz231, hz232⟩ := info_parts Try.info23b
      have hml : ((l.drop (1004 * x)).take 1004).length = min 1004 (l.length - 1004 * x) := by simp
      obtain ⟨v1, W1, hrun1, ho1, hg1, _, hn1⟩ := run_append_own_at (P := Try.prog) (W.alloc (.cells (ns .u8 r4).toArray 5)).drew W.heap.size 23 23 5 i5 _ 1 1 Try.underlying23 hi5 hz50 hz51 hz52 rfl (by decide) _ r4.length (ns .u8 r4) hbuf ⟨b, o + 1004 * x, none⟩ (min 1004 (l.length - 1004 * x)) (min 1004 (l.length - 1004 * x)) (ns .u8 ((l.drop (1004 * x)).take 1004)) (by rw [ns_length, hml]; omega) (part_cells HC.out (by omega) (HI.out.below.trans ((hbw.mono (by have := HI.out.below.size; exact this)))) x) (ns_one _ _) (by simp only [maxLen]; omega) (by omega) (by have := hbw.size; omega)
      have hbuf1 : Buf W.heap.size W1 v1 (r4 ++ (l.drop (1004 * x)).take 1004) := by
        unfold Buf; rw [List.length_append, ns_append, hml]; exact ho1
      obtain ⟨g1, cp1, rfl, _, _, hnc1, _⟩ := own_form ho1 (by omega)
      have hrun1' : Sem.run Try.prog (Builtin.append_ #[23, 23] 23 #[.slice (some ⟨W.heap.size, 0, none⟩) 4 4, chunkV b o l.length x]) (W.alloc (.cells (ns .u8 r4).toArray 5)).drew = .ok (.slice (some ⟨g1, 0, none⟩) (r4.length + min 1004 (l.length - 1004 * x)) cp1) W1 := hrun1
      have hbW1 : Below W.heap.size W W1 := hbw.trans (below_grown (Below.refl _ _) hg1 hbw.size (fun k e => by cases e; exact Nat.le_refl _))
      have hkW1 : KeepsOthers W W1 := hko.trans (KeepsOthers.of_grownBy hg1 fun j o' ej hj => by
        obtain ⟨cs, t, fr, hcs⟩ := buf_cells hbuf (show blk _ j from ej)
        rw [hcs] at hj; cases hj; rfl)
      have hb2 : Below W1.heap.size W1 (W1.alloc (.cells #[.slice (some ⟨g1, 0, none⟩) (r4.length + min 1004 (l.length - 1004 * x)) cp1] 23)) := below_alloc0 (Below.refl _ _) _
      have hbW2 := below_next0 hbW1 hb2
      have hI2 := HI.out.up hbW2
      have ho2 := hI2.rows.own
      rw [HRL.out] at ho2
      obtain ⟨v3, W3, hrun2, ho3, hg3, _, hn3⟩ := run_append_own_at (P := Try.prog) (W1.alloc (.cells #[.slice (some ⟨g1, 0, none⟩) (r4.length + min 1004 (l.length - 1004 * x)) cp1] 23)) (w.heap.size + 5) 30 30 23 i23 _ 1 24 Try.underlying30 hi23 hz230 hz231 hz232 rfl (by decide) _ pre.length _ ho2 ⟨W1.heap.size, 0, none⟩ 1 1 [.slice (some ⟨g1, 0, none⟩) (r4.length + min 1004 (l.length - 1004 * x)) cp1] rfl (fun j u' hu => by
        cases j with
        | zero =>
          have e : u' = .slice (some ⟨g1, 0, none⟩) (r4.length + min 1004 (l.length - 1004 * x)) cp1 := by simpa using hu.symm
          subst e
          exact cell_of_row _ _ 0 _ 23 (0, 0) (heap_alloc_new W1 _) |>.trans rfl
        | succ j => simp at hu) (by intro u' hu; have := List.mem_singleton.1 hu; subst this; rfl) (by simp only [maxLen]; omega) (by omega) (by have := HI.out.k_.lt; have := hbW2.size; omega)
      have hbox := enc_box HI.out hbW2 hg3
      have c7' := hbox.cell
      have f7' := hbox.frozen
      obtain ⟨g3, cp3, rfl, _⟩ := own_form ho3 (by omega)
      have hstep := enc_step (x := x) HI.out hbW1 hkW1 (by rw [HRW.out]; exact hbuf1) ho3 hg3 hn3 hnc1
      have HST := Lib.hid hstep
      have hrun2' : Sem.run Try.prog (Builtin.append_ #[30, 30] 30 #[.slice vA pre.length vc, .slice (some ⟨W1.heap.size, 0, none⟩) 1 1]) (W1.alloc (.cells #[.slice (some ⟨g1, 0, none⟩) (r4.length + min 1004 (l.length - 1004 * x)) cp1] 23)) = .ok (.slice (some ⟨g3, 0, none⟩) (pre.length + 1) cp3) W3 := hrun2
      have c7d : (W.alloc (.cells (ns .u8 r4).toArray 5)).drew.cell? ⟨w.heap.size + 1 + 1, 0, none⟩ = some (.slice vA pre.length vc) := (HI.out.up hbw).out.cell
      have c7e : W1.cell? ⟨w.heap.size + 1 + 1, 0, none⟩ = some (.slice vA pre.length vc) := (HI.out.up hbW1).out.cell
      have c7f : (W1.alloc (.cells #[.slice (some ⟨g1, 0, none⟩) (r4.length + min 1004 (l.length - 1004 * x)) cp1] 23)).cell? ⟨w.heap.size + 1 + 1, 0, none⟩ = some (.slice vA pre.length vc) := hI2.out.cell
      clear hnc1 hstep hrun1 hrun2 hbuf hbw hko hr4 hml ho1 hg1 hn1 hbuf1 hbW1 hkW1 hb2 hbW2 hI2 ho2 ho3 hg3 hn3 hbox hi5 hz50 hz51 hz52 hi23 hz230 hz231 hz232
      generalize (W.alloc (.cells (ns .u8 r4).toArray 5)) = Wa at *
      generalize r4.length + min 1004 (l.length - 1004 * x) = n1 at *
      refine wpIn_region_any hfol ?_
      change wpAnyIn _ _ _ _ _ _ _ _ _ (World.drew _)
      refine wpAnyIn_ready (rs := [0, 1, 2]) (by kernel_rfl) (by simp) ?_
      refine AllReadyIn.cons rfl (fun K hK => ?_) ?_
      · (go_simp; refine hK _ _ ?_; clear hK K)
        refine wpAnyIn_ready (rs := [1, 2]) (by kernel_rfl) (by simp) ?_
        refine AllReadyIn.cons rfl (fun K hK => ?_) ?_
        · (go_simp; refine hK _ _ ?_; clear hK K)
          refine wpAnyIn_ready (rs := [2]) (by kernel_rfl) (by simp) ?_
          refine AllReadyIn.cons rfl (fun K hK => ?_) ?_
          · (go_simp; refine hK _ _ ?_; clear hK K)
            refine wpAnyIn_ready (rs := [3]) (by kernel_rfl) (by simp) ?_
            refine AllReadyIn.cons rfl (fun K hK => ?_) ?_
            · (refine ite_of rfl ?_; refine opIn_append_run (.tmp 53) (.tmp 54) 23 rfl hrun1' ?_; go_simp; refine hK _ _ ?_; clear hK K)
              refine wpAnyIn_ready (rs := [4]) (by kernel_rfl) (by simp) ?_
              refine AllReadyIn.cons rfl (fun K hK => ?_) ?_
              · (go_simp; refine hK _ _ ?_; clear hK K)
                refine wpAnyIn_ready (rs := [5]) (by kernel_rfl) (by simp) ?_
                refine AllReadyIn.cons rfl (fun K hK => ?_) ?_
                · (refine ite_of rfl ?_; refine opIn_append_run (.tmp 52) (.tmp 56) 30 rfl hrun2' ?_; go_simp; refine hK _ _ ?_; clear hK K)
                  refine wpAnyIn_ready (rs := [6]) (by kernel_rfl) (by simp) ?_
                  refine AllReadyIn.cons rfl (fun K hK => ?_) ?_
                  · (go_simp; refine hK _ _ ?_; clear hK K)
                    refine wpAnyIn_done (by kernel_rfl) ?_ _
                    exact HST.out
                  exact AllReadyIn.nil
                exact AllReadyIn.nil
              exact AllReadyIn.nil
            exact AllReadyIn.nil
          exact AllReadyIn.nil
        refine AllReadyIn.cons rfl (fun K hK => ?_) ?_
        · (go_simp; refine hK _ _ ?_; clear hK K)
          refine wpAnyIn_ready (rs := [1]) (by kernel_rfl) (by simp) ?_
          refine AllReadyIn.cons rfl (fun K hK => ?_) ?_
          · (go_simp; refine hK _ _ ?_; clear hK K)
            refine wpAnyIn_ready (rs := [3]) (by kernel_rfl) (by simp) ?_
            refine AllReadyIn.cons rfl (fun K hK => ?_) ?_
            · (refine ite_of rfl ?_; refine opIn_append_run (.tmp 53) (.tmp 54) 23 rfl hrun1' ?_; go_simp; refine hK _ _ ?_; clear hK K)
              refine wpAnyIn_ready (rs := [4]) (by kernel_rfl) (by simp) ?_
              refine AllReadyIn.cons rfl (fun K hK => ?_) ?_
              · (go_simp; refine hK _ _ ?_; clear hK K)
                refine wpAnyIn_ready (rs := [5]) (by kernel_rfl) (by simp) ?_
                refine AllReadyIn.cons rfl (fun K hK => ?_) ?_
                · (refine ite_of rfl ?_; refine opIn_append_run (.tmp 52) (.tmp 56) 30 rfl hrun2' ?_; go_simp; refine hK _ _ ?_; clear hK K)
                  refine wpAnyIn_ready (rs := [6]) (by kernel_rfl) (by simp) ?_
                  refine AllReadyIn.cons rfl (fun K hK => ?_) ?_
                  · (go_simp; refine hK _ _ ?_; clear hK K)
                    refine wpAnyIn_done (by kernel_rfl) ?_ _
                    exact HST.out
                  exact AllReadyIn.nil
                exact AllReadyIn.nil
              exact AllReadyIn.nil
            exact AllReadyIn.nil
          exact AllReadyIn.nil
        exact AllReadyIn.nil
      refine AllReadyIn.cons rfl (fun K hK => ?_) ?_
      · (go_simp; refine hK _ _ ?_; clear hK K)
        refine wpAnyIn_ready (rs := [0, 2]) (by kernel_rfl) (by simp) ?_
        refine AllReadyIn.cons rfl (fun K hK => ?_) ?_
        · (go_simp; refine hK _ _ ?_; clear hK K)
          refine wpAnyIn_ready (rs := [2]) (by kernel_rfl) (by simp) ?_
          refine AllReadyIn.cons rfl (fun K hK => ?_) ?_
          · (go_simp; refine hK _ _ ?_; clear hK K)
            refine wpAnyIn_ready (rs := [3]) (by kernel_rfl) (by simp) ?_
            refine AllReadyIn.cons rfl (fun K hK => ?_) ?_
            · (refine ite_of rfl ?_; refine opIn_append_run (.tmp 53) (.tmp 54) 23 rfl hrun1' ?_; go_simp; refine hK _ _ ?_; clear hK K)
              refine wpAnyIn_ready (rs := [4]) (by kernel_rfl) (by simp) ?_
              refine AllReadyIn.cons rfl (fun K hK => ?_) ?_
              · (go_simp; refine hK _ _ ?_; clear hK K)
                refine wpAnyIn_ready (rs := [5]) (by kernel_rfl) (by simp) ?_
                refine AllReadyIn.cons rfl (fun K hK => ?_) ?_
                · (refine ite_of rfl ?_; refine opIn_append_run (.tmp 52) (.tmp 56) 30 rfl hrun2' ?_; go_simp; refine hK _ _ ?_; clear hK K)
                  refine wpAnyIn_ready (rs := [6]) (by kernel_rfl) (by simp) ?_
                  refine AllReadyIn.cons rfl (fun K hK => ?_) ?_
                  · (go_simp; refine hK _ _ ?_; clear hK K)
                    refine wpAnyIn_done (by kernel_rfl) ?_ _
                    exact HST.out
                  exact AllReadyIn.nil
                exact AllReadyIn.nil
              exact AllReadyIn.nil
            exact AllReadyIn.nil
          exact AllReadyIn.nil
        refine AllReadyIn.cons rfl (fun K hK => ?_) ?_
        · (go_simp; refine hK _ _ ?_; clear hK K)
          refine wpAnyIn_ready (rs := [0, 3]) (by kernel_rfl) (by simp) ?_
          refine AllReadyIn.cons rfl (fun K hK => ?_) ?_
          · (go_simp; refine hK _ _ ?_; clear hK K)
            refine wpAnyIn_ready (rs := [3]) (by kernel_rfl) (by simp) ?_
            refine AllReadyIn.cons rfl (fun K hK => ?_) ?_
            · (refine ite_of rfl ?_; refine opIn_append_run (.tmp 53) (.tmp 54) 23 rfl hrun1' ?_; go_simp; refine hK _ _ ?_; clear hK K)
              refine wpAnyIn_ready (rs := [4]) (by kernel_rfl) (by simp) ?_
              refine AllReadyIn.cons rfl (fun K hK => ?_) ?_
              · (go_simp; refine hK _ _ ?_; clear hK K)
                refine wpAnyIn_ready (rs := [5]) (by kernel_rfl) (by simp) ?_
                refine AllReadyIn.cons rfl (fun K hK => ?_) ?_
                · (refine ite_of rfl ?_; refine opIn_append_run (.tmp 52) (.tmp 56) 30 rfl hrun2' ?_; go_simp; refine hK _ _ ?_; clear hK K)
                  refine wpAnyIn_ready (rs := [6]) (by kernel_rfl) (by simp) ?_
                  refine AllReadyIn.cons rfl (fun K hK => ?_) ?_
                  · (go_simp; refine hK _ _ ?_; clear hK K)
                    refine wpAnyIn_done (by kernel_rfl) ?_ _
                    exact HST.out
                  exact AllReadyIn.nil
                exact AllReadyIn.nil
              exact AllReadyIn.nil
            exact AllReadyIn.nil
          refine AllReadyIn.cons rfl (fun K hK => ?_) ?_
          · (refine ite_of rfl ?_; refine opIn_append_run (.tmp 53) (.tmp 54) 23 rfl hrun1' ?_; go_simp; refine hK _ _ ?_; clear hK K)
            refine wpAnyIn_ready (rs := [0, 4]) (by kernel_rfl) (by simp) ?_
            refine AllReadyIn.cons rfl (fun K hK => ?_) ?_
            · (go_simp; refine hK _ _ ?_; clear hK K)
              refine wpAnyIn_ready (rs := [4]) (by kernel_rfl) (by simp) ?_
              refine AllReadyIn.cons rfl (fun K hK => ?_) ?_
              · (go_simp; refine hK _ _ ?_; clear hK K)
                refine wpAnyIn_ready (rs := [5]) (by kernel_rfl) (by simp) ?_
                refine AllReadyIn.cons rfl (fun K hK => ?_) ?_
                · (refine ite_of rfl ?_; refine opIn_append_run (.tmp 52) (.tmp 56) 30 rfl hrun2' ?_; go_simp; refine hK _ _ ?_; clear hK K)
                  refine wpAnyIn_ready (rs := [6]) (by kernel_rfl) (by simp) ?_
                  refine AllReadyIn.cons rfl (fun K hK => ?_) ?_
                  · (go_simp; refine hK _ _ ?_; clear hK K)
                    refine wpAnyIn_done (by kernel_rfl) ?_ _
                    exact HST.out
                  exact AllReadyIn.nil
                exact AllReadyIn.nil
              exact AllReadyIn.nil
            refine AllReadyIn.cons rfl (fun K hK => ?_) ?_
            · (go_simp; refine hK _ _ ?_; clear hK K)
              refine wpAnyIn_ready (rs := [0]) (by kernel_rfl) (by simp) ?_
              refine AllReadyIn.cons rfl (fun K hK => ?_) ?_
              · (go_simp; refine hK _ _ ?_; clear hK K)
                refine wpAnyIn_ready (rs := [5]) (by kernel_rfl) (by simp) ?_
                refine AllReadyIn.cons rfl (fun K hK => ?_) ?_
                · (refine ite_of rfl ?_; refine opIn_append_run (.tmp 52) (.tmp 56) 30 rfl hrun2' ?_; go_simp; refine hK _ _ ?_; clear hK K)
                  refine wpAnyIn_ready (rs := [6]) (by kernel_rfl) (by simp) ?_
                  refine AllReadyIn.cons rfl (fun K hK => ?_) ?_
                  · (go_simp; refine hK _ _ ?_; clear hK K)
                    refine wpAnyIn_done (by kernel_rfl) ?_ _
                    exact HST.out
                  exact AllReadyIn.nil
                exact AllReadyIn.nil
              exact AllReadyIn.nil
            exact AllReadyIn.nil
          exact AllReadyIn.nil
        exact AllReadyIn.nil
      refine AllReadyIn.cons rfl (fun K hK => ?_) ?_
      · (go_simp; refine hK _ _ ?_; clear hK K)
        refine wpAnyIn_ready (rs := [0, 1]) (by kernel_rfl) (by simp) ?_
        refine AllReadyIn.cons rfl (fun K hK => ?_) ?_
        · (go_simp; refine hK _ _ ?_; clear hK K)
          refine wpAnyIn_ready (rs := [1]) (by kernel_rfl) (by simp) ?_
          refine AllReadyIn.cons rfl (fun K hK => ?_) ?_
          · (go_simp; refine hK _ _ ?_; clear hK K)
            refine wpAnyIn_ready (rs := [3]) (by kernel_rfl) (by simp) ?_
            refine AllReadyIn.cons rfl (fun K hK => ?_) ?_
            · (refine ite_of rfl ?_; refine opIn_append_run (.tmp 53) (.tmp 54) 23 rfl hrun1' ?_; go_simp; refine hK _ _ ?_; clear hK K)
              refine wpAnyIn_ready (rs := [4]) (by kernel_rfl) (by simp) ?_
              refine AllReadyIn.cons rfl (fun K hK => ?_) ?_
              · (go_simp; refine hK _ _ ?_; clear hK K)
                refine wpAnyIn_ready (rs := [5]) (by kernel_rfl) (by simp) ?_
                refine AllReadyIn.cons rfl (fun K hK => ?_) ?_
                · (refine ite_of rfl ?_; refine opIn_append_run (.tmp 52) (.tmp 56) 30 rfl hrun2' ?_; go_simp; refine hK _ _ ?_; clear hK K)
                  refine wpAnyIn_ready (rs := [6]) (by kernel_rfl) (by simp) ?_
                  refine AllReadyIn.cons rfl (fun K hK => ?_) ?_
                  · (go_simp; refine hK _ _ ?_; clear hK K)
                    refine wpAnyIn_done (by kernel_rfl) ?_ _
                    exact HST.out
                  exact AllReadyIn.nil
                exact AllReadyIn.nil
              exact AllReadyIn.nil
            exact AllReadyIn.nil
          exact AllReadyIn.nil
        refine AllReadyIn.cons rfl (fun K hK => ?_) ?_
        · (go_simp; refine hK _ _ ?_; clear hK K)
          refine wpAnyIn_ready (rs := [0, 3]) (by kernel_rfl) (by simp) ?_
          refine AllReadyIn.cons rfl (fun K hK => ?_) ?_
          · (go_simp; refine hK _ _ ?_; clear hK K)
            refine wpAnyIn_ready (rs := [3]) (by kernel_rfl) (by simp) ?_
            refine AllReadyIn.cons rfl (fun K hK => ?_) ?_
            · (refine ite_of rfl ?_; refine opIn_append_run (.tmp 53) (.tmp 54) 23 rfl hrun1' ?_; go_simp; refine hK _ _ ?_; clear hK K)
              refine wpAnyIn_ready (rs := [4]) (by kernel_rfl) (by simp) ?_
              refine AllReadyIn.cons rfl (fun K hK => ?_) ?_
              · (go_simp; refine hK _ _ ?_; clear hK K)
                refine wpAnyIn_ready (rs := [5]) (by kernel_rfl) (by simp) ?_
                refine AllReadyIn.cons rfl (fun K hK => ?_) ?_
                · (refine ite_of rfl ?_; refine opIn_append_run (.tmp 52) (.tmp 56) 30 rfl hrun2' ?_; go_simp; refine hK _ _ ?_; clear hK K)
                  refine wpAnyIn_ready (rs := [6]) (by kernel_rfl) (by simp) ?_
                  refine AllReadyIn.cons rfl (fun K hK => ?_) ?_
                  · (go_simp; refine hK _ _ ?_; clear hK K)
                    refine wpAnyIn_done (by kernel_rfl) ?_ _
                    exact HST.out
                  exact AllReadyIn.nil
                exact AllReadyIn.nil
              exact AllReadyIn.nil
            exact AllReadyIn.nil
          refine AllReadyIn.cons rfl (fun K hK => ?_) ?_
          · (refine ite_of rfl ?_; refine opIn_append_run (.tmp 53) (.tmp 54) 23 rfl hrun1' ?_; go_simp; refine hK _ _ ?_; clear hK K)
            refine wpAnyIn_ready (rs := [0, 4]) (by kernel_rfl) (by simp) ?_
            refine AllReadyIn.cons rfl (fun K hK => ?_) ?_
            · (go_simp; refine hK _ _ ?_; clear hK K)
              refine wpAnyIn_ready (rs := [4]) (by kernel_rfl) (by simp) ?_
              refine AllReadyIn.cons rfl (fun K hK => ?_) ?_
              · (go_simp; refine hK _ _ ?_; clear hK K)
                refine wpAnyIn_ready (rs := [5]) (by kernel_rfl) (by simp) ?_
                refine AllReadyIn.cons rfl (fun K hK => ?_) ?_
                · (refine ite_of rfl ?_; refine opIn_append_run (.tmp 52) (.tmp 56) 30 rfl hrun2' ?_; go_simp; refine hK _ _ ?_; clear hK K)
                  refine wpAnyIn_ready (rs := [6]) (by kernel_rfl) (by simp) ?_
                  refine AllReadyIn.cons rfl (fun K hK => ?_) ?_
                  · (go_simp; refine hK _ _ ?_; clear hK K)
                    refine wpAnyIn_done (by kernel_rfl) ?_ _
                    exact HST.out
                  exact AllReadyIn.nil
                exact AllReadyIn.nil
              exact AllReadyIn.nil
            refine AllReadyIn.cons rfl (fun K hK => ?_) ?_
            · (go_simp; refine hK _ _ ?_; clear hK K)
              refine wpAnyIn_ready (rs := [0]) (by kernel_rfl) (by simp) ?_
              refine AllReadyIn.cons rfl (fun K hK => ?_) ?_
              · (go_simp; refine hK _ _ ?_; clear hK K)
                refine wpAnyIn_ready (rs := [5]) (by kernel_rfl) (by simp) ?_
                refine AllReadyIn.cons rfl (fun K hK => ?_) ?_
                · (refine ite_of rfl ?_; refine opIn_append_run (.tmp 52) (.tmp 56) 30 rfl hrun2' ?_; go_simp; refine hK _ _ ?_; clear hK K)
                  refine wpAnyIn_ready (rs := [6]) (by kernel_rfl) (by simp) ?_
                  refine AllReadyIn.cons rfl (fun K hK => ?_) ?_
                  · (go_simp; refine hK _ _ ?_; clear hK K)
                    refine wpAnyIn_done (by kernel_rfl) ?_ _
                    exact HST.out
                  exact AllReadyIn.nil
                exact AllReadyIn.nil
              exact AllReadyIn.nil
            exact AllReadyIn.nil
          exact AllReadyIn.nil
        exact AllReadyIn.nil
      exact AllReadyIn.nil
  case done =>
    rintro D ys W hD rfl ⟨v, F, Y, hI⟩ hK
    have c7 := hI.out.cell
    have HI := Lib.hid hI
    clear hI
    gi_wp2
    refine ⟨by simp, .inl ⟨_, _, rfl, run_takeDeferred hK, ?_⟩⟩
    refine ⟨_, results_tmp2 rfl _ _ _, ?_⟩
    obtain ⟨v2, F2, Y2, h2⟩ := (EncI.own (w := w) (l := l) (u := u) (S := .slice B u.length cc) (b := b) (o := o) (c := c) (B := w5.heap.size) (by omega)).putObj (.deferred none) ⟨v, F, Y, HI.out⟩ hD hK rfl
    have hv : v2 = v := by
      have e1 := h2.out
      have e2 : Boxed (W.putObj D (.deferred none)) (w.heap.size + 1 + 1) 30 v := ((grownBy_putObj' W D (.deferred none)).block _ HI.out.out.lt (fun e => by cases e; omega)).trans HI.out.out
      unfold Boxed at e1 e2
      rw [e1] at e2
      simpa using e2
    subst hv
    have hlr : (List.range ((l.length + 1003) / 1004)).length = need l.length := by rw [List.length_range, ← HNE.out, HN.out]
    have hra : rowsOf l u (List.range ((l.length + 1003) / 1004)) = encRows l u := by rw [← HNE.out, HN.out]; exact rowsOf_all l u (by rw [HUL.out]; exact HN.out)
    refine ⟨v2, F2, Y2, rfl, ?_, h2.below, fun i A' n' c' hi e => h2.room i A' n' c' (by rw [hlr]; exact hi) e, fun i hi => ?_, fun i j hi hj => h2.apart i j (by rw [hlr]; exact hi) (by rw [hlr]; exact hj), fun i g hi => h2.sub i g (by rw [hlr]; exact hi)⟩
    rotate_left
    · have := h2.bufs i (by rw [hlr]; exact hi)
      rw [hra] at this
      exact own_down this (by omega)
    have hr := h2.rows
    rw [hra] at hr
    exact ⟨own_down hr.own (by omega), hr.rows, fun g hg => ⟨by have := (hr.lt g hg).1; omega, (hr.lt g hg).2⟩, hr.off⟩
  case stop =>
    rintro D c' pre W _ _ h _
    exact h.elim
theorem encode_yes (A B : Option Addr) (c cc : Nat) (l u : List Nat) (w : World) (hA : At w A (ns .u8 l)) (hB : At w B (ns .u32 u)) (hcap : l.length ≤ c) (hu : ∀ x, x ∈ u → x < 4294967296) (hok : encOk l u) :
    Calls Try.prog 34 #[.slice A l.length c, .slice B u.length cc] w (EncGives w l u) :=
  (encode_full A B c cc l u w hA hB hcap hu hok).mono fun _ _ ⟨v, F, Y, h1, h2, h3, h4, _⟩ => ⟨v, F, Y, h1, h2, h3, h4⟩
end Go.Proofs.Ytfbjjblgcgjndaa

/- over.Encode (34) of a value that wants no pages. -/
namespace Go.Proofs.Ytfbjjblgcgjndaa
open Go.RowKit

set_option maxRecDepth 100000 in
set_option maxHeartbeats 1000000 in
theorem encode_zero (A B : Option Addr) (c cc : Nat) (l u : List Nat) (w : World) (hl : l.length ≤ 140737488355328) (h0 : need l.length = 0) :
    Calls Try.prog 34 #[.slice A l.length c, .slice B u.length cc] w fun e w' => e = .returned (.tuple #[.slice none 0 0, .int .u16 120]) ∧ Below w.heap.size w w' := by
  have HN := Lib.hid (need_any l.length hl)
  rw [h0] at HN
  clear h0
  go_enter Try.func34, Try.ntmps34
  go_wp2_with fail
  refine (HN.out _).mono ?_
  rintro e w1 ⟨rfl, rfl⟩
  go_wp2_with fail
  go_ret2
  exact ⟨rfl, below_alloc0 (below_alloc0 (Below.refl _ _) _) _⟩
end Go.Proofs.Ytfbjjblgcgjndaa

/- Walk of the over laws' known (40). -/
namespace Go.Proofs.Ytfbjjblgcgjndaa
open Go.RowKit

theorem encRows_length (l u : List Nat) : (encRows l u).length = need l.length := by simp [encRows]
theorem encRow_length (l u : List Nat) (j : Nat) : (encRow l u j).length = 4 + min 1004 (l.length - 1004 * j) := by simp [encRow, le4]; omega
theorem encRows_get (l u : List Nat) (j : Nat) (h : j < need l.length) : (encRows l u).getD j [] = encRow l u j := by
  unfold encRows
  rw [List.getD_eq_getElem?_getD, List.getElem?_map, List.getElem?_range h]; rfl
/-- the j-th row of an encoded value -/
theorem enc_cell {n0 : Nat} {w : World} {l u : List Nat} {g cap : Nat} {F : Nat → Value} {Y : Nat → Prop} (h : Rows23 n0 w (.slice (some ⟨g, 0, none⟩) (need l.length) cap) (encRows l u) F Y) (hroom : ∀ i A n c, i < need l.length → F i = .slice A n c → n ≤ c) (j : Nat) (hj : j < need l.length) :
    ∃ A c, w.cell? ⟨g, j, none⟩ = some (.slice A (encRow l u j).length c) ∧ At w A (ns .u8 (encRow l u j)) ∧ (A = none → c = 0) ∧ (encRow l u j).length ≤ c := by
  have hr := h.rows j (by rw [encRows_length]; exact hj)
  rw [encRows_get l u j hj] at hr
  obtain ⟨A, c, e, hA, hn, _⟩ := hr
  have ho := h.own
  rw [encRows_length] at ho
  have hc := ho.cellAt j (by omega)
  refine ⟨A, c, ?_, hA, hn, hroom j A _ c hj e⟩
  rw [hc, ← e, lst_get F _ j hj]
set_option maxRecDepth 100000 in
set_option maxHeartbeats 4000000 in
theorem known12_any (w : World) : Calls Try.prog 40 #[] w fun e w' => e = .returned (.bool true) ∧ Below w.heap.size w w' := by
  obtain ⟨Z, hZ⟩ : ∃ Z, Z = List.replicate 70 0 := ⟨_, rfl⟩
  have hmk : ∀ w, (Instr.makeSlice 23 (.int .i64 70) (.int .i64 70)).run Try.prog w = .ok (.slice (some ⟨w.heap.size, 0, none⟩) 70 70) (w.alloc (.cells (ns .u8 Z).toArray 5)) := fun _ => by rw [hZ]; kernel_rfl
  have hZ70 : Z.length = 70 := by rw [hZ]; simp
  have hok : encOk Z [4] := by rw [hZ]; exact ⟨by decide, by decide, by decide⟩
  have hnd : need Z.length = 1 := by rw [hZ70]; decide
  have hr0 : (encRow Z [4] 0).length = 74 := by rw [encRow_length, hZ70]; decide
  have HZ70 := Lib.hid hZ70
  have HOK := Lib.hid hok
  have HND := Lib.hid hnd
  have HR0 := Lib.hid hr0
  clear hZ hZ70 hok hnd hr0
  go_enter Try.func40, Try.ntmps40
  go_wp2_with fail
  have hb2 : Below w.heap.size w ((w.alloc (.cells (ns .u8 Z).toArray 5)).alloc (.cells #[.int .u32 4] 22)) := below_alloc0 (below_alloc0 (Below.refl _ _) _) _
  have hA : At ((w.alloc (.cells (ns .u8 Z).toArray 5)).alloc (.cells #[.int .u32 4] 22)) (some ⟨w.heap.size, 0, none⟩) (ns .u8 Z) := (At.whole (heap_alloc_new w _)).below (below_alloc0 (Below.refl _ _) _)
  have hB : At ((w.alloc (.cells (ns .u8 Z).toArray 5)).alloc (.cells #[.int .u32 4] 22)) (some ⟨w.heap.size + 1, 0, none⟩) (ns .u32 [4]) := At.whole (xs := ns .u32 [4]) (by have := heap_alloc_new (w.alloc (.cells (ns .u8 Z).toArray 5)) (.cells #[.int .u32 4] 22); rwa [sz_alloc] at this)
  have hen := encode_yes (some ⟨w.heap.size, 0, none⟩) (some ⟨w.heap.size + 1, 0, none⟩) 70 1 Z [4] _ hA hB (by have := HZ70.out; omega) (by simp) HOK.out
  rw [HZ70.out] at hen
  have HEN := Lib.hid (show Calls Try.prog 34 #[.slice (some ⟨w.heap.size, 0, none⟩) 70 70, .slice (some ⟨w.heap.size + 1, 0, none⟩) 1 1] _ _ from hen)
  have HB2 := Lib.hid hb2
  clear hen hA hB hb2 hmk
  generalize ((w.alloc (.cells (ns .u8 Z).toArray 5)).alloc (.cells #[.int .u32 4] 22)) = w2 at *
  go_wp2_with fail
  refine HEN.out.mono ?_
  rintro e w3 ⟨v, F, Y, rfl, hr, hb3, hroom⟩
  have hn1 : (encRows Z [4]).length = 1 := by rw [encRows_length, HND.out]
  obtain ⟨g, cap, rfl, _⟩ := own_form hr.own (by omega)
  rw [hn1] at hr ⊢
  have hr' := hr
  rw [← HND.out] at hr'
  obtain ⟨A, c, hc0, _, _, _⟩ := enc_cell hr' hroom 0 (by rw [HND.out]; omega)
  rw [HR0.out] at hc0
  have HB3 := Lib.hid (below_next0 HB2.out hb3)
  have n64 := fun w => need_any 64 (by omega) w
  have n65 := fun w => need_any 65 (by omega) w
  have n1005 := fun w => need_any 1005 (by omega) w
  have n8192 := fun w => need_any 8192 (by omega) w
  rw [show need 64 = 0 by decide] at n64
  rw [show need 65 = 1 by decide] at n65
  rw [show need 1005 = 2 by decide] at n1005
  rw [show need 8192 = 9 by decide] at n8192
  have N64 := Lib.hid n64
  have N65 := Lib.hid n65
  have N1005 := Lib.hid n1005
  have N8192 := Lib.hid n8192
  clear n64 n65 n1005 n8192 hr hr' hb3 hn1 HEN hroom
  go_wp2_with fail
  refine (N64.out _).mono ?_
  rintro e w4 ⟨rfl, rfl⟩
  go_wp2_with fail
  refine (N65.out _).mono ?_
  rintro e w4 ⟨rfl, rfl⟩
  go_wp2_with fail
  refine (N1005.out _).mono ?_
  rintro e w4 ⟨rfl, rfl⟩
  go_wp2_with fail
  refine (N8192.out _).mono ?_
  rintro e w4 ⟨rfl, rfl⟩
  go_wp2_with fail
  go_ret
  exact ⟨rfl, HB3.out⟩
end Go.Proofs.Ytfbjjblgcgjndaa

/- over.Need (42) and the reference's Need (43) of any number; the reference's put (94). -/
namespace Go.Proofs.Ytfbjjblgcgjndaa
open Go.RowKit

def needI (z : Int) : Int := if z ≤ 64 ∨ 8192 < z then 0 else (z + 1003) / 1004
theorem needI_nat (n : Nat) : needI n = (need n : Int) := by
  unfold needI need
  by_cases h : n ≤ 64 ∨ 8192 < n
  · rw [if_pos (by omega), if_pos h]; rfl
  · rw [if_neg (by omega), if_neg h]; omega
set_option maxRecDepth 100000 in
theorem need_int (z : Int) (w : World) : Calls Try.prog 42 #[.int .i64 z] w fun e w' => e = .returned (.int .i64 (needI z)) ∧ w = w' := by
  by_cases h1 : z ≤ 64
  · have hz : needI z = 0 := by unfold needI; rw [if_pos (.inl h1)]
    rw [hz]
    clear hz
    go_enter Try.func42, Try.ntmps42
    go_wp2_with fail
    go_ret
    exact ⟨rfl, rfl⟩
  · by_cases h2 : 8192 < z
    · have hz : needI z = 0 := by unfold needI; rw [if_pos (.inr h2)]
      rw [hz]
      clear hz
      go_enter Try.func42, Try.ntmps42
      go_wp2_with fail
      go_ret
      exact ⟨rfl, rfl⟩
    · obtain ⟨n, rfl⟩ : ∃ n : Nat, z = n := ⟨z.toNat, by omega⟩
      rw [needI_nat]
      exact need_any n (by omega) w
set_option maxRecDepth 100000 in
theorem refneed_int (z : Int) (w : World) : Calls Try.prog 43 #[.int .i64 z] w fun e w' => e = .returned (.int .i64 (needI z)) ∧ w = w' := by
  by_cases h1 : z < 65
  · have hz : needI z = 0 := by unfold needI; rw [if_pos (.inl (by omega))]
    rw [hz]
    clear hz
    go_enter Try.func43, Try.ntmps43
    go_wp2_with fail
    go_ret
    exact ⟨rfl, rfl⟩
  · by_cases h2 : 8192 < z
    · have hz : needI z = 0 := by unfold needI; rw [if_pos (.inr h2)]
      rw [hz]
      clear hz
      go_enter Try.func43, Try.ntmps43
      go_wp2_with fail
      go_ret
      exact ⟨rfl, rfl⟩
    · obtain ⟨n, rfl⟩ : ∃ n : Nat, z = n := ⟨z.toNat, by omega⟩
      have hz : needI (n : Int) = ((n : Int) + 1003) / 1004 := by unfold needI; rw [if_neg (by omega)]
      have HZ := Lib.hid hz
      have e1 : ¬ (n : Int) < 65 := h1
      have e2 : ¬ (8192 : Int) < (n : Int) := h2
      have w1 : IntKind.i64.wrap ((n : Int) + 1003) = (n : Int) + 1003 := by rw [IntKind.wrap_i64]; omega
      clear hz h1 h2
      go_enter Try.func43, Try.ntmps43
      go_wp2_with fail
      go_ret
      refine ⟨?_, rfl⟩
      rw [HZ.out]
      try rfl
set_option maxRecDepth 100000 in
theorem refput_any (x : Nat) (hx : x < 4294967296) (w : World) : Calls Try.prog 94 #[.slice none 0 0, .int .u32 (x : Int)] w fun e w' => ∃ v, e = .returned v ∧ Buf w.heap.size w' v (le4 x) ∧ Below w.heap.size w w' := by
  have hby : ([Value.int IntKind.u8 ((x : Int) % 256), Value.int IntKind.u8 ((x : Int) / 256 % 256), Value.int IntKind.u8 ((x : Int) / 65536 % 256), Value.int IntKind.u8 ((x : Int) / 16777216)] : List Value) = ns .u8 (le4 x) := by
    have h3 : x / 16777216 % 256 = x / 16777216 := by omega
    simp [le4, ns, h3]
  obtain ⟨L, hL⟩ : ∃ L, L = [Value.int IntKind.u8 ((x : Int) % 256), Value.int IntKind.u8 ((x : Int) / 256 % 256), Value.int IntKind.u8 ((x : Int) / 65536 % 256), Value.int IntKind.u8 ((x : Int) / 16777216)] := ⟨_, rfl⟩
  have hLo : ∀ v ∈ L, v.oneCell' = true := by rw [hL, hby]; exact ns_one _ _
  have hat : At (w.alloc (.cells #[Value.int IntKind.u8 ((x : Int) % 256), Value.int IntKind.u8 ((x : Int) / 256 % 256), Value.int IntKind.u8 ((x : Int) / 65536 % 256), Value.int IntKind.u8 ((x : Int) / 16777216)] 5)) (some ⟨w.heap.size, 0, none⟩) L := by rw [hL]; exact At.whole (heap_alloc_new w _)
  have hL4 : L.length = 4 * 1 := by rw [hL]; rfl
  have hal : (w.alloc (.cells #[Value.int IntKind.u8 ((x : Int) % 256), Value.int IntKind.u8 ((x : Int) / 256 % 256), Value.int IntKind.u8 ((x : Int) / 65536 % 256), Value.int IntKind.u8 ((x : Int) / 16777216)] 5)).ownsRow w.heap.size 5 1 (.slice none 0 0) 0 [] := World.ownsRow_nil _ _ _ _
  have HE := Lib.hid (hL.trans hby)
  have hbl := below_alloc0 (Below.refl w.heap.size w) (.cells #[Value.int IntKind.u8 ((x : Int) % 256), Value.int IntKind.u8 ((x : Int) / 256 % 256), Value.int IntKind.u8 ((x : Int) / 65536 % 256), Value.int IntKind.u8 ((x : Int) / 16777216)] 5)
  clear hL hby
  go_enter Try.func94, Try.ntmps94
  go_wp2_with (at_builtin; go_loud (refine wp_append2 rfl (.tmp 5) (.tmp 17) 23 5 (.int .u8 0) 1 1 rfl Try.underlying23 Try.info5b rfl (by decide) w.heap.size (.slice none 0 0) 0 [] rfl hal (some ⟨w.heap.size, 0, none⟩) 4 4 L rfl hL4 hat (by simp) hLo (by omega) (by omega) (by simp) ?_); intro v4 w4 ho4 hor4)
  go_ret
  refine ⟨_, rfl, ?_, ?_⟩
  · unfold Buf
    rw [HE.out] at ho4
    exact ho4
  · have hc := push_chg hor4
    exact hbl.trans (hc.below (by simp) (fun g hg => by cases hg))
end Go.Proofs.Ytfbjjblgcgjndaa

/- The reference's Encode (38). -/
namespace Go.Proofs.Ytfbjjblgcgjndaa
open Go.RowKit

theorem under34e : Try.prog.underlying 34 = some (.slice 22) := by kernel_rfl
theorem isPg_yes {x : Nat} (h : isPg x = true) : 2 ≤ x ∧ x ≤ 16383 := by unfold isPg at h; simp at h; omega
theorem isPg_no {x : Nat} (h : isPg x = false) : x < 2 ∨ 16383 < x := by unfold isPg at h; simp at h; omega
set_option maxRecDepth 100000 in
set_option maxHeartbeats 1000000 in
theorem refenc_no (A B : Option Addr) (c cc : Nat) (l u : List Nat) (w : World) (hB : At w B (ns .u32 u)) (hu : ∀ x, x ∈ u → x < 4294967296) (hok : ¬ encOk l u) (hl : l.length ≤ 140737488355328) (hul : u.length ≤ 140737488355328) :
    Calls Try.prog 38 #[.slice A l.length c, .slice B u.length cc] w fun e w' => e = .returned (.tuple #[.slice none 0 0, .int .u16 120]) ∧ Below w.heap.size w w' := by
  have hnd := refneed_int l.length
  rw [needI_nat] at hnd
  obtain ⟨N, hN⟩ : ∃ N, N = need l.length := ⟨_, rfl⟩
  have hn9 := need_le l.length
  rw [← hN] at hnd hn9
  have HND := Lib.hid hnd
  clear hnd
  by_cases h0 : N = 0
  · have e1 : ((N : Int) == 0) = true := by simp; omega
    have e1' : (N : Int) = 0 := by omega
    clear hN hok h0
    go_enter Try.func38, Try.ntmps38
    go_wp2_with fail
    refine (HND.out _).mono ?_
    rintro e w1 ⟨rfl, rfl⟩
    go_wp2_with fail
    go_ret2
    exact ⟨rfl, Below.refl _ _⟩
  have e1 : ((N : Int) == 0) = false := by simp; omega
  have e1' : ¬ (N : Int) = 0 := by omega
  by_cases h1 : u.length = N
  · have e2 : ((u.length : Int) != (N : Int)) = false := by simp; omega
    have hex : ∃ k, k < u.length ∧ isPg (nth u k) = false := by
      refine Classical.byContradiction fun hno => hok ⟨by rw [← hN]; exact h0, by rw [h1, hN], ?_⟩
      rw [List.any_eq_false]
      intro x hx
      obtain ⟨k, hk, rfl⟩ := List.getElem_of_mem hx
      have : isPg u[k] = true := by
        cases hp : isPg u[k] with
        | true => rfl
        | false => exact absurd ⟨k, hk, by rw [nth_get u k hk]; exact hp⟩ hno
      simp [this]
    have HEX := Lib.hid hex
    have HB := Lib.hid hB
    have HU := Lib.hid hu
    have H1 := Lib.hid h1
    clear hN hok h0 hex hB hu h1
    go_enter Try.func38, Try.ntmps38
    go_wp2_with fail
    refine (HND.out _).mono ?_
    rintro e w1 ⟨rfl, rfl⟩
    go_wp2_with fail
    go_loop [7] (fun i => ∃ k : Nat, k ≤ N ∧ i = .int .i64 k ∧ ∀ j, j < k → isPg (nth u j) = true) (fun i => N - (intOf i).toNat)
    case atStart => exact ⟨0, by omega, rfl, fun j hj => by omega⟩
    case round =>
      obtain ⟨k, hk, rfl, hall⟩ := hrel
      by_cases hlt : k < N
      · have hki : (k : Int) < (N : Int) := by omega
        have hku : k < u.length := by rw [H1.out]; exact hlt
        have hkI : (k : Int) < (u.length : Int) := by omega
        obtain ⟨b, o, rfl, hcell⟩ := HB.out (by intro e; have : (ns .u32 u).length = 0 := by rw [e]; rfl
                                                rw [ns_length] at this; omega)
        have hc := hcell k (.int .u32 (nth u k : Int)) (by simp [ns, nth_eq u k hku])
        have hx := HU.out _ (nth_mem u k hku)
        have HALL := Lib.hid hall
        clear hall hcell
        cases hp : isPg (nth u k) with
        | true =>
          obtain ⟨hp1, hp2⟩ := isPg_yes hp
          have hq : ∀ j, j < k + 1 → isPg (nth u j) = true := fun j hj => by
            by_cases e : j = k
            · subst e; exact hp
            · exact HALL.out j (by omega)
          have HQ := Lib.hid hq
          clear hp hq
          generalize nth u k = y at *
          have f1 : ¬ (y : Int) < 2 := by omega
          have f2 : ¬ (16383 : Int) < (y : Int) := by omega
          go_wp2_with fail
          case roundEnd => exact ⟨⟨k + 1, by omega, by go_num, HQ.out⟩, by simp only [intOf]; omega⟩
        | false =>
          have hor := isPg_no hp
          clear hp
          generalize nth u k = y at *
          by_cases f1 : (y : Int) < 2
          · clear hor
            go_wp2_with fail
            go_ret2
            exact ⟨rfl, Below.refl _ _⟩
          · have f2 : (16383 : Int) < (y : Int) := by omega
            clear hor
            go_wp2_with fail
            go_ret2
            exact ⟨rfl, Below.refl _ _⟩
      · exfalso
        obtain ⟨j, hj, hp⟩ := HEX.out
        rw [hall j (by have := H1.out; omega)] at hp
        cases hp
  · have e2 : ((u.length : Int) != (N : Int)) = true := by simp; omega
    have e2' : ¬ (u.length : Int) = (N : Int) := by omega
    clear hN hok h0
    go_enter Try.func38, Try.ntmps38
    go_wp2_with fail
    refine (HND.out _).mono ?_
    rintro e w1 ⟨rfl, rfl⟩
    go_wp2_with fail
    go_ret2
    exact ⟨rfl, Below.refl _ _⟩
set_option maxRecDepth 100000 in
set_option maxHeartbeats 1000000 in
/-- over.Encode refuses likewise -/
theorem encode_no (A B : Option Addr) (c cc : Nat) (l u : List Nat) (w : World) (hB : At w B (ns .u32 u)) (hu : ∀ x, x ∈ u → x < 4294967296) (hok : ¬ encOk l u) (hl : l.length ≤ 140737488355328) (hul : u.length ≤ 140737488351232) :
    Calls Try.prog 34 #[.slice A l.length c, .slice B u.length cc] w fun e w' => e = .returned (.tuple #[.slice none 0 0, .int .u16 120]) ∧ Below w.heap.size w w' := by
  have hnd := need_any l.length hl
  obtain ⟨N, hN⟩ : ∃ N, N = need l.length := ⟨_, rfl⟩
  have hn9 := need_le l.length
  rw [← hN] at hnd hn9
  have HND := Lib.hid hnd
  have HNO := Lib.hid (fun w' (h : Below w.heap.size w w') => holdsno_any B cc u w' (hB.below h) hu hul)
  clear hnd
  by_cases h0 : N = 0
  · have e1 : ((N : Int) == 0) = true := by simp; omega
    have e1' : (N : Int) = 0 := by omega
    clear hN hok h0
    go_enter Try.func34, Try.ntmps34
    go_wp2_with fail
    refine (HND.out _).mono ?_
    rintro e w1 ⟨rfl, rfl⟩
    go_wp2_with fail
    go_ret2
    exact ⟨rfl, below_alloc0 (below_alloc0 (Below.refl _ _) _) _⟩
  have e1 : ((N : Int) == 0) = false := by simp; omega
  have e1' : ¬ (N : Int) = 0 := by omega
  by_cases h1 : u.length = N
  · have e2 : ((u.length : Int) != (N : Int)) = false := by simp; omega
    have hany : (u.any fun x => !isPg x) = true := by
      cases h : (u.any fun x => !isPg x) with
      | true => rfl
      | false => exact absurd ⟨by rw [← hN]; exact h0, by rw [h1, hN], h⟩ hok
    rw [hany] at HNO
    clear hN hok h0 hany h1
    go_enter Try.func34, Try.ntmps34
    go_wp2_with fail
    refine (HND.out _).mono ?_
    rintro e w1 ⟨rfl, rfl⟩
    go_wp2_with fail
    refine (HNO.out _ ?_).mono ?_
    · exact below_alloc0 (below_alloc0 (Below.refl _ _) _) _
    rintro e w1 ⟨rfl, rfl⟩
    go_wp2_with fail
    go_ret2
    exact ⟨rfl, below_alloc0 (below_alloc0 (Below.refl _ _) _) _⟩
  · have e2 : ((u.length : Int) != (N : Int)) = true := by simp; omega
    have e2' : ¬ (u.length : Int) = (N : Int) := by omega
    clear hN hok h0
    go_enter Try.func34, Try.ntmps34
    go_wp2_with fail
    refine (HND.out _).mono ?_
    rintro e w1 ⟨rfl, rfl⟩
    go_wp2_with fail
    go_ret2
    exact ⟨rfl, below_alloc0 (below_alloc0 (Below.refl _ _) _) _⟩
end Go.Proofs.Ytfbjjblgcgjndaa

/- The reference's Encode (38), where it gives rows. -/
namespace Go.Proofs.Ytfbjjblgcgjndaa
open Go.RowKit

/-- the reference's rows -/
def RefGives (w : World) (l u : List Nat) (e : Ending) (w' : World) : Prop :=
  ∃ v F Y, e = .returned (.tuple #[v, .int .u16 0]) ∧ Rows23 w.heap.size w' v (encRows l u) F Y ∧ Below w.heap.size w w'
def rowsTo (l u : List Nat) (k : Nat) : List (List Nat) := (List.range k).map (encRow l u)
theorem rowsTo_length (l u : List Nat) (k : Nat) : (rowsTo l u k).length = k := by simp [rowsTo]
theorem rowsTo_succ (l u : List Nat) (k : Nat) : rowsTo l u (k + 1) = rowsTo l u k ++ [encRow l u k] := by simp [rowsTo, List.range_succ]
/-- a row more: what the round leaves -/
theorem ref_step {w wr w1 w2 : World} {v v1 v2 : Value} {l u : List Nat} {q n2 : Nat} {F : Nat → Value} {Y : Nat → Prop} {xs : List Value} (hr : Rows23 w.heap.size wr v (rowsTo l u q) F Y) (hb : Below w.heap.size w wr) (hb1 : Below wr.heap.size wr w1) (h1 : w1.ownsRow wr.heap.size 5 1 v1 4 xs)
    (h2 : w2.ownsRow wr.heap.size 5 1 v2 n2 (ns .u8 (encRow l u q))) (hn2 : 0 < n2) (hor : (w1.grownBy w2 v1.ownBlock ∧ v2.ownBlock = v1.ownBlock) ∨ (w1.grownBy w2 none ∧ ∃ g, v2.ownBlock = some g ∧ w1.heap.size ≤ g)) :
    ∃ g2 c2, v2 = .slice (some ⟨g2, 0, none⟩) n2 c2 ∧ (w2.alloc (.cells #[.slice (some ⟨g2, 0, none⟩) n2 c2] 23)).ownsRow w.heap.size 23 1 v q (lst F q) ∧ w.heap.size ≤ (w2.alloc (.cells #[.slice (some ⟨g2, 0, none⟩) n2 c2] 23)).heap.size ∧
      ∀ v' w', w'.ownsRow w.heap.size 23 1 v' (q + 1) (lst F q ++ [.slice (some ⟨g2, 0, none⟩) n2 c2]) → (((w2.alloc (.cells #[.slice (some ⟨g2, 0, none⟩) n2 c2] 23)).grownBy w' v.ownBlock ∧ v'.ownBlock = v.ownBlock) ∨ ((w2.alloc (.cells #[.slice (some ⟨g2, 0, none⟩) n2 c2] 23)).grownBy w' none ∧ ∃ g, v'.ownBlock = some g ∧ (w2.alloc (.cells #[.slice (some ⟨g2, 0, none⟩) n2 c2] 23)).heap.size ≤ g)) →
        ∃ F' Y', Rows23 w.heap.size w' v' (rowsTo l u (q + 1)) F' Y' ∧ Below w.heap.size w w' := by
  obtain ⟨g2, c2, rfl, _⟩ := own_form h2 hn2
  have hn : n2 = (encRow l u q).length := by have := h2.1; rw [ns_length] at this; omega
  have hc := push_chg hor
  have hbl2 : Below wr.heap.size wr w2 := hb1.trans (hc.below hb1.size (fun g hg => (row_lt h1 hg).1))
  have hbl3 : Below wr.heap.size wr (w2.alloc (.cells #[.slice (some ⟨g2, 0, none⟩) n2 c2] 23)) := below_alloc0 hbl2 _
  have hr3 := hr.below hbl3
  have hbf : Buf wr.heap.size (w2.alloc (.cells #[.slice (some ⟨g2, 0, none⟩) n2 c2] 23)) (.slice (some ⟨g2, 0, none⟩) n2 c2) (encRow l u q) := by
    unfold Buf; rw [← hn]; exact own_below h2 (below_alloc0 (Below.refl _ _) _)
  have hbw := below_next0 hb hbl3
  refine ⟨g2, c2, rfl, by have := hr3.own; rwa [rowsTo_length] at this, hbw.size, fun v' w' ho hor' => ?_⟩
  have hp := hr3.push (own_down hbf hb.size) (fun g hg hgv => by
    have a1 := (row_lt hbf hg).1
    have a2 := (row_lt hr.own hgv).2
    omega) (by rw [rowsTo_length]; exact ho) hor'
  rw [← rowsTo_succ] at hp
  refine ⟨_, _, hp, hbw.trans ((push_chg hor').below hbw.size (fun g hg => (row_lt hr3.own hg).1))⟩
set_option maxRecDepth 100000 in
set_option maxHeartbeats 4000000 in
theorem refenc_yes (A B : Option Addr) (c cc : Nat) (l u : List Nat) (w : World) (hA : At w A (ns .u8 l)) (hB : At w B (ns .u32 u)) (hcap : l.length ≤ c) (hu : ∀ x, x ∈ u → x < 4294967296) (hok : encOk l u) :
    Calls Try.prog 38 #[.slice A l.length c, .slice B u.length cc] w (RefGives w l u) := by
  obtain ⟨hn0, hul, hno⟩ := hok
  obtain ⟨hl1, hl2, hne⟩ := need_yes hn0
  have hnd := refneed_int l.length
  rw [needI_nat] at hnd
  obtain ⟨N, hN⟩ : ∃ N, N = need l.length := ⟨_, rfl⟩
  have hn9 := need_le l.length
  rw [← hN] at hnd hn9 hn0 hul hne
  have HND := Lib.hid hnd
  have hpg : ∀ k, k < N → 2 ≤ nth u k ∧ nth u k ≤ 16383 := fun k hk => by
    refine isPg_yes ?_
    rw [List.any_eq_false] at hno
    have := hno (nth u k) (nth_mem u k (by omega))
    simpa using this
  have HPG := Lib.hid hpg
  have HN := Lib.hid hN
  have HUL := Lib.hid hul
  have HNE := Lib.hid hne
  have HB := Lib.hid hB
  have HU := Lib.hid hu
  obtain ⟨b, o, rfl, hcell⟩ := hA (by intro e; have : (ns .u8 l).length = 0 := by rw [e]; rfl
                                      rw [ns_length] at this; omega)
  have HA := Lib.hid hA
  obtain ⟨bb, oo, rfl, hbc⟩ := hB (by intro e; have : (ns .u32 u).length = 0 := by rw [e]; rfl
                                      rw [ns_length] at this; omega)
  have HBC := Lib.hid hbc
  have e1 : ((N : Int) == 0) = false := by simp; omega
  have e1' : ¬ (N : Int) = 0 := by omega
  have e2 : ((u.length : Int) != (N : Int)) = false := by simp; omega
  clear hnd hpg hN hul hne hB hu hA hcell hbc hno hn0
  go_enter Try.func38, Try.ntmps38
  go_wp2_with fail
  refine (HND.out _).mono ?_
  rintro e w1 ⟨rfl, rfl⟩
  go_wp2_with fail
  go_loop [7] (fun i => ∃ k : Nat, k ≤ N ∧ i = .int .i64 k) (fun i => N - (intOf i).toNat)
  case atStart => exact ⟨0, by omega, rfl⟩
  case round =>
    obtain ⟨k, hk, rfl⟩ := hrel
    by_cases hlt : k < N
    · have hki : (k : Int) < (N : Int) := by omega
      have hku : k < u.length := by rw [HUL.out]; exact hlt
      have hkI : (k : Int) < (u.length : Int) := by omega
      have hc := HBC.out k (.int .u32 (nth u k : Int)) (by simp [ns, nth_eq u k hku])
      have hx := HU.out _ (nth_mem u k hku)
      obtain ⟨hp1, hp2⟩ := HPG.out k hlt
      generalize nth u k = y at *
      have f1 : ¬ (y : Int) < 2 := by omega
      have f2 : ¬ (16383 : Int) < (y : Int) := by omega
      go_wp2_with fail
      case roundEnd => exact ⟨⟨k + 1, by omega, by go_num⟩, by simp only [intOf]; omega⟩
    · obtain rfl : k = N := by omega
      clear hlt hk
      go_wp2_with fail
      go_loopw [8, 9] (fun v i wr => ∃ k' F Y, k' ≤ k ∧ i = .int .i64 (k' : Nat) ∧ Rows23 w.heap.size wr v (rowsTo l u k') F Y ∧ Below w.heap.size w wr) (fun _ i _ => k - (intOf i).toNat)
      case atStart => exact ⟨0, _, _, by omega, rfl, Rows23.nil _ _, Below.refl _ _⟩
      case round =>
        obtain ⟨q, F, Y, hq, rfl, hr, hb⟩ := hrel
        have HR := Lib.hid hr
        have HBW := Lib.hid hb
        by_cases hlt : q < k
        · have hqi : (q : Int) < (k : Int) := by omega
          have j1 : IntKind.i64.wrap ((q : Int) + 1) = (q : Int) + 1 := by rw [IntKind.wrap_i64]; omega
          have e4 : ((q : Int) + 1).toNat = q + 1 := by omega
          obtain ⟨z, hz⟩ : ∃ z, z = if q + 1 < u.length then nth u (q + 1) else 0 := ⟨_, rfl⟩
          have HZ := Lib.hid hz
          have hzl : z < 4294967296 := by
            rw [hz]; split
            · exact HU.out _ (nth_mem u (q + 1) (by assumption))
            · omega
          have hput := fun w => refput_any z hzl w
          obtain ⟨s, hs⟩ : ∃ s, s = 1004 * q := ⟨_, rfl⟩
          have hsl : s < l.length := by have := HNE.out; omega
          have g1 : IntKind.i64.wrap (1004 * (q : Int)) = (s : Int) := by rw [IntKind.wrap_i64]; omega
          have g2 : IntKind.i64.wrap ((s : Int) + 1004) = (s : Int) + 1004 := by rw [IntKind.wrap_i64]; omega
          have HS := Lib.hid hs
          have HPUT := Lib.hid hput
          clear hput hr hb hs hz
          by_cases hnx : q + 1 < k
          · have e3 : (q : Int) + 1 < (k : Int) := by omega
            have e5 : (q : Int) + 1 < (u.length : Int) := by have := HUL.out; omega
            have e6 : (0 : Int) ≤ (q : Int) + 1 := by omega
            have hcb : wr.cell? ⟨bb, oo + (q + 1), none⟩ = some (.int .u32 (z : Int)) := by
              have h1 := HBC.out (q + 1) _ (ns_get .u32 u (q + 1) (by rw [HUL.out]; exact hnx))
              rw [HZ.out, if_pos (by rw [HUL.out]; exact hnx)]
              exact (HBW.out.cell (World.block_lt_of_cell? w _ h1)).trans h1
            go_wp2_with fail
            refine (HPUT.out wr).mono ?_
            rintro e w1 ⟨v1, rfl, hbf, hb1⟩
            obtain ⟨gp, cp, rfl, _⟩ := own_form (show w1.ownsRow _ 5 1 v1 4 _ from hbf) (by omega)
            have hbf4 : w1.ownsRow wr.heap.size 5 1 (.slice (some ⟨gp, 0, none⟩) 4 cp) 4 (ns .u8 (le4 z)) := hbf
            have hn1 : wr.heap.size ≤ w1.heap.size := hb1.size
            have hpt := (HA.out.below (below_next0 HBW.out hb1)).part s 1004
            have HBF := Lib.hid hbf4
            have HB1 := Lib.hid hb1
            clear hbf hb1 hcb
            have k0 : s ≤ c := by omega
            have k1 : ¬ c = s := by omega
            have k2 : s < c := by omega
            have k3 : ¬ c ≤ s := by omega
            have k4 : ¬ c - s = 0 := by omega
            have k5 : ¬ s = c := by omega
            have m3 : (s : Int) ≤ (l.length : Int) := by omega
            have m4 : s ≤ l.length := by omega
            by_cases hm : l.length ≤ s + 1004
            · have m1 : (l.length : Int) ≤ (s : Int) + 1004 := by omega
              have m2 : ¬ (s : Int) + 1004 < (l.length : Int) := by omega
              have hm' : ((l.drop s).take 1004).length = (l.length - s) := by rw [List.length_take, List.length_drop]; omega
              have HM := Lib.hid hm'
              clear hm'
              go_wp2_with (first
                | (at_builtin; go_loud (refine wp_append2 rfl (.tmp 57) (.tmp 67) 23 5 (.int .u8 0) 1 1 rfl Try.underlying23 Try.info5b rfl (by decide) wr.heap.size _ 4 _ rfl HBF.out (some ⟨b, o + s, none⟩) (l.length - s) (c - s) (ns .u8 ((l.drop s).take 1004)) rfl (by rw [ns_length, HM.out, Nat.mul_one]) hpt (by simp) (ns_one _ _) (by omega) (by omega) hn1 ?_); intro v2 w2 ho2 hor2; obtain ⟨g2, c2, rfl, ho3, hn3, hend⟩ := ref_step HR.out HBW.out HB1.out HBF.out (by unfold encRow; rw [← HZ.out, ← HS.out, ns_append]; exact ho2) (by omega) hor2; have HEND := Lib.hid hend; have hat3 : At (w2.alloc (.cells #[.slice (some ⟨g2, 0, none⟩) (4 + (l.length - s)) c2] 23)) (some ⟨w2.heap.size, 0, none⟩) [.slice (some ⟨g2, 0, none⟩) (4 + (l.length - s)) c2] := At.box w2 _ 23 w2.heap.size rfl; clear hend hor2 ho2)
                | (at_builtin; go_loud (refine wp_append2 rfl (.tmp 69) (.tmp 71) 30 23 (.slice none 0 0) 1 24 rfl Try.underlying30 Try.info23b rfl (by decide) w.heap.size u8 q _ rfl ho3 (some ⟨w2.heap.size, 0, none⟩) 1 1 _ rfl rfl hat3 (by simp) (by simp [Value.oneCell']) (by omega) (by omega) hn3 ?_); intro v5 w5 ho5 hor5; obtain ⟨F5, Y5, hr5, hb5⟩ := HEND.out v5 w5 ho5 hor5; have HR5 := Lib.hid hr5; have HB5 := Lib.hid hb5; clear hr5 hb5 ho5 hor5))
              go_roundw
              case rel => exact ⟨q + 1, F5, Y5, by omega, by go_num, HR5.out, HB5.out⟩
              case measure => simp only [intOf]; omega
            · have m1 : ¬ (l.length : Int) ≤ (s : Int) + 1004 := by omega
              have m2 : (s : Int) + 1004 < (l.length : Int) := by omega
              have m5 : ¬ (l.length : Int) < (s : Int) + 1004 := by omega
              have m6 : (s : Int) ≤ (s : Int) + 1004 := by omega
              have m7 : s + 1004 ≤ c := by omega
              have m8 : (s : Int) + 1004 ≤ (c : Int) := by omega
              have m9 : ((s : Int) + 1004).toNat = s + 1004 := by omega
              have hm' : ((l.drop s).take 1004).length = 1004 := by rw [List.length_take, List.length_drop]; omega
              have HM := Lib.hid hm'
              clear hm'
              go_wp2_with (first
                | (at_builtin; go_loud (refine wp_append2 rfl (.tmp 57) (.tmp 67) 23 5 (.int .u8 0) 1 1 rfl Try.underlying23 Try.info5b rfl (by decide) wr.heap.size _ 4 _ rfl HBF.out (some ⟨b, o + s, none⟩) 1004 (c - s) (ns .u8 ((l.drop s).take 1004)) rfl (by rw [ns_length, HM.out, Nat.mul_one]) hpt (by simp) (ns_one _ _) (by omega) (by omega) hn1 ?_); intro v2 w2 ho2 hor2; obtain ⟨g2, c2, rfl, ho3, hn3, hend⟩ := ref_step HR.out HBW.out HB1.out HBF.out (by unfold encRow; rw [← HZ.out, ← HS.out, ns_append]; exact ho2) (by omega) hor2; have HEND := Lib.hid hend; have hat3 : At (w2.alloc (.cells #[.slice (some ⟨g2, 0, none⟩) (4 + 1004) c2] 23)) (some ⟨w2.heap.size, 0, none⟩) [.slice (some ⟨g2, 0, none⟩) (4 + 1004) c2] := At.box w2 _ 23 w2.heap.size rfl; clear hend hor2 ho2)
                | (at_builtin; go_loud (refine wp_append2 rfl (.tmp 69) (.tmp 71) 30 23 (.slice none 0 0) 1 24 rfl Try.underlying30 Try.info23b rfl (by decide) w.heap.size u8 q _ rfl ho3 (some ⟨w2.heap.size, 0, none⟩) 1 1 _ rfl rfl hat3 (by simp) (by simp [Value.oneCell']) (by omega) (by omega) hn3 ?_); intro v5 w5 ho5 hor5; obtain ⟨F5, Y5, hr5, hb5⟩ := HEND.out v5 w5 ho5 hor5; have HR5 := Lib.hid hr5; have HB5 := Lib.hid hb5; clear hr5 hb5 ho5 hor5))
              go_roundw
              case rel => exact ⟨q + 1, F5, Y5, by omega, by go_num, HR5.out, HB5.out⟩
              case measure => simp only [intOf]; omega
          · have e3 : ¬ (q : Int) + 1 < (k : Int) := by omega
            have hz0 : z = 0 := by rw [HZ.out, if_neg (by rw [HUL.out]; exact hnx)]
            have HZ0 := Lib.hid hz0
            clear hz0
            have hput0 := HPUT.out wr
            rw [HZ0.out] at hput0
            have HP0 := Lib.hid hput0
            clear hput0
            go_wp2_with fail
            refine HP0.out.mono ?_
            rintro e w1 ⟨v1, rfl, hbf, hb1⟩
            rw [← HZ0.out] at hbf
            obtain ⟨gp, cp, rfl, _⟩ := own_form (show w1.ownsRow _ 5 1 v1 4 _ from hbf) (by omega)
            have hbf4 : w1.ownsRow wr.heap.size 5 1 (.slice (some ⟨gp, 0, none⟩) 4 cp) 4 (ns .u8 (le4 z)) := hbf
            have hn1 : wr.heap.size ≤ w1.heap.size := hb1.size
            have hpt := (HA.out.below (below_next0 HBW.out hb1)).part s 1004
            have HBF := Lib.hid hbf4
            have HB1 := Lib.hid hb1
            clear hbf hb1
            have k0 : s ≤ c := by omega
            have k1 : ¬ c = s := by omega
            have k2 : s < c := by omega
            have k3 : ¬ c ≤ s := by omega
            have k4 : ¬ c - s = 0 := by omega
            have k5 : ¬ s = c := by omega
            have m3 : (s : Int) ≤ (l.length : Int) := by omega
            have m4 : s ≤ l.length := by omega
            by_cases hm : l.length ≤ s + 1004
            · have m1 : (l.length : Int) ≤ (s : Int) + 1004 := by omega
              have m2 : ¬ (s : Int) + 1004 < (l.length : Int) := by omega
              have hm' : ((l.drop s).take 1004).length = (l.length - s) := by rw [List.length_take, List.length_drop]; omega
              have HM := Lib.hid hm'
              clear hm'
              go_wp2_with (first
                | (at_builtin; go_loud (refine wp_append2 rfl (.tmp 57) (.tmp 67) 23 5 (.int .u8 0) 1 1 rfl Try.underlying23 Try.info5b rfl (by decide) wr.heap.size _ 4 _ rfl HBF.out (some ⟨b, o + s, none⟩) (l.length - s) (c - s) (ns .u8 ((l.drop s).take 1004)) rfl (by rw [ns_length, HM.out, Nat.mul_one]) hpt (by simp) (ns_one _ _) (by omega) (by omega) hn1 ?_); intro v2 w2 ho2 hor2; obtain ⟨g2, c2, rfl, ho3, hn3, hend⟩ := ref_step HR.out HBW.out HB1.out HBF.out (by unfold encRow; rw [← HZ.out, ← HS.out, ns_append]; exact ho2) (by omega) hor2; have HEND := Lib.hid hend; have hat3 : At (w2.alloc (.cells #[.slice (some ⟨g2, 0, none⟩) (4 + (l.length - s)) c2] 23)) (some ⟨w2.heap.size, 0, none⟩) [.slice (some ⟨g2, 0, none⟩) (4 + (l.length - s)) c2] := At.box w2 _ 23 w2.heap.size rfl; clear hend hor2 ho2)
                | (at_builtin; go_loud (refine wp_append2 rfl (.tmp 69) (.tmp 71) 30 23 (.slice none 0 0) 1 24 rfl Try.underlying30 Try.info23b rfl (by decide) w.heap.size u8 q _ rfl ho3 (some ⟨w2.heap.size, 0, none⟩) 1 1 _ rfl rfl hat3 (by simp) (by simp [Value.oneCell']) (by omega) (by omega) hn3 ?_); intro v5 w5 ho5 hor5; obtain ⟨F5, Y5, hr5, hb5⟩ := HEND.out v5 w5 ho5 hor5; have HR5 := Lib.hid hr5; have HB5 := Lib.hid hb5; clear hr5 hb5 ho5 hor5))
              go_roundw
              case rel => exact ⟨q + 1, F5, Y5, by omega, by go_num, HR5.out, HB5.out⟩
              case measure => simp only [intOf]; omega
            · have m1 : ¬ (l.length : Int) ≤ (s : Int) + 1004 := by omega
              have m2 : (s : Int) + 1004 < (l.length : Int) := by omega
              have m5 : ¬ (l.length : Int) < (s : Int) + 1004 := by omega
              have m6 : (s : Int) ≤ (s : Int) + 1004 := by omega
              have m7 : s + 1004 ≤ c := by omega
              have m8 : (s : Int) + 1004 ≤ (c : Int) := by omega
              have m9 : ((s : Int) + 1004).toNat = s + 1004 := by omega
              have hm' : ((l.drop s).take 1004).length = 1004 := by rw [List.length_take, List.length_drop]; omega
              have HM := Lib.hid hm'
              clear hm'
              go_wp2_with (first
                | (at_builtin; go_loud (refine wp_append2 rfl (.tmp 57) (.tmp 67) 23 5 (.int .u8 0) 1 1 rfl Try.underlying23 Try.info5b rfl (by decide) wr.heap.size _ 4 _ rfl HBF.out (some ⟨b, o + s, none⟩) 1004 (c - s) (ns .u8 ((l.drop s).take 1004)) rfl (by rw [ns_length, HM.out, Nat.mul_one]) hpt (by simp) (ns_one _ _) (by omega) (by omega) hn1 ?_); intro v2 w2 ho2 hor2; obtain ⟨g2, c2, rfl, ho3, hn3, hend⟩ := ref_step HR.out HBW.out HB1.out HBF.out (by unfold encRow; rw [← HZ.out, ← HS.out, ns_append]; exact ho2) (by omega) hor2; have HEND := Lib.hid hend; have hat3 : At (w2.alloc (.cells #[.slice (some ⟨g2, 0, none⟩) (4 + 1004) c2] 23)) (some ⟨w2.heap.size, 0, none⟩) [.slice (some ⟨g2, 0, none⟩) (4 + 1004) c2] := At.box w2 _ 23 w2.heap.size rfl; clear hend hor2 ho2)
                | (at_builtin; go_loud (refine wp_append2 rfl (.tmp 69) (.tmp 71) 30 23 (.slice none 0 0) 1 24 rfl Try.underlying30 Try.info23b rfl (by decide) w.heap.size u8 q _ rfl ho3 (some ⟨w2.heap.size, 0, none⟩) 1 1 _ rfl rfl hat3 (by simp) (by simp [Value.oneCell']) (by omega) (by omega) hn3 ?_); intro v5 w5 ho5 hor5; obtain ⟨F5, Y5, hr5, hb5⟩ := HEND.out v5 w5 ho5 hor5; have HR5 := Lib.hid hr5; have HB5 := Lib.hid hb5; clear hr5 hb5 ho5 hor5))
              go_roundw
              case rel => exact ⟨q + 1, F5, Y5, by omega, by go_num, HR5.out, HB5.out⟩
              case measure => simp only [intOf]; omega
        · obtain rfl : q = k := by omega
          go_wp2_with fail
          go_ret2
          refine ⟨_, F, Y, rfl, ?_, HBW.out⟩
          have : encRows l u = rowsTo l u q := by unfold encRows rowsTo; rw [HN.out]
          rw [this]; exact HR.out
end Go.Proofs.Ytfbjjblgcgjndaa
