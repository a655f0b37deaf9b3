/- What the disk's Write does: the loop. -/
import Derived.Test.YtfbjjblgcgjndaaLast
set_option linter.unusedVariables false
set_option linter.unusedSimpArgs false
namespace Go.Proofs.Ytfbjjblgcgjndaa
open Go.RowKit Go.Maps

attribute [local go_sem ↓] execOp_build185 execOp_one185
attribute [local go_sem] run_build185 run_one185
def zero129 : Array Value := #[.int .i64 0] ++ zero128
theorem Try.info185z : (Try.prog.info? 185).map (fun i => (i.zero, i.size, i.bytes)) = some (some (.agg zero129), 129, 136) := Try.info185
theorem zero129_agg : (Value.agg zero129).cells.size = 129 := zero129_size
theorem key3 : Keyed Try.prog 3 := int_keyed Try.underlying3

/-- what Write's statement reads -/
def PutS (p bd bb g o n c m cap : Nat) (V : Option Addr) (cs : List Value) (w : World) : Prop :=
  w.cell? ⟨bd, 0, none⟩ = some (.pointer (some ⟨p, 0, none⟩)) ∧ w.cell? ⟨bb, 0, none⟩ = some (.slice (some ⟨g, o, none⟩) n c) ∧ w.cell? ⟨p, 1, none⟩ = some (.slice V m cap)
theorem PutS.chg {p bd bb g o n c m cap : Nat} {V : Option Addr} {cs : List Value} {w w' : World} {G : Nat → Prop} (h : PutS p bd bb g o n c m cap V cs w) (hc : Chg G w w') (h1 : ¬ G bd) (h2 : ¬ G bb) (h3 : ¬ G p) : PutS p bd bb g o n c m cap V cs w' :=
  ⟨hc.cell h.1 h1, hc.cell h.2.1 h2, hc.cell h.2.2 h3⟩
def sectCells (a : Int) (l : List Nat) : List Value := .int .i64 a :: ns .u8 l
theorem run_arrayAt (w : World) (a : Addr) (c : Nat) : (Instr.arrayAt 183 (.slice (some a) 128 c)).run Try.prog w = .ok (.pointer (some a)) w := by
  simp [Instr.arrayAt, run_underlying Try.underlying183]

theorem foot_len {p qb qm n n' cap g : Nat} {V : Option Addr} (h : Dparts.foot p ⟨qb, .slice V n cap, qm⟩ g) : Dparts.foot p ⟨qb, .slice V n' cap, qm⟩ g := by
  rcases h with h | h | h | h
  · exact .inl h
  · exact .inr (.inl h)
  · exact .inr (.inr (.inl h))
  · refine .inr (.inr (.inr ?_))
    cases V with
    | none => cases h
    | some a => exact h
theorem put_step {n0 : Nat} {w2 w3 wA w4 : World} {p qb qm : Nat} {D : Dsk} {C C4 : Value} {M : DataW Unit} {a : Nat} {part : List Nat} (h : DiskIn n0 w2 p D ⟨qb, C, qm⟩ M)
    (hm : w3.ownsMap Try.prog 3 (plainElem Try.prog 3) qm (D.cache.length + 1) (M.put (seenKey a) (.lit (.int .i64 (D.cache.length : Int))))) (hg3 : w2.grownBy w3 (some qm)) (hA : Below w3.heap.size w3 wA)
    (ho : w4.ownsRow n0 185 129 C4 (D.cache.length + 1) (wcells D.cache ++ wcell (a, part))) (hor : (wA.grownBy w4 C.ownBlock ∧ C4.ownBlock = C.ownBlock) ∨ (wA.grownBy w4 none ∧ ∃ g, C4.ownBlock = some g ∧ wA.heap.size ≤ g)) :
    DiskIn n0 (w4.setCell ⟨p, 1, none⟩ C4) p { D with cache := D.cache ++ [(a, part)] } ⟨qb, C4, qm⟩ (M.put (seenKey a) (.lit (.int .i64 (D.cache.length : Int)))) ∧
      Chg (Dparts.foot p ⟨qb, C, qm⟩) w2 (w4.setCell ⟨p, 1, none⟩ C4) ∧ ∀ g, Dparts.foot p ⟨qb, C4, qm⟩ g → Dparts.foot p ⟨qb, C, qm⟩ g ∨ w2.heap.size ≤ g := by
  obtain ⟨s1, s2, s3, s4, s5, s6⟩ := h.sep
  obtain ⟨b1, b2, b3, b4, b5⟩ := h.bases
  have c3 : Chg (fun g => g = qm) w2 w3 := .of_grown hg3 (fun g hg => by cases hg; rfl)
  have cA : Chg (fun _ => False) w3 wA := .of_below hA
  have c4 := push_chg hor
  have c5 := setCell_chg w4 p 1 C4
  have hz : w2.heap.size ≤ wA.heap.size := Nat.le_trans c3.size cA.size
  have hb4 : ∀ g, blk C4 g → blk C g ∨ w2.heap.size ≤ g := fun g hg => by
    rcases push_blk hor hg with h | h
    · exact .inl h
    · exact .inr (Nat.le_trans hz h)
  have hsep4 : ∀ g, g < w2.heap.size → ¬ blk C g → ¬ blk C4 g := fun g h1 h2 h3 => by
    rcases hb4 g h3 with h | h
    · exact h2 h
    · omega
  have hpl := h.rcd.lt
  refine ⟨⟨?_, ?_, ?_, ?_, ?_, ⟨b1, b2, b3, ?_, ?_⟩, s1, s2, s3, hsep4 _ hpl s4, hsep4 _ b4 s5, hsep4 _ b5 s6⟩, ?_, ?_⟩
  · have r3 := h.rcd.keep c3 (fun e => s2 e)
    have r4 := (r3.keep cA (fun h => h)).keep c4 s4
    exact (r4.set 1 C4).congr (all13 rfl rfl rfl rfl rfl rfl rfl rfl rfl rfl rfl rfl rfl)
  · have l3 := h.last.keep c3 (fun e => s3 e) b4
    have l4 := (l3.keep cA (fun h => h) (Nat.lt_of_lt_of_le b4 c3.size)).keep c4 s5 (Nat.lt_of_lt_of_le b4 hz)
    exact l4.keep c5 (fun e => s1 e.symm) (Nat.lt_of_lt_of_le b4 (Nat.le_trans hz c4.size))
  · have := own_chg ho c5 (fun g hg e => hsep4 p hpl s4 (by rw [← e]; exact hg))
    simp only [List.length_append, List.length_cons, List.length_nil, wcells_append]
    have e : wcells [(a, part)] = wcell (a, part) := by simp [wcells]
    rw [e]; exact this
  · have m4 := map_chg (map_chg hm cA (fun h => h) (Nat.lt_of_lt_of_le b5 c3.size)) c4 s6 (Nat.lt_of_lt_of_le b5 hz)
    have := map_chg m4 c5 (fun e => s2 e.symm) (Nat.lt_of_lt_of_le b5 (Nat.le_trans hz c4.size))
    simpa using this
  · exact h.seen.put a part
  · exact Nat.lt_of_lt_of_le b4 (Nat.le_trans (Nat.le_trans hz c4.size) c5.size)
  · exact Nat.lt_of_lt_of_le b5 (Nat.le_trans (Nat.le_trans hz c4.size) c5.size)
  · refine (((c3.mono (G := Dparts.foot p ⟨qb, C, qm⟩) (fun g _ hg => ?_)).trans cA (fun _ _ h => h.elim)).trans c4 (fun g _ hg => ?_)).trans c5 (fun g _ hg => ?_)
    · exact .inr (.inr (.inl hg))
    · exact .inr (.inr (.inr hg))
    · exact .inl hg
  · intro g hg
    rcases hg with h | h | h | h
    · exact .inl (.inl h)
    · exact .inl (.inr (.inl h))
    · exact .inl (.inr (.inr (.inl h)))
    · rcases hb4 g h with h | h
      · exact .inl (.inr (.inr (.inr h)))
      · exact .inr h

set_option maxRecDepth 100000 in
set_option maxHeartbeats 8000000 in
theorem write_do (n0 : Nat) (w : World) (p : Nat) (D : Dsk) (S : Nat → Prop) (pg : Nat) (bp bd bb : Nat) (r : Inner) (k : Nat) (h : DiskAt n0 w p D S) (h1 : Box w bp (.int .i64 (pg : Int)) 3) (h2 : Box w bd (.pointer (some ⟨p, 0, none⟩)) 74) (h3 : Box w bb (.slice r.A r.l.length r.c) 23) (hr : r.Ok w)
    (hpg : pg < D.pages) (hn : r.l.length = 128 * k) (hk : k = 8 ∨ k = 1) (hc : D.cache.length ≤ 1000000000000) (hn0 : n0 ≤ w.heap.size)
    (hs1 : ∀ g, S g → g ≠ bp ∧ g ≠ bd ∧ g ≠ bb ∧ ∀ a, r.A = some a → a.block ≠ g) (hS : ∀ g, S g → g < w.heap.size) :
    Calls Try.prog 120 #[.pointer (some ⟨bp, 0, none⟩), .pointer (some ⟨bd, 0, none⟩), .pointer (some ⟨bb, 0, none⟩)] w fun e w' => e = .returned (.int .u16 0) ∧ DiskAt n0 w' p (D.put (8 * pg) r.l k) (fun g => S g ∨ (w.heap.size ≤ g ∧ g < w'.heap.size)) ∧ Chg S w w' := by
  have c1 := h1.cell
  have c2 := h2.cell
  have c3 := h3.cell
  have hp := fun n => (pages_any (h.below (below_drewN (Below.refl w.heap.size w) n))).mono fun _ _ (h : _ ∧ _) => And.intro h.1 h.2.symm
  have HP := Lib.hid hp
  have hneg : ¬ ((pg : Int) < 0) := by omega
  have hd : decide ((pg : Int) < 0) = false := by simp
  have hd2 : decide ((D.pages : Int) ≤ (pg : Int)) = false := by simp; omega
  have hd3 : decide (D.pages ≤ pg) = false := by simp; omega
  have hlen : r.l.length = 1024 ∨ r.l.length = 128 := by rcases hk with rfl | rfl <;> omega
  have HK := Lib.hid hk
  have HL := Lib.hid hn
  have HPG := Lib.hid hpg
  have hpb : pg < 16384 := by obtain ⟨q, a, b, c⟩ := h.1.pages; unfold Dsk.pages at hpg; omega
  have g1 : (((r.l.length : Int) != 1024) && ((r.l.length : Int) != 128)) = false := by rcases hlen with e | e <;> simp [e]
  have HD := Lib.hid h
  have H1 := Lib.hid h1
  have H2 := Lib.hid h2
  have H3 := Lib.hid h3
  have HR := Lib.hid hr
  have HS := Lib.hid hs1
  have HSS := Lib.hid hS
  clear hp h h1 h2 h3 hr hk hn hpg hs1 hS
  have hlen0 : 0 < r.l.length := by omega
  obtain ⟨gb, go, hA, hrange⟩ := HR.out.lies (by intro e; have := congrArg List.length e; rw [ns_length] at this; simp at this; rw [this] at hlen0; simp at hlen0)
  have HA := Lib.hid hA
  have HRANGE := Lib.hid hrange
  rw [hA] at c3
  clear hA hrange hlen0
  rcases hlen with hlen | hlen
  · have q1 : ((r.l.length : Int) == 1024) = (r.l.length == 1024) := by rw [hlen]; rfl
    have HLEN := Lib.hid hlen
    rw [hlen] at c3
    clear hlen q1 g1
    go_enter Try.func120, Try.ntmps120
    go_wp2_with fail
    go_quiet ((go_at_call 121; exact Calls.quiet_of_same (HP.out _)))
    go_wp2_with fail
    have hstart : DiskAt n0 (w.drewN nq) p (D.put (8 * pg) r.l 0) (fun g => S g ∨ (w.heap.size ≤ g ∧ g < (w.drewN nq).heap.size)) := by
      have := HD.out.below (below_drewN (Below.refl w.heap.size w) nq)
      have e : D.put (8 * pg) r.l 0 = D := by simp [Dsk.put, puts]
      rw [e]
      exact this.mono fun g _ _ hg => .inl hg
    have hchg : Chg S w (w.drewN nq) := (Chg.refl S w).drewN nq
    go_loopw [4] (fun i wr => ∃ j : Nat, 128 * j ≤ r.l.length ∧ i = .int .i64 j ∧ DiskAt n0 wr p (D.put (8 * pg) r.l j) (fun g => S g ∨ (w.heap.size ≤ g ∧ g < wr.heap.size)) ∧ Chg S w wr) (fun i _ => r.l.length - 128 * (intOf i).toNat)
    case atStart => exact ⟨0, by omega, rfl, hstart, hchg⟩
    case round =>
      clear hstart hchg c1 c2 c3
      obtain ⟨j, hj, rfl, hd, hch⟩ := hrel
      have b1 := H1.out.keep hch (fun h => (HS.out _ h).1 rfl)
      have b2 := H2.out.keep hch (fun h => (HS.out _ h).2.1 rfl)
      have b3 := H3.out.keep hch (fun h => (HS.out _ h).2.2.1 rfl)
      have c1 := b1.cell
      have c2 := b2.cell
      have c3 := b3.cell
      rw [HLEN.out, HA.out] at c3
      rw [HLEN.out] at hj
      obtain ⟨dok, q, M, hin, hft⟩ := hd
      by_cases hlt : 128 * (j + 1) ≤ r.l.length
      · have hj8 : j < 8 := by have := HLEN.out; omega
        obtain ⟨qb, qC, qm⟩ := q
        have hC := hin.cache
        obtain ⟨V, cap, hCV, _⟩ := At.own hC
        simp only at hCV
        subst hCV
        have d1 : wr.cell? ⟨p, 1, none⟩ = some (.slice V (D.put (8 * pg) r.l j).cache.length cap) := hin.rcd.cell 1 (by omega)
        have d2 : wr.cell? ⟨p, 2, none⟩ = some (.map (some qm)) := hin.rcd.cell 2 (by omega)
        have hcl : (D.put (8 * pg) r.l j).cache.length = D.cache.length + j := by simp [Dsk.put, puts_length]
        rw [hcl] at d1
        rw [HLEN.out] at hlt
        go_wp2_with fail
        go_still_tail 10, (by kernel_rfl)
        change wpList _ _ _ _ _ wr.drew
        have hin2 := hin.keep (w' := wr.drew) (G := fun _ => False) ((Chg.refl _ wr).drew) (fun _ _ h => h)
        have hch2 := hch.drew
        have e1 := b1.keep (w' := wr.drew) (G := fun _ => False) ((Chg.refl _ wr).drew) (fun h => h)
        have e2 := b2.keep (w' := wr.drew) (G := fun _ => False) ((Chg.refl _ wr).drew) (fun h => h)
        have e3 := b3.keep (w' := wr.drew) (G := fun _ => False) ((Chg.refl _ wr).drew) (fun h => h)
        have hsz2 : wr.drew.heap.size = wr.heap.size := rfl
        clear hin hch b1 b2 b3 c1 c2 c3 d1 d2 hC
        generalize wr.drew = w2 at *
        obtain ⟨a, ha⟩ : ∃ a, a = 8 * pg + j := ⟨_, rfl⟩
        have HA7 := Lib.hid ha
        have HA8 := Lib.hid (show ((a : Nat) : Int) = (pg : Int) * 8 + (j : Int) by rw [ha]; push_cast; omega)
        have hkl : Lit.int .i64 ((pg : Int) * 8 + (j : Int)) = seenKey a := by unfold seenKey; rw [ha]; congr 1; push_cast; omega
        have hkey : keyOf Try.prog 3 (.int .i64 ((pg : Int) * 8 + (j : Int))) = some (seenKey a) := by rw [← hkl]; exact keyOf_int_mk Try.underlying3 (by go_wf)
        have hmap := hin2.map
        rw [hcl] at hmap
        refine wpList_mapUpdate_own (H := Unit) w2 rfl _ _ _ 175 rfl 3 3 key3 Try.underlying175 (plainElem Try.prog 3) qm (D.cache.length + j) M rfl hmap (by unfold maxLen; omega) _ _ _ rfl rfl hkey _ [] (plainElem_int Try.underlying3 (by go_wf)) ?_
        intro w3 hm3 hg3
        have hA := HA.out
        have hrange := HRANGE.out
        have hch3 : Chg (fun g => g = qm) w2 w3 := .of_grown hg3 (fun g hg => by cases hg; rfl)
        have hSq : ∀ g, Dparts.foot p ⟨qb, .slice V (D.put (8 * pg) r.l j).cache.length cap, qm⟩ g → S g ∨ (w.heap.size ≤ g ∧ g < wr.heap.size) := hft
        have hglt : gb < w.heap.size := World.block_lt_of_cell? w _ (hrange 0 _ (ns_get .u8 r.l 0 (by have := HLEN.out; omega)))
        have hne : ∀ g, Dparts.foot p ⟨qb, .slice V (D.put (8 * pg) r.l j).cache.length cap, qm⟩ g → g ≠ bd ∧ g ≠ bb ∧ g ≠ gb := by
          intro g hg
          have l2 := H2.out.lt
          have l3 := H3.out.lt
          rcases hSq g hg with h | ⟨h, _⟩
          · have := HS.out g h
            exact ⟨this.2.1, this.2.2.1, fun e => this.2.2.2 _ hA e.symm⟩
          · exact ⟨by omega, by omega, by omega⟩
        have hqm := hne qm (.inr (.inr (.inl rfl)))
        have hpp := hne p (.inl rfl)
        have m2 := (e2.keep hch3 (fun h => hqm.1 h.symm)).cell
        have m3 := (e3.keep hch3 (fun h => hqm.2.1 h.symm)).cell
        rw [hA, HLEN.out] at m3
        have hrec3 := hin2.rcd.keep hch3 (fun h => hin2.sep.2.1 h)
        have m1 : w3.cell? ⟨p, 1, none⟩ = some (.slice V (D.put (8 * pg) r.l j).cache.length cap) := hrec3.cell 1 (by omega)
        rw [hcl] at m1
        have mfr : w3.frozen? ⟨p, 1, none⟩ = false := hrec3.frozen 1
        have hown3 := own_chg hin2.cache hch3 (fun g hg h => hin2.sep.2.2.2.2.2 (by rw [← h]; exact hg))
        obtain ⟨part, hpart⟩ : ∃ x, x = (r.l.drop (128 * j)).take 128 := ⟨_, rfl⟩
        have hpl : part.length = 128 := by rw [hpart, List.length_take, List.length_drop, HLEN.out]; omega
        have hrg : w3.rangeAt gb (go + j * 128) (ns .u8 part) := by
          intro i v hv
          have hi : i < 128 := by have := (List.getElem?_eq_some_iff.1 hv).1; rwa [ns_length, hpl] at this
          have h1 : (ns .u8 r.l)[j * 128 + i]? = some v := by
            rw [← hv, hpart]
            simp only [ns, List.getElem?_map, List.getElem?_take, List.getElem?_drop, if_pos hi]
            rw [show 128 * j + i = j * 128 + i by omega]
          have h2 := hrange _ _ h1
          have hSg : ¬ S gb := fun h => (HS.out _ h).2.2.2 _ hA rfl
          have h3 := (hch2.cell h2 hSg)
          have h4 := hch3.cell h3 (fun h => hqm.2.2 h.symm)
          rw [show go + j * 128 + i = go + (j * 128 + i) by omega]
          exact h4
        have hcr : 1024 ≤ r.c ∨ True := .inr trivial
        have hcap := HR.out.le
        rw [HLEN.out] at hcap
        have u183 := Try.underlying183
        have i183 : (Try.prog.info? 183).map (·.size) = some (ns .u8 part).length := by
          rw [ns_length, hpl]
          obtain ⟨i0, hi, hzz⟩ := Option.map_eq_some_iff.1 Try.info183
          simp only [Prod.mk.injEq] at hzz
          rw [hi]; simp [hzz.2.1]
        have harr := run_arrayAt
        have y1 : IntKind.i64.wrap ((j : Int) * 128) = (j : Int) * 128 := by rw [IntKind.wrap_i64]; omega
        have y2 : IntKind.i64.wrap ((j : Int) + 1) = (j : Int) + 1 := by rw [IntKind.wrap_i64]; omega
        have y3 : IntKind.i64.wrap (((j : Int) + 1) * 128) = ((j : Int) + 1) * 128 := by rw [IntKind.wrap_i64]; omega
        have y4 : (0 : Int) ≤ (j : Int) * 128 := by omega
        have y5 : (0 : Int) ≤ ((j : Int) + 1) * 128 := by omega
        have y6 : (j : Int) * 128 ≤ ((j : Int) + 1) * 128 := by omega
        have y7 : ((j : Int) + 1) * 128 ≤ (r.c : Int) := by omega
        have y8 : ((j : Int) * 128).toNat = j * 128 := by omega
        have y9 : (((j : Int) + 1) * 128).toNat = (j + 1) * 128 := by omega
        have y10 : (j + 1) * 128 - j * 128 = 128 := by omega
        have y11 : ¬ (r.c = j * 128) := by omega
        have y13 : (j : Int) ≤ (j : Int) + 1 := by omega
        have y12 : ¬ (r.c - j * 128 = 0) := by omega
        have hS0 : PutS p bd bb gb go (1024) r.c (D.cache.length + j) cap V [] w3.drew := ⟨m2, m3, m1⟩
        have hbl : (Value.int .i64 ((pg : Int) * 8 + (j : Int)) :: ns .u8 part).length = 129 := by rw [List.length_cons, ns_length, hpl]
        have hbl2 : (ns .u8 part).length = 128 := by rw [ns_length, hpl]
        have nC : ∀ g, blk (.slice V (D.cache.length + j) cap) g → g ≠ bd ∧ g ≠ bb ∧ g ≠ gb ∧ g ≠ p ∧ g ≠ qb ∧ g ≠ qm := by
          intro g hg
          rw [← hcl] at hg
          have h1 := hne g (.inr (.inr (.inr hg)))
          have h2 := hin2.sep
          exact ⟨h1.1, h1.2.1, h1.2.2, fun e => h2.2.2.2.1 (by rw [← e]; exact hg), fun e => h2.2.2.2.2.1 (by rw [← e]; exact hg), fun e => h2.2.2.2.2.2 (by rw [← e]; exact hg)⟩
        rw [hcl] at hown3
        have hownA := (hown3.drew).alloc (.cells (Value.int .i64 ((pg : Int) * 8 + (j : Int)) :: ns .u8 part).toArray 185)
        have hAtA : At (w3.drew.alloc (.cells (Value.int .i64 ((pg : Int) * 8 + (j : Int)) :: ns .u8 part).toArray 185)) (some ⟨w3.heap.size, 0, none⟩) (Value.int .i64 ((pg : Int) * 8 + (j : Int)) :: ns .u8 part) := At.whole (heap_alloc_new w3.drew _)
        have honeA : ∀ u ∈ (Value.int .i64 ((pg : Int) * 8 + (j : Int)) :: ns .u8 part), u.oneCell' = true := by
          intro u hu
          rcases List.mem_cons.1 hu with rfl | hu
          · rfl
          · exact ns_one .u8 part u hu
        have hbaseA : n0 ≤ (w3.drew.alloc (.cells (Value.int .i64 ((pg : Int) * 8 + (j : Int)) :: ns .u8 part).toArray 185)).heap.size := by
          have e1 := hch2.size
          have e2 := hch3.size
          rw [sz_alloc]
          show n0 ≤ w3.heap.size + 1
          omega
        have hrecA := hrec3.keep (w' := w3.drew.alloc (.cells (Value.int .i64 ((pg : Int) * 8 + (j : Int)) :: ns .u8 part).toArray 185)) (G := fun _ => False) (((Chg.refl _ w3).drew).alloc _) (fun h => h)
        have HRECA := Lib.hid hrecA
        clear hrecA
        have NC := Lib.hid nC
        have HOWN := Lib.hid hownA
        have HATA := Lib.hid hAtA
        have HONE := Lib.hid honeA
        have HBASE := Lib.hid hbaseA
        have HPP := Lib.hid hpp
        clear nC hownA hAtA honeA hbaseA hown3
        have HKEEP := Lib.hid hcl
        have HPART := Lib.hid hpart
        have HKL := Lib.hid hkl
        have HRG := Lib.hid hrange
        clear hpart hkl hA hrange
        have HSEP := Lib.hid hne
        have hSA := hS0.chg (((Chg.refl (fun _ => False) w3.drew).alloc (.cells (Value.int .i64 ((pg : Int) * 8 + (j : Int)) :: ns .u8 part).toArray 185))) (fun h => h) (fun h => h) (fun h => h)
        have HS0 := Lib.hid hS0
        have HSA := Lib.hid hSA
        clear hS0 hSA
        go_wp2_with fail
        refine wp_region_noPanic ?_
        refine AnyL.start 20 (PutS p bd bb gb go (1024) r.c (D.cache.length + j) cap V []) (by kernel_rfl) ?_
        refine AnyL.take (i := 0) (oi := { dst := some 45, op := Op.load 74 (Operand.tmp 1), type := 74, pos := "disk.go:117", after := #[], guard := none }) (v := ?_) rfl (by kernel_rfl) (by kernel_rfl) (by kernel_rfl) (by kernel_rfl) (fun _ _ _ h => h) (Or.inl ⟨by rfl, ?_⟩) HS0.out ?_
        rotate_left
        · (intro w5 hSw; obtain ⟨s1, s2, s3⟩ := hSw; go_simp; try with_reducible rfl)
        simp only [Act.put, List.setIfInBounds_toArray, List.set_cons_zero, List.set_cons_succ]
        refine AnyL.take (i := 1) (oi := { dst := some 46, op := Op.load 74 (Operand.tmp 1), type := 74, pos := "disk.go:117", after := #[], guard := none }) (v := ?_) rfl (by kernel_rfl) (by kernel_rfl) (by kernel_rfl) (by kernel_rfl) (fun _ _ _ h => h) (Or.inl ⟨by rfl, ?_⟩) HS0.out ?_
        rotate_left
        · (intro w5 hSw; obtain ⟨s1, s2, s3⟩ := hSw; go_simp; try with_reducible rfl)
        simp only [Act.put, List.setIfInBounds_toArray, List.set_cons_zero, List.set_cons_succ]
        refine AnyL.take (i := 2) (oi := { dst := some 47, op := Op.nilCheck (Operand.tmp 46), type := 0, pos := "disk.go:117", after := #[{ on := 1, ground := Ground.data }], guard := none }) (v := ?_) rfl (by kernel_rfl) (by kernel_rfl) (by kernel_rfl) (by kernel_rfl) (fun _ _ _ h => h) (Or.inl ⟨by rfl, ?_⟩) HS0.out ?_
        rotate_left
        · (intro w5 hSw; obtain ⟨s1, s2, s3⟩ := hSw; go_simp; try with_reducible rfl)
        simp only [Act.put, List.setIfInBounds_toArray, List.set_cons_zero, List.set_cons_succ]
        refine AnyL.take (i := 3) (oi := { dst := some 48, op := Op.fieldAddr 180 (Operand.tmp 47) 1, type := 0, pos := "disk.go:117", after := #[{ on := 2, ground := Ground.data }], guard := none }) (v := ?_) rfl (by kernel_rfl) (by kernel_rfl) (by kernel_rfl) (by kernel_rfl) (fun _ _ _ h => h) (Or.inl ⟨by rfl, ?_⟩) HS0.out ?_
        rotate_left
        · (intro w5 hSw; obtain ⟨s1, s2, s3⟩ := hSw; go_simp; try with_reducible rfl)
        simp only [Act.put, List.setIfInBounds_toArray, List.set_cons_zero, List.set_cons_succ]
        refine AnyL.take (i := 4) (oi := { dst := some 49, op := Op.load 178 (Operand.tmp 48), type := 178, pos := "disk.go:117", after := #[{ on := 3, ground := Ground.data }], guard := none }) (v := ?_) rfl (by kernel_rfl) (by kernel_rfl) (by kernel_rfl) (by kernel_rfl) (fun _ _ _ h => h) (Or.inl ⟨by rfl, ?_⟩) HS0.out ?_
        rotate_left
        · (intro w5 hSw; obtain ⟨s1, s2, s3⟩ := hSw; go_simp; try with_reducible rfl)
        simp only [Act.put, List.setIfInBounds_toArray, List.set_cons_zero, List.set_cons_succ]
        refine AnyL.take (i := 5) (oi := { dst := some 50, op := Op.move (Operand.tmp 5), type := 3, pos := "disk.go:117", after := #[], guard := none }) (v := ?_) rfl (by kernel_rfl) (by kernel_rfl) (by kernel_rfl) (by kernel_rfl) (fun _ _ _ h => h) (Or.inl ⟨by rfl, ?_⟩) HS0.out ?_
        rotate_left
        · (intro w5 hSw; obtain ⟨s1, s2, s3⟩ := hSw; go_simp; try with_reducible rfl)
        simp only [Act.put, List.setIfInBounds_toArray, List.set_cons_zero, List.set_cons_succ]
        refine AnyL.take (i := 6) (oi := { dst := some 51, op := Op.load 23 (Operand.tmp 2), type := 23, pos := "disk.go:117", after := #[], guard := none }) (v := ?_) rfl (by kernel_rfl) (by kernel_rfl) (by kernel_rfl) (by kernel_rfl) (fun _ _ _ h => h) (Or.inl ⟨by rfl, ?_⟩) HS0.out ?_
        rotate_left
        · (intro w5 hSw; obtain ⟨s1, s2, s3⟩ := hSw; go_simp; try with_reducible rfl)
        simp only [Act.put, List.setIfInBounds_toArray, List.set_cons_zero, List.set_cons_succ]
        refine AnyL.take (i := 7) (oi := { dst := some 52, op := Op.move (Operand.tmp 4), type := 3, pos := "disk.go:117", after := #[], guard := none }) (v := ?_) rfl (by kernel_rfl) (by kernel_rfl) (by kernel_rfl) (by kernel_rfl) (fun _ _ _ h => h) (Or.inl ⟨by rfl, ?_⟩) HS0.out ?_
        rotate_left
        · (intro w5 hSw; obtain ⟨s1, s2, s3⟩ := hSw; go_simp; try with_reducible rfl)
        simp only [Act.put, List.setIfInBounds_toArray, List.set_cons_zero, List.set_cons_succ]
        refine AnyL.take (i := 8) (oi := { dst := some 53, op := Op.binOp BinOp.mul 3 (Operand.tmp 52) (Operand.const (Value.int IntKind.i64 128)) 3, type := 3, pos := "disk.go:117", after := #[{ on := 7, ground := Ground.data }], guard := none }) (v := ?_) rfl (by kernel_rfl) (by kernel_rfl) (by kernel_rfl) (by kernel_rfl) (fun _ _ _ h => h) (Or.inl ⟨by rfl, ?_⟩) HS0.out ?_
        rotate_left
        · (intro w5 hSw; obtain ⟨s1, s2, s3⟩ := hSw; go_simp; try with_reducible rfl)
        simp only [Act.put, List.setIfInBounds_toArray, List.set_cons_zero, List.set_cons_succ]
        refine AnyL.take (i := 9) (oi := { dst := some 54, op := Op.move (Operand.tmp 4), type := 3, pos := "disk.go:117", after := #[], guard := none }) (v := ?_) rfl (by kernel_rfl) (by kernel_rfl) (by kernel_rfl) (by kernel_rfl) (fun _ _ _ h => h) (Or.inl ⟨by rfl, ?_⟩) HS0.out ?_
        rotate_left
        · (intro w5 hSw; obtain ⟨s1, s2, s3⟩ := hSw; go_simp; try with_reducible rfl)
        simp only [Act.put, List.setIfInBounds_toArray, List.set_cons_zero, List.set_cons_succ]
        refine AnyL.take (i := 10) (oi := { dst := some 55, op := Op.binOp BinOp.add 3 (Operand.tmp 54) (Operand.const (Value.int IntKind.i64 1)) 3, type := 3, pos := "disk.go:117", after := #[{ on := 9, ground := Ground.data }], guard := none }) (v := ?_) rfl (by kernel_rfl) (by kernel_rfl) (by kernel_rfl) (by kernel_rfl) (fun _ _ _ h => h) (Or.inl ⟨by rfl, ?_⟩) HS0.out ?_
        rotate_left
        · (intro w5 hSw; obtain ⟨s1, s2, s3⟩ := hSw; go_simp; try with_reducible rfl)
        simp only [Act.put, List.setIfInBounds_toArray, List.set_cons_zero, List.set_cons_succ]
        refine AnyL.take (i := 11) (oi := { dst := some 56, op := Op.binOp BinOp.mul 3 (Operand.tmp 55) (Operand.const (Value.int IntKind.i64 128)) 3, type := 3, pos := "disk.go:117", after := #[{ on := 10, ground := Ground.data }], guard := none }) (v := ?_) rfl (by kernel_rfl) (by kernel_rfl) (by kernel_rfl) (by kernel_rfl) (fun _ _ _ h => h) (Or.inl ⟨by rfl, ?_⟩) HS0.out ?_
        rotate_left
        · (intro w5 hSw; obtain ⟨s1, s2, s3⟩ := hSw; go_simp; try with_reducible rfl)
        simp only [Act.put, List.setIfInBounds_toArray, List.set_cons_zero, List.set_cons_succ]
        refine AnyL.one (i := 12) (o := { dst := some 57, op := Op.slice 23 (Operand.tmp 51) (some (Operand.tmp 53)) (some (Operand.tmp 56)) none, type := 23, pos := "disk.go:117", after := #[{ on := 6, ground := Ground.data }, { on := 8, ground := Ground.data }, { on := 11, ground := Ground.data }], guard := none }) (by kernel_rfl) rfl (by rfl) (fun K hK => ?_)
        have HKK := Lib.hid hK
        clear hK
        go_simp
        replace hK := HKK.out
        refine hK _ _ (fun _ => HS0.out) ?_
        (try clear HKK); (try clear hK); (try clear K)
        try simp only [Act.put, List.setIfInBounds_toArray, List.set_cons_zero, List.set_cons_succ]
        refine AnyL.one (i := 13) (o := { dst := some 58, op := Op.sliceToArrayPointer 183 (Operand.tmp 57), type := 0, pos := "disk.go:117", after := #[{ on := 12, ground := Ground.data }], guard := none }) (by kernel_rfl) rfl (by rfl) (fun K hK => ?_)
        have HKK := Lib.hid hK
        clear hK
        go_simp
        replace hK := HKK.out
        refine hK _ _ (fun _ => HS0.out) ?_
        (try clear HKK); (try clear hK); (try clear K)
        try simp only [Act.put, List.setIfInBounds_toArray, List.set_cons_zero, List.set_cons_succ]
        refine AnyL.one (i := 14) (o := { dst := some 59, op := Op.load 183 (Operand.tmp 58), type := 183, pos := "disk.go:117", after := #[{ on := 13, ground := Ground.data }], guard := none }) (by kernel_rfl) rfl (by rfl) (fun K hK => ?_)
        refine wp_load_mid _ _ rfl _ _ rfl (ns .u8 part) _ hrg u183 rfl i183 ?_
        refine hK _ _ (fun _ => HS0.out) ?_
        (try clear HKK); (try clear hK); (try clear K)
        try simp only [Act.put, List.setIfInBounds_toArray, List.set_cons_zero, List.set_cons_succ]
        refine AnyL.one (i := 15) (o := { dst := some 60, op := Op.build 185 #[(0, Operand.tmp 50), (1, Operand.tmp 59)], type := 185, pos := "disk.go:117", after := #[{ on := 5, ground := Ground.data }, { on := 14, ground := Ground.data }], guard := none }) (by kernel_rfl) rfl (by rfl) (fun K hK => ?_)
        have HKK := Lib.hid hK
        clear hK
        go_simp
        replace hK := HKK.out
        refine hK _ _ (fun _ => HS0.out) ?_
        (try clear HKK); (try clear hK); (try clear K)
        try simp only [Act.put, List.setIfInBounds_toArray, List.set_cons_zero, List.set_cons_succ]
        refine AnyL.one (i := 16) (o := { dst := some 61, op := Op.buildSlice 178 1 #[(0, Operand.tmp 60)], type := 178, pos := "disk.go:117", after := #[{ on := 15, ground := Ground.data }], guard := none }) (by kernel_rfl) rfl (by rfl) (fun K hK => ?_)
        have HKK := Lib.hid hK
        clear hK
        go_simp
        replace hK := HKK.out
        refine hK _ _ (fun _ => HSA.out) ?_
        (try clear HKK); (try clear hK); (try clear K)
        try simp only [Act.put, List.setIfInBounds_toArray, List.set_cons_zero, List.set_cons_succ]
        refine AnyL.one (i := 17) (o := { dst := some 62, op := Op.call { callee := Callee.builtin Builtin.append, args := #[Operand.tmp 49, Operand.tmp 61], argTypes := #[178, 178] }, type := 178, pos := "disk.go:117", after := #[{ on := 4, ground := Ground.data }, { on := 16, ground := Ground.data }], guard := none }) (by kernel_rfl) rfl (by rfl) (fun K hK => ?_)
        refine oper_append2 (.tmp 49) (.tmp 61) 178 185 (.agg zero129) 129 136 rfl Try.underlying178 Try.info185z zero129_agg (by decide) n0 (.slice V (D.cache.length + j) cap) (D.cache.length + j) _ rfl HOWN.out ⟨w3.heap.size, 0, none⟩ 1 1 _ rfl hbl HATA.out HONE.out (by omega) (by omega) HBASE.out ?_
        intro v4 w4 ho4 hor4
        obtain ⟨V4, cap4, rfl, _⟩ := At.own ho4
        have hrec4 := HRECA.out.keep (push_chg hor4) (fun h => (NC.out _ h).2.2.2.1 rfl)
        have q1 : w4.cell? ⟨p, 1, none⟩ = some (.slice V (D.put (8 * pg) r.l j).cache.length cap) := hrec4.cell 1 (by omega)
        have q2 := hrec4.frozen 1
        have hS4 := HSA.out.chg (push_chg hor4) (fun h => (NC.out _ h).1 rfl) (fun h => (NC.out _ h).2.1 rfl) (fun h => (NC.out _ h).2.2.2.1 rfl)
        have HS4 := Lib.hid hS4
        have HREC4 := Lib.hid hrec4
        have HO4 := Lib.hid ho4
        have HOR4 := Lib.hid hor4
        clear hrec4 ho4 hor4 hS4
        refine hK _ _ (fun _ => HS4.out) ?_
        (try clear HKK); (try clear hK); (try clear K)
        try simp only [Act.put, List.setIfInBounds_toArray, List.set_cons_zero, List.set_cons_succ]
        refine AnyL.one (i := 18) (o := { dst := some 63, op := Op.nilCheck (Operand.tmp 45), type := 0, pos := "disk.go:117", after := #[{ on := 0, ground := Ground.data }, { on := 0, ground := Ground.phase }, { on := 1, ground := Ground.phase }, { on := 2, ground := Ground.phase }, { on := 3, ground := Ground.phase }, { on := 4, ground := Ground.phase }, { on := 5, ground := Ground.phase }, { on := 6, ground := Ground.phase }, { on := 7, ground := Ground.phase }, { on := 8, ground := Ground.phase }, { on := 9, ground := Ground.phase }, { on := 10, ground := Ground.phase }, { on := 11, ground := Ground.phase }, { on := 12, ground := Ground.phase }, { on := 13, ground := Ground.phase }, { on := 14, ground := Ground.phase }, { on := 15, ground := Ground.phase }, { on := 16, ground := Ground.phase }, { on := 17, ground := Ground.phase }], guard := none }) (by kernel_rfl) rfl (by rfl) (fun K hK => ?_)
        have HKK := Lib.hid hK
        clear hK
        go_simp
        replace hK := HKK.out
        refine hK _ _ (fun _ => HS4.out) ?_
        (try clear HKK); (try clear hK); (try clear K)
        try simp only [Act.put, List.setIfInBounds_toArray, List.set_cons_zero, List.set_cons_succ]
        refine AnyL.one (i := 19) (o := { dst := some 64, op := Op.fieldAddr 180 (Operand.tmp 63) 1, type := 0, pos := "disk.go:117", after := #[{ on := 18, ground := Ground.data }, { on := 0, ground := Ground.phase }, { on := 1, ground := Ground.phase }, { on := 2, ground := Ground.phase }, { on := 3, ground := Ground.phase }, { on := 4, ground := Ground.phase }, { on := 5, ground := Ground.phase }, { on := 6, ground := Ground.phase }, { on := 7, ground := Ground.phase }, { on := 8, ground := Ground.phase }, { on := 9, ground := Ground.phase }, { on := 10, ground := Ground.phase }, { on := 11, ground := Ground.phase }, { on := 12, ground := Ground.phase }, { on := 13, ground := Ground.phase }, { on := 14, ground := Ground.phase }, { on := 15, ground := Ground.phase }, { on := 16, ground := Ground.phase }, { on := 17, ground := Ground.phase }], guard := none }) (by kernel_rfl) rfl (by rfl) (fun K hK => ?_)
        have HKK := Lib.hid hK
        clear hK
        go_simp
        replace hK := HKK.out
        refine hK _ _ (fun _ => HS4.out) ?_
        (try clear HKK); (try clear hK); (try clear K)
        try simp only [Act.put, List.setIfInBounds_toArray, List.set_cons_zero, List.set_cons_succ]
        refine AnyL.one (i := 20) (o := { dst := none, op := Op.store 178 (Operand.tmp 64) (Operand.tmp 62), type := 0, pos := "disk.go:117", after := #[{ on := 19, ground := Ground.data }, { on := 17, ground := Ground.data }, { on := 17, ground := Ground.chain }, { on := 0, ground := Ground.phase }, { on := 1, ground := Ground.phase }, { on := 2, ground := Ground.phase }, { on := 3, ground := Ground.phase }, { on := 4, ground := Ground.phase }, { on := 5, ground := Ground.phase }, { on := 6, ground := Ground.phase }, { on := 7, ground := Ground.phase }, { on := 8, ground := Ground.phase }, { on := 9, ground := Ground.phase }, { on := 10, ground := Ground.phase }, { on := 11, ground := Ground.phase }, { on := 12, ground := Ground.phase }, { on := 13, ground := Ground.phase }, { on := 14, ground := Ground.phase }, { on := 15, ground := Ground.phase }, { on := 16, ground := Ground.phase }, { on := 17, ground := Ground.phase }], guard := none }) (by kernel_rfl) rfl (by rfl) (fun K hK => ?_)
        have HKK := Lib.hid hK
        clear hK
        go_simp
        replace hK := HKK.out
        refine hK _ _ (fun h => by simp at h) ?_
        (try clear HKK); (try clear hK); (try clear K)
        try simp only [Act.put, List.setIfInBounds_toArray, List.set_cons_zero, List.set_cons_succ]
        refine AnyL.done (by kernel_rfl) ?_
        refine NoPanic.normal ?_
        have hst := put_step (a := a) (part := part) hin2 (by rw [HKEEP.out]; rw [show ((D.cache.length + j : Nat) : Int) = (D.cache.length : Int) + (j : Int) from by push_cast; rfl]; exact hm3) hg3 (below_alloc0 (below_drew0 (Below.refl w3.heap.size w3)) (.cells (Value.int .i64 ((pg : Int) * 8 + (j : Int)) :: ns .u8 part).toArray 185)) (by rw [HKEEP.out]; have h5 := HO4.out; rw [show wcell (a, part) = (Value.int .i64 ((pg : Int) * 8 + (j : Int)) :: ns .u8 part) from by unfold wcell; rw [HA8.out]]; exact h5) (by have h6 := HOR4.out; rw [HKEEP.out]; exact h6)
        rw [HKEEP.out] at hst
        have HST := Lib.hid hst
        clear hst
        go_wp2_with fail
        go_roundw
        case rel =>
          obtain ⟨t1, t2, t3⟩ := HST.out
          have hput : D.put (8 * pg) r.l (j + 1) = { D.put (8 * pg) r.l j with cache := (D.put (8 * pg) r.l j).cache ++ [(a, part)] } := by
            unfold Dsk.put
            simp only [puts, ← List.append_assoc]
            rw [HPART.out, HA7.out]
          have hchf := hch2.trans t2 (fun g hg1 hg2 => by
            rcases hSq g (foot_len hg2) with h | ⟨h, _⟩
            · exact h
            · omega)
          refine ⟨j + 1, by have := HLEN.out; omega, by go_num, ?_, hchf⟩
          rw [hput]
          refine ⟨by rw [← hput]; exact D.put_ok HD.out.1 HR.out.bytes (by have := HLEN.out; omega) (by obtain ⟨z1, z2, z3, z4⟩ := HD.out.1.pages; have := HPG.out; unfold Dsk.pages at this; omega), _, _, t1, fun g hg => ?_⟩
          have hlt := (t1.lt hg).2
          rcases t3 g hg with h | h
          · rcases hSq g (foot_len h) with h | ⟨h, _⟩
            · exact .inl h
            · exact .inr ⟨h, hlt⟩
          · exact .inr ⟨Nat.le_trans hch2.size h, hlt⟩
        case measure => have := HLEN.out; simp [intOf]; omega
      · have hjk : j = k := by have := HL.out; have := HLEN.out; omega
        subst hjk
        have hj2 : 1024 ≤ j * 128 ∨ True := .inr trivial
        have hge : ¬ ((j : Int) * 128 < (1024 : Int)) := by have := HL.out; have := HLEN.out; omega
        have HF := Lib.hid (show DiskAt n0 wr p (D.put (8 * pg) r.l j) (fun g => S g ∨ (w.heap.size ≤ g ∧ g < wr.heap.size)) from ⟨dok, q, M, hin, hft⟩)
        clear hin hft dok hj2
        go_wp2_with fail
        go_ret
        exact ⟨rfl, HF.out, hch⟩
  · have q1 : ((r.l.length : Int) == 1024) = (r.l.length == 1024) := by rw [hlen]; rfl
    have HLEN := Lib.hid hlen
    rw [hlen] at c3
    clear hlen q1 g1
    go_enter Try.func120, Try.ntmps120
    go_wp2_with fail
    go_quiet ((go_at_call 121; exact Calls.quiet_of_same (HP.out _)))
    go_wp2_with fail
    have hstart : DiskAt n0 (w.drewN nq) p (D.put (8 * pg) r.l 0) (fun g => S g ∨ (w.heap.size ≤ g ∧ g < (w.drewN nq).heap.size)) := by
      have := HD.out.below (below_drewN (Below.refl w.heap.size w) nq)
      have e : D.put (8 * pg) r.l 0 = D := by simp [Dsk.put, puts]
      rw [e]
      exact this.mono fun g _ _ hg => .inl hg
    have hchg : Chg S w (w.drewN nq) := (Chg.refl S w).drewN nq
    go_loopw [4] (fun i wr => ∃ j : Nat, 128 * j ≤ r.l.length ∧ i = .int .i64 j ∧ DiskAt n0 wr p (D.put (8 * pg) r.l j) (fun g => S g ∨ (w.heap.size ≤ g ∧ g < wr.heap.size)) ∧ Chg S w wr) (fun i _ => r.l.length - 128 * (intOf i).toNat)
    case atStart => exact ⟨0, by omega, rfl, hstart, hchg⟩
    case round =>
      clear hstart hchg c1 c2 c3
      obtain ⟨j, hj, rfl, hd, hch⟩ := hrel
      have b1 := H1.out.keep hch (fun h => (HS.out _ h).1 rfl)
      have b2 := H2.out.keep hch (fun h => (HS.out _ h).2.1 rfl)
      have b3 := H3.out.keep hch (fun h => (HS.out _ h).2.2.1 rfl)
      have c1 := b1.cell
      have c2 := b2.cell
      have c3 := b3.cell
      rw [HLEN.out, HA.out] at c3
      rw [HLEN.out] at hj
      obtain ⟨dok, q, M, hin, hft⟩ := hd
      by_cases hlt : 128 * (j + 1) ≤ r.l.length
      · have hj8 : j < 8 := by have := HLEN.out; omega
        obtain ⟨qb, qC, qm⟩ := q
        have hC := hin.cache
        obtain ⟨V, cap, hCV, _⟩ := At.own hC
        simp only at hCV
        subst hCV
        have d1 : wr.cell? ⟨p, 1, none⟩ = some (.slice V (D.put (8 * pg) r.l j).cache.length cap) := hin.rcd.cell 1 (by omega)
        have d2 : wr.cell? ⟨p, 2, none⟩ = some (.map (some qm)) := hin.rcd.cell 2 (by omega)
        have hcl : (D.put (8 * pg) r.l j).cache.length = D.cache.length + j := by simp [Dsk.put, puts_length]
        rw [hcl] at d1
        rw [HLEN.out] at hlt
        go_wp2_with fail
        go_still_tail 10, (by kernel_rfl)
        change wpList _ _ _ _ _ wr.drew
        have hin2 := hin.keep (w' := wr.drew) (G := fun _ => False) ((Chg.refl _ wr).drew) (fun _ _ h => h)
        have hch2 := hch.drew
        have e1 := b1.keep (w' := wr.drew) (G := fun _ => False) ((Chg.refl _ wr).drew) (fun h => h)
        have e2 := b2.keep (w' := wr.drew) (G := fun _ => False) ((Chg.refl _ wr).drew) (fun h => h)
        have e3 := b3.keep (w' := wr.drew) (G := fun _ => False) ((Chg.refl _ wr).drew) (fun h => h)
        have hsz2 : wr.drew.heap.size = wr.heap.size := rfl
        clear hin hch b1 b2 b3 c1 c2 c3 d1 d2 hC
        generalize wr.drew = w2 at *
        obtain ⟨a, ha⟩ : ∃ a, a = 8 * pg + j := ⟨_, rfl⟩
        have HA7 := Lib.hid ha
        have HA8 := Lib.hid (show ((a : Nat) : Int) = (pg : Int) * 8 + (j : Int) by rw [ha]; push_cast; omega)
        have hkl : Lit.int .i64 ((pg : Int) * 8 + (j : Int)) = seenKey a := by unfold seenKey; rw [ha]; congr 1; push_cast; omega
        have hkey : keyOf Try.prog 3 (.int .i64 ((pg : Int) * 8 + (j : Int))) = some (seenKey a) := by rw [← hkl]; exact keyOf_int_mk Try.underlying3 (by go_wf)
        have hmap := hin2.map
        rw [hcl] at hmap
        refine wpList_mapUpdate_own (H := Unit) w2 rfl _ _ _ 175 rfl 3 3 key3 Try.underlying175 (plainElem Try.prog 3) qm (D.cache.length + j) M rfl hmap (by unfold maxLen; omega) _ _ _ rfl rfl hkey _ [] (plainElem_int Try.underlying3 (by go_wf)) ?_
        intro w3 hm3 hg3
        have hA := HA.out
        have hrange := HRANGE.out
        have hch3 : Chg (fun g => g = qm) w2 w3 := .of_grown hg3 (fun g hg => by cases hg; rfl)
        have hSq : ∀ g, Dparts.foot p ⟨qb, .slice V (D.put (8 * pg) r.l j).cache.length cap, qm⟩ g → S g ∨ (w.heap.size ≤ g ∧ g < wr.heap.size) := hft
        have hglt : gb < w.heap.size := World.block_lt_of_cell? w _ (hrange 0 _ (ns_get .u8 r.l 0 (by have := HLEN.out; omega)))
        have hne : ∀ g, Dparts.foot p ⟨qb, .slice V (D.put (8 * pg) r.l j).cache.length cap, qm⟩ g → g ≠ bd ∧ g ≠ bb ∧ g ≠ gb := by
          intro g hg
          have l2 := H2.out.lt
          have l3 := H3.out.lt
          rcases hSq g hg with h | ⟨h, _⟩
          · have := HS.out g h
            exact ⟨this.2.1, this.2.2.1, fun e => this.2.2.2 _ hA e.symm⟩
          · exact ⟨by omega, by omega, by omega⟩
        have hqm := hne qm (.inr (.inr (.inl rfl)))
        have hpp := hne p (.inl rfl)
        have m2 := (e2.keep hch3 (fun h => hqm.1 h.symm)).cell
        have m3 := (e3.keep hch3 (fun h => hqm.2.1 h.symm)).cell
        rw [hA, HLEN.out] at m3
        have hrec3 := hin2.rcd.keep hch3 (fun h => hin2.sep.2.1 h)
        have m1 : w3.cell? ⟨p, 1, none⟩ = some (.slice V (D.put (8 * pg) r.l j).cache.length cap) := hrec3.cell 1 (by omega)
        rw [hcl] at m1
        have mfr : w3.frozen? ⟨p, 1, none⟩ = false := hrec3.frozen 1
        have hown3 := own_chg hin2.cache hch3 (fun g hg h => hin2.sep.2.2.2.2.2 (by rw [← h]; exact hg))
        obtain ⟨part, hpart⟩ : ∃ x, x = (r.l.drop (128 * j)).take 128 := ⟨_, rfl⟩
        have hpl : part.length = 128 := by rw [hpart, List.length_take, List.length_drop, HLEN.out]; omega
        have hrg : w3.rangeAt gb (go + j * 128) (ns .u8 part) := by
          intro i v hv
          have hi : i < 128 := by have := (List.getElem?_eq_some_iff.1 hv).1; rwa [ns_length, hpl] at this
          have h1 : (ns .u8 r.l)[j * 128 + i]? = some v := by
            rw [← hv, hpart]
            simp only [ns, List.getElem?_map, List.getElem?_take, List.getElem?_drop, if_pos hi]
            rw [show 128 * j + i = j * 128 + i by omega]
          have h2 := hrange _ _ h1
          have hSg : ¬ S gb := fun h => (HS.out _ h).2.2.2 _ hA rfl
          have h3 := (hch2.cell h2 hSg)
          have h4 := hch3.cell h3 (fun h => hqm.2.2 h.symm)
          rw [show go + j * 128 + i = go + (j * 128 + i) by omega]
          exact h4
        have hcr : 1024 ≤ r.c ∨ True := .inr trivial
        have hcap := HR.out.le
        rw [HLEN.out] at hcap
        have u183 := Try.underlying183
        have i183 : (Try.prog.info? 183).map (·.size) = some (ns .u8 part).length := by
          rw [ns_length, hpl]
          obtain ⟨i0, hi, hzz⟩ := Option.map_eq_some_iff.1 Try.info183
          simp only [Prod.mk.injEq] at hzz
          rw [hi]; simp [hzz.2.1]
        have harr := run_arrayAt
        have y1 : IntKind.i64.wrap ((j : Int) * 128) = (j : Int) * 128 := by rw [IntKind.wrap_i64]; omega
        have y2 : IntKind.i64.wrap ((j : Int) + 1) = (j : Int) + 1 := by rw [IntKind.wrap_i64]; omega
        have y3 : IntKind.i64.wrap (((j : Int) + 1) * 128) = ((j : Int) + 1) * 128 := by rw [IntKind.wrap_i64]; omega
        have y4 : (0 : Int) ≤ (j : Int) * 128 := by omega
        have y5 : (0 : Int) ≤ ((j : Int) + 1) * 128 := by omega
        have y6 : (j : Int) * 128 ≤ ((j : Int) + 1) * 128 := by omega
        have y7 : ((j : Int) + 1) * 128 ≤ (r.c : Int) := by omega
        have y8 : ((j : Int) * 128).toNat = j * 128 := by omega
        have y9 : (((j : Int) + 1) * 128).toNat = (j + 1) * 128 := by omega
        have y10 : (j + 1) * 128 - j * 128 = 128 := by omega
        have y11 : ¬ (r.c = j * 128) := by omega
        have y13 : (j : Int) ≤ (j : Int) + 1 := by omega
        have y12 : ¬ (r.c - j * 128 = 0) := by omega
        have hS0 : PutS p bd bb gb go (128) r.c (D.cache.length + j) cap V [] w3.drew := ⟨m2, m3, m1⟩
        have hbl : (Value.int .i64 ((pg : Int) * 8 + (j : Int)) :: ns .u8 part).length = 129 := by rw [List.length_cons, ns_length, hpl]
        have hbl2 : (ns .u8 part).length = 128 := by rw [ns_length, hpl]
        have nC : ∀ g, blk (.slice V (D.cache.length + j) cap) g → g ≠ bd ∧ g ≠ bb ∧ g ≠ gb ∧ g ≠ p ∧ g ≠ qb ∧ g ≠ qm := by
          intro g hg
          rw [← hcl] at hg
          have h1 := hne g (.inr (.inr (.inr hg)))
          have h2 := hin2.sep
          exact ⟨h1.1, h1.2.1, h1.2.2, fun e => h2.2.2.2.1 (by rw [← e]; exact hg), fun e => h2.2.2.2.2.1 (by rw [← e]; exact hg), fun e => h2.2.2.2.2.2 (by rw [← e]; exact hg)⟩
        rw [hcl] at hown3
        have hownA := (hown3.drew).alloc (.cells (Value.int .i64 ((pg : Int) * 8 + (j : Int)) :: ns .u8 part).toArray 185)
        have hAtA : At (w3.drew.alloc (.cells (Value.int .i64 ((pg : Int) * 8 + (j : Int)) :: ns .u8 part).toArray 185)) (some ⟨w3.heap.size, 0, none⟩) (Value.int .i64 ((pg : Int) * 8 + (j : Int)) :: ns .u8 part) := At.whole (heap_alloc_new w3.drew _)
        have honeA : ∀ u ∈ (Value.int .i64 ((pg : Int) * 8 + (j : Int)) :: ns .u8 part), u.oneCell' = true := by
          intro u hu
          rcases List.mem_cons.1 hu with rfl | hu
          · rfl
          · exact ns_one .u8 part u hu
        have hbaseA : n0 ≤ (w3.drew.alloc (.cells (Value.int .i64 ((pg : Int) * 8 + (j : Int)) :: ns .u8 part).toArray 185)).heap.size := by
          have e1 := hch2.size
          have e2 := hch3.size
          rw [sz_alloc]
          show n0 ≤ w3.heap.size + 1
          omega
        have hrecA := hrec3.keep (w' := w3.drew.alloc (.cells (Value.int .i64 ((pg : Int) * 8 + (j : Int)) :: ns .u8 part).toArray 185)) (G := fun _ => False) (((Chg.refl _ w3).drew).alloc _) (fun h => h)
        have HRECA := Lib.hid hrecA
        clear hrecA
        have NC := Lib.hid nC
        have HOWN := Lib.hid hownA
        have HATA := Lib.hid hAtA
        have HONE := Lib.hid honeA
        have HBASE := Lib.hid hbaseA
        have HPP := Lib.hid hpp
        clear nC hownA hAtA honeA hbaseA hown3
        have HKEEP := Lib.hid hcl
        have HPART := Lib.hid hpart
        have HKL := Lib.hid hkl
        have HRG := Lib.hid hrange
        clear hpart hkl hA hrange
        have HSEP := Lib.hid hne
        have hSA := hS0.chg (((Chg.refl (fun _ => False) w3.drew).alloc (.cells (Value.int .i64 ((pg : Int) * 8 + (j : Int)) :: ns .u8 part).toArray 185))) (fun h => h) (fun h => h) (fun h => h)
        have HS0 := Lib.hid hS0
        have HSA := Lib.hid hSA
        clear hS0 hSA
        go_wp2_with fail
        refine wp_region_noPanic ?_
        refine AnyL.start 20 (PutS p bd bb gb go (128) r.c (D.cache.length + j) cap V []) (by kernel_rfl) ?_
        refine AnyL.take (i := 0) (oi := { dst := some 45, op := Op.load 74 (Operand.tmp 1), type := 74, pos := "disk.go:117", after := #[], guard := none }) (v := ?_) rfl (by kernel_rfl) (by kernel_rfl) (by kernel_rfl) (by kernel_rfl) (fun _ _ _ h => h) (Or.inl ⟨by rfl, ?_⟩) HS0.out ?_
        rotate_left
        · (intro w5 hSw; obtain ⟨s1, s2, s3⟩ := hSw; go_simp; try with_reducible rfl)
        simp only [Act.put, List.setIfInBounds_toArray, List.set_cons_zero, List.set_cons_succ]
        refine AnyL.take (i := 1) (oi := { dst := some 46, op := Op.load 74 (Operand.tmp 1), type := 74, pos := "disk.go:117", after := #[], guard := none }) (v := ?_) rfl (by kernel_rfl) (by kernel_rfl) (by kernel_rfl) (by kernel_rfl) (fun _ _ _ h => h) (Or.inl ⟨by rfl, ?_⟩) HS0.out ?_
        rotate_left
        · (intro w5 hSw; obtain ⟨s1, s2, s3⟩ := hSw; go_simp; try with_reducible rfl)
        simp only [Act.put, List.setIfInBounds_toArray, List.set_cons_zero, List.set_cons_succ]
        refine AnyL.take (i := 2) (oi := { dst := some 47, op := Op.nilCheck (Operand.tmp 46), type := 0, pos := "disk.go:117", after := #[{ on := 1, ground := Ground.data }], guard := none }) (v := ?_) rfl (by kernel_rfl) (by kernel_rfl) (by kernel_rfl) (by kernel_rfl) (fun _ _ _ h => h) (Or.inl ⟨by rfl, ?_⟩) HS0.out ?_
        rotate_left
        · (intro w5 hSw; obtain ⟨s1, s2, s3⟩ := hSw; go_simp; try with_reducible rfl)
        simp only [Act.put, List.setIfInBounds_toArray, List.set_cons_zero, List.set_cons_succ]
        refine AnyL.take (i := 3) (oi := { dst := some 48, op := Op.fieldAddr 180 (Operand.tmp 47) 1, type := 0, pos := "disk.go:117", after := #[{ on := 2, ground := Ground.data }], guard := none }) (v := ?_) rfl (by kernel_rfl) (by kernel_rfl) (by kernel_rfl) (by kernel_rfl) (fun _ _ _ h => h) (Or.inl ⟨by rfl, ?_⟩) HS0.out ?_
        rotate_left
        · (intro w5 hSw; obtain ⟨s1, s2, s3⟩ := hSw; go_simp; try with_reducible rfl)
        simp only [Act.put, List.setIfInBounds_toArray, List.set_cons_zero, List.set_cons_succ]
        refine AnyL.take (i := 4) (oi := { dst := some 49, op := Op.load 178 (Operand.tmp 48), type := 178, pos := "disk.go:117", after := #[{ on := 3, ground := Ground.data }], guard := none }) (v := ?_) rfl (by kernel_rfl) (by kernel_rfl) (by kernel_rfl) (by kernel_rfl) (fun _ _ _ h => h) (Or.inl ⟨by rfl, ?_⟩) HS0.out ?_
        rotate_left
        · (intro w5 hSw; obtain ⟨s1, s2, s3⟩ := hSw; go_simp; try with_reducible rfl)
        simp only [Act.put, List.setIfInBounds_toArray, List.set_cons_zero, List.set_cons_succ]
        refine AnyL.take (i := 5) (oi := { dst := some 50, op := Op.move (Operand.tmp 5), type := 3, pos := "disk.go:117", after := #[], guard := none }) (v := ?_) rfl (by kernel_rfl) (by kernel_rfl) (by kernel_rfl) (by kernel_rfl) (fun _ _ _ h => h) (Or.inl ⟨by rfl, ?_⟩) HS0.out ?_
        rotate_left
        · (intro w5 hSw; obtain ⟨s1, s2, s3⟩ := hSw; go_simp; try with_reducible rfl)
        simp only [Act.put, List.setIfInBounds_toArray, List.set_cons_zero, List.set_cons_succ]
        refine AnyL.take (i := 6) (oi := { dst := some 51, op := Op.load 23 (Operand.tmp 2), type := 23, pos := "disk.go:117", after := #[], guard := none }) (v := ?_) rfl (by kernel_rfl) (by kernel_rfl) (by kernel_rfl) (by kernel_rfl) (fun _ _ _ h => h) (Or.inl ⟨by rfl, ?_⟩) HS0.out ?_
        rotate_left
        · (intro w5 hSw; obtain ⟨s1, s2, s3⟩ := hSw; go_simp; try with_reducible rfl)
        simp only [Act.put, List.setIfInBounds_toArray, List.set_cons_zero, List.set_cons_succ]
        refine AnyL.take (i := 7) (oi := { dst := some 52, op := Op.move (Operand.tmp 4), type := 3, pos := "disk.go:117", after := #[], guard := none }) (v := ?_) rfl (by kernel_rfl) (by kernel_rfl) (by kernel_rfl) (by kernel_rfl) (fun _ _ _ h => h) (Or.inl ⟨by rfl, ?_⟩) HS0.out ?_
        rotate_left
        · (intro w5 hSw; obtain ⟨s1, s2, s3⟩ := hSw; go_simp; try with_reducible rfl)
        simp only [Act.put, List.setIfInBounds_toArray, List.set_cons_zero, List.set_cons_succ]
        refine AnyL.take (i := 8) (oi := { dst := some 53, op := Op.binOp BinOp.mul 3 (Operand.tmp 52) (Operand.const (Value.int IntKind.i64 128)) 3, type := 3, pos := "disk.go:117", after := #[{ on := 7, ground := Ground.data }], guard := none }) (v := ?_) rfl (by kernel_rfl) (by kernel_rfl) (by kernel_rfl) (by kernel_rfl) (fun _ _ _ h => h) (Or.inl ⟨by rfl, ?_⟩) HS0.out ?_
        rotate_left
        · (intro w5 hSw; obtain ⟨s1, s2, s3⟩ := hSw; go_simp; try with_reducible rfl)
        simp only [Act.put, List.setIfInBounds_toArray, List.set_cons_zero, List.set_cons_succ]
        refine AnyL.take (i := 9) (oi := { dst := some 54, op := Op.move (Operand.tmp 4), type := 3, pos := "disk.go:117", after := #[], guard := none }) (v := ?_) rfl (by kernel_rfl) (by kernel_rfl) (by kernel_rfl) (by kernel_rfl) (fun _ _ _ h => h) (Or.inl ⟨by rfl, ?_⟩) HS0.out ?_
        rotate_left
        · (intro w5 hSw; obtain ⟨s1, s2, s3⟩ := hSw; go_simp; try with_reducible rfl)
        simp only [Act.put, List.setIfInBounds_toArray, List.set_cons_zero, List.set_cons_succ]
        refine AnyL.take (i := 10) (oi := { dst := some 55, op := Op.binOp BinOp.add 3 (Operand.tmp 54) (Operand.const (Value.int IntKind.i64 1)) 3, type := 3, pos := "disk.go:117", after := #[{ on := 9, ground := Ground.data }], guard := none }) (v := ?_) rfl (by kernel_rfl) (by kernel_rfl) (by kernel_rfl) (by kernel_rfl) (fun _ _ _ h => h) (Or.inl ⟨by rfl, ?_⟩) HS0.out ?_
        rotate_left
        · (intro w5 hSw; obtain ⟨s1, s2, s3⟩ := hSw; go_simp; try with_reducible rfl)
        simp only [Act.put, List.setIfInBounds_toArray, List.set_cons_zero, List.set_cons_succ]
        refine AnyL.take (i := 11) (oi := { dst := some 56, op := Op.binOp BinOp.mul 3 (Operand.tmp 55) (Operand.const (Value.int IntKind.i64 128)) 3, type := 3, pos := "disk.go:117", after := #[{ on := 10, ground := Ground.data }], guard := none }) (v := ?_) rfl (by kernel_rfl) (by kernel_rfl) (by kernel_rfl) (by kernel_rfl) (fun _ _ _ h => h) (Or.inl ⟨by rfl, ?_⟩) HS0.out ?_
        rotate_left
        · (intro w5 hSw; obtain ⟨s1, s2, s3⟩ := hSw; go_simp; try with_reducible rfl)
        simp only [Act.put, List.setIfInBounds_toArray, List.set_cons_zero, List.set_cons_succ]
        refine AnyL.one (i := 12) (o := { dst := some 57, op := Op.slice 23 (Operand.tmp 51) (some (Operand.tmp 53)) (some (Operand.tmp 56)) none, type := 23, pos := "disk.go:117", after := #[{ on := 6, ground := Ground.data }, { on := 8, ground := Ground.data }, { on := 11, ground := Ground.data }], guard := none }) (by kernel_rfl) rfl (by rfl) (fun K hK => ?_)
        have HKK := Lib.hid hK
        clear hK
        go_simp
        replace hK := HKK.out
        refine hK _ _ (fun _ => HS0.out) ?_
        (try clear HKK); (try clear hK); (try clear K)
        try simp only [Act.put, List.setIfInBounds_toArray, List.set_cons_zero, List.set_cons_succ]
        refine AnyL.one (i := 13) (o := { dst := some 58, op := Op.sliceToArrayPointer 183 (Operand.tmp 57), type := 0, pos := "disk.go:117", after := #[{ on := 12, ground := Ground.data }], guard := none }) (by kernel_rfl) rfl (by rfl) (fun K hK => ?_)
        have HKK := Lib.hid hK
        clear hK
        go_simp
        replace hK := HKK.out
        refine hK _ _ (fun _ => HS0.out) ?_
        (try clear HKK); (try clear hK); (try clear K)
        try simp only [Act.put, List.setIfInBounds_toArray, List.set_cons_zero, List.set_cons_succ]
        refine AnyL.one (i := 14) (o := { dst := some 59, op := Op.load 183 (Operand.tmp 58), type := 183, pos := "disk.go:117", after := #[{ on := 13, ground := Ground.data }], guard := none }) (by kernel_rfl) rfl (by rfl) (fun K hK => ?_)
        refine wp_load_mid _ _ rfl _ _ rfl (ns .u8 part) _ hrg u183 rfl i183 ?_
        refine hK _ _ (fun _ => HS0.out) ?_
        (try clear HKK); (try clear hK); (try clear K)
        try simp only [Act.put, List.setIfInBounds_toArray, List.set_cons_zero, List.set_cons_succ]
        refine AnyL.one (i := 15) (o := { dst := some 60, op := Op.build 185 #[(0, Operand.tmp 50), (1, Operand.tmp 59)], type := 185, pos := "disk.go:117", after := #[{ on := 5, ground := Ground.data }, { on := 14, ground := Ground.data }], guard := none }) (by kernel_rfl) rfl (by rfl) (fun K hK => ?_)
        have HKK := Lib.hid hK
        clear hK
        go_simp
        replace hK := HKK.out
        refine hK _ _ (fun _ => HS0.out) ?_
        (try clear HKK); (try clear hK); (try clear K)
        try simp only [Act.put, List.setIfInBounds_toArray, List.set_cons_zero, List.set_cons_succ]
        refine AnyL.one (i := 16) (o := { dst := some 61, op := Op.buildSlice 178 1 #[(0, Operand.tmp 60)], type := 178, pos := "disk.go:117", after := #[{ on := 15, ground := Ground.data }], guard := none }) (by kernel_rfl) rfl (by rfl) (fun K hK => ?_)
        have HKK := Lib.hid hK
        clear hK
        go_simp
        replace hK := HKK.out
        refine hK _ _ (fun _ => HSA.out) ?_
        (try clear HKK); (try clear hK); (try clear K)
        try simp only [Act.put, List.setIfInBounds_toArray, List.set_cons_zero, List.set_cons_succ]
        refine AnyL.one (i := 17) (o := { dst := some 62, op := Op.call { callee := Callee.builtin Builtin.append, args := #[Operand.tmp 49, Operand.tmp 61], argTypes := #[178, 178] }, type := 178, pos := "disk.go:117", after := #[{ on := 4, ground := Ground.data }, { on := 16, ground := Ground.data }], guard := none }) (by kernel_rfl) rfl (by rfl) (fun K hK => ?_)
        refine oper_append2 (.tmp 49) (.tmp 61) 178 185 (.agg zero129) 129 136 rfl Try.underlying178 Try.info185z zero129_agg (by decide) n0 (.slice V (D.cache.length + j) cap) (D.cache.length + j) _ rfl HOWN.out ⟨w3.heap.size, 0, none⟩ 1 1 _ rfl hbl HATA.out HONE.out (by omega) (by omega) HBASE.out ?_
        intro v4 w4 ho4 hor4
        obtain ⟨V4, cap4, rfl, _⟩ := At.own ho4
        have hrec4 := HRECA.out.keep (push_chg hor4) (fun h => (NC.out _ h).2.2.2.1 rfl)
        have q1 : w4.cell? ⟨p, 1, none⟩ = some (.slice V (D.put (8 * pg) r.l j).cache.length cap) := hrec4.cell 1 (by omega)
        have q2 := hrec4.frozen 1
        have hS4 := HSA.out.chg (push_chg hor4) (fun h => (NC.out _ h).1 rfl) (fun h => (NC.out _ h).2.1 rfl) (fun h => (NC.out _ h).2.2.2.1 rfl)
        have HS4 := Lib.hid hS4
        have HREC4 := Lib.hid hrec4
        have HO4 := Lib.hid ho4
        have HOR4 := Lib.hid hor4
        clear hrec4 ho4 hor4 hS4
        refine hK _ _ (fun _ => HS4.out) ?_
        (try clear HKK); (try clear hK); (try clear K)
        try simp only [Act.put, List.setIfInBounds_toArray, List.set_cons_zero, List.set_cons_succ]
        refine AnyL.one (i := 18) (o := { dst := some 63, op := Op.nilCheck (Operand.tmp 45), type := 0, pos := "disk.go:117", after := #[{ on := 0, ground := Ground.data }, { on := 0, ground := Ground.phase }, { on := 1, ground := Ground.phase }, { on := 2, ground := Ground.phase }, { on := 3, ground := Ground.phase }, { on := 4, ground := Ground.phase }, { on := 5, ground := Ground.phase }, { on := 6, ground := Ground.phase }, { on := 7, ground := Ground.phase }, { on := 8, ground := Ground.phase }, { on := 9, ground := Ground.phase }, { on := 10, ground := Ground.phase }, { on := 11, ground := Ground.phase }, { on := 12, ground := Ground.phase }, { on := 13, ground := Ground.phase }, { on := 14, ground := Ground.phase }, { on := 15, ground := Ground.phase }, { on := 16, ground := Ground.phase }, { on := 17, ground := Ground.phase }], guard := none }) (by kernel_rfl) rfl (by rfl) (fun K hK => ?_)
        have HKK := Lib.hid hK
        clear hK
        go_simp
        replace hK := HKK.out
        refine hK _ _ (fun _ => HS4.out) ?_
        (try clear HKK); (try clear hK); (try clear K)
        try simp only [Act.put, List.setIfInBounds_toArray, List.set_cons_zero, List.set_cons_succ]
        refine AnyL.one (i := 19) (o := { dst := some 64, op := Op.fieldAddr 180 (Operand.tmp 63) 1, type := 0, pos := "disk.go:117", after := #[{ on := 18, ground := Ground.data }, { on := 0, ground := Ground.phase }, { on := 1, ground := Ground.phase }, { on := 2, ground := Ground.phase }, { on := 3, ground := Ground.phase }, { on := 4, ground := Ground.phase }, { on := 5, ground := Ground.phase }, { on := 6, ground := Ground.phase }, { on := 7, ground := Ground.phase }, { on := 8, ground := Ground.phase }, { on := 9, ground := Ground.phase }, { on := 10, ground := Ground.phase }, { on := 11, ground := Ground.phase }, { on := 12, ground := Ground.phase }, { on := 13, ground := Ground.phase }, { on := 14, ground := Ground.phase }, { on := 15, ground := Ground.phase }, { on := 16, ground := Ground.phase }, { on := 17, ground := Ground.phase }], guard := none }) (by kernel_rfl) rfl (by rfl) (fun K hK => ?_)
        have HKK := Lib.hid hK
        clear hK
        go_simp
        replace hK := HKK.out
        refine hK _ _ (fun _ => HS4.out) ?_
        (try clear HKK); (try clear hK); (try clear K)
        try simp only [Act.put, List.setIfInBounds_toArray, List.set_cons_zero, List.set_cons_succ]
        refine AnyL.one (i := 20) (o := { dst := none, op := Op.store 178 (Operand.tmp 64) (Operand.tmp 62), type := 0, pos := "disk.go:117", after := #[{ on := 19, ground := Ground.data }, { on := 17, ground := Ground.data }, { on := 17, ground := Ground.chain }, { on := 0, ground := Ground.phase }, { on := 1, ground := Ground.phase }, { on := 2, ground := Ground.phase }, { on := 3, ground := Ground.phase }, { on := 4, ground := Ground.phase }, { on := 5, ground := Ground.phase }, { on := 6, ground := Ground.phase }, { on := 7, ground := Ground.phase }, { on := 8, ground := Ground.phase }, { on := 9, ground := Ground.phase }, { on := 10, ground := Ground.phase }, { on := 11, ground := Ground.phase }, { on := 12, ground := Ground.phase }, { on := 13, ground := Ground.phase }, { on := 14, ground := Ground.phase }, { on := 15, ground := Ground.phase }, { on := 16, ground := Ground.phase }, { on := 17, ground := Ground.phase }], guard := none }) (by kernel_rfl) rfl (by rfl) (fun K hK => ?_)
        have HKK := Lib.hid hK
        clear hK
        go_simp
        replace hK := HKK.out
        refine hK _ _ (fun h => by simp at h) ?_
        (try clear HKK); (try clear hK); (try clear K)
        try simp only [Act.put, List.setIfInBounds_toArray, List.set_cons_zero, List.set_cons_succ]
        refine AnyL.done (by kernel_rfl) ?_
        refine NoPanic.normal ?_
        have hst := put_step (a := a) (part := part) hin2 (by rw [HKEEP.out]; rw [show ((D.cache.length + j : Nat) : Int) = (D.cache.length : Int) + (j : Int) from by push_cast; rfl]; exact hm3) hg3 (below_alloc0 (below_drew0 (Below.refl w3.heap.size w3)) (.cells (Value.int .i64 ((pg : Int) * 8 + (j : Int)) :: ns .u8 part).toArray 185)) (by rw [HKEEP.out]; have h5 := HO4.out; rw [show wcell (a, part) = (Value.int .i64 ((pg : Int) * 8 + (j : Int)) :: ns .u8 part) from by unfold wcell; rw [HA8.out]]; exact h5) (by have h6 := HOR4.out; rw [HKEEP.out]; exact h6)
        rw [HKEEP.out] at hst
        have HST := Lib.hid hst
        clear hst
        go_wp2_with fail
        go_roundw
        case rel =>
          obtain ⟨t1, t2, t3⟩ := HST.out
          have hput : D.put (8 * pg) r.l (j + 1) = { D.put (8 * pg) r.l j with cache := (D.put (8 * pg) r.l j).cache ++ [(a, part)] } := by
            unfold Dsk.put
            simp only [puts, ← List.append_assoc]
            rw [HPART.out, HA7.out]
          have hchf := hch2.trans t2 (fun g hg1 hg2 => by
            rcases hSq g (foot_len hg2) with h | ⟨h, _⟩
            · exact h
            · omega)
          refine ⟨j + 1, by have := HLEN.out; omega, by go_num, ?_, hchf⟩
          rw [hput]
          refine ⟨by rw [← hput]; exact D.put_ok HD.out.1 HR.out.bytes (by have := HLEN.out; omega) (by obtain ⟨z1, z2, z3, z4⟩ := HD.out.1.pages; have := HPG.out; unfold Dsk.pages at this; omega), _, _, t1, fun g hg => ?_⟩
          have hlt := (t1.lt hg).2
          rcases t3 g hg with h | h
          · rcases hSq g (foot_len h) with h | ⟨h, _⟩
            · exact .inl h
            · exact .inr ⟨h, hlt⟩
          · exact .inr ⟨Nat.le_trans hch2.size h, hlt⟩
        case measure => have := HLEN.out; simp [intOf]; omega
      · have hjk : j = k := by have := HL.out; have := HLEN.out; omega
        subst hjk
        have hj2 : 1024 ≤ j * 128 ∨ True := .inr trivial
        have hge : ¬ ((j : Int) * 128 < (128 : Int)) := by have := HL.out; have := HLEN.out; omega
        have HF := Lib.hid (show DiskAt n0 wr p (D.put (8 * pg) r.l j) (fun g => S g ∨ (w.heap.size ≤ g ∧ g < wr.heap.size)) from ⟨dok, q, M, hin, hft⟩)
        clear hin hft dok hj2
        go_wp2_with fail
        go_ret
        exact ⟨rfl, HF.out, hch⟩
end Go.Proofs.Ytfbjjblgcgjndaa
