/- Contracts of bytes.HasPrefix; states compared. -/
import Derived.Test.YtfbjjblgcgjndaaMeta8
import Derived.Laws.StructEq
set_option linter.unusedVariables false
set_option linter.unusedSimpArgs false
namespace Go.Proofs.Ytfbjjblgcgjndaa
open Go.RowKit

set_option maxRecDepth 100000 in
set_option maxHeartbeats 600000 in
theorem prefix_any (A B : Option Addr) (c d n k : Nat) (l m : List Nat) (w : World) (hn : n = l.length) (hk : k = m.length) (hA : At w A (ns .u8 l)) (hB : At w B (ns .u8 m)) (hl : Bytes l) (hm : Bytes m) (hc : n ≤ c) :
    Calls Try.prog 142 #[.slice A n c, .slice B k d] w fun e w' => e = .returned (.bool (decide (l.take k = m))) ∧ w = w' := by
  by_cases hlen : k ≤ n
  · have hl2 : (l.take k).length = k := by rw [List.length_take]; omega
    have heq := equal_any A B c d k k (l.take k) m w hl2.symm hk (hA.takes k) hB (hl.take k) hm
    generalize decide (l.take k = m) = D at *
    have HE := Lib.hid heq
    have hkc : (k : Int) ≤ (c : Int) := by omega
    clear heq hn hk hl2
    go_enter Try.func142, Try.ntmps142
    go_wp2_with fail
    refine HE.out.mono ?_
    rintro e w1 ⟨rfl, rfl⟩
    go_wp2
    go_ret
    exact ⟨rfl, rfl⟩
  · have hD : decide (l.take k = m) = false := by
      rw [decide_eq_false_iff_not]
      intro e
      have := congrArg List.length e
      rw [List.length_take] at this
      omega
    rw [hD]
    clear hD hn hk
    go_enter Try.func142, Try.ntmps142
    go_wp2
    go_ret
    exact ⟨rfl, rfl⟩

theorem neq_meta (m n : Meta) (w : World) : (binOp .neq 116 m.val n.val).run Try.prog w = .ok (.bool (!decide (m = n))) w := by
  obtain ⟨a, b, c, d, e⟩ := m
  obtain ⟨a', b', c', d', e'⟩ := n
  simp [go_sem, Meta.val, Meta.cells, Meta.mk.injEq]
  by_cases h1 : a = a' <;> by_cases h2 : b = b' <;> by_cases h3 : c = c' <;> by_cases h4 : d = d' <;> by_cases h5 : e = e' <;> simp [h1, h2, h3, h4, h5] <;> omega
theorem eql_meta (m n : Meta) (w : World) : (binOp .eql 116 m.val n.val).run Try.prog w = .ok (.bool (decide (m = n))) w := by
  obtain ⟨a, b, c, d, e⟩ := m
  obtain ⟨a', b', c', d', e'⟩ := n
  simp [go_sem, Meta.val, Meta.cells, Meta.mk.injEq]
  by_cases h1 : a = a' <;> by_cases h2 : b = b' <;> by_cases h3 : c = c' <;> by_cases h4 : d = d' <;> by_cases h5 : e = e' <;> simp [h1, h2, h3, h4, h5] <;> omega

def magic : List Nat := [67, 77, 69, 84]
/-- one more page looked at -/
def step (best : Meta) (k : Nat) (l : List Nat) : Meta := if IsMeta l ∧ (metaOf l).gen % 2 = k ∧ best.gen < (metaOf l).gen then metaOf l else best
def bestOf (a b : List Nat) : Meta := step (step Meta.zero 0 a) 1 b
def bestErr (a b : List Nat) : Nat := if bestOf a b ≠ Meta.zero then 0 else if a.take 4 = magic ∨ b.take 4 = magic then 151 else 150

def bests (a b : List Nat) (k : Nat) : Meta := if k = 0 then Meta.zero else if k = 1 then step Meta.zero 0 a else bestOf a b
def someAt (a b : List Nat) (k : Nat) : Bool := if k = 0 then false else if k = 1 then decide (a.take 4 = magic) else (decide (a.take 4 = magic) || decide (b.take 4 = magic))
theorem best_round (a b : Inner) (w wr : World) (r k : Nat) (hk : k < 2) (ha : a.Ok w) (hb : b.Ok w) (hrow : wr.heap[r]? = some (.cells #[a.val, b.val] 23 (0, 0))) :
    ∃ x : Inner, x.Ok w ∧ wr.cell? ⟨r, k, none⟩ = some (.slice x.A x.l.length x.c) ∧ bests a.l b.l (k + 1) = step (bests a.l b.l k) k x.l ∧ someAt a.l b.l (k + 1) = (someAt a.l b.l k || decide (x.l.take 4 = magic)) := by
  rcases (show k = 0 ∨ k = 1 by omega) with rfl | rfl
  · exact ⟨a, ha, by rw [cell_of_row wr r 0 _ 23 (0, 0) hrow]; rfl, by simp [bests], by simp [someAt]⟩
  · exact ⟨b, hb, by rw [cell_of_row wr r 1 _ 23 (0, 0) hrow]; rfl, by simp [bests, bestOf], by simp [someAt]⟩
theorem box_lt {w : World} {b : Nat} {m : Meta} (h : MetaBox w b m) : b < w.heap.size := (Array.getElem?_eq_some_iff.1 h).1

/-- what the loop keeps -/
structure BestAt (w wr : World) (a b : Inner) (B : Meta) : Prop where
  out : MetaBox wr w.heap.size Meta.zero
  best : MetaBox wr (w.heap.size + 1) B
  row : wr.heap[w.heap.size + 2]? = some (.cells #[a.val, b.val] 23 (0, 0))
  below : Below w.heap.size w wr
  size : w.heap.size + 3 ≤ wr.heap.size
theorem BestAt.next {w wr w1 : World} {a b : Inner} {B : Meta} (h : BestAt w wr a b B) (hb : Below wr.heap.size wr w1) : BestAt w w1 a b B :=
  ⟨h.out.below hb (box_lt h.out), h.best.below hb (box_lt h.best), by rw [hb.block _ (by have := h.size; omega)]; exact h.row, below_next0 h.below hb, Nat.le_trans h.size hb.size⟩
theorem BestAt.alloc {w wr : World} {a b : Inner} {B : Meta} (h : BestAt w wr a b B) (o : Obj) : BestAt w (wr.alloc o) a b B := h.next (below_alloc0 (Below.refl _ _) o)
theorem BestAt.set {w wr : World} {a b : Inner} {B : Meta} (h : BestAt w wr a b B) (M : Meta) : BestAt w (setBox wr (w.heap.size + 1) M) a b M := by
  have hne : ∀ k, k ≠ w.heap.size + 1 → (setBox wr (w.heap.size + 1) M).heap[k]? = wr.heap[k]? := fun k hk => by
    unfold setBox
    rw [Below.heap_setCell _ _ _ _ hk, Below.heap_setCell _ _ _ _ hk, Below.heap_setCell _ _ _ _ hk, Below.heap_setCell _ _ _ _ hk, Below.heap_setCell _ _ _ _ hk]
  refine ⟨?_, setBox_box h.best, by rw [hne _ (by omega)]; exact h.row, setBox_below M h.below (by omega), by have := h.size; simpa [setBox, World.setCell] using this⟩
  unfold MetaBox
  rw [hne _ (by omega)]; exact h.out

set_option maxRecDepth 100000 in
set_option maxHeartbeats 1000000 in
theorem best_any (a b : Inner) (w : World) (ha : a.Ok w) (hb : b.Ok w) :
    Calls Try.prog 75 #[.slice a.A a.l.length a.c, .slice b.A b.l.length b.c] w fun e w' => e = .returned (.tuple #[(bestOf a.l b.l).val, .int .u16 (bestErr a.l b.l : Int)]) ∧ Below w.heap.size w w' := by
  have kc := fun (w : World) (C : Array Value) (n c : Nat) => Lib.run_convert_bytes_const (P := Try.prog) w 23 5 C n c Try.underlying23 Try.underlying5
  have hstart : BestAt w (((w.alloc (.cells Meta.zero.cells 116)).alloc (.cells Meta.zero.cells 116)).alloc (.cells #[a.val, b.val] 23)) a b Meta.zero := by
    have h0 := MetaBox.new w Meta.zero
    have h1 : MetaBox ((w.alloc (.cells Meta.zero.cells 116)).alloc (.cells Meta.zero.cells 116)) (w.heap.size + 1) Meta.zero := by
      have := MetaBox.new (w.alloc (.cells Meta.zero.cells 116)) Meta.zero
      rwa [show (w.alloc (.cells Meta.zero.cells 116)).heap.size = w.heap.size + 1 by simp] at this
    refine ⟨(h0.old _).old _, h1.old _, ?_, below_alloc0 (below_alloc0 (below_alloc0 (Below.refl _ _) _) _) _, by simp⟩
    have := heap_alloc_new ((w.alloc (.cells Meta.zero.cells 116)).alloc (.cells Meta.zero.cells 116)) (.cells #[a.val, b.val] 23)
    rwa [show ((w.alloc (.cells Meta.zero.cells 116)).alloc (.cells Meta.zero.cells 116)).heap.size = w.heap.size + 2 by simp] at this
  go_enter Try.func75, Try.ntmps75
  go_wp2_with fail
  change Code.wp _ _ _ _ (((w.alloc (.cells Meta.zero.cells 116)).alloc (.cells Meta.zero.cells 116)).alloc (.cells #[a.val, b.val] 23))
  generalize ((w.alloc (.cells Meta.zero.cells 116)).alloc (.cells Meta.zero.cells 116)).alloc (.cells #[a.val, b.val] 23) = W0 at hstart ⊢
  go_loopw [7, 17] (fun s i wr => ∃ k : Nat, k ≤ 2 ∧ i = .int .i64 k ∧ s = .bool (someAt a.l b.l k) ∧ BestAt w wr a b (bests a.l b.l k)) (fun _ i _ => 2 - (intOf i).toNat)
  case atStart => exact ⟨0, by omega, rfl, rfl, hstart⟩
  case round =>
    clear hstart
    obtain ⟨k, hk, rfl, rfl, hB⟩ := hrel
    by_cases hlt : k < 2
    · obtain ⟨x, hx, hc, hst, hso⟩ := best_round a b w wr _ k hlt ha hb hB.row
      have HST := Lib.hid hst
      have HSO := Lib.hid hso
      clear hst hso
      generalize bests a.l b.l k = B at *
      generalize someAt a.l b.l k = S at *
      obtain ⟨B', hbs⟩ : ∃ B', bests a.l b.l (k + 1) = B' := ⟨_, rfl⟩
      obtain ⟨S', hss⟩ : ∃ S', someAt a.l b.l (k + 1) = S' := ⟨_, rfl⟩
      rw [hbs] at HST
      rw [hss] at HSO
      have HBS := Lib.hid hbs
      have HSS := Lib.hid hss
      clear hbs hss
      have hB1 := hB.alloc (.cells #[.int .u8 67, .int .u8 77, .int .u8 69, .int .u8 84] 5 (4, 5))
      have hA1 : At (wr.alloc (.cells #[.int .u8 67, .int .u8 77, .int .u8 69, .int .u8 84] 5 (4, 5))) (some ⟨wr.heap.size, 0, none⟩) (ns .u8 magic) := At.whole (xs := ns .u8 magic) (heap_alloc_new wr _)
      have hpre := prefix_any x.A (some ⟨wr.heap.size, 0, none⟩) x.c 4 x.l.length 4 x.l magic _ rfl rfl (hx.below hB1.below).lies hA1 hx.bytes (by decide) hx.le
      have HPre := Lib.hid hpre
      clear hpre hA1
      rcases S with _ | _
      · go_wp2_with fail
        refine HPre.out.mono ?_
        rintro e w2 ⟨rfl, rfl⟩
        have hS' : decide (x.l.take 4 = magic) = S' := by rw [HSO.out]; simp
        rw [hS']
        clear hS' HPre hc
        generalize wr.alloc (.cells #[.int .u8 67, .int .u8 77, .int .u8 69, .int .u8 84] 5 (4, 5)) = wr3 at hB1 ⊢
        have hB3 := hB1
        clear hB hB1
        have hx3 := hx.below hB3.below
        by_cases hIs : IsMeta x.l
        · have hget := get_yes x wr3 hx3 hIs
          have hmk := metaOf_ok x.l hx.bytes
          have hB' : (B' = if (metaOf x.l).gen % 2 = k ∧ B.gen < (metaOf x.l).gen then metaOf x.l else B) := by
            rw [HST.out, step]
            simp [hIs]
          generalize metaOf x.l = M at *
          simp only [Meta.val, Meta.cells] at hget
          have HG := Lib.hid hget
          have HB' := Lib.hid hB'
          have b1 := hmk.gen
          clear hget hB' hIs hmk
          go_wp2_with fail
          refine HG.out.mono ?_
          rintro e w4 ⟨rfl, hb4⟩
          have hB4 := (hB3.next hb4).alloc (.cells M.cells 116)
          have hM4 := MetaBox.new w4 M
          go_upto_region 8 with (fail)
          change Code.wp _ _ _ _ (w4.alloc (.cells M.cells 116))
          generalize w4.alloc (.cells M.cells 116) = w5 at hB4 hM4 ⊢
          obtain ⟨c0, c1, c2, c3, c4⟩ := meta_cells hB4.best
          obtain ⟨d0, d1, d2, d3, d4⟩ := meta_cells hM4
          obtain ⟨f0, f1, f2, f3, f4⟩ := hB4.best.frozen
          have HB4 := Lib.hid hB4
          clear hB3 hB4 hM4
          by_cases hpar : M.gen % 2 = k
          · have p1 : ((M.gen : Int) % 2 == (k : Int)) = true := by simp; omega
            have p2 : (M.gen % 2 == k) = true := by simp [hpar]
            have p3 : (M.gen : Int) % 2 = (k : Int) := by omega
            by_cases hgt : B.gen < M.gen
            · have HP := Lib.hid hpar
              have HGt := Lib.hid hgt
              clear hpar hgt
              have g1 : (B.gen : Int) < (M.gen : Int) := by have := HGt.out; omega
              go_wp2
              go_roundw
              case rel => exact ⟨k + 1, by omega, by go_num, by rw [HSS.out], by rw [HBS.out, HB'.out, if_pos ⟨HP.out, HGt.out⟩]; exact HB4.out.set M⟩
              case measure => simp [intOf]; omega
            · have HGt := Lib.hid hgt
              clear hpar hgt
              have g1 : ¬ (B.gen : Int) < (M.gen : Int) := by have := HGt.out; omega
              go_wp2
              go_roundw
              case rel => exact ⟨k + 1, by omega, by go_num, by rw [HSS.out], by rw [HBS.out, HB'.out, if_neg (fun h => HGt.out h.2)]; exact HB4.out⟩
              case measure => simp [intOf]; omega
          · have p1 : ((M.gen : Int) % 2 == (k : Int)) = false := by simp; omega
            have p2 : (M.gen % 2 == k) = false := by simp [hpar]
            have p3 : ¬ (M.gen : Int) % 2 = (k : Int) := by omega
            have HP := Lib.hid hpar
            clear hpar
            go_wp2
            go_roundw
            case rel => exact ⟨k + 1, by omega, by go_num, by rw [HSS.out], by rw [HBS.out, HB'.out, if_neg (fun h => HP.out h.1)]; exact HB4.out⟩
            case measure => simp [intOf]; omega
        · have hget := get_no x wr3 hx3 hIs
          have hB' : B' = B := by
            rw [HST.out, step]
            simp [hIs]
          simp only [Meta.val, Meta.cells] at hget
          have HG := Lib.hid hget
          have HB' := Lib.hid hB'
          clear hget hB' hIs
          go_wp2_with fail
          refine HG.out.mono ?_
          rintro e w4 ⟨rfl, hb4⟩
          have hB4 := (hB3.next hb4).alloc (.cells Meta.zero.cells 116)
          clear hB3
          go_wp2
          go_roundw
          case rel => exact ⟨k + 1, by omega, by go_num, by rw [HSS.out], by rw [HBS.out, HB'.out]; exact hB4⟩
          case measure => simp [intOf]; omega
      · have hS' : S' = true := by rw [HSO.out]; simp
        subst hS'
        have hB3 := hB
        clear hB hB1 HPre
        have hx3 := hx.below hB3.below
        by_cases hIs : IsMeta x.l
        · have hget := get_yes x wr hx3 hIs
          have hmk := metaOf_ok x.l hx.bytes
          have hB' : (B' = if (metaOf x.l).gen % 2 = k ∧ B.gen < (metaOf x.l).gen then metaOf x.l else B) := by
            rw [HST.out, step]
            simp [hIs]
          generalize metaOf x.l = M at *
          simp only [Meta.val, Meta.cells] at hget
          have HG := Lib.hid hget
          have HB' := Lib.hid hB'
          have b1 := hmk.gen
          clear hget hB' hIs hmk
          go_wp2_with fail
          refine HG.out.mono ?_
          rintro e w4 ⟨rfl, hb4⟩
          have hB4 := (hB3.next hb4).alloc (.cells M.cells 116)
          have hM4 := MetaBox.new w4 M
          go_upto_region 8 with (fail)
          change Code.wp _ _ _ _ (w4.alloc (.cells M.cells 116))
          generalize w4.alloc (.cells M.cells 116) = w5 at hB4 hM4 ⊢
          obtain ⟨c0, c1, c2, c3, c4⟩ := meta_cells hB4.best
          obtain ⟨d0, d1, d2, d3, d4⟩ := meta_cells hM4
          obtain ⟨f0, f1, f2, f3, f4⟩ := hB4.best.frozen
          have HB4 := Lib.hid hB4
          clear hB3 hB4 hM4
          by_cases hpar : M.gen % 2 = k
          · have p1 : ((M.gen : Int) % 2 == (k : Int)) = true := by simp; omega
            have p2 : (M.gen % 2 == k) = true := by simp [hpar]
            have p3 : (M.gen : Int) % 2 = (k : Int) := by omega
            by_cases hgt : B.gen < M.gen
            · have HP := Lib.hid hpar
              have HGt := Lib.hid hgt
              clear hpar hgt
              have g1 : (B.gen : Int) < (M.gen : Int) := by have := HGt.out; omega
              go_wp2
              go_roundw
              case rel => exact ⟨k + 1, by omega, by go_num, by rw [HSS.out], by rw [HBS.out, HB'.out, if_pos ⟨HP.out, HGt.out⟩]; exact HB4.out.set M⟩
              case measure => simp [intOf]; omega
            · have HGt := Lib.hid hgt
              clear hpar hgt
              have g1 : ¬ (B.gen : Int) < (M.gen : Int) := by have := HGt.out; omega
              go_wp2
              go_roundw
              case rel => exact ⟨k + 1, by omega, by go_num, by rw [HSS.out], by rw [HBS.out, HB'.out, if_neg (fun h => HGt.out h.2)]; exact HB4.out⟩
              case measure => simp [intOf]; omega
          · have p1 : ((M.gen : Int) % 2 == (k : Int)) = false := by simp; omega
            have p2 : (M.gen % 2 == k) = false := by simp [hpar]
            have p3 : ¬ (M.gen : Int) % 2 = (k : Int) := by omega
            have HP := Lib.hid hpar
            clear hpar
            go_wp2
            go_roundw
            case rel => exact ⟨k + 1, by omega, by go_num, by rw [HSS.out], by rw [HBS.out, HB'.out, if_neg (fun h => HP.out h.1)]; exact HB4.out⟩
            case measure => simp [intOf]; omega
        · have hget := get_no x wr hx3 hIs
          have hB' : B' = B := by
            rw [HST.out, step]
            simp [hIs]
          simp only [Meta.val, Meta.cells] at hget
          have HG := Lib.hid hget
          have HB' := Lib.hid hB'
          clear hget hB' hIs
          go_wp2_with fail
          refine HG.out.mono ?_
          rintro e w4 ⟨rfl, hb4⟩
          have hB4 := (hB3.next hb4).alloc (.cells Meta.zero.cells 116)
          clear hB3
          go_wp2
          go_roundw
          case rel => exact ⟨k + 1, by omega, by go_num, by rw [HSS.out], by rw [HBS.out, HB'.out]; exact hB4⟩
          case measure => simp [intOf]; omega
    · obtain rfl : k = 2 := by omega
      obtain ⟨c0, c1, c2, c3, c4⟩ := meta_cells hB.best
      obtain ⟨d0, d1, d2, d3, d4⟩ := meta_cells hB.out
      obtain ⟨f0, f1, f2, f3, f4⟩ := hB.out.frozen
      have hneq : ∀ w, (binOp .neq 116 (.agg #[.int .u64 ((bests a.l b.l 2).gen : Int), .int .u32 ((bests a.l b.l 2).root : Int), .int .u32 ((bests a.l b.l 2).free : Int), .int .u32 ((bests a.l b.l 2).pages : Int), .int .u64 ((bests a.l b.l 2).keys : Int)]) (.agg #[.int .u64 0, .int .u32 0, .int .u32 0, .int .u32 0, .int .u64 0])).run Try.prog w = .ok (.bool (!decide (bests a.l b.l 2 = Meta.zero))) w := fun w => neq_meta (bests a.l b.l 2) Meta.zero w
      have hb2 : bests a.l b.l 2 = bestOf a.l b.l := by simp [bests]
      have hs2 : someAt a.l b.l 2 = decide (a.l.take 4 = magic ∨ b.l.take 4 = magic) := by simp [someAt, Bool.decide_or]
      have herr : bestErr a.l b.l = if bests a.l b.l 2 ≠ Meta.zero then 0 else if someAt a.l b.l 2 then 151 else 150 := by rw [hb2, hs2]; simp [bestErr]
      clear hs2
      generalize hBe : bests a.l b.l 2 = B at *
      generalize hSe : someAt a.l b.l 2 = S at *
      have HB := Lib.hid hB
      have HB2 := Lib.hid hb2
      have HE := Lib.hid herr
      clear hB hb2 herr hBe hSe
      by_cases hz : B = Meta.zero
      · have hn : decide (B = Meta.zero) = true := decide_eq_true hz
        simp only [hn, Bool.not_true] at hneq
        have HZ := Lib.hid hz
        clear hz hn
        rcases S with _ | _
        · go_wp2
          refine bodyPost_ret (results_box rfl _ w.heap.size B _ _ rfl rfl (setBox_box HB.out.out)) rfl ⟨?_, setBox_below B HB.out.below (Nat.le_refl _)⟩
          rw [← HB2.out, HE.out, HZ.out]; rfl
        · go_wp2
          refine bodyPost_ret (results_box rfl _ w.heap.size B _ _ rfl rfl (setBox_box HB.out.out)) rfl ⟨?_, setBox_below B HB.out.below (Nat.le_refl _)⟩
          rw [← HB2.out, HE.out, HZ.out]; rfl
      · have hn : decide (B = Meta.zero) = false := decide_eq_false hz
        simp only [hn, Bool.not_false] at hneq
        have HZ := Lib.hid hz
        clear hz hn
        go_wp2
        refine bodyPost_ret (results_box rfl _ w.heap.size B _ _ rfl rfl (setBox_box HB.out.out)) rfl ⟨?_, setBox_below B HB.out.below (Nat.le_refl _)⟩
        rw [← HB2.out, HE.out, if_pos HZ.out]; rfl
end Go.Proofs.Ytfbjjblgcgjndaa
