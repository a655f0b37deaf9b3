/- Joined texts: Load, PoolPl, Known10, Two, PoolPl2, Open, Open2, OpenA, Open4, Open5, Open6, Two2, PoolLp, Over1, Over2. -/
import Derived.Laws.IdiomCopy
import Derived.ProofKit
import Derived.OpenShut
import Derived.ShutString
import Derived.ChangeOld
import Derived.Test.YtfbjjblgcgjndaaRows
import Derived.SizedLaws
import Derived.Deep.Slices
import Derived.RangeFuncNested
import Derived.RangeFuncBound
import Derived.RangeFuncCalls
import Derived.RangeFuncLeaves
import Derived.Shelf.Abstract
import Derived.Shelf.RegionOpen
import Derived.WalkKit
import Derived.OwnWalkIn
import Derived.TacticsInMore
import Derived.LoopNIn
import Derived.LoopIn
import Derived.Test.YtfbjjblgcgjndaaPb1
import Derived.Test.YtfbjjblgcgjndaaPb4
import Derived.Test.YtfbjjblgcgjndaaPb5
set_option linter.unusedVariables false
set_option linter.unusedSimpArgs false

/- Contract of the disk's Load. -/
namespace Go.Proofs.Ytfbjjblgcgjndaa
open Go.RowKit Go.Maps

def part128 (l : List Nat) (i : Nat) : List Nat := (l.drop (128 * i)).take 128
theorem part128_len {l : List Nat} {i : Nat} (h : 128 * (i + 1) ≤ l.length) : (part128 l i).length = 128 := by
  unfold part128; rw [List.length_take, List.length_drop]; omega
/-- the first j sectors are laid -/
def loaded (img : List Nat) (n : Nat) : Nat → List (List Nat)
  | 0 => List.replicate n zeroSect
  | j + 1 => (loaded img n j).set j (part128 img j)
theorem loaded_length (img : List Nat) (n j : Nat) : (loaded img n j).length = n := by
  induction j with
  | zero => simp [loaded]
  | succ j ih => simp [loaded, ih]
theorem getD_set8 {α : Type} (l : List α) (i j : Nat) (x d : α) : (l.set i x).getD j d = if j = i ∧ i < l.length then x else l.getD j d := by
  rw [List.getD_eq_getElem?_getD, List.getD_eq_getElem?_getD, List.getElem?_set]
  by_cases h : i = j
  · subst h
    by_cases h2 : i < l.length
    · simp [h2]
    · simp [h2]
  · rw [if_neg h, if_neg (fun e => h e.1.symm)]
theorem loaded_get (img : List Nat) (n j i : Nat) (hj : j ≤ n) (hi : i < j) : (loaded img n j).getD i [] = part128 img i := by
  induction j with
  | zero => omega
  | succ j ih =>
    rw [loaded, getD_set8, loaded_length]
    by_cases e : i = j
    · rw [if_pos ⟨e, by omega⟩, e]
    · rw [if_neg (fun h => e h.1)]; exact ih (by omega) (by omega)
theorem loaded_all (img : List Nat) (n : Nat) : loaded img n n = (List.range n).map (part128 img) := by
  apply List.ext_getElem
  · rw [loaded_length]; simp
  · intro i h1 h2
    rw [loaded_length] at h1
    have := loaded_get img n n i (Nat.le_refl _) h1
    rw [List.getD_eq_getElem?_getD, List.getElem?_eq_getElem (by rw [loaded_length]; exact h1)] at this
    simpa using this
theorem parts_flat (l : List Nat) (n : Nat) (h : 128 * n ≤ l.length) : ((List.range n).map (part128 l)).flatten = l.take (128 * n) := by
  induction n with
  | zero => simp
  | succ n ih =>
    rw [List.range_succ, List.map_append, List.flatten_append, ih (by omega)]
    simp only [List.map_cons, List.map_nil, List.flatten_cons, List.flatten_nil, List.append_nil, part128]
    rw [show 128 * (n + 1) = 128 * n + 128 by omega, List.take_add]
theorem loaded_ok {img : List Nat} (hb : Bytes img) {n j : Nat} (hj : j ≤ n) (h : 128 * n ≤ img.length) : ∀ s ∈ loaded img n j, sectOk s := by
  induction j with
  | zero => intro s hs; rw [(List.mem_replicate.1 hs).2]; exact zeroSect_ok
  | succ j ih =>
    intro s hs
    rcases List.mem_or_eq_of_mem_set hs with hs | rfl
    · exact ih (by omega) s hs
    · exact ⟨part128_len (by omega), (hb.drop _).take _⟩
def Dsk.loads (img : List Nat) (p j : Nat) : Dsk := { Dsk.new p with last := loaded img (8 * p) j }
def Dsk.load (img : List Nat) : Dsk := Dsk.loads img (img.length / 1024) (8 * (img.length / 1024))
theorem Dsk.load_flat (img : List Nat) (h : img.length % 1024 = 0) : (Dsk.load img).last.flatten = img := by
  show (loaded img _ _).flatten = img
  rw [loaded_all, parts_flat img _ (by omega), List.take_of_length_le (by omega)]
theorem Dsk.loads_ok {img : List Nat} (hb : Bytes img) {p j : Nat} (h1 : 1 ≤ p) (h2 : p ≤ 16384) (hj : j ≤ 8 * p) (hl : 1024 * p ≤ img.length) : (Dsk.loads img p j).Ok :=
  ⟨loaded_ok hb hj (by omega), fun x hx => by simp [Dsk.loads, Dsk.new] at hx, ⟨p, loaded_length _ _ _, h1, h2⟩, by simp [Dsk.loads, Dsk.new], fun j => by simp [Dsk.loads, Dsk.new], fun j => by simp [Dsk.loads, Dsk.new]⟩
theorem DG.lay {n0 : Nat} {w : World} {p : Nat} {D : Dsk} {S : Nat → Prop} (h : DG n0 w p D S) (i : Nat) (hi : i < D.last.length) (s : List Nat) (hs : sectOk s) :
    ∃ b, w.cell? ⟨p, 0, none⟩ = some (.slice (some ⟨b, 0, none⟩) D.last.length D.last.length) ∧ S b ∧ (∀ j, j < 128 → (w.cell? ⟨b, i * 128 + j, none⟩).isSome = true ∧ w.frozen? ⟨b, i * 128 + j, none⟩ = false) ∧
      DG n0 (w.setCells b (i * 128) (ns .u8 s)) p { D with last := D.last.set i s } S ∧ Chg S w (w.setCells b (i * 128) (ns .u8 s)) := by
  obtain ⟨⟨ok, q, M, hin, hft⟩, hlt⟩ := h
  obtain ⟨h1, h2⟩ := hin.lay (fun s hs => (ok.last s hs).1) i hi s hs.1
  have hSb := hft q.b (.inr (.inl rfl))
  refine ⟨q.b, hin.rcd.cell 0 (by omega), hSb, fun j hj => ?_, ⟨⟨⟨?_, fun x hx => by rw [List.length_set]; exact ok.cache x hx, ?_, ok.trip, ok.f, ok.n⟩, q, M, h1, hft⟩, fun g hg => ⟨(hlt g hg).1, Nat.lt_of_lt_of_le (hlt g hg).2 h2.size⟩⟩, h2.mono (fun g _ e => by rw [show g = q.b from e]; exact hSb)⟩
  · have := hin.last.there (i * 128 + j) (by have : (i + 1) * 128 ≤ D.last.length * 128 := Nat.mul_le_mul_right _ hi; omega)
    simpa using this
  · intro t ht
    rcases List.mem_or_eq_of_mem_set ht with ht | rfl
    · exact ok.last t ht
    · exact hs
  · obtain ⟨k, a, b⟩ := ok.pages
    exact ⟨k, by rw [← a]; exact List.length_set .., b⟩
theorem At.cellj {w : World} {A : Option Addr} {xs : List Value} (h : At w A xs) (hne : xs ≠ []) : ∃ b o, A = some ⟨b, o, none⟩ ∧ w.rangeAt b o xs := h hne
theorem wpList_copyrun {P : Program} (w : World) {ops : Array Oper} {rest : List Oper} {o : Oper} {a : Act} {Q : Exit → Act → World → Prop} (hgd : o.guard = none) (d s : Operand) (t t' : TypeId)
    (ho : o.op = .call { callee := .builtin .copy, args := #[d, s], argTypes := #[t, t'] }) (v u : Value) (hd : a.eval d = v) (hs : a.eval s = u) {v' : Value} {w' : World}
    (hr : (Builtin.copy_ #[t, t'] o.type #[v, u]).run P w = .ok v' w') (h : wpList P ops Q rest (a.put o.dst v') w') : wpList P ops Q (o :: rest) a w := by
  refine wpList_plain hgd fun _ hK => ?_
  unfold Oper.wp execOp
  simp only [ho, resolve, invoke, builtin, Sem.run_bind, Sem.run_pure, Result.andThen_ok, List.map_toArray, List.map_cons, List.map_nil, hd, hs, hr]
  exact hK _ _ h
def LoadGives (img : List Nat) (w : World) (e : Ending) (w' : World) : Prop :=
  (∃ p S, e = .returned (.tuple #[.pointer (some ⟨p, 0, none⟩), .int .u16 0]) ∧ DG w.heap.size w' p (Dsk.load img) S ∧ Below w.heap.size w w' ∧ img.length % 1024 = 0 ∧ 1 ≤ img.length / 1024 ∧ img.length / 1024 ≤ 16384)
def LoadFails (w : World) (e : Ending) (w' : World) : Prop := e = .returned (.tuple #[.pointer none, .int .u16 70]) ∧ Below w.heap.size w w'
set_option maxRecDepth 100000 in
theorem load_no (r : Inner) (w : World) (hs : r.l.length ≤ 100000000) (h : r.l.length % 1024 ≠ 0 ∨ r.l.length / 1024 < 1 ∨ 16384 < r.l.length / 1024) : Calls Try.prog 63 #[.slice r.A r.l.length r.c] w (LoadFails w) := by
  by_cases h1 : r.l.length % 1024 = 0
  · have h2 : r.l.length / 1024 < 1 ∨ 16384 < r.l.length / 1024 := by omega
    have hN := Lib.hid (new_no ((r.l.length / 1024 : Nat) : Int) w (by omega))
    have a1 : ((r.l.length : Int) % 1024 != 0) = false := by simp; omega
    have a2 : (r.l.length : Int) / 1024 = ((r.l.length / 1024 : Nat) : Int) := by omega
    generalize r.l.length / 1024 = p at *
    go_enter Try.func63, Try.ntmps63
    go_wp2_with fail
    refine hN.out.mono ?_
    rintro e w1 ⟨rfl, rfl⟩
    go_wp2_with fail
    go_ret2
    exact ⟨rfl, Below.refl _ _⟩
  · have a1 : ((r.l.length : Int) % 1024 != 0) = true := by simp; omega
    have a2 : ¬ (r.l.length : Int) % 1024 = 0 := by omega
    go_enter Try.func63, Try.ntmps63
    go_wp2_with fail
    go_ret2
    exact ⟨rfl, Below.refl _ _⟩
set_option maxRecDepth 100000 in
set_option maxHeartbeats 2000000 in
theorem load_yes (r : Inner) (w : World) (hr : r.Ok w) (p : Nat) (hp : r.l.length = 1024 * p) (h1 : 1 ≤ p) (h2 : p ≤ 16384) : Calls Try.prog 63 #[.slice r.A r.l.length r.c] w (LoadGives r.l w) := by
  obtain ⟨A, img, c⟩ := r
  simp only at hp ⊢
  have hbb := hr.bytes
  have hle := hr.le
  simp only at hbb hle
  obtain ⟨gi, oi, rfl, hrg⟩ := hr.lies (by intro e; have := congrArg List.length e; simp [ns] at this; simp [this] at hp; omega)
  have hAT : At w (some ⟨gi, oi, none⟩) (ns .u8 img) := hr.lies
  obtain ⟨n, hn⟩ : ∃ n, n = img.length := ⟨_, rfl⟩
  have a1 : ((n : Int) % 1024 != 0) = false := by simp; omega
  have a2 : (n : Int) / 1024 = (p : Int) := by omega
  have a3 : ¬ ((n : Int) % 1024 ≠ 0) := by omega
  have hnb : n ≤ 16777216 := by omega
  have hnc : n ≤ c := by omega
  rw [← hn]
  have HN := Lib.hid hn
  have HP := Lib.hid hp
  have HB := Lib.hid hbb
  have HAT := Lib.hid hAT
  clear hn hp hbb hAT hrg hr hle
  go_enter Try.func63, Try.ntmps63
  go_wp2_with fail
  refine (dg_newl p w (Nat.le_refl _) h1 h2).mono ?_
  rintro e w1 ⟨pd, S, rfl, hd, _, hb⟩
  have hd0 : DG w.heap.size w1 pd (Dsk.loads img p 0) S := hd
  obtain ⟨N, hN⟩ : ∃ N, N = 8 * p := ⟨_, rfl⟩
  have hNb : N ≤ 131072 := by omega
  have c0 : ∃ b, w1.cell? ⟨pd, 0, none⟩ = some (.slice (some ⟨b, 0, none⟩) N N) := by
    obtain ⟨b, h, _⟩ := hd0.lay 0 (by show 0 < (loaded img (8 * p) 0).length; rw [loaded_length]; omega) (part128 img 0) ⟨part128_len (by have := HP.out; omega), (HB.out.drop _).take _⟩
    refine ⟨b, ?_⟩
    rw [show (Dsk.loads img p 0).last.length = N by rw [hN]; exact loaded_length _ _ _] at h
    exact h
  obtain ⟨b0, c0⟩ := c0
  have HD0 := Lib.hid hd0
  have HBB := Lib.hid hb
  have HN8 := Lib.hid hN
  clear hd hd0 hb hN
  go_wp2_with fail
  go_loopw [26] (fun i wr => ∃ j : Nat, j ≤ N ∧ i = .int .i64 j ∧ DG w.heap.size wr pd (Dsk.loads img p j) S ∧ Below w.heap.size w wr) (fun i _ => N - (intOf i).toNat)
  case atStart => exact ⟨0, by omega, rfl, HD0.out, HBB.out⟩
  case round =>
    clear HD0 HBB c0
    obtain ⟨j, hj, rfl, hd, hb⟩ := hrel
    by_cases hlt : j < N
    · have hjn : 128 * (j + 1) ≤ n := by have := HN8.out; have := HP.out; have := HN.out; omega
      have hso : sectOk (part128 img j) := ⟨part128_len (by have := HN.out; omega), (HB.out.drop _).take _⟩
      have hbr : Below wr.heap.size wr wr.drew := below_drew0 (Below.refl _ wr)
      obtain ⟨b, c1, hSb, hcf, hd2, hc2⟩ := (hd.below hbr).lay j (by show j < (loaded img (8 * p) j).length; rw [loaded_length, ← HN8.out]; exact hlt) (part128 img j) hso
      rw [show (Dsk.loads img p j).last.length = N by rw [HN8.out]; exact loaded_length _ _ _] at c1
      have c2 : wr.cell? ⟨pd, 0, none⟩ = some (.slice (some ⟨b, 0, none⟩) N N) := c1
      have hsrc := (HAT.out.below (below_next0 hb hbr)).part (j * 128) 128
      rw [show (img.drop (j * 128)).take 128 = part128 img j by unfold part128; rw [Nat.mul_comm]] at hsrc
      have hb2 := (hd.below hbr).after (below_next0 hb hbr) hc2
      have hk0 : (j : Int) < (N : Int) := by omega
      have hk1 : IntKind.i64.wrap ((j : Int) * 128) = (j : Int) * 128 := by rw [IntKind.wrap_i64]; omega
      have hk3 : ((j : Int) * 128).toNat = j * 128 := by omega
      have hk5 : 0 ≤ (j : Int) * 128 := by omega
      have hk6 : (j : Int) * 128 ≤ (n : Int) := by omega
      have hk7 : ¬ c = j * 128 := by omega
      have hk8 : j * 128 ≤ n := by omega
      have HSRC := Lib.hid hsrc
      have HCF := Lib.hid hcf
      have HD2 := Lib.hid hd2
      have HB2 := Lib.hid hb2
      have HSO := Lib.hid hso
      have HJN := Lib.hid hjn
      clear hsrc hcf hd2 hb2 hso hd hb hc2 c1 hbr hjn
      go_wp2_with fail
      go_still_tail 11, (by kernel_rfl)
      change wpList _ _ _ _ _ wr.drew
      have hcopy := run_copy_cells (P := Try.prog) wr.drew 23 23 3 5 b (j * 128) 128 128 ⟨gi, oi + j * 128, none⟩ (n - j * 128) (c - j * 128) (ns .u8 (part128 img j)) Try.underlying23 (by kernel_rfl) (by rw [ns_length, HSO.out.1]; have := HJN.out; exact (Nat.min_eq_right (by omega)).symm)
        (fun q v hv => by
          obtain ⟨b', o', e, hr⟩ := HSRC.out (by intro e; have := congrArg List.length e; rw [ns_length] at this; have h2 := HSO.out.1; rw [h2] at this; simp at this)
          cases e
          rw [Addr.add_mid]
          exact hr q v hv) (fun q hq => (HCF.out q (by rw [ns_length, HSO.out.1] at hq; exact hq)).1) (fun q hq => (HCF.out q (by rw [ns_length, HSO.out.1] at hq; exact hq)).2) (ns_one _ _)
      refine wpList_copyrun _ rfl (.tmp 35) (.tmp 39) 23 23 rfl _ _ rfl rfl hcopy ?_
      clear hcopy
      go_wp2_with fail
      case roundEnd =>
        exact ⟨⟨j + 1, by omega, by go_num, HD2.out, HB2.out⟩, by simp only [intOf]; omega⟩
    · obtain rfl : N = j := by omega
      have hld : Dsk.loads img p N = Dsk.load img := by
        unfold Dsk.load
        rw [show img.length / 1024 = p by have := HP.out; omega, HN8.out]
      rw [hld] at hd
      have HD9 := Lib.hid hd
      clear hd hld
      go_wp2_with fail
      go_ret2
      exact ⟨pd, S, rfl, HD9.out, hb, by have := HP.out; omega, by have := HP.out; omega, by have := HP.out; omega⟩
end Go.Proofs.Ytfbjjblgcgjndaa

/- Pool, plain laws: what the disk's pages hold, and what the pages at hand say of them. -/
namespace Go.Proofs.Ytfbjjblgcgjndaa

theorem lastWrite_puts (c : List (Nat × List Nat)) (a : Nat) (b : List Nat) (k x : Nat) : lastWrite (c ++ puts a b k) x = if a ≤ x ∧ x < a + k then some ((b.drop (128 * (x - a))).take 128) else lastWrite c x := by
  induction k with
  | zero => rw [if_neg (by omega)]; simp [puts]
  | succ k ih =>
    simp only [puts, ← List.append_assoc]
    rw [lastWrite_append, ih]
    by_cases h : a + k = x
    · subst h
      rw [if_pos rfl, if_pos (by omega), show a + k - a = k by omega]
    · rw [if_neg h]
      by_cases h2 : a ≤ x ∧ x < a + k
      · rw [if_pos h2, if_pos (by omega)]
      · rw [if_neg h2, if_neg (by omega)]
theorem sec_put (D : Dsk) (a : Nat) (b : List Nat) (k x : Nat) : (D.put a b k).sec x = if a ≤ x ∧ x < a + k then (b.drop (128 * (x - a))).take 128 else D.sec x := by
  unfold Dsk.sec Dsk.put
  simp only
  rw [lastWrite_puts]
  by_cases h : a ≤ x ∧ x < a + k
  · rw [if_pos h, if_pos h]
  · rw [if_neg h, if_neg h]
theorem secs_congr {D E : Dsk} {a k : Nat} (h : ∀ i, i < k → D.sec (a + i) = E.sec (a + i)) : D.secs a k = E.secs a k := by
  unfold Dsk.secs
  congr 1
  exact List.map_congr_left fun i hi => h i (List.mem_range.1 hi)
def pageOf (D : Dsk) (n : Nat) : List Nat := D.secs (8 * n) 8
theorem page_put (D : Dsk) (n m : Nat) (b : List Nat) (hb : b.length = 1024) : pageOf (D.put (8 * n) b 8) m = if m = n then b else pageOf D m := by
  unfold pageOf
  by_cases h : m = n
  · subst h
    rw [if_pos rfl]
    have : (D.put (8 * m) b 8).secs (8 * m) 8 = ((List.range 8).map (part128 b)).flatten := by
      unfold Dsk.secs
      congr 1
      refine List.map_congr_left fun i hi => ?_
      have hi' := List.mem_range.1 hi
      rw [sec_put, if_pos (by omega), show 8 * m + i - 8 * m = i by omega]
      rfl
    rw [this, parts_flat b 8 (by omega), List.take_of_length_le (by omega)]
  · rw [if_neg h]
    refine secs_congr fun i hi => ?_
    rw [sec_put, if_neg (by omega)]
/-- the same bytes -/
def SameD (D E : Dsk) : Prop := E.last = D.last ∧ E.cache = D.cache
theorem SameD.refl (D : Dsk) : SameD D D := ⟨rfl, rfl⟩
theorem SameD.trans {D E F : Dsk} (h : SameD D E) (k : SameD E F) : SameD D F := ⟨k.1.trans h.1, k.2.trans h.2⟩
theorem SameD.page {D E : Dsk} (h : SameD D E) (n : Nat) : pageOf E n = pageOf D n := by
  unfold pageOf
  refine secs_congr fun i _ => ?_
  unfold Dsk.sec
  rw [h.1, h.2]
theorem SameD.pages {D E : Dsk} (h : SameD D E) : E.pages = D.pages := by unfold Dsk.pages; rw [h.1]
theorem same_begin (D : Dsk) (k : Nat) : SameD D (D.begin k).2 := D.begin_last k
theorem same_read (D : Dsk) (n : Int) : SameD D (D.read n).2.2 := by
  unfold Dsk.read
  split
  · exact same_begin D 1
  · split <;> exact ⟨rfl, rfl⟩
theorem read_good {D : Dsk} {n : Nat} (h : (D.read (n : Int)).1 = 0) : (D.read (n : Int)).2.1 = pageOf D n ∧ n < D.pages := by
  unfold Dsk.read at h ⊢
  split at h
  · rename_i h1; exact absurd h h1
  · rename_i h1
    rw [if_neg h1]
    split at h
    · cases h
    · rename_i h2
      rw [if_neg h2]
      exact ⟨by rw [Int.toNat_natCast]; rfl, by omega⟩
theorem write_bad {D : Dsk} {n : Int} {b : List Nat} (h : (D.write n b).1 ≠ 0) : SameD D (D.write n b).2 := by
  unfold Dsk.write at h ⊢
  split
  · exact same_begin D 2
  · split
    · exact ⟨rfl, rfl⟩
    · split
      · exact ⟨rfl, rfl⟩
      · rename_i h1 h2 h3
        rw [if_neg h1, if_neg h2, if_neg h3] at h
        exact absurd rfl h
theorem pl_write_yes {D : Dsk} {pg : Int} {l : List Nat} (h : (D.write pg l).1 = 0) : (D.begin 2).1 = 0 ∧ ∃ n : Nat, pg = (n : Int) ∧ n < D.pages ∧ (l.length = 1024 ∨ l.length = 128) ∧ D.write pg l = (0, (D.go 2).put (8 * n) l (l.length / 128)) := by
  by_cases hb : (D.begin 2).1 = 0
  · refine ⟨hb, ?_⟩
    have hrd : D.write pg l = if pg < 0 ∨ (D.pages : Int) ≤ pg then (2, D.go 2) else if l.length ≠ 1024 ∧ l.length ≠ 128 then (1, D.go 2) else (0, (D.go 2).put (8 * pg.toNat) l (l.length / 128)) := by unfold Dsk.write; rw [if_neg (by simpa using hb)]
    rw [hrd] at h ⊢
    split at h
    · cases h
    · rename_i h1
      split at h
      · cases h
      · rename_i h2
        refine ⟨pg.toNat, by omega, by omega, by omega, ?_⟩
        rw [if_neg h1, if_neg h2]
  · exfalso
    have hrd : D.write pg l = D.begin 2 := by unfold Dsk.write; rw [if_pos hb]
    rw [hrd] at h
    exact hb h
theorem write_good {D : Dsk} {n : Nat} {b : List Nat} (h : (D.write (n : Int) b).1 = 0) (hb : b.length = 1024) : n < D.pages ∧ (∀ m, pageOf (D.write (n : Int) b).2 m = if m = n then b else pageOf D m) ∧ (D.write (n : Int) b).2.pages = D.pages := by
  obtain ⟨_, m, e1, e2, _, e3⟩ := pl_write_yes h
  obtain rfl : n = m := by omega
  rw [e3]
  refine ⟨e2, fun m => ?_, rfl⟩
  simp only [hb]
  rw [show 1024 / 128 = 8 from rfl, page_put _ _ _ _ hb]
  split
  · rfl
  · exact (show SameD D (D.go 2) from ⟨rfl, rfl⟩).page m
/-- what a page holds -/
def Holds (D : Dsk) (n : Nat) : Option (Nat × List Nat) → Prop
  | some x => pageOf D n = sealed x.1 n x.2 ∧ SealOk x.1 x.2
  | none => ¬ IsPage n (pageOf D n)
theorem Holds.same {D E : Dsk} {n : Nat} {o : Option (Nat × List Nat)} (h : Holds D n o) (he : pageOf E n = pageOf D n) : Holds E n o := by
  cases o with
  | none => unfold Holds at *; rw [he]; exact h
  | some x => unfold Holds at *; rw [he]; exact h
/-- the pages at hand are as the disk has them -/
structure Coh (most : Nat) (D : Dsk) (L : List Hand) (C : Nat → Option (Nat × List Nat)) : Prop where
  page : ∀ n, n < D.pages → Holds D n (C n)
  hand : ∀ h, h ∈ L → h.num < D.pages ∧ C h.num = some (h.kind, h.pay)
  len : L.length ≤ most
theorem mem_forget {n : Nat} {L : List Hand} {h : Hand} (hm : h ∈ forget n L) : h ∈ L := (List.mem_filter.1 hm).1
theorem forget_len (n : Nat) (L : List Hand) : (forget n L).length ≤ L.length := List.length_filter_le _ _
theorem forget_len_lt {n : Nat} {L : List Hand} {h : Hand} (hm : h ∈ L) (hn : h.num = n) : (forget n L).length < L.length := by
  unfold forget
  exact List.length_filter_lt_length_iff_exists.2 ⟨h, hm, by simp [hn]⟩
theorem use_len {most : Nat} (h : Hand) {L : List Hand} (hl : L.length ≤ most) (hm : 1 ≤ most) : (usePage most h L).length ≤ most := by
  have := forget_len h.num L
  unfold usePage
  split
  · rw [List.length_drop]; simp; omega
  · omega
theorem mem_use {most : Nat} {h x : Hand} {L : List Hand} (hx : x ∈ usePage most h L) : x = h ∨ (x ∈ L ∧ x.num ≠ h.num) := by
  have key : x ∈ forget h.num L ++ [h] := by
    unfold usePage at hx
    split at hx
    · exact List.mem_of_mem_drop hx
    · exact hx
  rcases List.mem_append.1 key with k | k
  · exact .inr ⟨mem_forget k, forget_num x k⟩
  · exact .inl (by simpa using k)
theorem find_mem {n : Nat} {L : List Hand} {x : Hand} (h : findPage n L = some x) : x ∈ L ∧ x.num = n := by
  unfold findPage at h
  exact ⟨List.mem_of_find?_eq_some h, by have := List.find?_some h; simpa using this⟩
theorem open_sealed {k n : Nat} {p : List Nat} (h : SealOk k p) : IsPage n (sealed k n p) ∧ openKind n (sealed k n p) = k ∧ openPay n (sealed k n p) = p := by
  have hp := isPage_sealed k n p h
  obtain ⟨a, _, b, _⟩ := sealed_parts k n p h.2.2
  refine ⟨hp, ?_, ?_⟩
  · unfold openKind; rw [if_pos hp, a]
  · unfold openPay; rw [if_pos hp, b]
/-- what a read tells, if the disk does not fail -/
def tells (D : Dsk) (C : Nat → Option (Nat × List Nat)) (n : Nat) : Nat × List Nat × Nat :=
  if D.pages ≤ n then (0, [], 2) else match C n with
    | some x => (x.1, x.2, 0)
    | none => (0, [], 100)
theorem coh_read {most : Nat} {D : Dsk} {L : List Hand} {C : Nat → Option (Nat × List Nat)} (h : Coh most D L C) (hm : 1 ≤ most) (n : Nat) :
    Coh most (plRead most D L n).D (plRead most D L n).L C ∧ SameD D (plRead most D L n).D ∧
    (((plRead most D L n).kind, (plRead most D L n).pay, (plRead most D L n).err) = tells D C n ∨ (n < D.pages ∧ findPage n L = none ∧ (D.read (n : Int)).1 ≠ 0 ∧ plRead most D L n = ⟨0, [], (D.read (n : Int)).1, (D.read (n : Int)).2.2, L⟩)) := by
  have keep : ∀ E L', SameD D E → (∀ x, x ∈ L' → x ∈ L ∨ (x.num < D.pages ∧ C x.num = some (x.kind, x.pay))) → L'.length ≤ most → Coh most E L' C := fun E L' hs hL hl =>
    ⟨fun m hm' => (h.page m (by rw [← hs.pages]; exact hm')).same (hs.page m), fun x hx => by
      rw [hs.pages]
      rcases hL x hx with k | k
      · exact h.hand x k
      · exact k, hl⟩
  unfold plRead tells
  by_cases hp : D.pages ≤ n
  · rw [if_pos hp, if_pos hp]
    exact ⟨h, SameD.refl _, .inl rfl⟩
  · rw [if_neg hp, if_neg hp]
    cases hf : findPage n L with
    | some x =>
      obtain ⟨hx, hxn⟩ := find_mem hf
      obtain ⟨_, hc⟩ := h.hand x hx
      rw [hxn] at hc
      refine ⟨keep _ _ (SameD.refl _) (fun y hy => ?_) ?_, SameD.refl _, .inl ?_⟩
      · rcases List.mem_append.1 hy with k | k
        · exact .inl (mem_forget k)
        · have : y = x := by simpa using k
          rw [this]; exact .inl hx
      · have := forget_len_lt hx hxn
        have := h.len
        simp; omega
      · simp only [hc]
    | none =>
      simp only
      by_cases hr : (D.read (n : Int)).1 = 0
      · rw [if_neg (by simpa using hr)]
        obtain ⟨r1, r2⟩ := read_good hr
        rw [r1]
        have hh := h.page n r2
        have hs := same_read D (n : Int)
        cases hc : C n with
        | none =>
          rw [hc] at hh
          rw [if_neg hh]
          exact ⟨keep _ _ hs (fun y hy => .inl hy) h.len, hs, .inl rfl⟩
        | some x =>
          rw [hc] at hh
          obtain ⟨hh1, hh2⟩ := hh
          rw [hh1]
          obtain ⟨o1, o2, o3⟩ := open_sealed (n := n) hh2
          rw [if_pos o1, o2, o3]
          refine ⟨keep _ _ hs (fun y hy => ?_) (use_len _ h.len hm), hs, .inl rfl⟩
          rcases mem_use hy with k | k
          · rw [k]; exact .inr ⟨by simp only; omega, hc⟩
          · exact .inl k.1
      · rw [if_pos hr]
        exact ⟨keep _ _ (same_read D (n : Int)) (fun y hy => .inl hy) h.len, same_read D (n : Int), .inr ⟨by omega, by first | rfl | trivial, hr, rfl⟩⟩
theorem coh_forget {most : Nat} {D : Dsk} {L : List Hand} {C : Nat → Option (Nat × List Nat)} (h : Coh most D L C) (n : Nat) : Coh most D (forget n L) C :=
  ⟨h.page, fun x hx => h.hand x (mem_forget hx), Nat.le_trans (forget_len _ _) h.len⟩
theorem coh_same {most : Nat} {D E : Dsk} {L : List Hand} {C : Nat → Option (Nat × List Nat)} (h : Coh most D L C) (hs : SameD D E) : Coh most E L C :=
  ⟨fun m hm' => (h.page m (by rw [← hs.pages]; exact hm')).same (hs.page m), fun x hx => by rw [hs.pages]; exact h.hand x hx, h.len⟩
theorem coh_write {most : Nat} {D : Dsk} {L : List Hand} {C : Nat → Option (Nat × List Nat)} (h : Coh most D L C) (hm : 1 ≤ most) (n k : Nat) (p : List Nat) :
    Coh most (plWrite most D L n k p).D (plWrite most D L n k p).L (if (plWrite most D L n k p).err = 0 then turn C n (some (k, p)) else C) ∧ (plWrite most D L n k p).D.pages = D.pages := by
  unfold plWrite
  by_cases hs : SealOk k p
  · rw [if_pos hs]
    by_cases hp : D.pages ≤ n
    · rw [if_pos hp]
      exact ⟨by simpa using h, rfl⟩
    · rw [if_neg hp]
      by_cases hw : (D.write (n : Int) (sealed k n p)).1 = 0
      · rw [if_neg (by simpa using hw)]
        obtain ⟨w1, w2, w3⟩ := write_good hw (sealed_length _ _ _ hs.2.2)
        simp only [if_true]
        refine ⟨⟨fun m hm' => ?_, fun x hx => ?_, use_len _ h.len hm⟩, w3⟩
        · rw [w3] at hm'
          by_cases e : m = n
          · subst e
            rw [turn_same]
            exact ⟨by rw [w2 m, if_pos rfl], hs⟩
          · rw [turn_other _ _ _ _ e]
            exact (h.page m hm').same (by rw [w2 m, if_neg e])
        · rw [w3]
          rcases mem_use hx with e | ⟨e1, e2⟩
          · rw [e]; exact ⟨w1, by rw [turn_same]⟩
          · rw [turn_other _ _ _ _ e2]; exact h.hand x e1
      · rw [if_pos hw]
        have hsd := write_bad hw
        simp only [if_neg hw]
        exact ⟨coh_same (coh_forget h n) hsd, hsd.pages⟩
  · rw [if_neg hs]
    exact ⟨by simpa using h, rfl⟩
/-- a new disk's pages are none -/
theorem zero_noPage (n : Nat) : ¬ IsPage n (List.replicate 1024 0) := by
  rintro ⟨_, _, h, _⟩
  have : kindOf (List.replicate 1024 0) = 0 := by decide
  unfold SealOk at h
  omega
theorem new_page (p n : Nat) (h : n < p) : pageOf (Dsk.new p) n = List.replicate 1024 0 := by
  unfold pageOf
  rw [secs_last _ rfl]
  have : ((List.range 8).map fun i => (Dsk.new p).last.getD (8 * n + i) []) = List.replicate 8 zeroSect := by
    apply List.ext_getElem
    · simp
    · intro i h1 h2
      have hi : i < 8 := by simpa using h1
      have hl : 8 * n + i < 8 * p := by omega
      rw [List.getElem_map, List.getElem_replicate, List.getElem_range]
      simp [Dsk.new, List.getD_eq_getElem?_getD, hl]
  rw [this]
  unfold zeroSect
  rw [List.flatten_replicate_replicate]
theorem coh_new (most p : Nat) (h1 : 1 ≤ p) (h2 : p ≤ 16384) : Coh most (Dsk.new p) [] (fun _ => none) :=
  ⟨fun n hn => by
    have hp : (Dsk.new p).pages = p := Dsk.new_pages p
    rw [hp] at hn
    unfold Holds
    rw [new_page p n hn]
    exact zero_noPage n, fun x hx => by simp at hx, Nat.zero_le _⟩
end Go.Proofs.Ytfbjjblgcgjndaa

/- Walk of the pool laws' known. -/
namespace Go.Proofs.Ytfbjjblgcgjndaa
open Go.RowKit Go.Maps

theorem calm_miss {most : Nat} {D : Dsk} {L : List Hand} {n k : Nat} {p : List Nat} (hc : D.Calm) (hn : n < D.pages) (hf : findPage n L = none) (hh : Holds D n (some (k, p))) : plRead most D L n = ⟨k, p, 0, D.go 1, usePage most ⟨n, k, p⟩ L⟩ := by
  have hr := hc.read n hn
  obtain ⟨h1, h2⟩ := hh
  have h1' : D.secs (8 * n) 8 = sealed k n p := h1
  obtain ⟨o1, o2, o3⟩ := open_sealed (n := n) h2
  simp only at o1 o2 o3
  unfold plRead
  rw [if_neg (by omega), hf]
  simp only
  rw [hr]
  simp only [ne_eq, not_true_eq_false, if_false]
  rw [h1', if_pos o1, o2, o3]
theorem calm_hit {most : Nat} {D : Dsk} {L : List Hand} {n : Nat} {x : Hand} (hn : n < D.pages) (hf : findPage n L = some x) : plRead most D L n = ⟨x.kind, x.pay, 0, D, forget n L ++ [x]⟩ := by
  unfold plRead
  rw [if_neg (by omega), hf]
theorem calm_write {most : Nat} {D : Dsk} {L : List Hand} {n k : Nat} {p : List Nat} (hc : D.Calm) (hn : n < D.pages) (hs : SealOk k p) : plWrite most D L n k p = ⟨0, (D.go 2).put (8 * n) (sealed k n p) 8, usePage most ⟨n, k, p⟩ L⟩ := by
  have hl := sealed_length k n p hs.2.2
  have hw := hc.write n hn (sealed k n p) (.inl hl)
  unfold plWrite
  rw [if_pos hs, if_neg (by omega), hw, hl]
  simp
theorem put_pages (D : Dsk) (k a : Nat) (b : List Nat) (j : Nat) : ((D.go k).put a b j).pages = D.pages := rfl
theorem go_pages (D : Dsk) (k : Nat) : (D.go k).pages = D.pages := rfl
theorem small_put {D : Dsk} {j : Nat} (h : Small D j) (a : Nat) (b : List Nat) : Small ((D.go 2).put a b 8) (j + 1) :=
  h.more (by show (D.cache ++ puts a b 8).length ≤ _; rw [List.length_append, puts_length]; omega) (turn_le D.n 2)
section
variable {n0 : Nat} {w : World} {P d most : Nat} {D : Dsk} {L : List Hand} {c j : Nat} {X : Nat → Prop}
/-- a page of one byte is written -/
theorem lit_write (h : PoolX n0 w P d most D L c X) (n k v : Nat) (N K V : Int) (fr : Nat × Nat) (hN : N = (n : Int)) (hK : K = (k : Int)) (hV : V = (v : Int)) (hn : n < D.pages) (hk : 1 ≤ k ∧ k ≤ 4) (hv : v < 256) (hc : D.Calm) (hs : Small D j) (hj : j ≤ 10000000) (hm : most ≤ 4611686018427387904) (hcc : c ≤ 100000000) :
    Calls Try.prog 80 #[.pointer (some ⟨P, 0, none⟩), .int .u32 N, .int .u8 K, .slice (some ⟨w.heap.size, 0, none⟩) 1 1] (w.alloc (.cells #[.int .u8 V] 5 fr))
      fun e w' => e = .returned (.int .u16 0) ∧ PoolX n0 w' P d most ((D.go 2).put (8 * n) (sealed k n [v]) 8) (usePage most ⟨n, k, [v]⟩ L) (c + 1) X ∧ Step n0 X w w' := by
  subst hN hK hV
  have hpb : D.pages ≤ 16384 := by
    obtain ⟨q, a, _, b⟩ := h.ok.pages
    unfold Dsk.pages; omega
  have hb := below_alloc0 (Below.refl w.heap.size w) (.cells #[.int .u8 (v : Int)] 5 fr)
  have h2 := h.also hb (Y := fun g => g = w.heap.size) (fun g hg => ⟨by omega, by simp; omega⟩)
  have hA : At (w.alloc (.cells #[.int .u8 (v : Int)] 5 fr)) (some ⟨w.heap.size, 0, none⟩) (ns .u8 [v]) := At.whole (xs := ns .u8 [v]) (heap_alloc_new w _)
  have hw := plwrite_any h2 n k (by omega) (by omega) [v] (some ⟨w.heap.size, 0, none⟩) 1 1 rfl (fun w' hw' => hA.chg hw'.1 (fun a ha e => e (.inr (by cases ha; rfl)))) (fun e => by cases e) (fun x hx => by simp at hx; omega) (hs.c (by omega)) (hs.m (by omega) 2) hm (by omega)
  rw [calm_write hc hn ⟨hk.1, hk.2, by simp⟩] at hw
  refine hw.mono ?_
  rintro e w' ⟨rfl, a, b⟩
  exact ⟨rfl, a.less (fun g hg => .inl hg), (Step.of_below (X := X) hb h.n_le).trans b (fun g hg => .inl hg)⟩
/-- a page at hand is read -/
theorem hit_read (h : PoolX n0 w P d most D L c X) (n : Nat) (N : Int) (hN : N = (n : Int)) (hn : n < D.pages) (x : Hand) (hf : findPage n L = some x) :
    Calls Try.prog 81 #[.pointer (some ⟨P, 0, none⟩), .int .u32 N] w (PlRead n0 w P d most c X ⟨x.kind, x.pay, 0, D, forget n L ++ [x]⟩) := by
  subst hN
  have hpb : D.pages ≤ 16384 := by
    obtain ⟨q, a, _, b⟩ := h.ok.pages
    unfold Dsk.pages; omega
  exact plread_hit h n (by omega) hn x hf
theorem miss_read (h : PoolX n0 w P d most D L c X) (n k : Nat) (p : List Nat) (N : Int) (hN : N = (n : Int)) (hn : n < D.pages) (hf : findPage n L = none) (hc : D.Calm) (hh : Holds D n (some (k, p))) (hs : Small D j) (hj : j ≤ 10000000) (hm : most ≤ 4611686018427387904) (hcc : c ≤ 100000000) :
    Calls Try.prog 81 #[.pointer (some ⟨P, 0, none⟩), .int .u32 N] w (PlRead n0 w P d most c X ⟨k, p, 0, D.go 1, usePage most ⟨n, k, p⟩ L⟩) := by
  subst hN
  have hpb : D.pages ≤ 16384 := by
    obtain ⟨q, a, _, b⟩ := h.ok.pages
    unfold Dsk.pages; omega
  have := plread_any h n (by omega) (hs.c (by omega)) (hs.m (by omega) 1) hm (by omega)
  rw [calm_miss hc hn hf hh] at this
  exact this
theorem plcounts_any (h : PoolX n0 w P d most D L c X) : Calls Try.prog 56 #[.pointer (some ⟨d, 0, none⟩)] w fun e w' => e = .returned (.agg #[.int .i64 (D.n 1), .int .i64 (D.n 2), .int .i64 (D.n 3)]) ∧ Below w.heap.size w w' := by
  obtain ⟨S, hd, _⟩ := h.disk
  exact dg_counts hd
end
/-- a page written ahead is still there -/
theorem holds_put {D : Dsk} {n m k : Nat} {p : List Nat} (hs : SealOk k p) : Holds ((D.go 2).put (8 * n) (sealed k n p) 8) n (some (k, p)) := by
  refine ⟨?_, hs⟩
  rw [page_put _ _ _ _ (sealed_length _ _ _ hs.2.2), if_pos rfl]
theorem holds_put_other {D : Dsk} {n m k : Nat} {p : List Nat} {o : Option (Nat × List Nat)} (hs : SealOk k p) (h : Holds D m o) (hm : m ≠ n) : Holds ((D.go 2).put (8 * n) (sealed k n p) 8) m o := by
  refine h.same ?_
  rw [page_put _ _ _ _ (sealed_length _ _ _ hs.2.2), if_neg hm]
  exact (show SameD D (D.go 2) from ⟨rfl, rfl⟩).page m
theorem field89 (a b c : Int) (w : World) : (Instr.field 89 (.agg #[.int .i64 a, .int .i64 b, .int .i64 c]) 0).run Try.prog w = .ok (.int .i64 a) w := by kernel_rfl
set_option maxRecDepth 100000 in
set_option maxHeartbeats 4000000 in
theorem known10_any (w : World) : Calls Try.prog 78 #[] w fun e w' => e = .returned (.bool true) ∧ Below w.heap.size w w' := by
  have kc := fun (w : World) (C : Array Value) (n c : Nat) => Lib.run_convert_bytes_const (P := Try.prog) w 23 5 C n c Try.underlying23 Try.underlying5
  have kf := field89
  go_enter Try.func78, Try.ntmps78
  go_wp2_with fail
  refine (dg_newl (n0 := w.heap.size) 9 w (Nat.le_refl _) (by omega) (by omega)).mono ?_
  rintro e w1 ⟨pd, Sd, rfl, hd, _, hb1⟩
  have HD := Lib.hid hd
  have HB1 := Lib.hid hb1
  clear hd hb1
  go_wp2_with fail
  refine (pnew_ok HD.out (X := fun _ => False) (fun g hg => hg.elim) 2 (by omega) (by omega)).mono ?_
  rintro e w2 ⟨P, rfl, hx2, hb2⟩
  have hb02 := below_next0 HB1.out hb2
  have HX2 := Lib.hid hx2
  have HB2 := Lib.hid hb02
  clear hx2 hb2 hb02
  obtain ⟨D0, hD0⟩ : ∃ D, D = Dsk.new 9 := ⟨_, rfl⟩
  have hc0 : D0.Calm := by rw [hD0]; exact Dsk.new_calm 9
  have hp0 : D0.pages = 9 := by rw [hD0]; exact Dsk.new_pages 9
  have hs0 : Small D0 0 := by rw [hD0]; exact Small.new 9
  have hn1 : D0.n 1 = 0 := by rw [hD0]; rfl
  rw [← hD0] at HX2
  have HC0 := Lib.hid hc0
  have HP0 := Lib.hid hp0
  have HS0 := Lib.hid hs0
  have HN1 := Lib.hid hn1
  clear hD0 hc0 hp0 hs0 hn1
  have hsl : ∀ v, SealOk 1 [v] := fun v => ⟨by omega, by omega, by simp⟩
  have HSL := Lib.hid hsl
  clear hsl
  go_wp2_with fail
  refine (lit_write HX2.out 2 1 97 _ _ _ _ rfl rfl rfl (by rw [HP0.out]; omega) (by omega) (by omega) HC0.out HS0.out (by omega) (by omega) (by omega)).mono ?_
  rintro e w3 ⟨rfl, hx3, hs3⟩
  obtain ⟨D1, hD1⟩ : ∃ D1, D1 = (D0.go 2).put (8 * 2) (sealed 1 2 [97]) 8 := ⟨_, rfl⟩
  have HC1 := Lib.hid (show D1.Calm by rw [hD1]; exact (HC0.out.go 2).put _ _ _)
  have HP1 := Lib.hid (show D1.pages = 9 by rw [hD1]; exact HP0.out)
  have HS1 := Lib.hid (show Small D1 1 by rw [hD1]; exact small_put HS0.out _ _)
  have HN1' := Lib.hid (show D1.n 1 = 0 by rw [hD1]; exact HN1.out)
  rw [← hD1] at hx3
  have HX3 := Lib.hid (show PoolX w.heap.size w3 P pd 2 D1 [⟨2, 1, [97]⟩] 1 (fun _ => False) from hx3)
  have HB3 := Lib.hid (HB2.out.trans hs3.2)
  clear hx3 hs3 hD1 HX2
  go_wp2_with fail
  refine (lit_write HX3.out 3 1 98 _ _ _ _ rfl rfl rfl (by rw [HP1.out]; omega) (by omega) (by omega) HC1.out HS1.out (by omega) (by omega) (by omega)).mono ?_
  rintro e w4 ⟨rfl, hx4, hs4⟩
  obtain ⟨D2, hD2⟩ : ∃ D2, D2 = (D1.go 2).put (8 * 3) (sealed 1 3 [98]) 8 := ⟨_, rfl⟩
  have HC2 := Lib.hid (show D2.Calm by rw [hD2]; exact (HC1.out.go 2).put _ _ _)
  have HP2 := Lib.hid (show D2.pages = 9 by rw [hD2]; exact HP1.out)
  have HS2 := Lib.hid (show Small D2 2 by rw [hD2]; exact small_put HS1.out _ _)
  have HN2 := Lib.hid (show D2.n 1 = 0 by rw [hD2]; exact HN1'.out)
  have HH2 := Lib.hid (show Holds D2 3 (some (1, [98])) by rw [hD2]; exact holds_put (m := 3) (HSL.out 98))
  rw [← hD2] at hx4
  have HX4 := Lib.hid (show PoolX w.heap.size w4 P pd 2 D2 [⟨2, 1, [97]⟩, ⟨3, 1, [98]⟩] 2 (fun _ => False) from hx4)
  have HB4 := Lib.hid (HB3.out.trans hs4.2)
  clear hx4 hs4 hD2 HX3
  go_wp2_with fail
  refine (hit_read HX4.out 2 _ rfl (by rw [HP2.out]; omega) ⟨2, 1, [97]⟩ rfl).mono ?_
  rintro e w5 ⟨A5, c5, rfl, hv5, hx5, hs5⟩
  have HX5 := Lib.hid (show PoolX w.heap.size w5 P pd 2 D2 [⟨3, 1, [98]⟩, ⟨2, 1, [97]⟩] 3 (blk (.slice A5 1 c5)) from hx5.less (fun g hg => .inr hg))
  have HV5 := Lib.hid (show Buf w4.heap.size w5 (.slice A5 1 c5) [97] from hv5)
  have HB5 := Lib.hid (HB4.out.trans hs5.2)
  clear hx5 hs5 hv5 HX4
  have hcn := plcounts_any HX5.out
  rw [HN2.out] at hcn
  have HCN := Lib.hid hcn
  clear hcn
  go_wp2_with fail
  refine HCN.out.mono ?_
  rintro e w6 ⟨rfl, hb6⟩
  have HX6 := Lib.hid (HX5.out.below hb6)
  have HV6 := Lib.hid (HV5.out.below hb6)
  have HB6 := Lib.hid (HB5.out.trans (Step.of_below (X := fun _ => False) hb6 HX5.out.n_le).2)
  clear hb6 HX5 HV5 HCN
  go_wp2_with fail
  refine (lit_write HX6.out 4 1 99 _ _ _ _ rfl rfl rfl (by rw [HP2.out]; omega) (by omega) (by omega) HC2.out HS2.out (by omega) (by omega) (by omega)).mono ?_
  rintro e w7 ⟨rfl, hx7, hs7⟩
  obtain ⟨D3, hD3⟩ : ∃ D3, D3 = (D2.go 2).put (8 * 4) (sealed 1 4 [99]) 8 := ⟨_, rfl⟩
  have HC3 := Lib.hid (show D3.Calm by rw [hD3]; exact (HC2.out.go 2).put _ _ _)
  have HP3 := Lib.hid (show D3.pages = 9 by rw [hD3]; exact HP2.out)
  have HS3 := Lib.hid (show Small D3 3 by rw [hD3]; exact small_put HS2.out _ _)
  have HN3 := Lib.hid (show D3.n 1 = 0 by rw [hD3]; exact HN2.out)
  have HH3 := Lib.hid (show Holds D3 3 (some (1, [98])) by rw [hD3]; exact holds_put_other (HSL.out 99) HH2.out (by omega))
  rw [← hD3] at hx7
  have HX7 := Lib.hid (show PoolX w.heap.size w7 P pd 2 D3 [⟨2, 1, [97]⟩, ⟨4, 1, [99]⟩] 4 (blk (.slice A5 1 c5)) from hx7)
  have HV7 := Lib.hid (show Buf w4.heap.size w7 (.slice A5 1 c5) [97] from own_chg HV6.out hs7.1 (fun g hg e => e hg))
  have HB7 := Lib.hid (HB6.out.trans hs7.2)
  clear hx7 hs7 hD3 HX6 HV6
  have HHA := Lib.hid (show Calls Try.prog 83 #[.pointer (some ⟨P, 0, none⟩), .int .u32 3] w7 fun x w' => x = .returned (.bool false) ∧ w7 = w' from plhas_any HX7.out 3 (by omega))
  go_wp2_with fail
  refine HHA.out.mono ?_
  rintro e w8 ⟨rfl, rfl⟩
  clear HHA
  go_wp2_with fail
  refine (miss_read HX7.out 3 1 [98] _ rfl (by rw [HP3.out]; omega) rfl HC3.out HH3.out HS3.out (by omega) (by omega) (by omega)).mono ?_
  rintro e w9 ⟨A9, c9, rfl, hv9, hx9, hs9⟩
  have HX9 := Lib.hid (show PoolX w.heap.size w9 P pd 2 (D3.go 1) [⟨4, 1, [99]⟩, ⟨3, 1, [98]⟩] 5 (fun _ => False) from hx9.less (fun g hg => hg.elim))
  have HV9 := Lib.hid (show Buf w7.heap.size w9 (.slice A9 1 c9) [98] from hv9)
  have HW9 := Lib.hid (show Buf w4.heap.size w9 (.slice A5 1 c5) [97] from own_chg HV7.out hs9.1 (fun g hg e => e hg))
  have HB9 := Lib.hid (HB7.out.trans hs9.2)
  have HN9 := Lib.hid (show (D3.go 1).n 1 = 1 by show turn D3.n 1 (D3.n 1 + 1) 1 = 1; rw [turn_same, HN3.out]; rfl)
  clear hx9 hs9 hv9 HX7 HV7
  have q1 := conv_str (P := Try.prog) w9 A5 c5 [97] 1 rfl (buf_at HW9.out).2 Try.underlying23 Try.underlying5 Try.underlying9
  have q2 := conv_str (P := Try.prog) w9 A9 c9 [98] 1 rfl (buf_at HV9.out).2 Try.underlying23 Try.underlying5 Try.underlying9
  have HHB := Lib.hid (show Calls Try.prog 83 #[.pointer (some ⟨P, 0, none⟩), .int .u32 2] w9 fun x w' => x = .returned (.bool false) ∧ w9 = w' from plhas_any HX9.out 2 (by omega))
  have HLN := Lib.hid (show Calls Try.prog 82 #[.pointer (some ⟨P, 0, none⟩)] w9 fun x w' => x = .returned (.int .i64 2) ∧ w9 = w' from pllen_any HX9.out)
  have hcn := plcounts_any HX9.out
  rw [HN9.out] at hcn
  have HCN := Lib.hid hcn
  clear hcn
  have s1 : (str [97]).toList = [97] := by rw [str_list]; rfl
  have s2 : (str [98]).toList = [98] := by rw [str_list]; rfl
  go_wp2_with fail
  refine HHB.out.mono ?_
  rintro e w10 ⟨rfl, rfl⟩
  go_wp2_with fail
  refine HLN.out.mono ?_
  rintro e w10 ⟨rfl, rfl⟩
  go_wp2_with fail
  refine HCN.out.mono ?_
  rintro e w10 ⟨rfl, hb10⟩
  go_wp2_with fail
  go_ret
  exact ⟨rfl, HB9.out.trans (Step.of_below (X := fun _ => False) hb10 HX9.out.n_le).2⟩
end Go.Proofs.Ytfbjjblgcgjndaa

/- Two pools, each over its own disk, side by side. -/
namespace Go.Proofs.Ytfbjjblgcgjndaa
open Go.RowKit

/-- two pools -/
def Two (n0 : Nat) (w : World) (P1 d1 m1 : Nat) (D1 : Dsk) (L1 : List Hand) (c1 : Nat) (P2 d2 m2 : Nat) (D2 : Dsk) (L2 : List Hand) (c2 : Nat) (X : Nat → Prop) : Prop :=
  ∃ U1 U2 : Nat → Prop, (∃ S1 T1, PoolOk n0 w P1 d1 m1 D1 L1 c1 S1 T1 ∧ U1 = fun g => S1 g ∨ T1 g) ∧ (∃ S2 T2, PoolOk n0 w P2 d2 m2 D2 L2 c2 S2 T2 ∧ U2 = fun g => S2 g ∨ T2 g) ∧ (∀ g, U1 g → ¬ U2 g) ∧ ∀ g, X g → g < w.heap.size ∧ ¬ U1 g ∧ ¬ U2 g
section
variable {n0 : Nat} {w w' : World} {P1 d1 m1 : Nat} {D1 : Dsk} {L1 : List Hand} {c1 : Nat} {P2 d2 m2 : Nat} {D2 : Dsk} {L2 : List Hand} {c2 : Nat} {X : Nat → Prop}
theorem Two.swap (h : Two n0 w P1 d1 m1 D1 L1 c1 P2 d2 m2 D2 L2 c2 X) : Two n0 w P2 d2 m2 D2 L2 c2 P1 d1 m1 D1 L1 c1 X := by
  obtain ⟨U1, U2, h1, h2, hs, hx⟩ := h
  exact ⟨U2, U1, h2, h1, fun g a b => hs g b a, fun g hg => ⟨(hx g hg).1, (hx g hg).2.2, (hx g hg).2.1⟩⟩
theorem Two.n_le (h : Two n0 w P1 d1 m1 D1 L1 c1 P2 d2 m2 D2 L2 c2 X) : n0 ≤ w.heap.size := by
  obtain ⟨U1, U2, ⟨S1, T1, h1, _⟩, _⟩ := h
  exact h1.disk.new_n
theorem Two.less (h : Two n0 w P1 d1 m1 D1 L1 c1 P2 d2 m2 D2 L2 c2 X) {X' : Nat → Prop} (hX : ∀ g, X' g → X g) : Two n0 w P1 d1 m1 D1 L1 c1 P2 d2 m2 D2 L2 c2 X' := by
  obtain ⟨U1, U2, h1, h2, hs, hx⟩ := h
  exact ⟨U1, U2, h1, h2, hs, fun g hg => hx g (hX g hg)⟩
theorem PoolOk.lt {P d most : Nat} {D : Dsk} {L : List Hand} {c : Nat} {S T : Nat → Prop} (h : PoolOk n0 w P d most D L c S T) (g : Nat) (hg : S g ∨ T g) : n0 ≤ g ∧ g < w.heap.size := by
  rcases hg with hg | hg
  · exact ⟨(h.disk.lt g hg).1, h.disk.top g hg⟩
  · exact h.pool.2 g hg
theorem PoolOk.keep {P d most : Nat} {D : Dsk} {L : List Hand} {c : Nat} {S T G : Nat → Prop} (h : PoolOk n0 w P d most D L c S T) (hc : Chg G w w') (hG : ∀ g, S g ∨ T g → ¬ G g) : PoolOk n0 w' P d most D L c S T :=
  ⟨h.disk.keep hc (fun g hg => hG g (.inl hg)), h.pool.keep hc (fun g hg => hG g (.inr hg)), h.sep⟩
/-- the first of them -/
theorem Two.one (h : Two n0 w P1 d1 m1 D1 L1 c1 P2 d2 m2 D2 L2 c2 X) : ∃ U : Nat → Prop, (∀ g, U g → n0 ≤ g) ∧ PoolX n0 w P1 d1 m1 D1 L1 c1 (fun g => X g ∨ U g) ∧
    ∀ w' D' L' c' (Y : Nat → Prop), PoolX n0 w' P1 d1 m1 D' L' c' (fun g => (X g ∨ U g) ∨ Y g) → Step n0 (fun g => X g ∨ U g) w w' → (∀ g, Y g → w.heap.size ≤ g) → Two n0 w' P1 d1 m1 D' L' c' P2 d2 m2 D2 L2 c2 (fun g => X g ∨ Y g) ∧ Step n0 X w w' := by
  obtain ⟨U1, U2, ⟨S1, T1, h1, rfl⟩, ⟨S2, T2, h2, rfl⟩, hs, hx⟩ := h
  refine ⟨fun g => S2 g ∨ T2 g, fun g hg => (h2.lt g hg).1, ⟨S1, T1, h1, fun g hg => ?_⟩, fun w' D' L' c' Y hp hst hY => ⟨?_, hst.1.mono (fun g _ a b => a (.inl b)), hst.2⟩⟩
  · rcases hg with hg | hg
    · exact ⟨(hx g hg).1, fun e => (hx g hg).2.1 (.inl e), fun e => (hx g hg).2.1 (.inr e)⟩
    · exact ⟨(h2.lt g hg).2, fun e => hs g (.inl e) hg, fun e => hs g (.inr e) hg⟩
  · obtain ⟨S1', T1', h1', hx'⟩ := hp
    refine ⟨_, _, ⟨S1', T1', h1', rfl⟩, ⟨S2, T2, h2.keep hst.1 (fun g hg a => a (.inr hg)), rfl⟩, fun g hg e => ?_, fun g hg => ?_⟩
    · have := hx' g (.inl (.inr e))
      exact hg.elim this.2.1 this.2.2
    · rcases hg with hg | hg
      · have := hx' g (.inl (.inl hg))
        exact ⟨this.1, fun e => e.elim this.2.1 this.2.2, (hx g hg).2.2⟩
      · have := hx' g (.inr hg)
        exact ⟨this.1, fun e => e.elim this.2.1 this.2.2, fun e => by have := (h2.lt g e).2; have := hY g hg; omega⟩
theorem Two.keep (h : Two n0 w P1 d1 m1 D1 L1 c1 P2 d2 m2 D2 L2 c2 X) {G : Nat → Prop} (hc : Chg G w w') (hG : ∀ g, g < w.heap.size → G g → X g) : Two n0 w' P1 d1 m1 D1 L1 c1 P2 d2 m2 D2 L2 c2 X := by
  obtain ⟨U1, U2, ⟨S1, T1, h1, rfl⟩, ⟨S2, T2, h2, rfl⟩, hs, hx⟩ := h
  refine ⟨_, _, ⟨S1, T1, h1.keep hc (fun g hg e => (hx g (hG g (h1.lt g hg).2 e)).2.1 hg), rfl⟩, ⟨S2, T2, h2.keep hc (fun g hg e => (hx g (hG g (h2.lt g hg).2 e)).2.2 hg), rfl⟩, hs, fun g hg => ⟨Nat.lt_of_lt_of_le (hx g hg).1 hc.size, (hx g hg).2⟩⟩
theorem Two.below (h : Two n0 w P1 d1 m1 D1 L1 c1 P2 d2 m2 D2 L2 c2 X) (hb : Below w.heap.size w w') : Two n0 w' P1 d1 m1 D1 L1 c1 P2 d2 m2 D2 L2 c2 X :=
  h.keep (G := fun _ => False) (.of_below hb) (fun _ _ h => h.elim)
theorem Two.also (h : Two n0 w P1 d1 m1 D1 L1 c1 P2 d2 m2 D2 L2 c2 X) (hb : Below w.heap.size w w') {Y : Nat → Prop} (hY : ∀ g, Y g → w.heap.size ≤ g ∧ g < w'.heap.size) : Two n0 w' P1 d1 m1 D1 L1 c1 P2 d2 m2 D2 L2 c2 (fun g => X g ∨ Y g) := by
  have hb' := h.below hb
  obtain ⟨U1, U2, ⟨S1, T1, h1, rfl⟩, ⟨S2, T2, h2, rfl⟩, hs, hx⟩ := h
  have hc : Chg (fun _ => False) w w' := .of_below hb
  refine ⟨_, _, ⟨S1, T1, h1.keep hc (fun _ _ h => h), rfl⟩, ⟨S2, T2, h2.keep hc (fun _ _ h => h), rfl⟩, hs, fun g hg => ?_⟩
  rcases hg with hg | hg
  · exact ⟨Nat.lt_of_lt_of_le (hx g hg).1 hc.size, (hx g hg).2⟩
  · obtain ⟨a, b⟩ := hY g hg
    exact ⟨b, fun e => by have := (h1.lt g e).2; omega, fun e => by have := (h2.lt g e).2; omega⟩
def TwRead (n0 : Nat) (w : World) (P1 d1 m1 c1 P2 d2 m2 : Nat) (D2 : Dsk) (L2 : List Hand) (c2 : Nat) (X : Nat → Prop) (r : Rd) (e : Ending) (w' : World) : Prop :=
  ∃ A cap, e = .returned (.tuple #[.int .u8 (r.kind : Nat), .slice A r.pay.length cap, .int .u16 (r.err : Nat)]) ∧ Buf w.heap.size w' (.slice A r.pay.length cap) r.pay ∧ Two n0 w' P1 d1 m1 r.D r.L (c1 + 1) P2 d2 m2 D2 L2 c2 (fun g => X g ∨ blk (.slice A r.pay.length cap) g) ∧ Step n0 X w w'
theorem two_read (h : Two n0 w P1 d1 m1 D1 L1 c1 P2 d2 m2 D2 L2 c2 X) (n : Nat) (hn : n < 4294967296) {j : Nat} (hs : Small D1 j) (hj : j ≤ 10000000) (hm : m1 ≤ 4611686018427387904) (hcc : c1 ≤ 100000000) :
    Calls Try.prog 81 #[.pointer (some ⟨P1, 0, none⟩), .int .u32 (n : Int)] w (TwRead n0 w P1 d1 m1 c1 P2 d2 m2 D2 L2 c2 X (plRead m1 D1 L1 n)) := by
  obtain ⟨U, hU, hp, hst⟩ := h.one
  refine (plread_any hp n hn (hs.c (by omega)) (hs.m (by omega) 1) hm (by omega)).mono ?_
  rintro e w' ⟨A, cap, rfl, hb, hx, hs'⟩
  obtain ⟨a, b⟩ := hst w' _ _ _ (blk (.slice A (plRead m1 D1 L1 n).pay.length cap)) hx hs' (fun g hg => (row_lt hb hg).1)
  exact ⟨A, cap, rfl, hb, a, b⟩
theorem two_write (h : Two n0 w P1 d1 m1 D1 L1 c1 P2 d2 m2 D2 L2 c2 X) (n k : Nat) (hn : n < 4294967296) (hk : k < 256) (s : Inner) (hok : ∀ w', Below n0 w w' → s.Ok w') {j : Nat} (hs : Small D1 j) (hj : j ≤ 10000000) (hm : m1 ≤ 4611686018427387904) (hcc : c1 ≤ 100000000) :
    Calls Try.prog 80 #[.pointer (some ⟨P1, 0, none⟩), .int .u32 (n : Int), .int .u8 (k : Int), .slice s.A s.l.length s.c] w fun e w' => e = .returned (.int .u16 ((plWrite m1 D1 L1 n k s.l).err : Nat)) ∧ Two n0 w' P1 d1 m1 (plWrite m1 D1 L1 n k s.l).D (plWrite m1 D1 L1 n k s.l).L (c1 + 1) P2 d2 m2 D2 L2 c2 X ∧ Step n0 X w w' := by
  obtain ⟨U, hU, hp, hst⟩ := h.one
  have h0 := hok w (Below.refl _ _)
  refine (plwrite_any hp n k hn hk s.l s.A s.c s.l.length rfl (fun w' hw' => (hok w' hw'.2).lies) h0.nil h0.bytes (hs.c (by omega)) (hs.m (by omega) 2) hm (by omega)).mono ?_
  rintro e w' ⟨rfl, hx, hs'⟩
  obtain ⟨a, b⟩ := hst w' _ _ _ (fun _ => False) (hx.less (fun g hg => hg.elim id (fun e => e.elim))) hs' (fun g hg => hg.elim)
  exact ⟨rfl, a.less (fun g hg => .inl hg), b⟩
theorem two_forget (h : Two n0 w P1 d1 m1 D1 L1 c1 P2 d2 m2 D2 L2 c2 X) (n : Nat) (hn : n < 4294967296) :
    Calls Try.prog 85 #[.pointer (some ⟨P1, 0, none⟩), .int .u32 (n : Int)] w fun e w' => e = .returned (.tuple #[]) ∧ Two n0 w' P1 d1 m1 D1 (forget n L1) c1 P2 d2 m2 D2 L2 c2 X ∧ Step n0 X w w' := by
  obtain ⟨U, hU, hp, hst⟩ := h.one
  refine (plforget_any hp n hn).mono ?_
  rintro e w' ⟨rfl, hx, hs'⟩
  obtain ⟨a, b⟩ := hst w' _ _ _ (fun _ => False) (hx.less (fun g hg => hg.elim id (fun e => e.elim))) hs' (fun g hg => hg.elim)
  exact ⟨rfl, a.less (fun g hg => .inl hg), b⟩
theorem two_len (h : Two n0 w P1 d1 m1 D1 L1 c1 P2 d2 m2 D2 L2 c2 X) : Calls Try.prog 82 #[.pointer (some ⟨P1, 0, none⟩)] w fun x w' => x = .returned (.int .i64 (L1.length : Int)) ∧ w = w' := by
  obtain ⟨U, hU, hp, hst⟩ := h.one
  exact pllen_any hp
theorem two_sync (h : Two n0 w P1 d1 m1 D1 L1 c1 P2 d2 m2 D2 L2 c2 X) {j : Nat} (hs : Small D1 j) (hj : j ≤ 10000000) : Calls Try.prog 86 #[.pointer (some ⟨P1, 0, none⟩)] w fun e w' => e = .returned (.int .u16 (D1.sync.1 : Nat)) ∧ Two n0 w' P1 d1 m1 D1.sync.2 L1 c1 P2 d2 m2 D2 L2 c2 X ∧ Step n0 X w w' := by
  obtain ⟨U, hU, hp, hst⟩ := h.one
  refine (plsync_any hp (hs.c (by omega)) (hs.m (by omega) 3)).mono ?_
  rintro e w' ⟨rfl, hx, hs'⟩
  obtain ⟨a, b⟩ := hst w' _ _ _ (fun _ => False) (hx.less (fun g hg => hg.elim id (fun e => e.elim))) hs' (fun g hg => hg.elim)
  exact ⟨rfl, a.less (fun g hg => .inl hg), b⟩
theorem Two.moreC (h : Two n0 w P1 d1 m1 D1 L1 c1 P2 d2 m2 D2 L2 c2 X) {c1' c2' : Nat} (e1 : c1 ≤ c1') (e2 : c2 ≤ c2') : Two n0 w P1 d1 m1 D1 L1 c1' P2 d2 m2 D2 L2 c2' X := by
  obtain ⟨U1, U2, ⟨S1, T1, h1, rfl⟩, ⟨S2, T2, h2, rfl⟩, hs, hx⟩ := h
  exact ⟨_, _, ⟨S1, T1, ⟨h1.disk, h1.pool.moreC e1, h1.sep⟩, rfl⟩, ⟨S2, T2, ⟨h2.disk, h2.pool.moreC e2, h2.sep⟩, rfl⟩, hs, hx⟩
theorem two_new {S : Nat → Prop} (hp : PoolX n0 w P1 d1 m1 D1 L1 c1 S) (hd : DG n0 w d2 D2 S) (m : Nat) (h1 : 1 ≤ m) (hm : m ≤ 4611686018427387904) :
    Calls Try.prog 79 #[.pointer (some ⟨d2, 0, none⟩), .int .i64 (m : Int)] w fun e w' => ∃ P, e = .returned (.tuple #[.pointer (some ⟨P, 0, none⟩), .int .u16 0]) ∧ Two n0 w' P1 d1 m1 D1 L1 c1 P d2 m D2 [] 0 (fun _ => False) ∧ Below w.heap.size w w' := by
  obtain ⟨S1, T1, ho, hx⟩ := hp
  refine (pnew_ok hd (X := fun g => S1 g ∨ T1 g) (fun g hg => ⟨(ho.lt g hg).2, fun e => hg.elim (hx g e).2.1 (hx g e).2.2⟩) m h1 hm).mono ?_
  rintro e w' ⟨P, rfl, ⟨S2, T2, h2, hx2⟩, hb⟩
  refine ⟨P, rfl, ⟨_, _, ⟨S1, T1, ho.keep (G := fun _ => False) (.of_below hb) (fun _ _ h => h), rfl⟩, ⟨S2, T2, h2, rfl⟩, fun g hg e => ?_, fun g hg => hg.elim⟩, hb⟩
  have := hx2 g hg
  exact e.elim this.2.1 this.2.2
end
end Go.Proofs.Ytfbjjblgcgjndaa

/- Pool, plain laws: calm disks, lit disks, sync. -/
namespace Go.Proofs.Ytfbjjblgcgjndaa

theorem lastSet (l : List (List Nat)) (i x : Nat) (s : List Nat) (hx : x < l.length) : (l.set i s).getD x [] = if i = x then s else l.getD x [] := by
  rw [List.getD_eq_getElem?_getD, List.getD_eq_getElem?_getD, List.getElem?_set]
  by_cases h : i = x
  · subst h
    rw [if_pos rfl, if_pos hx, if_pos rfl]; rfl
  · rw [if_neg h, if_neg h]
theorem snoc_ind {α : Type} {P : List α → Prop} (h0 : P []) (h1 : ∀ c x, P c → P (c ++ [x])) (c : List α) : P c := by
  have : ∀ n (c : List α), c.length = n → P c := by
    intro n
    induction n with
    | zero => intro c hc; rw [List.eq_nil_of_length_eq_zero hc]; exact h0
    | succ n ih =>
      intro c hc
      have hne : c ≠ [] := fun e => by rw [e] at hc; simp at hc
      rw [← List.dropLast_concat_getLast hne]
      exact h1 _ _ (ih _ (by simp [hc]))
  exact this _ c rfl
theorem settled_all (l : List (List Nat)) (x : Nat) (hx : x < l.length) (c : List (Nat × List Nat)) : (settled l c (fun _ => true) c.length).getD x [] = (lastWrite c x).getD (l.getD x []) := by
  induction c using snoc_ind with
  | h0 => rfl
  | h1 c y ih =>
    obtain ⟨a, s⟩ := y
    rw [List.length_append, List.length_singleton, settled_snoc, if_pos rfl, lastSet _ _ _ _ (by rw [settled_length]; exact hx), lastWrite_append, ih]
    simp only
    split <;> rfl
theorem sec_settle (D : Dsk) (x : Nat) (hx : x < D.last.length) : (D.settle fun _ => true).sec x = D.sec x := by
  have h := settled_all D.last x hx D.cache
  have e : (D.settle fun _ => true).sec x = (settled D.last D.cache (fun _ => true) D.cache.length).getD x [] := rfl
  rw [e, h]
  unfold Dsk.sec
  cases lastWrite D.cache x <;> rfl
theorem page_settle (D : Dsk) (n : Nat) (hn : n < D.pages) : pageOf (D.settle fun _ => true) n = pageOf D n := by
  unfold pageOf
  refine secs_congr fun i hi => sec_settle D _ ?_
  unfold Dsk.pages at hn
  omega
/-- the pages are the same -/
structure SameP (D E : Dsk) : Prop where
  pages : E.pages = D.pages
  page : ∀ n, n < D.pages → pageOf E n = pageOf D n
theorem SameD.p {D E : Dsk} (h : SameD D E) : SameP D E := ⟨h.pages, fun n _ => h.page n⟩
theorem SameP.trans {D E F : Dsk} (h : SameP D E) (k : SameP E F) : SameP D F := ⟨k.pages.trans h.pages, fun n hn => (k.page n (by rw [h.pages]; exact hn)).trans (h.page n hn)⟩
theorem coh_pages {most : Nat} {D E : Dsk} {L : List Hand} {C : Nat → Option (Nat × List Nat)} (h : Coh most D L C) (hs : SameP D E) : Coh most E L C :=
  ⟨fun m hm' => by
    rw [hs.pages] at hm'
    exact (h.page m hm').same (hs.page m hm'), fun x hx => by rw [hs.pages]; exact h.hand x hx, h.len⟩
theorem coh_bare {most : Nat} {D : Dsk} {L : List Hand} {C : Nat → Option (Nat × List Nat)} (h : Coh most D L C) (m : Nat) : Coh m D [] C :=
  ⟨h.page, fun x hx => by simp at hx, Nat.zero_le _⟩
theorem same_sync (D : Dsk) : SameP D D.sync.2 := by
  unfold Dsk.sync
  split
  · exact (same_begin D 3).p
  · exact ⟨by simp only; rw [Dsk.settle_pages]; rfl, fun n hn => by
      simp only
      rw [page_settle (D.go 3) n hn]
      exact (show SameD D (D.go 3) from ⟨rfl, rfl⟩).page n⟩
section
variable {most : Nat} {D : Dsk} {L : List Hand} {C : Nat → Option (Nat × List Nat)} {j : Nat}
/-- a pool over a disk that does not fail -/
structure Even (most j N : Nat) (D : Dsk) (L : List Hand) (C : Nat → Option (Nat × List Nat)) : Prop where
  coh : Coh most D L C
  calm : D.Calm
  small : Small D j
  pages : D.pages = N
  one : 1 ≤ most
theorem small_rd {D : Dsk} {j : Nat} (h : Small D j) (most n : Nat) (L : List Hand) : Small (plRead most D L n).D (j + 1) := by
  unfold plRead
  split
  · exact h.mono (by omega)
  · split
    · exact h.mono (by omega)
    · split
      · exact h.read _
      · split <;> exact h.read _
theorem small_wr {D : Dsk} {j : Nat} (h : Small D j) (most n k : Nat) (p : List Nat) (L : List Hand) : Small (plWrite most D L n k p).D (j + 1) := by
  unfold plWrite
  split
  · split
    · exact h.mono (by omega)
    · split <;> exact h.write _ _
  · exact h.mono (by omega)
theorem calm_rd {D : Dsk} (h : D.Calm) (most n : Nat) (L : List Hand) : (plRead most D L n).D.Calm := by
  unfold plRead
  split
  · exact h
  · rename_i hp
    have hc : (D.read (n : Int)).2.2.Calm := by rw [h.read n (by omega)]; exact h.go 1
    split
    · exact h
    · split
      · exact hc
      · split <;> exact hc
theorem calm_wr {D : Dsk} (h : D.Calm) (most n k : Nat) (p : List Nat) (L : List Hand) : (plWrite most D L n k p).D.Calm := by
  unfold plWrite
  split
  · rename_i hs
    split
    · exact h
    · rename_i hp
      have hw := h.write n (by omega) (sealed k n p) (.inl (sealed_length k n p hs.2.2))
      have hc : (D.write (n : Int) (sealed k n p)).2.Calm := by rw [hw]; exact (h.go 2).put _ _ _
      split <;> exact hc
  · exact h
theorem Even.read {N : Nat} (h : Even most j N D L C) (n : Nat) : Even most (j + 1) N (plRead most D L n).D (plRead most D L n).L C ∧ ((plRead most D L n).kind, (plRead most D L n).pay, (plRead most D L n).err) = tells D C n := by
  obtain ⟨a, b, c⟩ := coh_read h.coh h.one n
  refine ⟨⟨a, calm_rd h.calm _ _ _, small_rd h.small _ _ _, b.pages.trans h.pages, h.one⟩, ?_⟩
  rcases c with c | ⟨c1, _, c2, _⟩
  · exact c
  · rw [h.calm.read n c1] at c2
    exact absurd rfl c2
theorem tells_eq {D E : Dsk} (h : D.pages = E.pages) (n : Nat) : tells D C n = tells E C n := by unfold tells; rw [h]
theorem calm_wr_err {D : Dsk} (h : D.Calm) (most n k : Nat) (p : List Nat) (L : List Hand) : (plWrite most D L n k p).err = if SealOk k p then (if D.pages ≤ n then 2 else 0) else 80 := by
  unfold plWrite
  by_cases hs : SealOk k p
  · rw [if_pos hs, if_pos hs]
    by_cases hp : D.pages ≤ n
    · rw [if_pos hp, if_pos hp]
    · rw [if_neg hp, if_neg hp]
      have hw := h.write n (by omega) (sealed k n p) (.inl (sealed_length k n p hs.2.2))
      rw [hw]
      simp
  · rw [if_neg hs, if_neg hs]
theorem Even.write {N : Nat} (h : Even most j N D L C) (n k : Nat) (p : List Nat) : Even most (j + 1) N (plWrite most D L n k p).D (plWrite most D L n k p).L (if (if SealOk k p then (if N ≤ n then 2 else 0) else 80) = 0 then turn C n (some (k, p)) else C) ∧ (plWrite most D L n k p).err = if SealOk k p then (if N ≤ n then 2 else 0) else 80 := by
  obtain ⟨a, b⟩ := coh_write h.coh h.one n k p
  have he := calm_wr_err h.calm most n k p L
  rw [h.pages] at he
  rw [he] at a
  exact ⟨⟨a, calm_wr h.calm _ _ _ _ _, small_wr h.small _ _ _ _ _, b.trans h.pages, h.one⟩, he⟩
theorem Even.forget {N : Nat} (h : Even most j N D L C) (n : Nat) : Even most j N D (forget n L) C := ⟨coh_forget h.coh n, h.calm, h.small, h.pages, h.one⟩
theorem Even.sync {N : Nat} (h : Even most j N D L C) : Even most (j + 1) N D.sync.2 L C ∧ D.sync.1 = 0 := by
  refine ⟨⟨coh_pages h.coh (same_sync D), by rw [h.calm.sync]; exact (h.calm.go 3).settle _, h.small.sync, (same_sync D).pages.trans h.pages, h.one⟩, by rw [h.calm.sync]⟩
theorem Even.mono {N j' : Nat} (h : Even most j N D L C) (hj : j ≤ j') : Even most j' N D L C := ⟨h.coh, h.calm, h.small.mono hj, h.pages, h.one⟩
theorem Even.new (N m : Nat) (h1 : 1 ≤ N) (h2 : N ≤ 16384) (hm : 1 ≤ m) : Even m 0 N (Dsk.new N) [] (fun _ => none) := ⟨coh_new m N h1 h2, Dsk.new_calm N, Small.new N, Dsk.new_pages N, hm⟩
/-- power is on, no trip is set -/
def Lit (D : Dsk) : Prop := D.dark = false ∧ D.trip = -1
theorem Lit.begin (h : Lit D) (k : Nat) : (D.begin k = (6, D.fall k) ∧ D.f k = 0) ∨ (D.begin k = (0, D.go k) ∧ D.f k ≠ 0) := by
  unfold Dsk.begin
  rw [if_neg (by simp [h.1]), if_neg (by have := h.2; omega)]
  by_cases e : D.f k = 0
  · rw [if_pos e]; exact .inl ⟨rfl, e⟩
  · rw [if_neg e]; exact .inr ⟨rfl, e⟩
theorem Lit.fall (h : Lit D) (k : Nat) : Lit (D.fall k) := ⟨h.1, by unfold Dsk.fall; simp only [h.2]; rfl⟩
theorem Lit.go (h : Lit D) (k : Nat) : Lit (D.go k) := ⟨h.1, by unfold Dsk.go; simp only [h.2]; rfl⟩
theorem Lit.beg (h : Lit D) (k : Nat) : Lit (D.begin k).2 := by
  rcases h.begin k with e | e
  · rw [e.1]; exact h.fall k
  · rw [e.1]; exact h.go k
theorem Lit.read (h : Lit D) (n : Int) : Lit (D.read n).2.2 := by
  unfold Dsk.read
  split
  · exact h.beg 1
  · split <;> exact h.go 1
theorem Lit.write (h : Lit D) (n : Int) (b : List Nat) : Lit (D.write n b).2 := by
  unfold Dsk.write
  split
  · exact h.beg 2
  · split
    · exact h.go 2
    · split
      · exact h.go 2
      · exact h.go 2
theorem Lit.sync (h : Lit D) : Lit D.sync.2 := by
  unfold Dsk.sync
  split
  · exact h.beg 3
  · exact h.go 3
theorem Lit.setFail (h : Lit D) (k n : Int) : Lit (D.setFail k n).2 := by
  unfold Dsk.setFail
  split
  · exact h
  · split <;> exact h
theorem same_setFail (D : Dsk) (k n : Int) : SameD D (D.setFail k n).2 := by
  unfold Dsk.setFail
  split
  · exact ⟨rfl, rfl⟩
  · split <;> exact ⟨rfl, rfl⟩
/-- a read that fails, fails once -/
theorem Lit.read_once (h : Lit D) (n : Nat) (hn : n < D.pages) (he : (D.read (n : Int)).1 ≠ 0) : (D.read (n : Int)).1 = 6 ∧ ((D.read (n : Int)).2.2.read (n : Int)).1 = 0 := by
  have hr : D.read (n : Int) = ((D.begin 1).1, [], (D.begin 1).2) ∧ (D.begin 1).1 ≠ 0 := by
    unfold Dsk.read at he ⊢
    split
    · rename_i h1; exact ⟨rfl, h1⟩
    · rename_i h1
      rw [if_neg h1, if_neg (by omega)] at he
      exact absurd rfl he
  rcases h.begin 1 with e | e
  · rw [hr.1, e.1]
    refine ⟨rfl, ?_⟩
    have hl := h.fall 1
    have hf : (D.fall 1).f 1 = -1 := by unfold Dsk.fall; simp only [turn_same]
    have hp : (D.fall 1).pages = D.pages := rfl
    simp only
    unfold Dsk.read
    rcases hl.begin 1 with e' | e'
    · rw [hf] at e'; exact absurd e'.2 (by omega)
    · rw [e'.1, if_neg (by simp), if_neg (by rw [hp]; omega)]
  · rw [e.1] at hr; exact absurd rfl hr.2
/-- a sync that fails, fails once -/
theorem Lit.sync_once (h : Lit D) (he : D.sync.1 ≠ 0) : D.sync.2.sync.1 = 0 := by
  have hs : D.sync = D.begin 3 := by
    unfold Dsk.sync at he ⊢
    split
    · rfl
    · rename_i h1; rw [if_neg h1] at he; exact absurd rfl he
  rcases h.begin 3 with e | e
  · rw [hs, e.1]
    have hl := h.fall 3
    have hf : (D.fall 3).f 3 = -1 := by unfold Dsk.fall; simp only [turn_same]
    simp only
    unfold Dsk.sync
    rcases hl.begin 3 with e' | e'
    · rw [hf] at e'; exact absurd e'.2 (by omega)
    · rw [e'.1]; simp
  · rw [hs, e.1] at he; exact absurd rfl he
theorem sync_bare (h : D.sync.1 = 0) : D.sync.2.cache = [] := by
  unfold Dsk.sync at h ⊢
  split
  · rename_i h1; rw [if_pos h1] at h; exact absurd h h1
  · rfl
/-- a cut of a disk with nothing under way -/
theorem same_cut (D : Dsk) (h : D.cache = []) (bs : List Bool) : SameD D (D.cut bs) := by
  refine ⟨?_, ?_⟩
  · show settled D.last D.cache _ D.cache.length = D.last
    rw [h, settled_none]
  · rw [h]; rfl
theorem cut_calm (D : Dsk) (bs : List Bool) : (D.cut bs).Calm := ⟨rfl, rfl, fun _ => rfl⟩
end
end Go.Proofs.Ytfbjjblgcgjndaa

/- What a statement's arguments are, as the walks ask it. -/
namespace Go.Proofs.Ytfbjjblgcgjndaa
open Go.ChangeShapes Go.WideShapes Go.ChangeAt Go.RowKit

theorem Try.own : ownKnob Try.prog.godebug = none := by kernel_rfl
theorem Try.laidOut : laidOutB Try.prog = true := by kernel_rfl

/-- A slice of integers that came in: it is nil; or it leads to a row of 'cap' cells, the numbers 'zs', each fitting its kind. -/
def IsRow (k : IntKind) (w : World) (a : Option Addr) (len cap : Nat) (zs : List Int) : Prop :=
  (a = none ∧ len = 0 ∧ cap = 0 ∧ zs = []) ∨
  ∃ x, a = some x ∧ len ≤ cap ∧ cap ≤ maxLen ∧ zs.length = cap ∧ (∀ i, i < zs.length → w.cell? (x.add i) = some (.int k (zs.getD i 0))) ∧ ∀ n ∈ zs, (Lit.int k n).wf = true

theorem wf_u8 {n : Int} (h : (Lit.int .u8 n).wf = true) : 0 ≤ n ∧ n < 256 := by
  simp [Lit.wf, IntKind.min, IntKind.max, IntKind.bits, IntKind.signed] at h; omega
theorem wf_u16 {n : Int} (h : (Lit.int .u16 n).wf = true) : 0 ≤ n ∧ n < 65536 := by
  simp [Lit.wf, IntKind.min, IntKind.max, IntKind.bits, IntKind.signed] at h; omega
theorem wf_u32 {n : Int} (h : (Lit.int .u32 n).wf = true) : 0 ≤ n ∧ n < 4294967296 := by
  simp [Lit.wf, IntKind.min, IntKind.max, IntKind.bits, IntKind.signed] at h; omega
theorem wf_u64 {n : Int} (h : (Lit.int .u64 n).wf = true) : 0 ≤ n ∧ n < 18446744073709551616 := by
  simp [Lit.wf, IntKind.min, IntKind.max, IntKind.bits, IntKind.signed] at h; omega
theorem wf_i64 {n : Int} (h : (Lit.int .i64 n).wf = true) : -9223372036854775808 ≤ n ∧ n ≤ 9223372036854775807 := by
  simp [Lit.wf, IntKind.min, IntKind.max, IntKind.bits, IntKind.signed] at h; omega

theorem nat_of {n : Int} {k : IntKind} (h : 0 ≤ n) : Value.int k n = .int k ((n.toNat : Nat) : Int) := by rw [Int.toNat_of_nonneg h]

theorem row_nat (k : IntKind) (M : Nat) (hk : ∀ n, (Lit.int k n).wf = true → 0 ≤ n ∧ n < M) {w : World} {a : Option Addr} {len cap : Nat} {zs : List Int} (h : IsRow k w a len cap zs) :
    ∃ l : List Nat, l.length = len ∧ At w a (ns k l) ∧ (a = none → cap = 0) ∧ len ≤ cap ∧ cap ≤ maxLen ∧ ∀ c ∈ l, c < M := by
  rcases h with ⟨rfl, rfl, rfl, rfl⟩ | ⟨x, rfl, h1, h2, h3, h4, h5⟩
  · exact ⟨[], rfl, At.nil _ _, fun _ => rfl, Nat.le_refl _, Nat.zero_le _, fun c hc => by simp at hc⟩
  · refine ⟨(zs.take len).map Int.toNat, by simp; omega, ?_, fun e => (by cases e), h1, h2, ?_⟩
    · intro hn
      have h0 : 0 < len := by
        rcases Nat.eq_zero_or_pos len with h | h
        · subst h; simp [ns] at hn
        · exact h
      have hc0 := h4 0 (by omega)
      obtain ⟨b, o, sp⟩ := x
      have hsp : sp = none := by
        cases sp with
        | none => rfl
        | some s => simp [Addr.add, World.cell?] at hc0; split at hc0 <;> simp at hc0
      subst hsp
      refine ⟨b, o, rfl, fun j v hv => ?_⟩
      have hj : j < len := by
        have := (List.getElem?_eq_some_iff.1 hv).1
        simp [ns] at this; omega
      have hc := h4 j (by omega)
      rw [Addr.add_mid] at hc
      rw [hc]
      have hz : zs[j]? = some (zs.getD j 0) := by simp [List.getElem?_eq_getElem (show j < zs.length by omega)]
      have hm : zs.getD j 0 ∈ zs := List.mem_of_getElem? hz
      have hb := hk _ (h5 _ hm)
      simp only [ns, List.map_map, List.getElem?_map, List.getElem?_take, if_pos hj, hz] at hv
      simp only [Option.map_some, Function.comp, Int.toNat_of_nonneg hb.1] at hv
      exact hv
    · intro c hc
      simp only [List.mem_map] at hc
      obtain ⟨n, hn, rfl⟩ := hc
      have := hk _ (h5 _ (List.mem_of_mem_take hn))
      omega
theorem row_bytes {w : World} {a : Option Addr} {len cap : Nat} {zs : List Int} (h : IsRow .u8 w a len cap zs) :
    ∃ l : List Nat, l.length = len ∧ At w a (ns .u8 l) ∧ (a = none → cap = 0) ∧ len ≤ cap ∧ cap ≤ maxLen ∧ Bytes l := row_nat .u8 256 (fun _ h => wf_u8 h) h
end Go.Proofs.Ytfbjjblgcgjndaa

/- One frame for all statements 'for every input the law returns true, and its arguments read as they did', and openings of nested arguments. -/
namespace Go.Proofs.Ytfbjjblgcgjndaa
open Go.ChangeShapes Go.WideShapes Go.ChangeAt Go.RowKit

section
variable {H : Type} {enc : TypeId × Value → H}
theorem trodAll_below {W W' : World} (hb : Below W.heap.size W W') : ∀ (ts : List TypeId) (vs : List Value) (ds : List (DataW H)) (ps : List MemPlace),
    DataW.TrodAll enc Try.prog W 0 (fun _ => true) true ts vs ds ps → (∀ t ∈ ts, Try.prog.readableRec t = true ∧ t < Try.prog.types.size) → (∀ x ∈ ps, x.block < W.heap.size) →
    DataW.TrodAll enc Try.prog W' 0 (fun b => decide (b < W.heap.size)) true ts vs ds ps := by
  intro ts
  induction ts with
  | nil =>
    intro vs ds ps h _ _
    cases vs <;> cases ds <;> first | exact h | exact h.elim
  | cons t ts ih =>
    intro vs ds ps h ht hlt
    cases vs with
    | nil => cases ds <;> exact h.elim
    | cons v vs =>
      cases ds with
      | nil => exact h.elim
      | cons d ds =>
        obtain ⟨p, q, h1, h2, rfl⟩ := h
        have hr := ht t (by simp)
        exact ⟨p, q, Below.trod Try.laidOut hr.1 hr.2 h1 hb (fun x hx => hlt x (by simp [hx])), ih vs ds q h2 (fun u hu => ht u (by simp [hu])) (fun x hx => hlt x (by simp [hx])), rfl⟩

set_option maxRecDepth 100000 in
theorem law_lifted (f : FuncId) (fn : Func) (s : ChangeSpec) (os : Os) (started : os.Started) (noInit : Try.prog.inits.idxOf? f = none) (hfn : Try.prog.funcs[f]? = some fn)
    (hvars : s.vars = []) (hspec : ∀ ds : List (DataW H), ds.length = fn.params.size → s.fn H (ds ++ []) = { results := [.lit (.bool true)], args := ds })
    (hres : fn.resultTypes = #[4]) (hty : ∀ t ∈ fn.params.toList, Try.prog.readableRec t = true ∧ t < Try.prog.types.size)
    (witness : ∃ (w : World) (tape : Tape) (i : Input), w.os = os ∧ (w.forCall tape i).Shaped Try.checked.prog ∧ i.vars = [] ∧ Input.okWide Try.checked.prog (w.forCall tape i) .any w.heap.size f i ∧
      s.pre6 enc Try.checked.prog fn [] false (w.forCall tape i).memory i.args ∧ ({} : Assume).holds Try.checked.prog (lone (Frame.enter Try.checked.prog f i.args .normal) [] (w.forCall tape i)))
    (contract : ∀ (W : World) (base : Nat) (args : Array Value) (ds : List (DataW H)) (p : List MemPlace),
      (∀ (j : Nat) t v, fn.params[j]? = some t → args[j]? = some v → Value.okWide Try.prog W .any base t v) →
      DataW.TrodAll enc Try.prog W 0 (fun _ => true) true fn.params.toList args.toList ds p →
      (DataW.weightsEach Try.prog fn.params.toList ds).all (· ≤ reachBytes) = true →
      Calls Try.prog f args W fun e W' => e = .returned (.bool true) ∧ Below W.heap.size W W') :
    ReturnsInHanded {} Try.checked os f .any (s.pre6 enc Try.prog fn [] false) (s.post enc Try.prog fn false true false false) := by
  refine returnsInHanded_of_change_sized (C := Try.checked) Try.own started noInit hfn witness ?_
  intro W base args ds gs before hval0 hW _ hsz0 _
  have hW' := hW
  obtain ⟨p, q, hA0, hV, rfl, hfz, hnd⟩ := hW
  have hA : DataW.TrodAll enc Try.prog W 0 (fun _ => true) true fn.params.toList args.toList ds p := hA0
  have hgs : gs = [] ∧ q = [] := by
    rw [hvars] at hV
    exact trodVars_none hV
  obtain ⟨rfl, rfl⟩ := hgs
  have hvt : s.plain.varTypes Try.checked.prog = [] := by
    unfold DataSpec.varTypes ChangeSpec.plain
    simp only [hvars, List.map_nil, List.filterMap_nil]
  have hsz : (DataW.weightsEach Try.prog fn.params.toList ds).all (· ≤ reachBytes) = true := by
    rw [hvt, List.append_nil, List.append_nil] at hsz0; exact hsz0
  have hlen : ds.length = fn.params.size := by
    have : ∀ (ts : List TypeId) (vs : List Value) (ds : List (DataW H)) (ps : List MemPlace), DataW.TrodAll enc Try.prog W 0 (fun _ => true) true ts vs ds ps → ds.length = ts.length := by
      intro ts
      induction ts with
      | nil => intro vs ds ps h; cases vs <;> cases ds <;> first | rfl | exact h.elim
      | cons t ts ih =>
        intro vs ds ps h
        cases vs with
        | nil => cases ds <;> exact h.elim
        | cons v vs => cases ds with
          | nil => exact h.elim
          | cons d ds => obtain ⟨p, q, h1, h2, rfl⟩ := h; simp [ih vs ds q h2]
    simpa using this _ _ _ _ hA
  have hlt : ∀ x ∈ p, x.block < W.heap.size := fun x hx => DataW.TrodAll.lt hA x hx
  refine (contract W base args ds p hval0 hA hsz).mono fun e W' ⟨he, bel⟩ => ?_
  subst he
  have hsp := hspec ds hlen
  refine ⟨_, rfl, ds, [], p ++ [], [], p, [], hW', ?_, ?_, ?_, bel.frame _, fun h => by cases h⟩
  · rw [hsp, hres]
    exact trodAll_mk1 (shut_bool Try.underlying4 _)
  · rw [hsp]
    exact trodAll_below bel _ _ _ _ hA hty hlt
  · rw [hsp, hvars]; rfl

theorem Try.cells5 : Try.prog.cellsOf 5 = 1 := by kernel_rfl
theorem Try.cells23 : Try.prog.cellsOf 23 = 1 := by kernel_rfl
theorem Try.bytes5 : Try.prog.bytesOf 5 = 1 := by kernel_rfl
theorem Try.bytes23 : Try.prog.bytesOf 23 = 24 := by kernel_rfl
theorem reach_num : reachBytes = 140737488351232 := by decide

theorem open_inner {W : World} {n : Nat} {v : Value} {d : DataW H} {pl : List MemPlace} (h : DataW.trod enc Try.prog W 0 (fun _ => true) true n 23 [v] = some (d, pl)) (hw : ∀ x ∈ d.weights Try.prog 23, x ≤ reachBytes) :
    ∃ r : Inner, v = r.val ∧ r.Ok W := by
  rcases open_ints Try.underlying23 Try.underlying5 Try.cells5 h with ⟨hcs, _⟩ | ⟨x, len, cap, zs, hcs, _, hl, hm, hz, hx, hcell, hwz⟩
  · injection hcs with hv
    subst hv
    exact ⟨⟨none, [], 0⟩, rfl, ⟨At.nil _ _, fun _ => rfl, Nat.le_refl _, by simp, Bytes.nil⟩⟩
  · injection hcs with hv
    subst hv
    injection hx with hd _
    subst hd
    have hz' : zs.length = cap := by simpa using hz
    have hrow : IsRow .u8 W (some x) len cap zs := .inr ⟨x, rfl, hl, hm, hz', hcell, hwz⟩
    obtain ⟨l, rfl, hA, hnil, hc, hcm, hb⟩ := row_bytes hrow
    refine ⟨⟨some x, l, cap⟩, rfl, ⟨hA, fun e => (by cases e), hc, ?_, hb⟩⟩
    have := hw cap (by
      simp only [DataW.weights, Try.underlying23, Try.bytes5, lits, List.length_map, List.length_take, List.length_drop]
      refine List.mem_cons.2 (.inl ?_)
      omega)
    rw [reach_num] at this
    exact Nat.le_trans hc this

theorem weights_elem {P : Program} {t e : TypeId} (hu : P.underlying t = some (.slice e)) {elems spare : List (DataW H)} {d : DataW H} (hd : d ∈ elems ∨ d ∈ spare) : ∀ x ∈ d.weights P e, x ∈ (DataW.slice elems spare).weights P t := by
  have key : ∀ (l : List (DataW H)), d ∈ l → ∀ x ∈ d.weights P e, x ∈ DataW.weightsAll P e l := by
    intro l
    induction l with
    | nil => intro h; simp at h
    | cons a l ih =>
      intro h x hx
      simp only [DataW.weightsAll, List.mem_append]
      rcases List.mem_cons.1 h with rfl | h
      · exact .inl hx
      · exact .inr (ih h x hx)
  intro x hx
  simp only [DataW.weights, hu, List.mem_cons, List.mem_append]
  rcases hd with hd | hd
  · exact .inr (.inl (key _ hd x hx))
  · exact .inr (.inr (key _ hd x hx))

theorem addr_plain {w : World} {x : Addr} {v : Value} (h : w.cell? x = some v) : x = ⟨x.block, x.off, none⟩ := by
  obtain ⟨b, o, sp⟩ := x
  cases sp with
  | none => rfl
  | some s => simp [World.cell?] at h; split at h <;> simp at h

/-- a slice whose elements are one cell each: its cells, each with its own reading -/
theorem open_one {W : World} {t e : TypeId} {v : Value} {d : DataW H} {pl : List MemPlace} (ht : Try.prog.underlying t = some (.slice e)) (hc : Try.prog.cellsOf e = 1) (h : DataW.Trod enc Try.prog W 0 (fun _ => true) true t v d pl) (hv : v.cells.toList = [v])
    (hw : ∀ x ∈ d.weights Try.prog t, x ≤ reachBytes) (R : Value → Prop) (hR : ∀ n v d pl, DataW.trod enc Try.prog W 0 (fun _ => true) true n e [v] = some (d, pl) → (∀ x ∈ d.weights Try.prog e, x ≤ reachBytes) → R v) :
    ∃ (A : Option Addr) (c : Nat) (vs : List Value), v = .slice A vs.length c ∧ At W A vs ∧ (∀ u ∈ vs, R u) ∧ (A = none → c = 0) ∧ vs.length ≤ c ∧ c * Try.prog.bytesOf e ≤ reachBytes := by
  obtain ⟨fuel, hf⟩ := h
  rw [hv] at hf
  rcases Deep.open_slice1 ht hc hf with ⟨hcs, _⟩ | ⟨a, len, cap, m, n, V, D, Pl, hcs, _, hl, hm, hmm, hx, hcell⟩
  · injection hcs with hv'
    subst hv'
    exact ⟨none, 0, [], rfl, At.nil _ _, fun u hu => by simp at hu, fun _ => rfl, Nat.le_refl _, by simp⟩
  · injection hcs with hv'
    subst hv'
    have hmm' : m = cap := by simpa using hmm
    subst hmm'
    injection hx with hd _
    refine ⟨some a, m, (List.range len).map V, by simp, ?_, ?_, fun e => (by cases e), by simpa using hl, ?_⟩
    · intro hn
      have h0 : 0 < len := by
        rcases Nat.eq_zero_or_pos len with h | h
        · subst h; simp at hn
        · exact h
      have hc0 := (hcell 0 (by omega)).1
      have ha : a = ⟨a.block, a.off, none⟩ := by
        refine addr_plain (w := W) (v := V 0) ?_
        simpa [Addr.add] using hc0
      refine ⟨a.block, a.off, by rw [← ha], fun j u hu => ?_⟩
      have hj : j < len := by simpa using (List.getElem?_eq_some_iff.1 hu).1
      have := (hcell j (by omega)).1
      rw [ha, Addr.add_mid] at this
      rw [this]
      simpa [hj] using hu
    · intro u hu
      simp only [List.mem_map, List.mem_range] at hu
      obtain ⟨i, hi, rfl⟩ := hu
      have hc := hcell i (by omega)
      refine hR n (V i) (D i) (Pl i) hc.2 fun x hx => hw x ?_
      rw [hd]
      exact weights_elem ht (.inl (List.mem_map.2 ⟨i, List.mem_range.2 hi, rfl⟩)) x hx
    · have := hw (m * Try.prog.bytesOf e) (by
        rw [hd]
        simp only [DataW.weights, ht, List.length_map, List.length_range]
        refine List.mem_cons.2 (.inl ?_)
        rw [show len + (m - len) = m from by omega])
      exact this
theorem open_rows {W : World} {v : Value} {d : DataW H} {pl : List MemPlace} (h : DataW.Trod enc Try.prog W 0 (fun _ => true) true 30 v d pl) (hv : v.cells.toList = [v]) (hw : ∀ x ∈ d.weights Try.prog 30, x ≤ reachBytes) :
    ∃ (A : Option Addr) (c : Nat) (rs : List Inner), v = .slice A rs.length c ∧ At W A (rs.map Inner.val) ∧ (∀ r ∈ rs, r.Ok W) ∧ (A = none → c = 0) ∧ rs.length ≤ c ∧ c * 24 ≤ reachBytes := by
  obtain ⟨A, c, vs, rfl, hA, hR, hn, hl, hb⟩ := open_one Try.underlying30 Try.cells23 h hv hw (fun v => ∃ r : Inner, v = r.val ∧ r.Ok W) (fun n v d pl h hw => open_inner h hw)
  obtain ⟨rs, hrs⟩ : ∃ rs : List Inner, vs = rs.map Inner.val ∧ ∀ r ∈ rs, r.Ok W := by
    clear hA hl hb h hv hw
    induction vs with
    | nil => exact ⟨[], rfl, fun r hr => by simp at hr⟩
    | cons v vs ih =>
      obtain ⟨r, rfl, hr⟩ := hR v (by simp)
      obtain ⟨rs, rfl, h⟩ := ih (fun u hu => hR u (by simp [hu]))
      exact ⟨r :: rs, rfl, fun q hq => by
        rcases List.mem_cons.1 hq with rfl | hq
        · exact hr
        · exact h q hq⟩
  obtain ⟨rfl, hok⟩ := hrs
  rw [Try.bytes23] at hb
  refine ⟨A, c, rs, by simp, hA, hok, hn, by simpa using hl, hb⟩
end
end Go.Proofs.Ytfbjjblgcgjndaa

/- Openings of arguments, one law a type: numbers, bytes. -/
namespace Go.Proofs.Ytfbjjblgcgjndaa
open Go.ChangeShapes Go.WideShapes Go.ChangeAt Go.RowKit Go.Deep

section
variable {H : Type} {enc : TypeId × Value → H} {W : World} {r : Reach} {b0 : Nat} {v : Value} {d : DataW H} {p : List MemPlace}
set_option maxRecDepth 100000 in
theorem open_u8 (hv : Value.okWide Try.prog W r b0 5 v) (h : DataW.Trod enc Try.prog W 0 (fun _ => true) true 5 v d p) : ∃ n : Nat, v = .int .u8 (n : Int) ∧ n < 256 := by
  obtain ⟨a, rfl, _, _, w⟩ := open_int Try.underlying5 hv h
  obtain ⟨h1, h2⟩ := wf_u8 w
  obtain ⟨n, rfl⟩ := Int.eq_ofNat_of_zero_le h1
  exact ⟨n, rfl, by omega⟩
set_option maxRecDepth 100000 in
theorem open_u16 (hv : Value.okWide Try.prog W r b0 36 v) (h : DataW.Trod enc Try.prog W 0 (fun _ => true) true 36 v d p) : ∃ n : Nat, v = .int .u16 (n : Int) ∧ n < 65536 := by
  obtain ⟨a, rfl, _, _, w⟩ := open_int Try.underlying36 hv h
  obtain ⟨h1, h2⟩ := wf_u16 w
  obtain ⟨n, rfl⟩ := Int.eq_ofNat_of_zero_le h1
  exact ⟨n, rfl, by omega⟩
set_option maxRecDepth 100000 in
theorem open_u32 (hv : Value.okWide Try.prog W r b0 22 v) (h : DataW.Trod enc Try.prog W 0 (fun _ => true) true 22 v d p) : ∃ n : Nat, v = .int .u32 (n : Int) ∧ n < 4294967296 := by
  obtain ⟨a, rfl, _, _, w⟩ := open_int Try.underlying22 hv h
  obtain ⟨h1, h2⟩ := wf_u32 w
  obtain ⟨n, rfl⟩ := Int.eq_ofNat_of_zero_le h1
  exact ⟨n, rfl, by omega⟩
set_option maxRecDepth 100000 in
theorem open_i64 (hv : Value.okWide Try.prog W r b0 3 v) (h : DataW.Trod enc Try.prog W 0 (fun _ => true) true 3 v d p) : ∃ n : Int, v = .int .i64 n ∧ -9223372036854775808 ≤ n ∧ n ≤ 9223372036854775807 := by
  obtain ⟨a, rfl, _, _, w⟩ := open_int Try.underlying3 hv h
  exact ⟨a, rfl, wf_i64 w⟩
set_option maxRecDepth 100000 in
theorem open_bytes (hv : Value.okWide Try.prog W r b0 23 v) (h : DataW.Trod enc Try.prog W 0 (fun _ => true) true 23 v d p) (hw : ∀ x ∈ d.weights Try.prog 23, x ≤ reachBytes) : ∃ r : Inner, v = r.val ∧ r.Ok W := by
  obtain ⟨a, n, c, rfl⟩ := okWide_slice Try.underlying23 hv
  obtain ⟨fuel, hf⟩ := h
  exact open_inner hf hw
end
end Go.Proofs.Ytfbjjblgcgjndaa

/- Openings of arguments: lists of bools, of words, of shorts. -/
namespace Go.Proofs.Ytfbjjblgcgjndaa
open Go.ChangeShapes Go.WideShapes Go.ChangeAt Go.RowKit Go.Deep

/-- a list that lies in memory, one cell an element -/
structure Lies (α : Type) where
  A : Option Addr
  l : List α
  c : Nat
def Lies.val {α : Type} (r : Lies α) : Value := .slice r.A r.l.length r.c
structure Lies.Ok {α : Type} (f : α → Value) (p : α → Prop) (W : World) (r : Lies α) : Prop where
  lies : At W r.A (r.l.map f)
  nil : r.A = none → r.c = 0
  le : r.l.length ≤ r.c
  small : r.l.length ≤ 140737488351232
  all : ∀ x ∈ r.l, p x
theorem Lies.Ok.below {α : Type} {f : α → Value} {p : α → Prop} {w w' : World} {r : Lies α} (h : r.Ok f p w) (hb : Below w.heap.size w w') : r.Ok f p w' := ⟨h.lies.below hb, h.nil, h.le, h.small, h.all⟩
theorem map_all {α : Type} {f : α → Value} {p : α → Prop} : ∀ (vs : List Value), (∀ u ∈ vs, ∃ a, u = f a ∧ p a) → ∃ l : List α, vs = l.map f ∧ ∀ x ∈ l, p x
  | [], _ => ⟨[], rfl, fun x hx => by simp at hx⟩
  | v :: vs, h => by
    obtain ⟨a, rfl, ha⟩ := h v (by simp)
    obtain ⟨l, rfl, hl⟩ := map_all vs (fun u hu => h u (by simp [hu]))
    exact ⟨a :: l, rfl, fun x hx => by
      rcases List.mem_cons.1 hx with rfl | hx
      · exact ha
      · exact hl x hx⟩
section
variable {H : Type} {enc : TypeId × Value → H} {W : World} {r : Reach} {b0 : Nat} {v : Value} {d : DataW H} {p : List MemPlace}
set_option maxRecDepth 100000 in
theorem open_lies {α : Type} {t e : TypeId} (f : α → Value) (q : α → Prop) (ht : Try.prog.underlying t = some (.slice e)) (hc : Try.prog.cellsOf e = 1) (hb1 : 1 ≤ Try.prog.bytesOf e)
    (hR : ∀ n v (d : DataW H) pl, DataW.trod enc Try.prog W 0 (fun _ => true) true n e [v] = some (d, pl) → ∃ a, v = f a ∧ q a)
    (hv : Value.okWide Try.prog W r b0 t v) (h : DataW.Trod enc Try.prog W 0 (fun _ => true) true t v d p) (hw : ∀ x ∈ d.weights Try.prog t, x ≤ reachBytes) :
    ∃ s : Lies α, v = s.val ∧ s.Ok f q W := by
  obtain ⟨a, n, c, rfl⟩ := okWide_slice ht hv
  obtain ⟨A, c, vs, hvs, hA, hR', hn, hl, hb⟩ := open_one ht hc h rfl hw (fun v => ∃ a, v = f a ∧ q a) (fun n v d pl h _ => hR n v d pl h)
  obtain ⟨l, rfl, hq⟩ := map_all vs hR'
  injection hvs with e1 e2 e3
  subst e1 e2 e3
  rw [List.length_map] at hl
  refine ⟨⟨a, l, c⟩, by simp [Lies.val], hA, hn, hl, ?_, hq⟩
  have := Nat.le_trans (Nat.le_mul_of_pos_right c hb1) hb
  rw [reach_num] at this
  exact Nat.le_trans hl this
theorem Try.cells4' : Try.prog.cellsOf 4 = 1 := by kernel_rfl
theorem Try.cells36' : Try.prog.cellsOf 36 = 1 := by kernel_rfl
theorem Try.cells22' : Try.prog.cellsOf 22 = 1 := by kernel_rfl
theorem Try.bytes4' : Try.prog.bytesOf 4 = 1 := by kernel_rfl
theorem Try.bytes36' : Try.prog.bytesOf 36 = 2 := by kernel_rfl
theorem Try.bytes22' : Try.prog.bytesOf 22 = 4 := by kernel_rfl
abbrev BoolsOk (W : World) (s : Lies Bool) : Prop := s.Ok Value.bool (fun _ => True) W
abbrev ShortsOk (W : World) (s : Lies Nat) : Prop := s.Ok (fun n : Nat => .int .u16 (n : Int)) (fun n : Nat => n < 65536) W
abbrev WordsOk (W : World) (s : Lies Nat) : Prop := s.Ok (fun n : Nat => .int .u32 (n : Int)) (fun n : Nat => n < 4294967296) W
set_option maxRecDepth 100000 in
theorem open_bools (hv : Value.okWide Try.prog W r b0 73 v) (h : DataW.Trod enc Try.prog W 0 (fun _ => true) true 73 v d p) (hw : ∀ x ∈ d.weights Try.prog 73, x ≤ reachBytes) : ∃ s : Lies Bool, v = s.val ∧ BoolsOk W s := by
  refine open_lies Value.bool (fun _ => True) Try.underlying73 Try.cells4' (by rw [Try.bytes4']; omega) ?_ hv h hw
  intro n u y pl hu
  obtain ⟨b, h1, h2⟩ := DataW.trod_bool Try.underlying4 hu
  exact ⟨b, by simpa using h1, trivial⟩
set_option maxRecDepth 100000 in
theorem open_shorts (hv : Value.okWide Try.prog W r b0 84 v) (h : DataW.Trod enc Try.prog W 0 (fun _ => true) true 84 v d p) (hw : ∀ x ∈ d.weights Try.prog 84, x ≤ reachBytes) : ∃ s : Lies Nat, v = s.val ∧ ShortsOk W s := by
  refine open_lies (fun n : Nat => .int .u16 (n : Int)) (fun n => n < 65536) Try.underlying84 Try.cells36' (by rw [Try.bytes36']; omega) ?_ hv h hw
  intro n u y pl hu
  obtain ⟨a, h1, _, w⟩ := DataW.trod_int Try.underlying36 hu
  injection h1 with h1
  obtain ⟨l1, l2⟩ := wf_u16 w
  obtain ⟨m, rfl⟩ := Int.eq_ofNat_of_zero_le l1
  exact ⟨m, h1, by omega⟩
set_option maxRecDepth 100000 in
theorem open_words (hv : Value.okWide Try.prog W r b0 34 v) (h : DataW.Trod enc Try.prog W 0 (fun _ => true) true 34 v d p) (hw : ∀ x ∈ d.weights Try.prog 34, x ≤ reachBytes) : ∃ s : Lies Nat, v = s.val ∧ WordsOk W s := by
  refine open_lies (fun n : Nat => .int .u32 (n : Int)) (fun n => n < 4294967296) Try.underlying34 Try.cells22' (by rw [Try.bytes22']; omega) ?_ hv h hw
  intro n u y pl hu
  obtain ⟨a, h1, _, w⟩ := DataW.trod_int Try.underlying22 hu
  injection h1 with h1
  obtain ⟨l1, l2⟩ := wf_u32 w
  obtain ⟨m, rfl⟩ := Int.eq_ofNat_of_zero_le l1
  exact ⟨m, h1, by omega⟩
end
end Go.Proofs.Ytfbjjblgcgjndaa

/- Openings of arguments: the acts of the disk laws. -/
namespace Go.Proofs.Ytfbjjblgcgjndaa
open Go.ChangeShapes Go.WideShapes Go.ChangeAt Go.RowKit Go.Deep

theorem flat_get {α β : Type} (f : α → List β) (n : Nat) (hf : ∀ x, (f x).length = n) : ∀ (l : List α) (i : Nat) (a : α), l[i]? = some a → ∀ j, j < n → (l.flatMap f)[i * n + j]? = (f a)[j]?
  | [], i, a, h, j, hj => by simp at h
  | x :: l, 0, a, h, j, hj => by
    simp at h; subst h
    rw [List.flatMap_cons, List.getElem?_append_left (by rw [hf]; omega)]
    simp
  | x :: l, i + 1, a, h, j, hj => by
    have := flat_get f n hf l i a (by simpa using h) j hj
    rw [List.flatMap_cons, List.getElem?_append_right (by rw [hf, Nat.succ_mul]; omega), hf, show (i + 1) * n + j - n = i * n + j by rw [Nat.succ_mul]; omega]
    exact this
theorem flat_len {α β : Type} (f : α → List β) (n : Nat) (hf : ∀ x, (f x).length = n) : ∀ (l : List α), (l.flatMap f).length = l.length * n
  | [] => by simp
  | x :: l => by rw [List.flatMap_cons, List.length_append, flat_len f n hf l, hf, List.length_cons, Nat.succ_mul]; omega
section
variable {H : Type} {enc : TypeId × Value → H} {W : World} {r : Reach} {b0 : Nat} {v : Value} {d : DataW H} {p : List MemPlace}
theorem addr_add_plain (a : Addr) (h : a = ⟨a.block, a.off, none⟩) (i : Nat) : a.add i = ⟨a.block, a.off + i, none⟩ := by rw [h, Addr.add_mid]
set_option maxRecDepth 100000 in
/-- a slice whose elements are many cells each -/
theorem open_many {α : Type} {t e : TypeId} {k : Nat} (cells : α → List Value) (q : α → Prop) (ht : Try.prog.underlying t = some (.slice e)) (hk : Try.prog.cellsOf e = k) (hk0 : 0 < k) (hb1 : 1 ≤ Try.prog.bytesOf e) (hcl : ∀ a, (cells a).length = k)
    (hR : ∀ n cs (d : DataW H) pl, DataW.trod enc Try.prog W 0 (fun _ => true) true n e cs = some (d, pl) → (∀ x ∈ d.weights Try.prog e, x ≤ reachBytes) → ∃ a, cs = cells a ∧ q a)
    (hv : Value.okWide Try.prog W r b0 t v) (h : DataW.Trod enc Try.prog W 0 (fun _ => true) true t v d p) (hw : ∀ x ∈ d.weights Try.prog t, x ≤ reachBytes) :
    ∃ (A : Option Addr) (l : List α) (c : Nat), v = .slice A l.length c ∧ At W A (l.flatMap cells) ∧ (∀ a ∈ l, q a) ∧ (A = none → c = 0) ∧ l.length ≤ c ∧ l.length ≤ 140737488351232 := by
  obtain ⟨a, n, c, rfl⟩ := okWide_slice ht hv
  obtain ⟨fuel, hf⟩ := h
  rw [show (Value.slice a n c).cells.toList = [.slice a n c] from rfl] at hf
  rcases Deep.open_slice ht hf with ⟨hcs, _⟩ | ⟨ad, len, cap, m, n', D, Pl, hcs, _, hl, hm, hmm, hx, hcell⟩
  · injection hcs with hv'
    injection hv' with e1 e2 e3
    subst e1 e2 e3
    exact ⟨none, [], 0, rfl, At.nil _ _, fun a ha => by simp at ha, fun _ => rfl, Nat.le_refl _, by simp⟩
  · injection hcs with hv'
    injection hv' with e1 e2 e3
    subst e1 e2 e3
    have hmm' : m = c := by simpa using hmm
    subst hmm'
    injection hx with hd _
    rw [hk] at hcell
    have hel : ∀ i, i < n → ∃ x, q x ∧ W.cells? 0 (ad.add (i * k)) k = some (cells x) := fun i hi => by
      obtain ⟨cs, h1, h2⟩ := hcell i (by omega)
      obtain ⟨x, rfl, hq⟩ := hR n' cs (D i) (Pl i) h2 (fun y hy => hw y (by
        rw [hd]
        exact weights_elem ht (.inl (List.mem_map.2 ⟨i, List.mem_range.2 hi, rfl⟩)) y hy))
      exact ⟨x, hq, h1⟩
    have hall : ∀ j, j ≤ n → ∃ l : List α, l.length = j ∧ (∀ a ∈ l, q a) ∧ ∀ i a, l[i]? = some a → W.cells? 0 (ad.add (i * k)) k = some (cells a) := by
      intro j
      induction j with
      | zero => exact fun _ => ⟨[], rfl, fun a ha => by simp at ha, fun i a ha => by simp at ha⟩
      | succ j ih =>
        intro hj
        obtain ⟨l, h1, h2, h3⟩ := ih (by omega)
        obtain ⟨x, hx1, hx2⟩ := hel j (by omega)
        refine ⟨l ++ [x], by simp [h1], fun a ha => ?_, fun i a ha => ?_⟩
        · rcases List.mem_append.1 ha with ha | ha
          · exact h2 a ha
          · rw [List.mem_singleton.1 ha]; exact hx1
        · by_cases hi : i < l.length
          · rw [List.getElem?_append_left hi] at ha
            exact h3 i a ha
          · have hil := (List.getElem?_eq_some_iff.1 ha).1
            simp at hil
            obtain rfl : i = l.length := by omega
            simp at ha
            subst ha
            rw [h1]; exact hx2
    obtain ⟨l, rfl, h2, h3⟩ := hall n (Nat.le_refl _)
    refine ⟨some ad, l, m, rfl, ?_, h2, fun e => (by cases e), hl, ?_⟩
    · intro hne
      have hl0 : 0 < l.length := by
        rcases Nat.eq_zero_or_pos l.length with h | h
        · rw [List.eq_nil_of_length_eq_zero h] at hne; simp at hne
        · exact h
      obtain ⟨_, _, hc0⟩ := World.cells?_some (h3 0 l[0] (List.getElem?_eq_getElem hl0))
      have hc00 := hc0 0 hk0
      have hcc : (cells l[0])[0]? = some ((cells l[0])[0]'(by rw [hcl]; exact hk0)) := List.getElem?_eq_getElem (by rw [hcl]; exact hk0)
      rw [hcc, Nat.zero_mul] at hc00
      have ha : ad = ⟨ad.block, ad.off, none⟩ := by
        refine addr_plain (w := W) (v := (cells l[0])[0]'(by rw [hcl]; exact hk0)) ?_
        have : (ad.add 0).add 0 = ad := by simp [Addr.add]
        rw [this] at hc00; exact hc00
      refine ⟨ad.block, ad.off, by rw [← ha], fun j u hu => ?_⟩
      have hj : j < (l.flatMap cells).length := (List.getElem?_eq_some_iff.1 hu).1
      have hlen : (l.flatMap cells).length = l.length * k := flat_len cells k hcl l
      rw [hlen] at hj
      have hi : j / k < l.length := (Nat.div_lt_iff_lt_mul hk0).2 hj
      have hjk : j % k < k := Nat.mod_lt _ hk0
      have hdm : j / k * k + j % k = j := by rw [Nat.mul_comm]; exact Nat.div_add_mod j k
      obtain ⟨_, _, hce⟩ := World.cells?_some (h3 (j / k) l[j / k] (List.getElem?_eq_getElem hi))
      have := hce (j % k) hjk
      rw [addr_add_plain ad ha, Addr.add_mid, show ad.off + j / k * k + j % k = ad.off + j by omega] at this
      rw [this, ← flat_get cells k hcl l (j / k) _ (List.getElem?_eq_getElem hi) (j % k) hjk, hdm]
      exact hu
    · have := hw (m * Try.prog.bytesOf e) (by
        rw [hd]
        simp only [DataW.weights, ht, List.length_map, List.length_range]
        refine List.mem_cons.2 (.inl ?_)
        rw [show l.length + (m - l.length) = m from by omega])
      rw [reach_num] at this
      exact Nat.le_trans hl (Nat.le_trans (Nat.le_mul_of_pos_right m hb1) this)
end

/-- an act -/
structure ActD where
  kind : Nat
  num : Int
  of_ : Int
  data : Inner
  keep : Lies Bool
def ActD.cells (a : ActD) : List Value := [.int .u8 (a.kind : Int), .int .i64 a.num, .int .i64 a.of_, a.data.val, a.keep.val]
structure ActD.Ok (W : World) (a : ActD) : Prop where
  kind : a.kind < 256
  num : -9223372036854775808 ≤ a.num ∧ a.num ≤ 9223372036854775807
  of_ : -9223372036854775808 ≤ a.of_ ∧ a.of_ ≤ 9223372036854775807
  data : a.data.Ok W
  keep : BoolsOk W a.keep
theorem ActD.Ok.below {w w' : World} {a : ActD} (h : a.Ok w) (hb : Below w.heap.size w w') : a.Ok w' := ⟨h.kind, h.num, h.of_, h.data.below hb, h.keep.below hb⟩
/-- acts that lie in memory -/
structure Acts where
  A : Option Addr
  l : List ActD
  c : Nat
def Acts.val (s : Acts) : Value := .slice s.A s.l.length s.c
structure Acts.Ok (W : World) (s : Acts) : Prop where
  lies : At W s.A (s.l.flatMap ActD.cells)
  all : ∀ a ∈ s.l, a.Ok W
  nil : s.A = none → s.c = 0
  le : s.l.length ≤ s.c
  small : s.l.length ≤ 140737488351232
theorem act_cell {w : World} {A : Option Addr} {l : List ActD} (h : At w A (l.flatMap ActD.cells)) (i : Nat) (a : ActD) (ha : l[i]? = some a) : ∃ b o, A = some ⟨b, o, none⟩ ∧ ∀ j, j < 5 → w.cell? ⟨b, o + i * 5 + j, none⟩ = a.cells[j]? := by
  have hg := flat_get ActD.cells 5 (fun _ => rfl) l i a ha
  obtain ⟨b, o, e, hr⟩ := h (by
    intro e
    have := hg 0 (by omega)
    rw [e] at this; simp [ActD.cells] at this)
  refine ⟨b, o, e, fun j hj => ?_⟩
  have h5 : a.cells[j]? = some (a.cells[j]'hj) := List.getElem?_eq_getElem (show j < a.cells.length from hj)
  rw [Nat.add_assoc, h5]
  exact hr _ _ (by rw [hg j hj]; exact h5)
section
variable {H : Type} {enc : TypeId × Value → H} {W : World} {r : Reach} {b0 : Nat} {v : Value} {d : DataW H} {p : List MemPlace}
theorem Try.cells109 : Try.prog.cellsOf 109 = 5 := by kernel_rfl
theorem Try.bytes109' : Try.prog.bytesOf 109 = 72 := by kernel_rfl
theorem Try.cells5' : Try.prog.cellsOf 5 = 1 := by kernel_rfl
theorem Try.cells3' : Try.prog.cellsOf 3 = 1 := by kernel_rfl
theorem Try.cells23' : Try.prog.cellsOf 23 = 1 := by kernel_rfl
theorem Try.cells73' : Try.prog.cellsOf 73 = 1 := by kernel_rfl
set_option maxRecDepth 100000 in
theorem lies_of {α : Type} {t e : TypeId} (f : α → Value) (q : α → Prop) (ht : Try.prog.underlying t = some (.slice e)) (hc : Try.prog.cellsOf e = 1) (hb1 : 1 ≤ Try.prog.bytesOf e)
    (hR : ∀ n v (d : DataW H) pl, DataW.trod enc Try.prog W 0 (fun _ => true) true n e [v] = some (d, pl) → ∃ a, v = f a ∧ q a)
    {n : Nat} (h : DataW.trod enc Try.prog W 0 (fun _ => true) true n t [v] = some (d, p)) (hw : ∀ x ∈ d.weights Try.prog t, x ≤ reachBytes) :
    ∃ s : Lies α, v = s.val ∧ s.Ok f q W := by
  have hsl : v.cells.toList = [v] := by
    rcases DataW.trod_slice ht h with ⟨hcs, _⟩ | ⟨a, len, cap, elems, rest, n', _, hcs, _⟩
    · injection hcs with h1; rw [h1]; rfl
    · injection hcs with h1; rw [h1]; rfl
  obtain ⟨A, c, vs, hvs, hA, hR', hn, hl, hb⟩ := open_one ht hc ⟨n, by rw [hsl]; exact h⟩ hsl hw (fun v => ∃ a, v = f a ∧ q a) (fun n v d pl h _ => hR n v d pl h)
  obtain ⟨l, rfl, hq⟩ := map_all vs hR'
  subst hvs
  rw [List.length_map] at hl
  refine ⟨⟨A, l, c⟩, by simp [Lies.val], hA, hn, hl, ?_, hq⟩
  have := Nat.le_trans (Nat.le_mul_of_pos_right c hb1) hb
  rw [reach_num] at this
  exact Nat.le_trans hl this
set_option maxRecDepth 100000 in
theorem bools_of {n : Nat} (h : DataW.trod enc Try.prog W 0 (fun _ => true) true n 73 [v] = some (d, p)) (hw : ∀ x ∈ d.weights Try.prog 73, x ≤ reachBytes) : ∃ s : Lies Bool, v = s.val ∧ BoolsOk W s := by
  refine lies_of Value.bool (fun _ => True) Try.underlying73 Try.cells4' (by rw [Try.bytes4']; omega) ?_ h hw
  intro n u y pl hu
  obtain ⟨b, h1, h2⟩ := DataW.trod_bool Try.underlying4 hu
  exact ⟨b, by simpa using h1, trivial⟩
set_option maxRecDepth 100000 in
theorem i64_of {n : Nat} (h : DataW.trod enc Try.prog W 0 (fun _ => true) true n 3 [v] = some (d, p)) : ∃ x : Int, v = .int .i64 x ∧ -9223372036854775808 ≤ x ∧ x ≤ 9223372036854775807 := by
  obtain ⟨a, h1, _, w⟩ := DataW.trod_int Try.underlying3 h
  injection h1 with h1
  exact ⟨a, h1, wf_i64 w⟩
set_option maxRecDepth 100000 in
theorem u8_of {n : Nat} (h : DataW.trod enc Try.prog W 0 (fun _ => true) true n 5 [v] = some (d, p)) : ∃ x : Nat, v = .int .u8 (x : Int) ∧ x < 256 := by
  obtain ⟨a, h1, _, w⟩ := DataW.trod_int Try.underlying5 h
  injection h1 with h1
  obtain ⟨l1, l2⟩ := wf_u8 w
  obtain ⟨m, rfl⟩ := Int.eq_ofNat_of_zero_le l1
  exact ⟨m, h1, by omega⟩
set_option maxRecDepth 100000 in
theorem act_of {n : Nat} {cs : List Value} (h : DataW.trod enc Try.prog W 0 (fun _ => true) true n 109 cs = some (d, p)) (hw : ∀ x ∈ d.weights Try.prog 109, x ≤ reachBytes) : ∃ a : ActD, cs = a.cells ∧ a.Ok W := by
  obtain ⟨xs, n', _, hx, hlen, hsz, hg⟩ := DataW.trod_struct Try.underlying109 h
  rw [Try.cells109] at hlen
  match cs, hlen with
  | [c0, c1, c2, c3, c4], _ =>
    match xs, hsz with
    | [y0, y1, y2, y3, y4], _ =>
      have g0 := hg 0 _ rfl
      have g1 := hg 1 _ rfl
      have g2 := hg 2 _ rfl
      have g3 := hg 3 _ rfl
      have g4 := hg 4 _ rfl
      simp only [Try.cells5', Try.cells3', Try.cells23', Try.cells73', List.drop_succ_cons, List.drop_zero, List.take_succ_cons, List.take_zero, List.getElem?_cons_zero, List.getElem?_cons_succ] at g0 g1 g2 g3 g4
      injection hx with hd _
      have hww : ∀ t (y : DataW H), (t, y) ∈ [(5, y0.1), (3, y1.1), (3, y2.1), (23, y3.1), (73, y4.1)] → ∀ x ∈ y.weights Try.prog t, x ≤ reachBytes := by
        intro t y hy x hx
        refine hw x ?_
        rw [hd]
        simp only [DataW.weights, Try.underlying109, List.map_cons, List.map_nil, DataW.weightsEach, List.mem_append]
        simp only [List.mem_cons, Prod.mk.injEq, List.not_mem_nil, or_false] at hy
        rcases hy with ⟨rfl, rfl⟩ | ⟨rfl, rfl⟩ | ⟨rfl, rfl⟩ | ⟨rfl, rfl⟩ | ⟨rfl, rfl⟩ <;> simp [hx]
      obtain ⟨x0, rfl, b0⟩ := u8_of g0
      obtain ⟨x1, rfl, b1⟩ := i64_of g1
      obtain ⟨x2, rfl, b2⟩ := i64_of g2
      obtain ⟨x3, rfl, b3⟩ := open_inner g3 (hww 23 y3.1 (by simp))
      obtain ⟨x4, rfl, b4⟩ := bools_of g4 (hww 73 y4.1 (by simp))
      exact ⟨⟨x0, x1, x2, x3, x4⟩, rfl, b0, b1, b2, b3, b4⟩
set_option maxRecDepth 100000 in
theorem open_acts {r : Reach} {b0 : Nat} (hv : Value.okWide Try.prog W r b0 96 v) (h : DataW.Trod enc Try.prog W 0 (fun _ => true) true 96 v d p) (hw : ∀ x ∈ d.weights Try.prog 96, x ≤ reachBytes) : ∃ s : Acts, v = s.val ∧ s.Ok W := by
  obtain ⟨A, l, c, rfl, h1, h2, h3, h4, h5⟩ := open_many (k := 5) ActD.cells (ActD.Ok W) Try.underlying96 Try.cells109 (by omega) (by rw [Try.bytes109']; omega) (fun _ => rfl) (fun n cs d pl h hw => act_of h hw) hv h hw
  exact ⟨⟨A, l, c⟩, rfl, h1, h2, h3, h4, h5⟩
end
end Go.Proofs.Ytfbjjblgcgjndaa

/- Openings of arguments: the acts of the pool laws; much of them. -/
namespace Go.Proofs.Ytfbjjblgcgjndaa
open Go.ChangeShapes Go.WideShapes Go.ChangeAt Go.RowKit Go.Deep

/-- an act of the pool laws -/
structure PActD where
  kind : Nat
  num : Nat
  of_ : Nat
  n : Int
  data : Inner
  keep : Lies Bool
def PActD.cells (a : PActD) : List Value := [.int .u8 (a.kind : Int), .int .u32 (a.num : Int), .int .u8 (a.of_ : Int), .int .i64 a.n, a.data.val, a.keep.val]
structure PActD.Ok (W : World) (a : PActD) : Prop where
  kind : a.kind < 256
  num : a.num < 4294967296
  of_ : a.of_ < 256
  n : -9223372036854775808 ≤ a.n ∧ a.n ≤ 9223372036854775807
  data : a.data.Ok W
  keep : BoolsOk W a.keep
theorem PActD.Ok.below {w w' : World} {a : PActD} (h : a.Ok w) (hb : Below w.heap.size w w') : a.Ok w' := ⟨h.kind, h.num, h.of_, h.n, h.data.below hb, h.keep.below hb⟩
structure PActs where
  A : Option Addr
  l : List PActD
  c : Nat
def PActs.val (s : PActs) : Value := .slice s.A s.l.length s.c
structure PActs.Ok (W : World) (s : PActs) : Prop where
  lies : At W s.A (s.l.flatMap PActD.cells)
  all : ∀ a ∈ s.l, a.Ok W
  nil : s.A = none → s.c = 0
  le : s.l.length ≤ s.c
  small : s.l.length ≤ 140737488351232
theorem PActs.Ok.below {w w' : World} {s : PActs} (h : s.Ok w) (hb : Below w.heap.size w w') : s.Ok w' := ⟨h.lies.below hb, fun a ha => (h.all a ha).below hb, h.nil, h.le, h.small⟩
theorem pact_cell {w : World} {A : Option Addr} {l : List PActD} (h : At w A (l.flatMap PActD.cells)) (i : Nat) (a : PActD) (ha : l[i]? = some a) : ∃ b o, A = some ⟨b, o, none⟩ ∧ ∀ j, j < 6 → w.cell? ⟨b, o + i * 6 + j, none⟩ = a.cells[j]? := by
  have hg := flat_get PActD.cells 6 (fun _ => rfl) l i a ha
  obtain ⟨b, o, e, hr⟩ := h (by
    intro e
    have := hg 0 (by omega)
    rw [e] at this; simp [PActD.cells] at this)
  refine ⟨b, o, e, fun j hj => ?_⟩
  have h5 : a.cells[j]? = some (a.cells[j]'hj) := List.getElem?_eq_getElem (show j < a.cells.length from hj)
  rw [Nat.add_assoc, h5]
  exact hr _ _ (by rw [hg j hj]; exact h5)
section
variable {H : Type} {enc : TypeId × Value → H} {W : World} {r : Reach} {b0 : Nat} {v : Value} {d : DataW H} {p : List MemPlace}
theorem Try.cells138 : Try.prog.cellsOf 138 = 6 := by kernel_rfl
theorem Try.bytes138 : 1 ≤ Try.prog.bytesOf 138 := of_decide_eq_true (by kernel_rfl)
set_option maxRecDepth 100000 in
theorem u32_of {n : Nat} (h : DataW.trod enc Try.prog W 0 (fun _ => true) true n 22 [v] = some (d, p)) : ∃ x : Nat, v = .int .u32 (x : Int) ∧ x < 4294967296 := by
  obtain ⟨a, h1, _, w⟩ := DataW.trod_int Try.underlying22 h
  injection h1 with h1
  obtain ⟨l1, l2⟩ := wf_u32 w
  obtain ⟨m, rfl⟩ := Int.eq_ofNat_of_zero_le l1
  exact ⟨m, h1, by omega⟩
set_option maxRecDepth 100000 in
theorem pact_of {n : Nat} {cs : List Value} (h : DataW.trod enc Try.prog W 0 (fun _ => true) true n 138 cs = some (d, p)) (hw : ∀ x ∈ d.weights Try.prog 138, x ≤ reachBytes) : ∃ a : PActD, cs = a.cells ∧ a.Ok W := by
  obtain ⟨xs, n', _, hx, hlen, hsz, hg⟩ := DataW.trod_struct Try.underlying138 h
  rw [Try.cells138] at hlen
  match cs, hlen with
  | [c0, c1, c2, c3, c4, c5], _ =>
    match xs, hsz with
    | [y0, y1, y2, y3, y4, y5], _ =>
      have g0 := hg 0 _ rfl
      have g1 := hg 1 _ rfl
      have g2 := hg 2 _ rfl
      have g3 := hg 3 _ rfl
      have g4 := hg 4 _ rfl
      have g5 := hg 5 _ rfl
      simp only [Try.cells5', Try.cells22', Try.cells3', Try.cells23', Try.cells73', List.drop_succ_cons, List.drop_zero, List.take_succ_cons, List.take_zero, List.getElem?_cons_zero, List.getElem?_cons_succ] at g0 g1 g2 g3 g4 g5
      injection hx with hd _
      have hww : ∀ t (y : DataW H), (t, y) ∈ [(5, y0.1), (22, y1.1), (5, y2.1), (3, y3.1), (23, y4.1), (73, y5.1)] → ∀ x ∈ y.weights Try.prog t, x ≤ reachBytes := by
        intro t y hy x hx
        refine hw x ?_
        rw [hd]
        simp only [DataW.weights, Try.underlying138, List.map_cons, List.map_nil, DataW.weightsEach, List.mem_append]
        simp only [List.mem_cons, Prod.mk.injEq, List.not_mem_nil, or_false] at hy
        rcases hy with ⟨rfl, rfl⟩ | ⟨rfl, rfl⟩ | ⟨rfl, rfl⟩ | ⟨rfl, rfl⟩ | ⟨rfl, rfl⟩ | ⟨rfl, rfl⟩ <;> simp [hx]
      obtain ⟨x0, rfl, b0⟩ := u8_of g0
      obtain ⟨x1, rfl, b1⟩ := u32_of g1
      obtain ⟨x2, rfl, b2⟩ := u8_of g2
      obtain ⟨x3, rfl, b3⟩ := i64_of g3
      obtain ⟨x4, rfl, b4⟩ := open_inner g4 (hww 23 y4.1 (by simp))
      obtain ⟨x5, rfl, b5⟩ := bools_of g5 (hww 73 y5.1 (by simp))
      exact ⟨⟨x0, x1, x2, x3, x4, x5⟩, rfl, b0, b1, b2, b3, b4, b5⟩
set_option maxRecDepth 100000 in
theorem open_pacts {r : Reach} {b0 : Nat} (hv : Value.okWide Try.prog W r b0 135 v) (h : DataW.Trod enc Try.prog W 0 (fun _ => true) true 135 v d p) (hw : ∀ x ∈ d.weights Try.prog 135, x ≤ reachBytes) : ∃ s : PActs, v = s.val ∧ s.Ok W := by
  obtain ⟨A, l, c, rfl, h1, h2, h3, h4, h5⟩ := open_many (k := 6) PActD.cells (PActD.Ok W) Try.underlying135 Try.cells138 (by omega) Try.bytes138 (fun _ => rfl) (fun n cs d pl h hw => pact_of h hw) hv h hw
  exact ⟨⟨A, l, c⟩, rfl, h1, h2, h3, h4, h5⟩
end
/-- where the acts are not many -/
def PSmall (l : List PActD) : Prop := l.length ≤ 200 ∧ ∀ a ∈ l, a.data.l.length ≤ 200000
def PMuch (l : List PActD) (w : World) (e : Ending) (w' : World) : Prop := ∃ b, e = .returned (.bool b) ∧ (b = false → PSmall l) ∧ Below w.heap.size w w'
def PSum (l : List PActD) (k m : Nat) : Prop := ∀ i a, i < k → l[i]? = some a → a.data.l.length ≤ m
theorem PSum.zero (l : List PActD) (m : Nat) : PSum l 0 m := fun i a hi => by omega
theorem PSum.succ {l : List PActD} {k m m' x : Nat} {a : PActD} (h : PSum l k m) (ha : l[k]? = some a) (hx : x = a.data.l.length) (h1 : m ≤ m') (h2 : x ≤ m') : PSum l (k + 1) m' := fun i a' hi ha' => by
  by_cases e : i = k
  · subst e
    rw [ha] at ha'
    cases ha'
    omega
  · have := h i a' (by omega) ha'
    omega
theorem PSum.all {l : List PActD} {m : Nat} (h : PSum l l.length m) (hm : m ≤ 200000) : ∀ a ∈ l, a.data.l.length ≤ 200000 := fun a ha => by
  obtain ⟨i, hi, e⟩ := List.getElem_of_mem ha
  have := h i a hi (by rw [List.getElem?_eq_getElem hi, e])
  omega
theorem pact_mem {l : List PActD} {k : Nat} (h : k < l.length) : ∃ a, l[k]? = some a ∧ a ∈ l := ⟨l[k], List.getElem?_eq_getElem h, List.getElem_mem _⟩
set_option maxRecDepth 100000 in
set_option maxHeartbeats 1000000 in
theorem much10_any (s : PActs) (w : World) (hs : s.Ok w) : Calls Try.prog 84 #[.slice s.A s.l.length s.c] w (PMuch s.l w) := by
  obtain ⟨A, l, c⟩ := s
  have hsm := hs.small
  simp only at hsm ⊢
  have HAT := Lib.hid hs.lies
  have HAL := Lib.hid hs.all
  clear hs
  go_enter Try.func84, Try.ntmps84
  go_wp2_with fail
  go_loopw [3, 4] (fun n i wr => ∃ k : Nat, k ≤ l.length ∧ i = .int .i64 k ∧ (∃ m : Nat, n = .int .i64 (m : Int) ∧ m ≤ 1000000000000000 ∧ PSum l k m) ∧ Below w.heap.size w wr) (fun _ i _ => l.length - (intOf i).toNat)
  case atStart => exact ⟨0, by omega, rfl, ⟨l.length, rfl, by omega, PSum.zero l _⟩, Below.refl _ _⟩
  case round =>
    obtain ⟨k, hk, rfl, ⟨m, rfl, hm, hso⟩, hb⟩ := hrel
    by_cases hlt : k < l.length ∧ m ≤ 200000
    · obtain ⟨h1, h2⟩ := hlt
      obtain ⟨a, ha, hmem⟩ := pact_mem h1
      have hok := HAL.out a hmem
      obtain ⟨b, o, rfl, hcell⟩ := pact_cell (HAT.out.below hb) k a ha
      have c4 : wr.cell? ⟨b, o + k * 6 + 4, none⟩ = some (.slice a.data.A a.data.l.length a.data.c) := hcell 4 (by omega)
      have c5 : wr.cell? ⟨b, o + k * 6 + 5, none⟩ = some (.slice a.keep.A a.keep.l.length a.keep.c) := hcell 5 (by omega)
      have d1 := hok.data.small
      have d2 := hok.keep.small
      obtain ⟨x, hx⟩ : ∃ x, x = a.data.l.length := ⟨_, rfl⟩
      obtain ⟨y, hy⟩ : ∃ y, y = a.keep.l.length := ⟨_, rfl⟩
      have HSO := Lib.hid (fun (m' : Nat) (h1 : m ≤ m') (h2 : x ≤ m') => hso.succ ha hx h1 h2)
      clear hso
      rw [← hx] at c4 d1
      rw [← hy] at c5 d2
      have h3 : (k : Int) < (l.length : Int) := by omega
      have h4 : (m : Int) ≤ 200000 := by omega
      have e1 : IntKind.i64.wrap ((x : Int) + (y : Int)) = (x : Int) + (y : Int) := by rw [IntKind.wrap_i64]; omega
      have e3 : IntKind.i64.wrap ((m : Int) + ((x : Int) + (y : Int))) = (m : Int) + ((x : Int) + (y : Int)) := by rw [IntKind.wrap_i64]; omega
      have HB := Lib.hid hb
      clear hb hcell hok ha hmem hx hy
      go_wp2_with fail
      go_quiet (fail)
      go_wp2_with fail
      case roundEnd => exact ⟨⟨k + 1, by omega, by go_num, ⟨m + (x + y), by push_cast; rfl, by omega, HSO.out _ (by omega) (by omega)⟩, below_drewN HB.out _⟩, by simp only [intOf]; omega⟩
    · have hfin : ¬ (200000 < m) → ∀ a ∈ l, a.data.l.length ≤ 200000 := fun h => by
        obtain rfl : k = l.length := by omega
        exact hso.all (by omega)
      have HF := Lib.hid hfin
      clear hfin hso
      by_cases hm2 : m ≤ 200000
      · have h6 : ¬ (200000 : Int) < (m : Int) := by omega
        have h7 : (m : Int) ≤ 200000 := by omega
        have h8 : ¬ (k : Int) < (l.length : Int) := by omega
        go_wp2_with fail
        go_ret
        exact ⟨_, rfl, fun h => ⟨by have := of_decide_eq_false h; omega, HF.out (by omega)⟩, hb⟩
      · have h6 : (200000 : Int) < (m : Int) := by omega
        have h7 : ¬ (m : Int) ≤ 200000 := by omega
        go_wp2_with fail
        all_goals
          go_ret
          exact ⟨_, rfl, fun h => (by cases h), hb⟩
end Go.Proofs.Ytfbjjblgcgjndaa

/- Two pools of different sizes over calm disks: what each call gives. -/
namespace Go.Proofs.Ytfbjjblgcgjndaa
open Go.RowKit

/-- what a read tells of N pages -/
def told (N : Nat) (C : Nat → Option (Nat × List Nat)) (n : Nat) : Nat × List Nat × Nat :=
  if N ≤ n then (0, [], 2) else match C n with
    | some x => (x.1, x.2, 0)
    | none => (0, [], 100)
theorem told_tells (D : Dsk) (C : Nat → Option (Nat × List Nat)) (n : Nat) : tells D C n = told D.pages C n := rfl
def werr (N n k : Nat) (p : List Nat) : Nat := if SealOk k p then (if N ≤ n then 2 else 0) else 80
def wturn (N : Nat) (C : Nat → Option (Nat × List Nat)) (n k : Nat) (p : List Nat) : Nat → Option (Nat × List Nat) := if werr N n k p = 0 then turn C n (some (k, p)) else C
theorem told_small {m j N : Nat} {D : Dsk} {L : List Hand} {C : Nat → Option (Nat × List Nat)} (h : Even m j N D L C) (n : Nat) : (told N C n).2.1.length ≤ 1008 := by
  unfold told
  split
  · simp
  · rename_i hn
    have := h.coh.page n (by rw [h.pages]; omega)
    cases hc : C n with
    | none => simp
    | some x => rw [hc] at this; exact this.2.2.2
def bcell (a : PActD) : Nat → Value
  | 0 => .int .u8 (a.kind : Int)
  | 1 => .int .u32 (a.num : Int)
  | 2 => .int .u8 (a.of_ : Int)
  | 3 => .int .i64 a.n
  | 4 => .slice a.data.A a.data.l.length a.data.c
  | _ => .slice a.keep.A a.keep.l.length a.keep.c
def PActAt (w : World) (q : Nat) (a : PActD) : Prop := RecAt w q 138 6 (bcell a)
theorem PActAt.chg {w w' : World} {q : Nat} {a : PActD} {G : Nat → Prop} (h : PActAt w q a) (hc : Chg G w w') (hq : ¬ G q) : PActAt w' q a := RecAt.keep h hc hq
theorem PActAt.below {w w' : World} {q : Nat} {a : PActD} (h : PActAt w q a) (hb : Below w.heap.size w w') : PActAt w' q a := RecAt.keep (G := fun _ => False) h (.of_below hb) (fun e => e)
theorem PActAt.step {n0 : Nat} {X : Nat → Prop} {w w' : World} {q : Nat} {a : PActD} (h : PActAt w q a) (hs : Step n0 X w w') (hq : X q) : PActAt w' q a := RecAt.keep h hs.1 (fun e => e hq)
/-- the act is boxed -/
theorem pact_box (w : World) (a : PActD) (w1 : World) (hw : w1 = w.alloc (.cells #[.int .u8 (a.kind : Int), .int .u32 (a.num : Int), .int .u8 (a.of_ : Int), .int .i64 a.n, .slice a.data.A a.data.l.length a.data.c, .slice a.keep.A a.keep.l.length a.keep.c] 138)) :
    PActAt w1 w.heap.size a ∧ Below w.heap.size w w1 ∧ w1.heap.size = w.heap.size + 1 := by
  refine ⟨RecAt.of (by rw [hw]; exact heap_alloc_new w _) (by simp [lst, bcell, List.range_succ]), by rw [hw]; exact below_alloc0 (Below.refl _ _) _, by rw [hw]; simp⟩
section
variable {n0 : Nat} {w : World} {P1 d1 m1 : Nat} {D1 : Dsk} {L1 : List Hand} {c1 : Nat} {P2 d2 m2 : Nat} {D2 : Dsk} {L2 : List Hand} {c2 : Nat} {X : Nat → Prop} {C : Nat → Option (Nat × List Nat)} {N j : Nat}
def EvRead (n0 : Nat) (w : World) (P1 d1 m1 c1 P2 d2 m2 : Nat) (D2 : Dsk) (L2 : List Hand) (c2 : Nat) (X : Nat → Prop) (j N : Nat) (C : Nat → Option (Nat × List Nat)) (tk : Nat) (tp : List Nat) (te : Nat) (e : Ending) (w' : World) : Prop :=
  ∃ A cap D' L', e = .returned (.tuple #[.int .u8 (tk : Nat), .slice A tp.length cap, .int .u16 (te : Nat)]) ∧ Buf w.heap.size w' (.slice A tp.length cap) tp ∧ Even m1 (j + 1) N D' L' C ∧ Two n0 w' P1 d1 m1 D' L' (c1 + 1) P2 d2 m2 D2 L2 c2 (fun g => X g ∨ blk (.slice A tp.length cap) g) ∧ Step n0 X w w'
theorem ev_read (h : Two n0 w P1 d1 m1 D1 L1 c1 P2 d2 m2 D2 L2 c2 X) (he : Even m1 j N D1 L1 C) (n : Nat) (hn : n < 4294967296) (tk : Nat) (tp : List Nat) (te : Nat) (ht : told N C n = (tk, tp, te)) (hj : j ≤ 10000000) (hm : m1 ≤ 256) (hcc : c1 ≤ 100000000) :
    Calls Try.prog 81 #[.pointer (some ⟨P1, 0, none⟩), .int .u32 (n : Int)] w (EvRead n0 w P1 d1 m1 c1 P2 d2 m2 D2 L2 c2 X j N C tk tp te) := by
  refine (two_read h n hn he.small hj (by omega) hcc).mono ?_
  obtain ⟨a, b⟩ := he.read n
  rw [told_tells, he.pages, ht] at b
  generalize plRead m1 D1 L1 n = r at *
  obtain ⟨rk, rp, re, rD, rL⟩ := r
  simp only [Prod.mk.injEq] at b
  obtain ⟨rfl, rfl, rfl⟩ := b
  rintro e w' ⟨A, cap, rfl, hb, hx, hs'⟩
  exact ⟨A, cap, rD, rL, rfl, hb, a, hx, hs'⟩
def EvDo (n0 : Nat) (w : World) (P1 d1 m1 c1 P2 d2 m2 : Nat) (D2 : Dsk) (L2 : List Hand) (c2 : Nat) (X : Nat → Prop) (j N : Nat) (C : Nat → Option (Nat × List Nat)) (r : Value) (e : Ending) (w' : World) : Prop :=
  ∃ D' L', e = .returned r ∧ Even m1 (j + 1) N D' L' C ∧ Two n0 w' P1 d1 m1 D' L' (c1 + 1) P2 d2 m2 D2 L2 c2 X ∧ Step n0 X w w'
theorem ev_write (h : Two n0 w P1 d1 m1 D1 L1 c1 P2 d2 m2 D2 L2 c2 X) (he : Even m1 j N D1 L1 C) (n k : Nat) (hn : n < 4294967296) (hk : k < 256) (s : Inner) (hok : ∀ w', Below n0 w w' → s.Ok w') (hj : j ≤ 10000000) (hm : m1 ≤ 256) (hcc : c1 ≤ 100000000) :
    Calls Try.prog 80 #[.pointer (some ⟨P1, 0, none⟩), .int .u32 (n : Int), .int .u8 (k : Int), .slice s.A s.l.length s.c] w (EvDo n0 w P1 d1 m1 c1 P2 d2 m2 D2 L2 c2 X j N (wturn N C n k s.l) (.int .u16 (werr N n k s.l : Nat))) := by
  refine (two_write h n k hn hk s hok he.small hj (by omega) hcc).mono ?_
  obtain ⟨a, b⟩ := he.write n k s.l
  rw [b]
  rintro e w' ⟨rfl, hx, hs'⟩
  exact ⟨_, _, rfl, a, hx, hs'⟩
theorem ev_forget (h : Two n0 w P1 d1 m1 D1 L1 c1 P2 d2 m2 D2 L2 c2 X) (he : Even m1 j N D1 L1 C) (n : Nat) (hn : n < 4294967296) :
    Calls Try.prog 85 #[.pointer (some ⟨P1, 0, none⟩), .int .u32 (n : Int)] w (EvDo n0 w P1 d1 m1 c1 P2 d2 m2 D2 L2 c2 X j N C (.tuple #[])) := by
  refine (two_forget h n hn).mono ?_
  rintro e w' ⟨rfl, hx, hs'⟩
  exact ⟨_, _, rfl, (he.forget n).mono (by omega), hx.moreC (by omega) (Nat.le_refl _), hs'⟩
theorem ev_sync (h : Two n0 w P1 d1 m1 D1 L1 c1 P2 d2 m2 D2 L2 c2 X) (he : Even m1 j N D1 L1 C) (hj : j ≤ 10000000) :
    Calls Try.prog 86 #[.pointer (some ⟨P1, 0, none⟩)] w (EvDo n0 w P1 d1 m1 c1 P2 d2 m2 D2 L2 c2 X j N C (.int .u16 (0 : Nat))) := by
  obtain ⟨a, b⟩ := he.sync
  refine (two_sync h he.small hj).mono ?_
  rw [b]
  rintro e w' ⟨rfl, hx, hs'⟩
  exact ⟨_, _, rfl, a, hx.moreC (by omega) (Nat.le_refl _), hs'⟩
end
end Go.Proofs.Ytfbjjblgcgjndaa

/- PoolLast: contracts over a disk that may fail, and what the law keeps. -/
namespace Go.Proofs.Ytfbjjblgcgjndaa
open Go.RowKit

structure LastIn (most j : Nat) (D : Dsk) (L : List Hand) (C : Nat → Option (Nat × List Nat)) : Prop where
  coh : Coh most D L C
  lit : Lit D
  small : Small D j
  pages : D.pages = 6
  one : 1 ≤ most
section
variable {most j : Nat} {D : Dsk} {L : List Hand} {C : Nat → Option (Nat × List Nat)}
theorem LastIn.mono {j' : Nat} (h : LastIn most j D L C) (hj : j ≤ j') : LastIn most j' D L C := ⟨h.coh, h.lit, h.small.mono hj, h.pages, h.one⟩
theorem lit_rd (h : Lit D) (n : Nat) : Lit (plRead most D L n).D := by
  unfold plRead
  split
  · exact h
  · split
    · exact h
    · split
      · exact h.read _
      · split <;> exact h.read _
theorem lit_wr (h : Lit D) (n k : Nat) (p : List Nat) : Lit (plWrite most D L n k p).D := by
  unfold plWrite
  split
  · split
    · exact h
    · split <;> exact h.write _ _
  · exact h
theorem LastIn.read (h : LastIn most j D L C) (n : Nat) (hn : n < 6) : LastIn most (j + 1) (plRead most D L n).D (plRead most D L n).L C ∧
    (((plRead most D L n).kind, (plRead most D L n).pay, (plRead most D L n).err) = told 6 C n ∨ ((plRead most D L n).kind = 0 ∧ (plRead most D L n).pay = [] ∧ (plRead most D L n).err = 6 ∧ ((plRead most D L n).D.read (n : Int)).1 = 0)) := by
  obtain ⟨a, b, c⟩ := coh_read h.coh h.one n
  refine ⟨⟨a, lit_rd h.lit n, small_rd h.small _ _ _, b.pages.trans h.pages, h.one⟩, ?_⟩
  rcases c with c | ⟨c1, _, c2, c3⟩
  · rw [told_tells, h.pages] at c; exact .inl c
  · obtain ⟨e1, e2⟩ := h.lit.read_once n c1 c2
    rw [c3]
    exact .inr ⟨rfl, rfl, e1, e2⟩
theorem LastIn.again (h : LastIn most j D L C) (n : Nat) (hn : n < 6) (hr : (D.read (n : Int)).1 = 0) : ((plRead most D L n).kind, (plRead most D L n).pay, (plRead most D L n).err) = told 6 C n := by
  obtain ⟨a, b, c⟩ := coh_read h.coh h.one n
  rcases c with c | ⟨c1, _, c2, c3⟩
  · rw [told_tells, h.pages] at c; exact c
  · exact absurd hr c2
theorem LastIn.write (h : LastIn most j D L C) (n k : Nat) (p : List Nat) : LastIn most (j + 1) (plWrite most D L n k p).D (plWrite most D L n k p).L (if (plWrite most D L n k p).err = 0 then turn C n (some (k, p)) else C) := by
  obtain ⟨a, b⟩ := coh_write h.coh h.one n k p
  exact ⟨a, lit_wr h.lit _ _ _, small_wr h.small _ _ _ _ _, b.trans h.pages, h.one⟩
theorem LastIn.forget (h : LastIn most j D L C) (n : Nat) : LastIn most j D (forget n L) C := ⟨coh_forget h.coh n, h.lit, h.small, h.pages, h.one⟩
theorem LastIn.fail (h : LastIn most j D L C) (k n : Int) : LastIn most j (D.setFail k n).2 L C := ⟨coh_same h.coh (same_setFail D k n), h.lit.setFail k n, h.small.setFail k n, (same_setFail D k n).pages.trans h.pages, h.one⟩
theorem LastIn.sync (h : LastIn most j D L C) : LastIn most (j + 1) D.sync.2 L C := ⟨coh_pages h.coh (same_sync D), h.lit.sync, h.small.sync, (same_sync D).pages.trans h.pages, h.one⟩
theorem LastIn.cut (h : LastIn most j D L C) (hc : D.cache = []) (m : Nat) (hm : 1 ≤ m) : Even m j 6 (D.cut []) [] C := ⟨coh_bare (coh_same h.coh (same_cut D hc [])) m, cut_calm D [], h.small.cut [], (same_cut D hc []).pages.trans h.pages, hm⟩
variable {n0 : Nat} {w : World} {P d c : Nat} {X : Nat → Prop}
def LastRead (n0 : Nat) (w : World) (P d most c j : Nat) (X : Nat → Prop) (C : Nat → Option (Nat × List Nat)) (n tk : Nat) (tp : List Nat) (te : Nat) (e : Ending) (w' : World) : Prop :=
  (∃ A cap D' L', e = .returned (.tuple #[.int .u8 (tk : Nat), .slice A tp.length cap, .int .u16 (te : Nat)]) ∧ Buf w.heap.size w' (.slice A tp.length cap) tp ∧ LastIn most (j + 1) D' L' C ∧ PoolX n0 w' P d most D' L' (c + 1) (fun g => X g ∨ blk (.slice A tp.length cap) g) ∧ Step n0 X w w') ∨
  ∃ A cap D' L', e = .returned (.tuple #[.int .u8 0, .slice A 0 cap, .int .u16 6]) ∧ LastIn most (j + 1) D' L' C ∧ (D'.read (n : Int)).1 = 0 ∧ PoolX n0 w' P d most D' L' (c + 1) X ∧ Step n0 X w w'
theorem last_read (h : PoolX n0 w P d most D L c X) (hl : LastIn most j D L C) (n : Nat) (hn : n < 6) (tk : Nat) (tp : List Nat) (te : Nat) (ht : told 6 C n = (tk, tp, te)) (hj : j ≤ 10000000) (hm : most ≤ 256) (hcc : c ≤ 100000000) :
    Calls Try.prog 81 #[.pointer (some ⟨P, 0, none⟩), .int .u32 (n : Int)] w (LastRead n0 w P d most c j X C n tk tp te) := by
  refine (plread_any h n (by omega) (hl.small.c (by omega)) (hl.small.m (by omega) 1) (by omega) (by omega)).mono ?_
  obtain ⟨a, b⟩ := hl.read n hn
  rw [ht] at b
  generalize plRead most D L n = r at *
  obtain ⟨rk, rp, re, rD, rL⟩ := r
  simp only [Prod.mk.injEq] at b a ⊢
  rintro e w' ⟨A, cap, rfl, hb, hx, hs'⟩
  rcases b with ⟨rfl, rfl, rfl⟩ | ⟨rfl, rfl, rfl, hr⟩
  · exact .inl ⟨A, cap, rD, rL, rfl, hb, a, hx, hs'⟩
  · exact .inr ⟨A, cap, rD, rL, rfl, a, hr, hx.less (fun g hg => .inl hg), hs'⟩
def LastRead2 (n0 : Nat) (w : World) (P d most c j : Nat) (X : Nat → Prop) (C : Nat → Option (Nat × List Nat)) (tk : Nat) (tp : List Nat) (te : Nat) (e : Ending) (w' : World) : Prop :=
  ∃ A cap D' L', e = .returned (.tuple #[.int .u8 (tk : Nat), .slice A tp.length cap, .int .u16 (te : Nat)]) ∧ Buf w.heap.size w' (.slice A tp.length cap) tp ∧ LastIn most (j + 1) D' L' C ∧ PoolX n0 w' P d most D' L' (c + 1) (fun g => X g ∨ blk (.slice A tp.length cap) g) ∧ Step n0 X w w'
theorem last_again (h : PoolX n0 w P d most D L c X) (hl : LastIn most j D L C) (n : Nat) (hn : n < 6) (hr : (D.read (n : Int)).1 = 0) (tk : Nat) (tp : List Nat) (te : Nat) (ht : told 6 C n = (tk, tp, te)) (hj : j ≤ 10000000) (hm : most ≤ 256) (hcc : c ≤ 100000000) :
    Calls Try.prog 81 #[.pointer (some ⟨P, 0, none⟩), .int .u32 (n : Int)] w (LastRead2 n0 w P d most c j X C tk tp te) := by
  refine (plread_any h n (by omega) (hl.small.c (by omega)) (hl.small.m (by omega) 1) (by omega) (by omega)).mono ?_
  obtain ⟨a, _⟩ := hl.read n hn
  have b := hl.again n hn hr
  rw [ht] at b
  generalize plRead most D L n = r at *
  obtain ⟨rk, rp, re, rD, rL⟩ := r
  simp only [Prod.mk.injEq] at b a ⊢
  rintro e w' ⟨A, cap, rfl, hb, hx, hs'⟩
  obtain ⟨rfl, rfl, rfl⟩ := b
  exact ⟨A, cap, rD, rL, rfl, hb, a, hx, hs'⟩
/-- a write: done, or not -/
def LastWrite (n0 : Nat) (w : World) (P d most c j : Nat) (X : Nat → Prop) (C : Nat → Option (Nat × List Nat)) (n k : Nat) (p : List Nat) (e : Ending) (w' : World) : Prop :=
  ∃ (er : Nat) (D' : Dsk) (L' : List Hand), e = .returned (.int .u16 (er : Nat)) ∧ LastIn most (j + 1) D' L' (if er = 0 then turn C n (some (k, p)) else C) ∧ PoolX n0 w' P d most D' L' (c + 1) X ∧ Step n0 X w w'
theorem last_write (h : PoolX n0 w P d most D L c X) (hl : LastIn most j D L C) (n k : Nat) (hn : n < 6) (hk : k < 256) (s : Inner) (hok : ∀ w', Below n0 w w' → s.Ok w') (hj : j ≤ 10000000) (hm : most ≤ 256) (hcc : c ≤ 100000000) :
    Calls Try.prog 80 #[.pointer (some ⟨P, 0, none⟩), .int .u32 (n : Int), .int .u8 (k : Int), .slice s.A s.l.length s.c] w (LastWrite n0 w P d most c j X C n k s.l) := by
  have h0 := hok w (Below.refl _ _)
  refine (plwrite_any h n k (by omega) hk s.l s.A s.c s.l.length rfl (fun w' hw' => (hok w' hw'.2).lies) h0.nil h0.bytes (hl.small.c (by omega)) (hl.small.m (by omega) 2) (by omega) (by omega)).mono ?_
  have a := hl.write n k s.l
  rintro e w' ⟨rfl, hx, hs'⟩
  exact ⟨_, _, _, rfl, a, hx, hs'⟩
theorem last_fail (h : PoolX n0 w P d most D L c X) (hl : LastIn most j D L C) (k n : Int) (hn : n ≤ 9223372036854775807) :
    Calls Try.prog 58 #[.pointer (some ⟨d, 0, none⟩), .int .i64 k, .int .i64 n] w fun e w' => ∃ er D', e = .returned (.int .u16 (er : Nat)) ∧ LastIn most j D' L C ∧ PoolX n0 w' P d most D' L c X ∧ Step n0 X w w' := by
  obtain ⟨S, hd, _, hst, _⟩ := h.disk
  refine (dg_fail hd hd.new_n k n hn).mono ?_
  rintro e w' ⟨rfl, hN⟩
  obtain ⟨a, b⟩ := hst w' _ hN
  exact ⟨_, _, rfl, hl.fail k n, a, b⟩
theorem last_sync (h : PoolX n0 w P d most D L c X) (hl : LastIn most j D L C) (hj : j ≤ 10000000) :
    Calls Try.prog 86 #[.pointer (some ⟨P, 0, none⟩)] w (PlSync n0 w P d most D.sync.2 L c X D.sync.1) :=
  plsync_any h (hl.small.c (by omega)) (hl.small.m (by omega) 3)
/-- the disk is cut, with nothing given -/
theorem last_cut (h : PoolX n0 w P d most D L c X) (hl : LastIn most j D L C) (hj : j ≤ 10000000) :
    Calls Try.prog 51 #[.pointer (some ⟨d, 0, none⟩), .slice none 0 0] w fun e w' => e = .returned (.tuple #[]) ∧ (∃ S, DG n0 w' d (D.cut []) S ∧ ∀ g, X g → g < w'.heap.size ∧ ¬ S g) ∧ Step n0 X w w' := by
  obtain ⟨S, T, ho, hx⟩ := h
  refine (dg_cut ho.disk ho.disk.new_n none 0 [] (hl.small.c (by omega)) (fun w' _ => At.nil _ _)).mono ?_
  rintro e w' ⟨rfl, S', hd, hg, hc⟩
  refine ⟨rfl, ⟨S', hd, fun g hg' => ⟨Nat.lt_of_lt_of_le (hx g hg').1 hc.size, fun e => ?_⟩⟩, hc.mono (fun g _ e hg => (hx g hg).2.1 e), hc.below ho.disk.new_n (fun g hg => (ho.disk.lt g hg).1)⟩
  rcases hg g e with a | a
  · exact (hx g hg').2.1 a
  · have := (hx g hg').1; omega
def EvRead1 (n0 : Nat) (w : World) (P d m c : Nat) (X : Nat → Prop) (j N : Nat) (C : Nat → Option (Nat × List Nat)) (tk : Nat) (tp : List Nat) (te : Nat) (e : Ending) (w' : World) : Prop :=
  ∃ A cap D' L', e = .returned (.tuple #[.int .u8 (tk : Nat), .slice A tp.length cap, .int .u16 (te : Nat)]) ∧ Buf w.heap.size w' (.slice A tp.length cap) tp ∧ Even m (j + 1) N D' L' C ∧ PoolX n0 w' P d m D' L' (c + 1) (fun g => X g ∨ blk (.slice A tp.length cap) g) ∧ Step n0 X w w'
theorem ev_read1 {N : Nat} (h : PoolX n0 w P d most D L c X) (he : Even most j N D L C) (n : Nat) (hn : n < 4294967296) (tk : Nat) (tp : List Nat) (te : Nat) (ht : told N C n = (tk, tp, te)) (hj : j ≤ 10000000) (hm : most ≤ 256) (hcc : c ≤ 100000000) :
    Calls Try.prog 81 #[.pointer (some ⟨P, 0, none⟩), .int .u32 (n : Int)] w (EvRead1 n0 w P d most c X j N C tk tp te) := by
  refine (plread_any h n hn (he.small.c (by omega)) (he.small.m (by omega) 1) (by omega) (by omega)).mono ?_
  obtain ⟨a, b⟩ := he.read n
  rw [told_tells, he.pages, ht] at b
  generalize plRead most D L n = r at *
  obtain ⟨rk, rp, re, rD, rL⟩ := r
  simp only [Prod.mk.injEq] at b
  obtain ⟨rfl, rfl, rfl⟩ := b
  rintro e w' ⟨A, cap, rfl, hb, hx, hs'⟩
  exact ⟨A, cap, rD, rL, rfl, hb, a, hx, hs'⟩
end
/-- what the law keeps of the pages -/
def KeepOk (w0 : World) (C : Nat → Option (Nat × List Nat)) (K : Nat → Inner) : Prop := ∀ p x, C p = some x → (K p).l = x.2 ∧ (K p).Ok w0
def kcell (K : Nat → Inner) (i : Nat) : Value := .slice (K i).A (K i).l.length (K i).c
def fcell (C : Nat → Option (Nat × List Nat)) (i : Nat) : Value := .bool (C i).isSome
theorem KeepOk.put {w0 : World} {C : Nat → Option (Nat × List Nat)} {K : Nat → Inner} (h : KeepOk w0 C K) (p k : Nat) (s : Inner) (hs : s.Ok w0) : KeepOk w0 (turn C p (some (k, s.l))) (turn K p s) := fun q x hx => by
  by_cases e : q = p
  · subst e
    rw [turn_same] at hx ⊢
    injection hx with hx
    subst hx
    exact ⟨rfl, hs⟩
  · rw [turn_other _ _ _ _ e] at hx ⊢
    exact h q x hx
theorem kcell_put (K : Nat → Inner) (p : Nat) (s : Inner) : turn (kcell K) p (.slice s.A s.l.length s.c) = kcell (turn K p s) := by
  funext i
  unfold kcell
  by_cases e : i = p
  · subst e; rw [turn_same, turn_same]
  · rw [turn_other _ _ _ _ e, turn_other _ _ _ _ e]
theorem fcell_put (C : Nat → Option (Nat × List Nat)) (p : Nat) (x : Nat × List Nat) : turn (fcell C) p (.bool true) = fcell (turn C p (some x)) := by
  funext i
  unfold fcell
  by_cases e : i = p
  · subst e; rw [turn_same, turn_same]; rfl
  · rw [turn_other _ _ _ _ e, turn_other _ _ _ _ e]
theorem told_none {C : Nat → Option (Nat × List Nat)} {n : Nat} (hn : n < 6) (h : C n = none) : told 6 C n = (0, [], 100) := by unfold told; rw [if_neg (by omega), h]
theorem told_some {C : Nat → Option (Nat × List Nat)} {n : Nat} {x : Nat × List Nat} (hn : n < 6) (h : C n = some x) : told 6 C n = (x.1, x.2, 0) := by unfold told; rw [if_neg (by omega), h]
/-- the law's two rows, and the pages kept -/
structure RowsAt (w0 w : World) (k1 k2 : Nat) (C : Nat → Option (Nat × List Nat)) (K : Nat → Inner) : Prop where
  kept : RecAt w k1 23 6 (kcell K)
  flag : RecAt w k2 4 6 (fcell C)
  ok : KeepOk w0 C K
theorem RowsAt.step {n0 : Nat} {X : Nat → Prop} {w0 w w' : World} {k1 k2 : Nat} {C : Nat → Option (Nat × List Nat)} {K : Nat → Inner} (h : RowsAt w0 w k1 k2 C K) (hs : Step n0 X w w') (h1 : X k1) (h2 : X k2) : RowsAt w0 w' k1 k2 C K :=
  ⟨h.kept.keep hs.1 (fun e => e h1), h.flag.keep hs.1 (fun e => e h2), h.ok⟩
theorem RowsAt.below {w0 w w' : World} {k1 k2 : Nat} {C : Nat → Option (Nat × List Nat)} {K : Nat → Inner} (h : RowsAt w0 w k1 k2 C K) (hb : Below w.heap.size w w') : RowsAt w0 w' k1 k2 C K :=
  ⟨h.kept.keep (G := fun _ => False) (.of_below hb) (fun e => e), h.flag.keep (G := fun _ => False) (.of_below hb) (fun e => e), h.ok⟩
theorem RowsAt.put {w0 w : World} {k1 k2 : Nat} {C : Nat → Option (Nat × List Nat)} {K : Nat → Inner} (h : RowsAt w0 w k1 k2 C K) (hk : k1 ≠ k2) (p k : Nat) (s : Inner) (hs : s.Ok w0) :
    RowsAt w0 ((w.setCell ⟨k1, p, none⟩ (.slice s.A s.l.length s.c)).setCell ⟨k2, p, none⟩ (.bool true)) k1 k2 (turn C p (some (k, s.l))) (turn K p s) ∧ Chg (fun g => g = k1 ∨ g = k2) w ((w.setCell ⟨k1, p, none⟩ (.slice s.A s.l.length s.c)).setCell ⟨k2, p, none⟩ (.bool true)) := by
  have c1 : Chg (OnlyP k1) w (w.setCell ⟨k1, p, none⟩ (.slice s.A s.l.length s.c)) := one_chg _ _ _ _
  have c2 : Chg (OnlyP k2) (w.setCell ⟨k1, p, none⟩ (.slice s.A s.l.length s.c)) ((w.setCell ⟨k1, p, none⟩ (.slice s.A s.l.length s.c)).setCell ⟨k2, p, none⟩ (.bool true)) := one_chg _ _ _ _
  refine ⟨⟨?_, ?_, h.ok.put p k s hs⟩, (c1.mono (fun g _ e => .inl e)).trans (c2.mono (fun g _ e => .inr e)) (fun g _ hg => hg)⟩
  · have := (h.kept.set p (.slice s.A s.l.length s.c)).keep c2 (fun e => hk e)
    rwa [kcell_put] at this
  · have := (h.flag.keep c1 (fun e => hk e.symm)).set p (.bool true)
    rwa [fcell_put C p (k, s.l)] at this
/-- behind i acts -/
def LastAt' (w0 : World) (P d most k1 k2 i : Nat) (wr : World) : Prop := ∃ D L C K, LastIn most (3 * i) D L C ∧ RowsAt w0 wr k1 k2 C K ∧ PoolX w0.heap.size wr P d most D L (3 * i) (fun g => g = k1 ∨ g = k2) ∧ Below w0.heap.size w0 wr
theorem rows_new (w0 w w5 : World) (hw : w5 = (w.alloc (.cells #[.slice none 0 0, .slice none 0 0, .slice none 0 0, .slice none 0 0, .slice none 0 0, .slice none 0 0] 23)).alloc (.cells #[.bool false, .bool false, .bool false, .bool false, .bool false, .bool false] 4)) :
    RowsAt w0 w5 w.heap.size (w.heap.size + 1) (fun _ => none) (fun _ => ⟨none, [], 0⟩) ∧ Below w.heap.size w w5 ∧ w5.heap.size = w.heap.size + 2 := by
  subst hw
  refine ⟨⟨?_, ?_, fun p x hx => by cases hx⟩, below_alloc0 (below_alloc0 (Below.refl _ _) _) _, by simp⟩
  · refine RecAt.of (cs := #[.slice none 0 0, .slice none 0 0, .slice none 0 0, .slice none 0 0, .slice none 0 0, .slice none 0 0]) ?_ (by simp [lst, kcell, List.range_succ])
    simp only [hp_alloc, sz_alloc]; rw [if_neg (by omega)]; first | rw [if_pos trivial] | rw [if_pos rfl]
  · refine RecAt.of (cs := #[.bool false, .bool false, .bool false, .bool false, .bool false, .bool false]) ?_ (by simp [lst, fcell, List.range_succ])
    have := heap_alloc_new (w.alloc (.cells #[.slice none 0 0, .slice none 0 0, .slice none 0 0, .slice none 0 0, .slice none 0 0, .slice none 0 0] 23)) (.cells #[.bool false, .bool false, .bool false, .bool false, .bool false, .bool false] 4)
    rwa [sz_alloc] at this
theorem last_page {most j : Nat} {D : Dsk} {L : List Hand} {C : Nat → Option (Nat × List Nat)} (h : LastIn most j D L C) {n : Nat} (hn : n < 6) {x : Nat × List Nat} (hx : C n = some x) : x.2.length ≤ 1008 := by
  have := h.coh.page n (by rw [h.pages]; exact hn)
  rw [hx] at this
  exact this.2.2.2
theorem even_page {most j : Nat} {D : Dsk} {L : List Hand} {C : Nat → Option (Nat × List Nat)} (h : Even most j 6 D L C) {n : Nat} (hn : n < 6) {x : Nat × List Nat} (hx : C n = some x) : x.2.length ≤ 1008 := by
  have := h.coh.page n (by rw [h.pages]; exact hn)
  rw [hx] at this
  exact this.2.2.2
theorem flag_no {w0 w : World} {k1 k2 : Nat} {C : Nat → Option (Nat × List Nat)} {K : Nat → Inner} (h : RowsAt w0 w k1 k2 C K) {p : Nat} (hp : p < 6) (hc : C p = none) : w.cell? ⟨k2, p, none⟩ = some (.bool false) := by
  have := h.flag.cell p hp
  unfold fcell at this
  rwa [hc] at this
theorem flag_yes {w0 w : World} {k1 k2 : Nat} {C : Nat → Option (Nat × List Nat)} {K : Nat → Inner} (h : RowsAt w0 w k1 k2 C K) {p : Nat} (hp : p < 6) {x : Nat × List Nat} (hc : C p = some x) : w.cell? ⟨k2, p, none⟩ = some (.bool true) := by
  have := h.flag.cell p hp
  unfold fcell at this
  rwa [hc] at this
theorem kept_same {w0 w : World} {k1 k2 : Nat} {C : Nat → Option (Nat × List Nat)} {K : Nat → Inner} (h : RowsAt w0 w k1 k2 C K) {p : Nat} (hp : p < 6) {x : Nat × List Nat} (hc : C p = some x) (hb : Below w0.heap.size w0 w) (A : Option Addr) (cap m : Nat) (hx : x.2.length ≤ 1008) (hv : Buf m w (.slice A x.2.length cap) x.2) :
    ∃ kA kn kc, w.cell? ⟨k1, p, none⟩ = some (.slice kA kn kc) ∧ Calls Try.prog 45 #[.slice A x.2.length cap, .slice kA kn kc] w fun e w' => e = .returned (.bool true) ∧ Below w.heap.size w w' := by
  obtain ⟨e, ok⟩ := h.ok p x hc
  exact ⟨(K p).A, (K p).l.length, (K p).c, h.kept.cell p hp, same_eq A (K p).A x.2.length (K p).l.length cap (K p).c x.2 (K p).l w rfl rfl (by omega) e.symm (buf_at hv).2 (ok.below hb).lies⟩
end Go.Proofs.Ytfbjjblgcgjndaa

/- slices.Chunk: its iterator's contract, inside a fence. -/
namespace Go.Proofs.Ytfbjjblgcgjndaa
open Go.RowKit Go.Shelf

attribute [local go_sem] Oper.semAt_some

/-- the k-th chunk of a slice, as a value -/
def chunkV (b o len k : Nat) : Value := .slice (some ⟨b, o + 1004 * k, none⟩) (min 1004 (len - 1004 * k)) (min 1004 (len - 1004 * k))
theorem upto_succ (k : Nat) : List.range (k + 1) = List.range k ++ [k] := List.range_succ
/-- two blocks lie as they lay -/
def KeepsTwo (p q : Nat) (A B : World) : Prop := B.heap[p]? = A.heap[p]? ∧ B.heap[q]? = A.heap[q]?
theorem KeepsTwo.refl (p q : Nat) (A : World) : KeepsTwo p q A A := ⟨rfl, rfl⟩
theorem KeepsTwo.trans {p q : Nat} {A B C : World} (h : KeepsTwo p q A B) (k : KeepsTwo p q B C) : KeepsTwo p q A C := ⟨k.1.trans h.1, k.2.trans h.2⟩
theorem cell_of_block {A B : World} {p : Nat} (h : B.heap[p]? = A.heap[p]?) (i : Nat) : B.cell? ⟨p, i, none⟩ = A.cell? ⟨p, i, none⟩ := by
  unfold World.cell?
  simp only [h]
theorem KeepsTwo.put {p q : Nat} {w : World} (hp : p < w.heap.size) (hq : q < w.heap.size) (W : World) (l : Nat) (o o' : Obj) (hl : w.heap.size ≤ l) (h : W.heap[l]? = some o) : KeepsTwo p q W (W.putObj l o') := by
  have hg := grownBy_putObj' W l o'
  have hs := (Array.getElem?_eq_some_iff.1 h).1
  exact ⟨hg.block p (by omega) (fun e => by cases e; omega), hg.block q (by omega) (fun e => by cases e; omega)⟩
set_option maxRecDepth 100000 in
set_option maxHeartbeats 4000000 in
theorem chunk1_in (F : Fence) (n : Nat) (h149 : F.fn 149) (hro : F.round = none) (hn : 1 ≤ n) (l Bs Bn b o len cap : Nat) (hl : len ≤ 1000000) (hcap : len ≤ cap) (J Jx : List Nat → World → Prop) (B : Nat) (hJ : AbidesFrom B J)
    (hY : ∀ pre x W, J pre W → pre.length < (len + 1003) / 1004 → YieldAt F (n - 1) Try.prog l #[chunkV b o len x] W fun e W' =>
      (e = .returned (.bool true) ∧ J (pre ++ [x]) W' ∧ KeepsTwo Bs Bn W W') ∨ (e = .returned (.bool false) ∧ Jx (pre ++ [x]) W'))
    (W : World) (hcs : W.cell? ⟨Bs, 0, none⟩ = some (.slice (some ⟨b, o, none⟩) len cap)) (hcn : W.cell? ⟨Bn, 0, none⟩ = some (.int .i64 1004)) (h0 : J [] W) :
    CallsIn F n Try.prog 149 #[.func (.yield l) #[] #[], .pointer (some ⟨Bs, 0, none⟩), .pointer (some ⟨Bn, 0, none⟩)] W fun e W' => (∃ v, e = .returned v) ∧
      ((∃ ys, ys = List.range ((len + 1003) / 1004) ∧ J ys W') ∨ (∃ pre, (∃ k, k ≤ (len + 1003) / 1004 ∧ pre = List.range k) ∧ Jx pre W')) := by
  refine callsIn_of_wp Try.func149 rfl h149 ?_ hro
  simp only [Try.ntmps149, List.size_toArray, List.length_cons, List.length_nil, Nat.reduceAdd, Nat.reduceSub, Array.replicate_succ, Array.replicate_zero, List.push_toArray, List.append_toArray, List.nil_append, List.cons_append]
  gi_wp2
  gi_loopw [4] (fun i wr => ∃ k : Nat, k ≤ (len + 1003) / 1004 ∧ i = .int .i64 (1004 * k : Nat) ∧ J (List.range k) wr ∧ KeepsTwo Bs Bn W wr)
    (fun i _ => len + 1004 - (intOf i).toNat)
  case atStart => exact ⟨0, Nat.zero_le _, rfl, h0, KeepsTwo.refl _ _ _⟩
  case round =>
    obtain ⟨k, hk, rfl, hJs, hnx⟩ := hrel
    have c1 : wr.cell? ⟨Bs, 0, none⟩ = some (.slice (some ⟨b, o, none⟩) len cap) := (cell_of_block hnx.1 0).trans hcs
    have c2 : wr.cell? ⟨Bn, 0, none⟩ = some (.int .i64 1004) := (cell_of_block hnx.2 0).trans hcn
    by_cases hlt : 1004 * k < len
    · have hqe : 1004 * k ≤ len := by omega
      have HK := Lib.hid (show k < (len + 1003) / 1004 by omega)
      have hfol : Try.prog.follows Departure.mixedOrders = true := by kernel_rfl
      obtain ⟨q, hq⟩ : ∃ q, q = 1004 * k := ⟨_, rfl⟩
      rw [← hq] at hlt hqe
      rw [← hq]
      have hq1 : (q : Int) ≤ (len : Int) := by omega
      have hq2 : (q : Int) < (len : Int) := by omega
      have HQ := Lib.hid hq
      clear hq
      by_cases hmm : len - q < 1004
      · have e1 : ((len - q : Nat) : Int) < 1004 := by omega
        have e2 : ¬ (1004 : Int) ≤ ((len - q : Nat) : Int) := by omega
        gi_wp2
        refine wpIn_region_quiet_lit hro (by assumption) (by kernel_rfl) ?_
        repeat (gi_big_quiet_step (fail))
        refine wpQuietIn_nil ?_
        intro wq hw'
        obtain ⟨nq, hw''⟩ := hw'
        subst hw''
        obtain ⟨fn, tmps, assign, body, hy, hR⟩ := hY _ k (wr.drewN nq) (hJ _ wr (wr.drewN nq) none hJs ⟨rfl, rfl, rfl, Nat.le_refl _, fun _ _ _ => rfl⟩ (fun r e => by cases e)) (by rw [List.length_range]; exact HK.out)
        unfold chunkV at hy
        have em : min 1004 (len - 1004 * k) = len - q := by have := HQ.out; omega
        rw [em, ← HQ.out] at hy
        clear em
        gi_wp2
        refine hR.mono ?_
        rintro e W3 (⟨rfl, hJ3, hk3⟩ | ⟨rfl, hJx3⟩)
        · have c3 : W3.cell? ⟨Bn, 0, none⟩ = some (.int .i64 1004) := (cell_of_block hk3.2 0).trans c2
          gi_wp2
          go_roundw
          case rel => exact ⟨k + 1, by have := HK.out; omega, by have := HQ.out; go_num, by rw [upto_succ]; exact hJ3, (show KeepsTwo Bs Bn W (wr.drewN nq) from hnx).trans hk3⟩
          case measure => simp only [intOf]; omega
        · gi_wp2
          refine bodyPost_ret (results_none rfl _ _ _) rfl ?_
          exact ⟨⟨_, rfl⟩, .inr ⟨_, ⟨k + 1, by have := HK.out; omega, (upto_succ _).symm⟩, hJx3⟩⟩
      · have e1 : ¬ ((len - q : Nat) : Int) < 1004 := by omega
        have e2 : (1004 : Int) ≤ ((len - q : Nat) : Int) := by omega
        gi_wp2
        refine wpIn_region_quiet_lit hro (by assumption) (by kernel_rfl) ?_
        repeat (gi_big_quiet_step (fail))
        refine wpQuietIn_nil ?_
        intro wq hw'
        obtain ⟨nq, hw''⟩ := hw'
        subst hw''
        obtain ⟨fn, tmps, assign, body, hy, hR⟩ := hY _ k (wr.drewN nq) (hJ _ wr (wr.drewN nq) none hJs ⟨rfl, rfl, rfl, Nat.le_refl _, fun _ _ _ => rfl⟩ (fun r e => by cases e)) (by rw [List.length_range]; exact HK.out)
        unfold chunkV at hy
        have em : min 1004 (len - 1004 * k) = 1004 := by have := HQ.out; omega
        rw [em, ← HQ.out] at hy
        clear em
        gi_wp2
        refine hR.mono ?_
        rintro e W3 (⟨rfl, hJ3, hk3⟩ | ⟨rfl, hJx3⟩)
        · have c3 : W3.cell? ⟨Bn, 0, none⟩ = some (.int .i64 1004) := (cell_of_block hk3.2 0).trans c2
          gi_wp2
          go_roundw
          case rel => exact ⟨k + 1, by have := HK.out; omega, by have := HQ.out; go_num, by rw [upto_succ]; exact hJ3, (show KeepsTwo Bs Bn W (wr.drewN nq) from hnx).trans hk3⟩
          case measure => simp only [intOf]; omega
        · gi_wp2
          refine bodyPost_ret (results_none rfl _ _ _) rfl ?_
          exact ⟨⟨_, rfl⟩, .inr ⟨_, ⟨k + 1, by have := HK.out; omega, (upto_succ _).symm⟩, hJx3⟩⟩
    · obtain rfl : k = (len + 1003) / 1004 := by omega
      gi_wp2
      go_end0
      exact ⟨⟨_, rfl⟩, .inl ⟨_, rfl, hJs⟩⟩
/-- the iterator's contract -/
theorem chunk_stops (F : Fence) (n : Nat) (h149 : F.fn 149) (hro : F.round = none) (hn : 1 ≤ n) (Bs Bn b o len cap : Nat) (hl : len ≤ 1000000) (hcap : len ≤ cap) (w : World) (hBs : Bs < w.heap.size) (hBn : Bn < w.heap.size)
    (hcs : w.cell? ⟨Bs, 0, none⟩ = some (.slice (some ⟨b, o, none⟩) len cap)) (hcn : w.cell? ⟨Bn, 0, none⟩ = some (.int .i64 1004)) :
    SeqStopsK F n Try.prog 149 #[.pointer (some ⟨Bs, 0, none⟩), .pointer (some ⟨Bn, 0, none⟩)] (fun x : Nat => #[chunkV b o len x]) (KeepsTwo Bs Bn) (fun ys => ys = List.range ((len + 1003) / 1004)) (fun pre => ∃ k, k ≤ (len + 1003) / 1004 ∧ pre = List.range k) ((len + 1003) / 1004) w :=
  fun l J Jx W hW hJ _ hY h0 =>
    chunk1_in F n h149 hro hn l Bs Bn b o len cap hl hcap J Jx W.heap.size hJ hY W ((hW.cell (p := ⟨Bs, 0, none⟩) hBs).trans hcs) ((hW.cell (p := ⟨Bn, 0, none⟩) hBn).trans hcn) h0
set_option maxRecDepth 100000 in
set_option maxHeartbeats 1000000 in
/-- Chunk itself: its two arguments are boxed -/
theorem chunk_in (F : Fence) (n : Nat) (h93 : F.fn 93) (hro : F.round = none) (a : Option Addr) (len cap : Nat) (w : World) :
    CallsIn F n Try.prog 93 #[.slice a len cap, .int .i64 1004] w fun e w' => e = .returned (.func (.func 149) #[] #[.pointer (some ⟨w.heap.size, 0, none⟩), .pointer (some ⟨w.heap.size + 1, 0, none⟩)]) ∧ w' = (w.alloc (.cells #[.slice a len cap] 23)).alloc (.cells #[.int .i64 1004] 3) := by
  refine callsIn_of_wp Try.func93 rfl h93 ?_ hro
  simp only [Try.ntmps93, List.size_toArray, List.length_cons, List.length_nil, Nat.reduceAdd, Nat.reduceSub, Array.replicate_succ, Array.replicate_zero, List.push_toArray, List.append_toArray, List.nil_append, List.cons_append]
  gi_wp2
  go_ret
  first | exact ⟨rfl, rfl⟩ | (simp; done)
end Go.Proofs.Ytfbjjblgcgjndaa

/- over: Need (42), isPage (92), and whether words hold a number that is no page (90 over 148, 91). -/
namespace Go.Proofs.Ytfbjjblgcgjndaa
open Go.RowKit

/-- how many pages a great value takes -/
def need (n : Nat) : Nat := if n ≤ 64 ∨ 8192 < n then 0 else (n + 1003) / 1004
theorem need_le (n : Nat) : need n ≤ 9 := by unfold need; split <;> omega
theorem need_yes {n : Nat} (h : need n ≠ 0) : 65 ≤ n ∧ n ≤ 8192 ∧ need n = (n + 1003) / 1004 := by
  unfold need at h ⊢
  split at h
  · exact absurd rfl h
  · rename_i h1; rw [if_neg h1]; omega
set_option maxRecDepth 100000 in
theorem need_any (n : Nat) (hn : n ≤ 140737488355328) (w : World) : Calls Try.prog 42 #[.int .i64 (n : Int)] w fun e w' => e = .returned (.int .i64 (need n : Int)) ∧ w = w' := by
  by_cases h1 : n ≤ 64
  · have e1 : (n : Int) ≤ 64 := by omega
    have hz : need n = 0 := by unfold need; rw [if_pos (.inl h1)]
    rw [hz]
    clear hz
    go_enter Try.func42, Try.ntmps42
    go_wp2_with fail
    go_ret
    exact ⟨rfl, rfl⟩
  · have e1 : ¬ (n : Int) ≤ 64 := by omega
    by_cases h2 : 8192 < n
    · have e2 : (8192 : Int) < (n : Int) := by omega
      have hz : need n = 0 := by unfold need; rw [if_pos (.inr h2)]
      rw [hz]
      clear hz
      go_enter Try.func42, Try.ntmps42
      go_wp2_with fail
      go_ret
      exact ⟨rfl, rfl⟩
    · have e2 : ¬ (8192 : Int) < (n : Int) := by omega
      have hz : need n = (n + 1003) / 1004 := by unfold need; rw [if_neg (by omega)]
      have HZ := Lib.hid hz
      clear hz
      have w1 : IntKind.i64.wrap ((n : Int) + 1004) = (n : Int) + 1004 := by rw [IntKind.wrap_i64]; omega
      have w2 : IntKind.i64.wrap ((n : Int) + 1004 - 1) = (n : Int) + 1003 := by rw [IntKind.wrap_i64]; omega
      go_enter Try.func42, Try.ntmps42
      go_wp2_with fail
      go_ret
      refine ⟨?_, rfl⟩
      rw [HZ.out]
      congr 2
def isPg (x : Nat) : Bool := decide (2 ≤ x) && decide (x < 16384)
set_option maxRecDepth 100000 in
theorem ispage_any (x : Nat) (hx : x < 4294967296) (w : World) : Calls Try.prog 92 #[.int .u32 (x : Int)] w fun e w' => e = .returned (.bool (isPg x)) ∧ w = w' := by
  unfold isPg
  by_cases h1 : 2 ≤ x
  · have e1 : (2 : Int) ≤ (x : Int) := by omega
    go_enter Try.func92, Try.ntmps92
    go_wp2_with fail
    go_ret
    refine ⟨?_, rfl⟩
    by_cases h2 : x < 16384
    · have e2 : (x : Int) < 16384 := by omega
      simp [h1, h2, e1, e2]
    · have e2 : ¬ (x : Int) < 16384 := by omega
      simp [h1, h2, e1, e2] <;> omega
  · have e1 : ¬ (2 : Int) ≤ (x : Int) := by omega
    go_enter Try.func92, Try.ntmps92
    go_wp2_with fail
    go_ret
    refine ⟨?_, rfl⟩
    simp [h1, e1]
theorem nopage_any (x : Nat) (hx : x < 4294967296) (w : World) : Calls Try.prog 91 #[.int .u32 (x : Int)] w fun e w' => e = .returned (.bool (!isPg x)) ∧ w = w' := by
  have HP := Lib.hid (ispage_any x hx)
  generalize isPg x = b at *
  go_enter Try.func91, Try.ntmps91
  go_wp2_with fail
  refine (HP.out w).mono ?_
  rintro e w1 ⟨rfl, rfl⟩
  go_wp2_with fail
  go_ret
  exact ⟨rfl, rfl⟩
/-- the place of the first number that is no page, or -1 -/
def idxNo (u : List Nat) : Int := match u.findIdx? (fun x => !isPg x) with | some i => (i : Int) | none => -1
theorem idxNo_some {u : List Nat} {i : Nat} (h : u.findIdx? (fun x => !isPg x) = some i) : idxNo u = (i : Int) := by unfold idxNo; rw [h]
theorem idxNo_none {u : List Nat} (h : u.findIdx? (fun x => !isPg x) = none) : idxNo u = -1 := by unfold idxNo; rw [h]
set_option maxRecDepth 100000 in
set_option maxHeartbeats 1000000 in
theorem index_any (A : Option Addr) (c : Nat) (u : List Nat) (w : World) (hA : At w A (ns .u32 u)) (hu : ∀ x, x ∈ u → x < 4294967296) (hl : u.length ≤ 140737488351232) :
    Calls Try.prog 148 #[.slice A u.length c, .func (.func 91) #[] #[]] w fun e w' => e = .returned (.int .i64 (idxNo u)) ∧ w = w' := by
  have HA := Lib.hid hA
  have HU := Lib.hid hu
  clear hA hu
  go_enter Try.func148, Try.ntmps148
  go_wp2_with fail
  go_loop [8] (fun i => ∃ k : Nat, k ≤ u.length ∧ i = .int .i64 k ∧ ∀ x, x ∈ u.take k → isPg x = true) (fun i => u.length - (intOf i).toNat)
  case atStart => exact ⟨0, by omega, rfl, fun x hx => by simp at hx⟩
  case round =>
    obtain ⟨k, hk, rfl, hall⟩ := hrel
    by_cases hlt : k < u.length
    · have hki : (k : Int) < (u.length : Int) := by omega
      obtain ⟨b, o, rfl, hcell⟩ := HA.out (by intro e; have : (ns .u32 u).length = 0 := by rw [e]; rfl
                                              rw [ns_length] at this; omega)
      have hc := hcell k (.int .u32 (nth u k : Int)) (by simp [ns, nth_eq u k hlt])
      have hx := HU.out _ (nth_mem u k hlt)
      have HP := Lib.hid (nopage_any (nth u k) hx)
      have HALL := Lib.hid hall
      clear hall hcell
      cases hp : isPg (nth u k) with
      | true =>
        rw [hp] at HP
        have hq : ∀ x, x ∈ u.take (k + 1) → isPg x = true := by
          rw [take_nth u k hlt]
          intro x hx
          rcases List.mem_append.1 hx with h | h
          · exact HALL.out x h
          · rw [List.mem_singleton.1 h]; exact hp
        have HQ := Lib.hid hq
        clear hp hq
        generalize nth u k = y at *
        go_wp2_with fail
        refine (HP.out w).mono ?_
        rintro e w1 ⟨rfl, rfl⟩
        go_wp2_with fail
        case roundEnd => exact ⟨⟨k + 1, by omega, by go_num, HQ.out⟩, by simp only [intOf]; omega⟩
      | false =>
        rw [hp] at HP
        have hf : u.findIdx? (fun x => !isPg x) = some k := by
          rw [List.findIdx?_eq_some_iff_getElem]
          refine ⟨hlt, by rw [← nth_get u k hlt, hp]; rfl, fun j hj => ?_⟩
          have := HALL.out u[j] (List.mem_take_iff_getElem.2 ⟨j, by omega, rfl⟩)
          rw [this]; simp
        have HF := Lib.hid (idxNo_some hf)
        clear hp hf
        generalize nth u k = y at *
        go_wp2_with fail
        refine (HP.out w).mono ?_
        rintro e w1 ⟨rfl, rfl⟩
        go_wp2_with fail
        go_ret
        rw [HF.out]
        exact ⟨rfl, rfl⟩
    · obtain rfl : k = u.length := by omega
      have hf : u.findIdx? (fun x => !isPg x) = none := by
        rw [List.findIdx?_eq_none_iff]
        intro x hx
        rw [hall x (by rw [List.take_length]; exact hx)]; rfl
      have HF := Lib.hid (idxNo_none hf)
      clear hf hall
      go_wp2_with fail
      go_ret
      rw [HF.out]
      exact ⟨rfl, rfl⟩
set_option maxRecDepth 100000 in
theorem holdsno_any (A : Option Addr) (c : Nat) (u : List Nat) (w : World) (hA : At w A (ns .u32 u)) (hu : ∀ x, x ∈ u → x < 4294967296) (hl : u.length ≤ 140737488351232) :
    Calls Try.prog 90 #[.slice A u.length c, .func (.func 91) #[] #[]] w fun e w' => e = .returned (.bool (u.any fun x => !isPg x)) ∧ w = w' := by
  have HI := Lib.hid (index_any A c u w hA hu hl)
  have hz : (0 ≤ idxNo u) ↔ (u.any fun x => !isPg x) = true := by
    cases h : u.findIdx? (fun x => !isPg x) with
    | none =>
      rw [idxNo_none h]
      rw [List.findIdx?_eq_none_iff] at h
      constructor
      · intro h'; simp at h'
      · intro h'
        obtain ⟨x, hx, hp⟩ := List.any_eq_true.1 h'
        rw [h x hx] at hp; cases hp
    | some i =>
      rw [idxNo_some h]
      rw [List.findIdx?_eq_some_iff_getElem] at h
      obtain ⟨hi, hp, _⟩ := h
      exact ⟨fun _ => List.any_eq_true.2 ⟨u[i], List.getElem_mem _, hp⟩, fun _ => by simp⟩
  have HZ := Lib.hid hz
  clear hz hA hu
  generalize idxNo u = z at *
  generalize (u.any fun x => !isPg x) = bb at *
  go_enter Try.func90, Try.ntmps90
  go_wp2_with fail
  refine HI.out.mono ?_
  rintro e w1 ⟨rfl, rfl⟩
  go_wp2_with fail
  go_ret
  refine ⟨?_, rfl⟩
  have hb : decide (0 ≤ z) = bb := by
    rw [Bool.eq_iff_iff]
    simpa using HZ.out
  rw [← hb]
  rfl
end Go.Proofs.Ytfbjjblgcgjndaa
