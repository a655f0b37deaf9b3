/- Contract of the disk's Load. -/
import Derived.Test.YtfbjjblgcgjndaaDiskH
import Derived.Test.YtfbjjblgcgjndaaDiskPlain3
import Derived.Laws.IdiomCopy
set_option linter.unusedVariables false
set_option linter.unusedSimpArgs false
namespace Go.Proofs.Ytfbjjblgcgjndaa
open Go.RowKit Go.Maps

def part128 (l : List Nat) (i : Nat) : List Nat := (l.drop (128 * i)).take 128
theorem part128_len {l : List Nat} {i : Nat} (h : 128 * (i + 1) ≤ l.length) : (part128 l i).length = 128 := by
  unfold part128; rw [List.length_take, List.length_drop]; omega
/-- the first j sectors are laid -/
def loaded (img : List Nat) (n : Nat) : Nat → List (List Nat)
  | 0 => List.replicate n zeroSect
  | j + 1 => (loaded img n j).set j (part128 img j)
theorem loaded_length (img : List Nat) (n j : Nat) : (loaded img n j).length = n := by
  induction j with
  | zero => simp [loaded]
  | succ j ih => simp [loaded, ih]
theorem getD_set8 {α : Type} (l : List α) (i j : Nat) (x d : α) : (l.set i x).getD j d = if j = i ∧ i < l.length then x else l.getD j d := by
  rw [List.getD_eq_getElem?_getD, List.getD_eq_getElem?_getD, List.getElem?_set]
  by_cases h : i = j
  · subst h
    by_cases h2 : i < l.length
    · simp [h2]
    · simp [h2]
  · rw [if_neg h, if_neg (fun e => h e.1.symm)]
theorem loaded_get (img : List Nat) (n j i : Nat) (hj : j ≤ n) (hi : i < j) : (loaded img n j).getD i [] = part128 img i := by
  induction j with
  | zero => omega
  | succ j ih =>
    rw [loaded, getD_set8, loaded_length]
    by_cases e : i = j
    · rw [if_pos ⟨e, by omega⟩, e]
    · rw [if_neg (fun h => e h.1)]; exact ih (by omega) (by omega)
theorem loaded_all (img : List Nat) (n : Nat) : loaded img n n = (List.range n).map (part128 img) := by
  apply List.ext_getElem
  · rw [loaded_length]; simp
  · intro i h1 h2
    rw [loaded_length] at h1
    have := loaded_get img n n i (Nat.le_refl _) h1
    rw [List.getD_eq_getElem?_getD, List.getElem?_eq_getElem (by rw [loaded_length]; exact h1)] at this
    simpa using this
theorem parts_flat (l : List Nat) (n : Nat) (h : 128 * n ≤ l.length) : ((List.range n).map (part128 l)).flatten = l.take (128 * n) := by
  induction n with
  | zero => simp
  | succ n ih =>
    rw [List.range_succ, List.map_append, List.flatten_append, ih (by omega)]
    simp only [List.map_cons, List.map_nil, List.flatten_cons, List.flatten_nil, List.append_nil, part128]
    rw [show 128 * (n + 1) = 128 * n + 128 by omega, List.take_add]
theorem loaded_ok {img : List Nat} (hb : Bytes img) {n j : Nat} (hj : j ≤ n) (h : 128 * n ≤ img.length) : ∀ s ∈ loaded img n j, sectOk s := by
  induction j with
  | zero => intro s hs; rw [(List.mem_replicate.1 hs).2]; exact zeroSect_ok
  | succ j ih =>
    intro s hs
    rcases List.mem_or_eq_of_mem_set hs with hs | rfl
    · exact ih (by omega) s hs
    · exact ⟨part128_len (by omega), (hb.drop _).take _⟩
def Dsk.loads (img : List Nat) (p j : Nat) : Dsk := { Dsk.new p with last := loaded img (8 * p) j }
def Dsk.load (img : List Nat) : Dsk := Dsk.loads img (img.length / 1024) (8 * (img.length / 1024))
theorem Dsk.load_flat (img : List Nat) (h : img.length % 1024 = 0) : (Dsk.load img).last.flatten = img := by
  show (loaded img _ _).flatten = img
  rw [loaded_all, parts_flat img _ (by omega), List.take_of_length_le (by omega)]
theorem Dsk.loads_ok {img : List Nat} (hb : Bytes img) {p j : Nat} (h1 : 1 ≤ p) (h2 : p ≤ 16384) (hj : j ≤ 8 * p) (hl : 1024 * p ≤ img.length) : (Dsk.loads img p j).Ok :=
  ⟨loaded_ok hb hj (by omega), fun x hx => by simp [Dsk.loads, Dsk.new] at hx, ⟨p, loaded_length _ _ _, h1, h2⟩, by simp [Dsk.loads, Dsk.new], fun j => by simp [Dsk.loads, Dsk.new], fun j => by simp [Dsk.loads, Dsk.new]⟩
theorem DG.lay {n0 : Nat} {w : World} {p : Nat} {D : Dsk} {S : Nat → Prop} (h : DG n0 w p D S) (i : Nat) (hi : i < D.last.length) (s : List Nat) (hs : sectOk s) :
    ∃ b, w.cell? ⟨p, 0, none⟩ = some (.slice (some ⟨b, 0, none⟩) D.last.length D.last.length) ∧ S b ∧ (∀ j, j < 128 → (w.cell? ⟨b, i * 128 + j, none⟩).isSome = true ∧ w.frozen? ⟨b, i * 128 + j, none⟩ = false) ∧
      DG n0 (w.setCells b (i * 128) (ns .u8 s)) p { D with last := D.last.set i s } S ∧ Chg S w (w.setCells b (i * 128) (ns .u8 s)) := by
  obtain ⟨⟨ok, q, M, hin, hft⟩, hlt⟩ := h
  obtain ⟨h1, h2⟩ := hin.lay (fun s hs => (ok.last s hs).1) i hi s hs.1
  have hSb := hft q.b (.inr (.inl rfl))
  refine ⟨q.b, hin.rcd.cell 0 (by omega), hSb, fun j hj => ?_, ⟨⟨⟨?_, fun x hx => by rw [List.length_set]; exact ok.cache x hx, ?_, ok.trip, ok.f, ok.n⟩, q, M, h1, hft⟩, fun g hg => ⟨(hlt g hg).1, Nat.lt_of_lt_of_le (hlt g hg).2 h2.size⟩⟩, h2.mono (fun g _ e => by rw [show g = q.b from e]; exact hSb)⟩
  · have := hin.last.there (i * 128 + j) (by have : (i + 1) * 128 ≤ D.last.length * 128 := Nat.mul_le_mul_right _ hi; omega)
    simpa using this
  · intro t ht
    rcases List.mem_or_eq_of_mem_set ht with ht | rfl
    · exact ok.last t ht
    · exact hs
  · obtain ⟨k, a, b⟩ := ok.pages
    exact ⟨k, by rw [← a]; exact List.length_set .., b⟩
theorem At.cellj {w : World} {A : Option Addr} {xs : List Value} (h : At w A xs) (hne : xs ≠ []) : ∃ b o, A = some ⟨b, o, none⟩ ∧ w.rangeAt b o xs := h hne
theorem wpList_copyrun {P : Program} (w : World) {ops : Array Oper} {rest : List Oper} {o : Oper} {a : Act} {Q : Exit → Act → World → Prop} (hgd : o.guard = none) (d s : Operand) (t t' : TypeId)
    (ho : o.op = .call { callee := .builtin .copy, args := #[d, s], argTypes := #[t, t'] }) (v u : Value) (hd : a.eval d = v) (hs : a.eval s = u) {v' : Value} {w' : World}
    (hr : (Builtin.copy_ #[t, t'] o.type #[v, u]).run P w = .ok v' w') (h : wpList P ops Q rest (a.put o.dst v') w') : wpList P ops Q (o :: rest) a w := by
  refine wpList_plain hgd fun _ hK => ?_
  unfold Oper.wp execOp
  simp only [ho, resolve, invoke, builtin, Sem.run_bind, Sem.run_pure, Result.andThen_ok, List.map_toArray, List.map_cons, List.map_nil, hd, hs, hr]
  exact hK _ _ h
def LoadGives (img : List Nat) (w : World) (e : Ending) (w' : World) : Prop :=
  (∃ p S, e = .returned (.tuple #[.pointer (some ⟨p, 0, none⟩), .int .u16 0]) ∧ DG w.heap.size w' p (Dsk.load img) S ∧ Below w.heap.size w w' ∧ img.length % 1024 = 0 ∧ 1 ≤ img.length / 1024 ∧ img.length / 1024 ≤ 16384)
def LoadFails (w : World) (e : Ending) (w' : World) : Prop := e = .returned (.tuple #[.pointer none, .int .u16 70]) ∧ Below w.heap.size w w'
set_option maxRecDepth 100000 in
theorem load_no (r : Inner) (w : World) (hs : r.l.length ≤ 100000000) (h : r.l.length % 1024 ≠ 0 ∨ r.l.length / 1024 < 1 ∨ 16384 < r.l.length / 1024) : Calls Try.prog 63 #[.slice r.A r.l.length r.c] w (LoadFails w) := by
  by_cases h1 : r.l.length % 1024 = 0
  · have h2 : r.l.length / 1024 < 1 ∨ 16384 < r.l.length / 1024 := by omega
    have hN := Lib.hid (new_no ((r.l.length / 1024 : Nat) : Int) w (by omega))
    have a1 : ((r.l.length : Int) % 1024 != 0) = false := by simp; omega
    have a2 : (r.l.length : Int) / 1024 = ((r.l.length / 1024 : Nat) : Int) := by omega
    generalize r.l.length / 1024 = p at *
    go_enter Try.func63, Try.ntmps63
    go_wp2_with fail
    refine hN.out.mono ?_
    rintro e w1 ⟨rfl, rfl⟩
    go_wp2_with fail
    go_ret2
    exact ⟨rfl, Below.refl _ _⟩
  · have a1 : ((r.l.length : Int) % 1024 != 0) = true := by simp; omega
    have a2 : ¬ (r.l.length : Int) % 1024 = 0 := by omega
    go_enter Try.func63, Try.ntmps63
    go_wp2_with fail
    go_ret2
    exact ⟨rfl, Below.refl _ _⟩
set_option maxRecDepth 100000 in
set_option maxHeartbeats 2000000 in
theorem load_yes (r : Inner) (w : World) (hr : r.Ok w) (p : Nat) (hp : r.l.length = 1024 * p) (h1 : 1 ≤ p) (h2 : p ≤ 16384) : Calls Try.prog 63 #[.slice r.A r.l.length r.c] w (LoadGives r.l w) := by
  obtain ⟨A, img, c⟩ := r
  simp only at hp ⊢
  have hbb := hr.bytes
  have hle := hr.le
  simp only at hbb hle
  obtain ⟨gi, oi, rfl, hrg⟩ := hr.lies (by intro e; have := congrArg List.length e; simp [ns] at this; simp [this] at hp; omega)
  have hAT : At w (some ⟨gi, oi, none⟩) (ns .u8 img) := hr.lies
  obtain ⟨n, hn⟩ : ∃ n, n = img.length := ⟨_, rfl⟩
  have a1 : ((n : Int) % 1024 != 0) = false := by simp; omega
  have a2 : (n : Int) / 1024 = (p : Int) := by omega
  have a3 : ¬ ((n : Int) % 1024 ≠ 0) := by omega
  have hnb : n ≤ 16777216 := by omega
  have hnc : n ≤ c := by omega
  rw [← hn]
  have HN := Lib.hid hn
  have HP := Lib.hid hp
  have HB := Lib.hid hbb
  have HAT := Lib.hid hAT
  clear hn hp hbb hAT hrg hr hle
  go_enter Try.func63, Try.ntmps63
  go_wp2_with fail
  refine (dg_newl p w (Nat.le_refl _) h1 h2).mono ?_
  rintro e w1 ⟨pd, S, rfl, hd, _, hb⟩
  have hd0 : DG w.heap.size w1 pd (Dsk.loads img p 0) S := hd
  obtain ⟨N, hN⟩ : ∃ N, N = 8 * p := ⟨_, rfl⟩
  have hNb : N ≤ 131072 := by omega
  have c0 : ∃ b, w1.cell? ⟨pd, 0, none⟩ = some (.slice (some ⟨b, 0, none⟩) N N) := by
    obtain ⟨b, h, _⟩ := hd0.lay 0 (by show 0 < (loaded img (8 * p) 0).length; rw [loaded_length]; omega) (part128 img 0) ⟨part128_len (by have := HP.out; omega), (HB.out.drop _).take _⟩
    refine ⟨b, ?_⟩
    rw [show (Dsk.loads img p 0).last.length = N by rw [hN]; exact loaded_length _ _ _] at h
    exact h
  obtain ⟨b0, c0⟩ := c0
  have HD0 := Lib.hid hd0
  have HBB := Lib.hid hb
  have HN8 := Lib.hid hN
  clear hd hd0 hb hN
  go_wp2_with fail
  go_loopw [26] (fun i wr => ∃ j : Nat, j ≤ N ∧ i = .int .i64 j ∧ DG w.heap.size wr pd (Dsk.loads img p j) S ∧ Below w.heap.size w wr) (fun i _ => N - (intOf i).toNat)
  case atStart => exact ⟨0, by omega, rfl, HD0.out, HBB.out⟩
  case round =>
    clear HD0 HBB c0
    obtain ⟨j, hj, rfl, hd, hb⟩ := hrel
    by_cases hlt : j < N
    · have hjn : 128 * (j + 1) ≤ n := by have := HN8.out; have := HP.out; have := HN.out; omega
      have hso : sectOk (part128 img j) := ⟨part128_len (by have := HN.out; omega), (HB.out.drop _).take _⟩
      have hbr : Below wr.heap.size wr wr.drew := below_drew0 (Below.refl _ wr)
      obtain ⟨b, c1, hSb, hcf, hd2, hc2⟩ := (hd.below hbr).lay j (by show j < (loaded img (8 * p) j).length; rw [loaded_length, ← HN8.out]; exact hlt) (part128 img j) hso
      rw [show (Dsk.loads img p j).last.length = N by rw [HN8.out]; exact loaded_length _ _ _] at c1
      have c2 : wr.cell? ⟨pd, 0, none⟩ = some (.slice (some ⟨b, 0, none⟩) N N) := c1
      have hsrc := (HAT.out.below (below_next0 hb hbr)).part (j * 128) 128
      rw [show (img.drop (j * 128)).take 128 = part128 img j by unfold part128; rw [Nat.mul_comm]] at hsrc
      have hb2 := (hd.below hbr).after (below_next0 hb hbr) hc2
      have hk0 : (j : Int) < (N : Int) := by omega
      have hk1 : IntKind.i64.wrap ((j : Int) * 128) = (j : Int) * 128 := by rw [IntKind.wrap_i64]; omega
      have hk3 : ((j : Int) * 128).toNat = j * 128 := by omega
      have hk5 : 0 ≤ (j : Int) * 128 := by omega
      have hk6 : (j : Int) * 128 ≤ (n : Int) := by omega
      have hk7 : ¬ c = j * 128 := by omega
      have hk8 : j * 128 ≤ n := by omega
      have HSRC := Lib.hid hsrc
      have HCF := Lib.hid hcf
      have HD2 := Lib.hid hd2
      have HB2 := Lib.hid hb2
      have HSO := Lib.hid hso
      have HJN := Lib.hid hjn
      clear hsrc hcf hd2 hb2 hso hd hb hc2 c1 hbr hjn
      go_wp2_with fail
      go_still_tail 11, (by kernel_rfl)
      change wpList _ _ _ _ _ wr.drew
      have hcopy := run_copy_cells (P := Try.prog) wr.drew 23 23 3 5 b (j * 128) 128 128 ⟨gi, oi + j * 128, none⟩ (n - j * 128) (c - j * 128) (ns .u8 (part128 img j)) Try.underlying23 (by kernel_rfl) (by rw [ns_length, HSO.out.1]; have := HJN.out; exact (Nat.min_eq_right (by omega)).symm)
        (fun q v hv => by
          obtain ⟨b', o', e, hr⟩ := HSRC.out (by intro e; have := congrArg List.length e; rw [ns_length] at this; have h2 := HSO.out.1; rw [h2] at this; simp at this)
          cases e
          rw [Addr.add_mid]
          exact hr q v hv) (fun q hq => (HCF.out q (by rw [ns_length, HSO.out.1] at hq; exact hq)).1) (fun q hq => (HCF.out q (by rw [ns_length, HSO.out.1] at hq; exact hq)).2) (ns_one _ _)
      refine wpList_copyrun _ rfl (.tmp 35) (.tmp 39) 23 23 rfl _ _ rfl rfl hcopy ?_
      clear hcopy
      go_wp2_with fail
      case roundEnd =>
        exact ⟨⟨j + 1, by omega, by go_num, HD2.out, HB2.out⟩, by simp only [intOf]; omega⟩
    · obtain rfl : N = j := by omega
      have hld : Dsk.loads img p N = Dsk.load img := by
        unfold Dsk.load
        rw [show img.length / 1024 = p by have := HP.out; omega, HN8.out]
      rw [hld] at hd
      have HD9 := Lib.hid hd
      clear hd hld
      go_wp2_with fail
      go_ret2
      exact ⟨pd, S, rfl, HD9.out, hb, by have := HP.out; omega, by have := HP.out; omega, by have := HP.out; omega⟩
end Go.Proofs.Ytfbjjblgcgjndaa
