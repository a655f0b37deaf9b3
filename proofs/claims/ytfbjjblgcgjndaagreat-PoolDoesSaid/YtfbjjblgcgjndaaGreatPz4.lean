/- Joined texts: DiskG, Pool1, Pool2, DiskH, DiskPlain3, RDisk1, RPool1, RPool2, RPool3, RPool4, RDisk2, RDisk3, RDisk4, RDisk5, RDisk6. -/
import Derived.Maps.Views
import Derived.ArgAppend
import Derived.BigQuiet
import Derived.Test.YtfbjjblgcgjndaaGreatPz1
import Derived.Test.YtfbjjblgcgjndaaGreatPz3
set_option linter.unusedVariables false
set_option linter.unusedSimpArgs false

/- The disk's contracts over a disk with its blocks known: what stays, what is new. -/
namespace Go.Proofs.YtfbjjblgcgjndaaGreat
open Go.RowKit

/-- a disk at p, all of it between n0 and the heap's end -/
structure DG (n0 : Nat) (w : World) (p : Nat) (D : Dsk) (S : Nat → Prop) : Prop where
  disk : DiskAt n0 w p D S
  lt : ∀ g, S g → n0 ≤ g ∧ g < w.heap.size
theorem DG.here {n0 : Nat} {w : World} {p : Nat} {D : Dsk} {S : Nat → Prop} (h : DG n0 w p D S) : S p := h.disk.here
theorem DG.ok {n0 : Nat} {w : World} {p : Nat} {D : Dsk} {S : Nat → Prop} (h : DG n0 w p D S) : D.Ok := h.disk.1
theorem DG.keep {n0 : Nat} {w w' : World} {p : Nat} {D : Dsk} {S G : Nat → Prop} (h : DG n0 w p D S) (hc : Chg G w w') (hG : ∀ g, S g → ¬ G g) : DG n0 w' p D S :=
  ⟨h.disk.keep hc (fun g _ hg => hG g hg), fun g hg => ⟨(h.lt g hg).1, Nat.lt_of_lt_of_le (h.lt g hg).2 hc.size⟩⟩
theorem DG.below {n0 : Nat} {w w' : World} {p : Nat} {D : Dsk} {S : Nat → Prop} (h : DG n0 w p D S) (hb : Below w.heap.size w w') : DG n0 w' p D S :=
  h.keep (G := fun _ => False) (.of_below hb) (fun _ _ h => h)
/-- the blocks of T are S's, or new -/
def Grows (w : World) (S T : Nat → Prop) : Prop := ∀ g, T g → S g ∨ w.heap.size ≤ g
theorem Grows.refl (w : World) (S : Nat → Prop) : Grows w S S := fun _ h => .inl h
theorem Grows.trans {w w' : World} {S T U : Nat → Prop} (h : Grows w S T) (k : Grows w' T U) (hw : w.heap.size ≤ w'.heap.size) : Grows w S U := fun g hg => by
  rcases k g hg with a | a
  · exact h g a
  · exact .inr (Nat.le_trans hw a)
/-- what is apart from S is apart from what S grows to -/
theorem Grows.apart {w : World} {S T X : Nat → Prop} (h : Grows w S T) (hx : ∀ g, X g → g < w.heap.size) (ha : ∀ g, X g → ¬ S g) : ∀ g, X g → ¬ T g := fun g hg ht => by
  rcases h g ht with a | a
  · exact ha g hg a
  · have := hx g hg; omega
def Now (n0 : Nat) (w : World) (p : Nat) (S : Nat → Prop) (D' : Dsk) (w' : World) : Prop := ∃ S', DG n0 w' p D' S' ∧ Grows w S S' ∧ Chg S w w'
theorem DG.now {n0 : Nat} {w w' : World} {p : Nat} {D D' : Dsk} {S : Nat → Prop} (h : DG n0 w p D S) (hn : n0 ≤ w.heap.size) (hd : DiskAt n0 w' p D' (Wide S w.heap.size w'.heap.size)) (hc : Chg S w w') : Now n0 w p S D' w' :=
  ⟨_, ⟨hd, fun g hg => by
    rcases hg with hg | hg
    · exact ⟨(h.lt g hg).1, Nat.lt_of_lt_of_le (h.lt g hg).2 hc.size⟩
    · exact ⟨Nat.le_trans hn hg.1, hg.2⟩⟩, fun g hg => hg.elim .inl (fun h => .inr h.1), hc⟩
def DkGives (n0 : Nat) (w : World) (p : Nat) (S : Nat → Prop) (x : Nat) (D' : Dsk) (e : Ending) (w' : World) : Prop := e = .returned (.int .u16 (x : Nat)) ∧ Now n0 w p S D' w'
theorem dg_write {n0 : Nat} {w : World} {p : Nat} {D : Dsk} {S : Nat → Prop} (h : DG n0 w p D S) (hn0 : n0 ≤ w.heap.size) (pg : Int) (A : Option Addr) (c : Nat) (l : List Nat) (hr : Inner.Ok w ⟨A, l, c⟩) (hA : ∀ a, A = some a → ¬ S a.block) (hc : D.cache.length ≤ 1000000000000) (hn : D.n 2 ≤ 4611686018427387904) :
    Calls Tryz.prog 8 #[.pointer (some ⟨p, 0, none⟩), .int .i64 pg, .slice A l.length c] w (DkGives n0 w p S (D.write pg l).1 (D.write pg l).2) :=
  (disk_write n0 w p D S pg ⟨A, l, c⟩ h.disk hr hc hn hn0 hA (fun g hg => (h.lt g hg).2) h.here).mono fun e w' ⟨a, b, d⟩ => ⟨a, h.now hn0 b d⟩
theorem dg_sync {n0 : Nat} {w : World} {p : Nat} {D : Dsk} {S : Nat → Prop} (h : DG n0 w p D S) (hn0 : n0 ≤ w.heap.size) (hc : D.cache.length ≤ 1000000000000) (hn : D.n 3 ≤ 4611686018427387904) :
    Calls Tryz.prog 56 #[.pointer (some ⟨p, 0, none⟩)] w (DkGives n0 w p S D.sync.1 D.sync.2) :=
  (disk_sync n0 w p D S h.disk hc hn (fun g hg => (h.lt g hg).2) h.here).mono fun e w' ⟨a, b, d⟩ => ⟨a, h.now hn0 b d⟩
theorem dg_fail {n0 : Nat} {w : World} {p : Nat} {D : Dsk} {S : Nat → Prop} (h : DG n0 w p D S) (hn0 : n0 ≤ w.heap.size) (k n : Int) (hn : n ≤ 9223372036854775807) :
    Calls Tryz.prog 25 #[.pointer (some ⟨p, 0, none⟩), .int .i64 k, .int .i64 n] w (DkGives n0 w p S (D.setFail k n).1 (D.setFail k n).2) :=
  (disk_fail n0 w p D S k n h.disk hn).mono fun e w' ⟨a, b, d⟩ => ⟨a, h.now hn0 b d⟩
theorem dg_cut {n0 : Nat} {w : World} {p : Nat} {D : Dsk} {S : Nat → Prop} (h : DG n0 w p D S) (hn0 : n0 ≤ w.heap.size) (A : Option Addr) (c : Nat) (bs : List Bool) (hc : D.cache.length ≤ 1000000000000) (hB : ∀ w', Chg S w w' → At w' A (bs.map .bool)) :
    Calls Tryz.prog 27 #[.pointer (some ⟨p, 0, none⟩), .slice A bs.length c] w fun e w' => e = .returned (.tuple #[]) ∧ Now n0 w p S (D.cut bs) w' :=
  (disk_cut n0 w p D S A c bs h.disk hc hB (fun g hg => (h.lt g hg).2)).mono fun e w' ⟨a, b, d⟩ => ⟨a, h.now hn0 (b.mono fun _ _ _ h => .inl h) d⟩
theorem dg_counts {n0 : Nat} {w : World} {p : Nat} {D : Dsk} {S : Nat → Prop} (h : DG n0 w p D S) : Calls Tryz.prog 29 #[.pointer (some ⟨p, 0, none⟩)] w fun e w' => e = .returned (.agg #[.int .i64 (D.n 1), .int .i64 (D.n 2), .int .i64 (D.n 3)]) ∧ Below w.heap.size w w' := disk_counts n0 w p D S h.disk
theorem dg_new (n : Nat) (w : World) (h1 : 1 ≤ n) (h2 : n ≤ 16384) : Calls Tryz.prog 6 #[.int .i64 (n : Int)] w fun e w' => ∃ p S, e = .returned (.tuple #[.pointer (some ⟨p, 0, none⟩), .int .u16 0]) ∧ DG w.heap.size w' p (Dsk.new n) S ∧ Below w.heap.size w w' :=
  (new_ok n w h1 h2).mono fun e w' ⟨p, a, b, c⟩ => ⟨p, _, a, ⟨b, fun g hg => hg⟩, c⟩
theorem DG.new_n {n0 : Nat} {w : World} {p : Nat} {D : Dsk} {S : Nat → Prop} (h : DG n0 w p D S) : n0 ≤ w.heap.size := by have := h.lt p h.here; omega
def RdGives (n0 : Nat) (w : World) (p : Nat) (S : Nat → Prop) (r : Nat × List Nat × Dsk) (e : Ending) (w' : World) : Prop :=
  ∃ A, e = .returned (.tuple #[.slice A r.2.1.length r.2.1.length, .int .u16 (r.1 : Nat)]) ∧ Clip w.heap.size w' A r.2.1 ∧ DG n0 w' p r.2.2 S ∧ Chg S w w'
theorem dg_read {n0 : Nat} {w : World} {p : Nat} {D : Dsk} {S : Nat → Prop} (h : DG n0 w p D S) (pg : Int) (hc : D.cache.length ≤ 1000000000000) (hn : D.n 1 ≤ 4611686018427387904) :
    Calls Tryz.prog 47 #[.pointer (some ⟨p, 0, none⟩), .int .i64 pg] w (RdGives n0 w p S (D.read pg)) :=
  (disk_read n0 w p D S pg h.disk hc hn (fun g hg => (h.lt g hg).2)).mono fun e w' ⟨A, a, b, c, d⟩ => ⟨A, a, b, ⟨c, fun g hg => ⟨(h.lt g hg).1, Nat.lt_of_lt_of_le (h.lt g hg).2 d.size⟩⟩, d⟩
theorem dg_image {n0 : Nat} {w : World} {p : Nat} {D : Dsk} {S : Nat → Prop} (h : DG n0 w p D S) :
    Calls Tryz.prog 33 #[.pointer (some ⟨p, 0, none⟩)] w (GivesFill D.last.flatten w) := image_any n0 w p D S h.disk
end Go.Proofs.YtfbjjblgcgjndaaGreat

/- The pool in memory: the pages at hand, the eldest first; its map. -/
namespace Go.Proofs.YtfbjjblgcgjndaaGreat
open Go.RowKit Go.Maps

/-- a page at hand -/
structure Hand where
  num : Nat
  kind : Nat
  pay : List Nat
structure Hand.Ok (h : Hand) : Prop where
  num : h.num < 4294967296
  kind : h.kind < 256
  bytes : Bytes h.pay
  len : h.pay.length ≤ 1008
def forget (n : Nat) (L : List Hand) : List Hand := L.filter fun h => h.num != n
def usePage (most : Nat) (h : Hand) (L : List Hand) : List Hand :=
  if most < (forget h.num L ++ [h]).length then (forget h.num L ++ [h]).drop 1 else forget h.num L ++ [h]
def findPage (n : Nat) (L : List Hand) : Option Hand := L.find? fun h => h.num == n

/-- how a pointer to a block's start reads -/
def ptrElem : Value → Option (DataW Unit × List MemPlace)
  | .pointer none => some (.lit (.int .i64 (-1)), [])
  | .pointer (some a) => if a = ⟨a.block, 0, none⟩ then some (.lit (.int .i64 (a.block : Int)), []) else none
  | _ => none
theorem ptrElem_mk (b : Nat) : ptrElem (.pointer (some ⟨b, 0, none⟩)) = some (.lit (.int .i64 (b : Int)), []) := by simp [ptrElem]
theorem ptrElem_nil : ptrElem (.pointer none) = some (.lit (.int .i64 (-1)), []) := rfl
theorem ptrElem_inv {v : Value} {b : Nat} {ps : List MemPlace} (h : ptrElem v = some (.lit (.int .i64 (b : Int)), ps)) : v = .pointer (some ⟨b, 0, none⟩) := by
  unfold ptrElem at h
  split at h
  · simp at h
  · split at h
    · rename_i a e
      simp at h
      rw [e]
      congr 3
      omega
    · cases h
  · cases h
theorem ptrElem_inv0 {v : Value} {ps : List MemPlace} (h : ptrElem v = some (.lit (.int .i64 (-1)), ps)) : v = .pointer none := by
  unfold ptrElem at h
  split at h
  · rfl
  · split at h
    · simp at h
    · cases h
  · cases h
def numKey (n : Nat) : Lit := .int .u32 (n : Int)
theorem numKey_lit (n : Nat) : WideAt.IsKeyLit (numKey n) := by simp [numKey, WideAt.IsKeyLit]
theorem numKey_ne {a b : Nat} (h : a ≠ b) : numKey a ≠ numKey b := by
  intro e; unfold numKey at e; injection e with _ e; exact h (by omega)
/-- the map of the blocks bl by their pages' numbers -/
structure MapFor (M : DataW Unit) (bl : List Nat) (hd : Nat → Hand) : Prop where
  no : ∀ n : Nat, (∀ b, b ∈ bl → (hd b).num ≠ n) → has M (numKey n) = false
  yes : ∀ b, b ∈ bl → has M (numKey (hd b).num) = true ∧ ∀ z, M.atKey (numKey (hd b).num) z = .lit (.int .i64 (b : Int))
  size : Maps.size M = bl.length
theorem MapFor.nil (hd : Nat → Hand) : MapFor (.map []) [] hd := ⟨fun n _ => rfl, fun b hb => by simp at hb, rfl⟩
theorem MapFor.put {M : DataW Unit} {bl : List Nat} {hd : Nat → Hand} (h : MapFor M bl hd) (ht : Tidy M) (b : Nat) (hb : b ∉ bl) (x : Hand) (hx : ∀ c, c ∈ bl → (hd c).num ≠ x.num) : MapFor (M.put (numKey x.num) (.lit (.int .i64 (b : Int)))) (bl ++ [b]) (turn hd b x) := by
  have hne : ∀ c, c ∈ bl → turn hd b x c = hd c := fun c hc => turn_other _ _ _ _ (fun e => hb (e ▸ hc))
  refine ⟨fun n hn => ?_, fun c hc => ?_, ?_⟩
  · have h1 : x.num ≠ n := by have := hn b (by simp); rwa [turn_same] at this
    rw [has_put_other (numKey_ne (Ne.symm h1))]
    exact h.no n fun c hc => by have := hn c (by simp [hc]); rwa [hne c hc] at this
  · rcases List.mem_append.1 hc with hc | hc
    · rw [hne c hc]
      have h1 := numKey_ne (hx c hc)
      rw [has_put_other h1]
      exact ⟨(h.yes c hc).1, fun z => by rw [atKey_put_other h1]; exact (h.yes c hc).2 z⟩
    · simp at hc
      subst hc
      rw [turn_same]
      exact ⟨has_put_same ht.isMap (numKey_lit _) _, fun z => atKey_put_same ht.isMap (numKey_lit _) _ _⟩
  · rw [size_put ht, h.no x.num hx, h.size]; simp
theorem MapFor.del {M : DataW Unit} {l1 l2 : List Nat} {b : Nat} {hd : Nat → Hand} (h : MapFor M (l1 ++ b :: l2) hd) (ht : Tidy M) (hn : ∀ c, c ∈ l1 ++ l2 → (hd c).num ≠ (hd b).num) : MapFor (M.del (numKey (hd b).num)) (l1 ++ l2) hd := by
  have sub : ∀ x, x ∈ l1 ++ l2 → x ∈ l1 ++ b :: l2 := fun x hx => by
    simp only [List.mem_append, List.mem_cons] at hx ⊢
    rcases hx with hx | hx
    · exact .inl hx
    · exact .inr (.inr hx)
  refine ⟨fun n hn' => ?_, fun c hc => ?_, ?_⟩
  · by_cases e : n = (hd b).num
    · subst e; exact has_del_same
    · rw [has_del_other (numKey_ne e)]
      refine h.no n fun c hc => ?_
      simp only [List.mem_append, List.mem_cons] at hc
      rcases hc with hc | rfl | hc
      · exact hn' c (by simp [hc])
      · exact Ne.symm e
      · exact hn' c (by simp [hc])
  · have h1 := numKey_ne (hn c hc)
    rw [has_del_other h1]
    exact ⟨(h.yes c (sub c hc)).1, fun z => by rw [atKey_del_other h1]; exact (h.yes c (sub c hc)).2 z⟩
  · have := size_del (k := numKey (hd b).num) ht
    rw [(h.yes b (by simp)).1, h.size] at this
    simp at this ⊢
    omega
theorem MapFor.perm {M : DataW Unit} {bl bl' : List Nat} {hd : Nat → Hand} (h : MapFor M bl hd) (hm : ∀ x, x ∈ bl' ↔ x ∈ bl) (hl : bl'.length = bl.length) : MapFor M bl' hd :=
  ⟨fun n hn => h.no n fun b hb => hn b ((hm b).2 hb), fun b hb => h.yes b ((hm b).1 hb), by rw [hl]; exact h.size⟩

def lcell (d most mb e : Nat) : Nat → Value
  | 0 => .pointer (some ⟨d, 0, none⟩)
  | 1 => .int .i64 (most : Int)
  | 2 => .map (some mb)
  | _ => .pointer (some ⟨e, 0, none⟩)
/-- a value that is a slice of these bytes; where there are any, its block is among Y -/
structure PoolIn (n0 : Nat) (w : World) (P d most e mb nb : Nat) (bl : List Nat) (hd : Nat → Hand) (nx pv : Nat → Nat) (dat : Nat → Nat → Value) (M : DataW Unit) (Y : Nat → Prop) : Prop where
  rcd : RecAt w P 121 4 (lcell d most mb e)
  ring : RingIn w e bl nx pv dat
  dat : ∀ b, b ∈ bl → dat b 2 = .int .u32 ((hd b).num : Int) ∧ dat b 3 = .int .u8 ((hd b).kind : Int) ∧ (∃ A c, dat b 4 = .slice A (hd b).pay.length c ∧ At w A (ns .u8 (hd b).pay) ∧ (A = none → c = 0) ∧ ∀ a, A = some a → Y a.block) ∧ (hd b).Ok
  nums : ∀ b c, b ∈ bl → c ∈ bl → (hd b).num = (hd c).num → b = c
  map : w.ownsMap Tryz.prog 67 ptrElem mb nb M
  mfor : MapFor M bl hd
  base : n0 ≤ P ∧ n0 ≤ mb ∧ (∀ b, b ∈ e :: bl → n0 ≤ b) ∧ ∀ g, Y g → n0 ≤ g ∧ g < w.heap.size
  sep : P ≠ mb ∧ P ∉ e :: bl ∧ mb ∉ e :: bl ∧ ∀ g, Y g → g ≠ P ∧ g ≠ mb ∧ g ∉ e :: bl
def pfoot (P e mb : Nat) (bl : List Nat) (Y : Nat → Prop) (g : Nat) : Prop := g = P ∨ g = mb ∨ g ∈ e :: bl ∨ Y g
/-- a pool at P over the disk at d; c: how many pages were laid at most -/
def PoolAt (n0 : Nat) (w : World) (P d most : Nat) (L : List Hand) (c : Nat) (T : Nat → Prop) : Prop :=
  (∃ e mb nb bl hd nx pv dat M Y, PoolIn n0 w P d most e mb nb bl hd nx pv dat M Y ∧ L = bl.map hd ∧ nb ≤ c ∧ ∀ g, pfoot P e mb bl Y g → T g) ∧ ∀ g, T g → n0 ≤ g ∧ g < w.heap.size
theorem map_chg2 {w w' : World} {G : Nat → Prop} {k : TypeId} {R : Value → Option (DataW Unit × List MemPlace)} {b n : Nat} {M : DataW Unit} (h : w.ownsMap Tryz.prog k R b n M) (hc : Chg G w w') (hG : ¬ G b) : w'.ownsMap Tryz.prog k R b n M := by
  have hl := h.lt
  obtain ⟨es, clock, h1, h2⟩ := h
  exact ⟨es, clock, by rw [hc.block b hl hG]; exact h1, h2⟩
theorem PoolIn.keep {n0 : Nat} {w w' : World} {P d most e mb nb : Nat} {bl : List Nat} {hd : Nat → Hand} {nx pv : Nat → Nat} {dat : Nat → Nat → Value} {M : DataW Unit} {Y G : Nat → Prop} (h : PoolIn n0 w P d most e mb nb bl hd nx pv dat M Y) (hc : Chg G w w') (hG : ∀ g, pfoot P e mb bl Y g → ¬ G g) : PoolIn n0 w' P d most e mb nb bl hd nx pv dat M Y :=
  ⟨h.rcd.keep hc (hG P (.inl rfl)), h.ring.keep hc (fun b hb => hG b (.inr (.inr (.inl hb)))), fun b hb => by
    obtain ⟨x, y, ⟨A, c, z1, z2, z3, z4⟩, t⟩ := h.dat b hb
    exact ⟨x, y, ⟨A, c, z1, z2.chg hc (fun a ha => hG _ (.inr (.inr (.inr (z4 a ha))))), z3, z4⟩, t⟩, h.nums, map_chg2 h.map hc (hG mb (.inr (.inl rfl))), h.mfor, ⟨h.base.1, h.base.2.1, h.base.2.2.1, fun g hg => ⟨(h.base.2.2.2 g hg).1, Nat.lt_of_lt_of_le (h.base.2.2.2 g hg).2 hc.size⟩⟩, h.sep⟩
theorem PoolAt.keep {n0 : Nat} {w w' : World} {P d most : Nat} {L : List Hand} {c : Nat} {T G : Nat → Prop} (h : PoolAt n0 w P d most L c T) (hc : Chg G w w') (hG : ∀ g, T g → ¬ G g) : PoolAt n0 w' P d most L c T := by
  obtain ⟨⟨e, mb, nb, bl, hd, nx, pv, dat, M, Y, h1, h2, h3, h4⟩, h5⟩ := h
  exact ⟨⟨e, mb, nb, bl, hd, nx, pv, dat, M, Y, h1.keep hc (fun g hg => hG g (h4 g hg)), h2, h3, h4⟩, fun g hg => ⟨(h5 g hg).1, Nat.lt_of_lt_of_le (h5 g hg).2 hc.size⟩⟩
theorem PoolAt.below {n0 : Nat} {w w' : World} {P d most : Nat} {L : List Hand} {c : Nat} {T : Nat → Prop} (h : PoolAt n0 w P d most L c T) (hb : Below w.heap.size w w') : PoolAt n0 w' P d most L c T :=
  h.keep (G := fun _ => False) (.of_below hb) (fun _ _ h => h)
theorem PoolAt.here {n0 : Nat} {w : World} {P d most : Nat} {L : List Hand} {c : Nat} {T : Nat → Prop} (h : PoolAt n0 w P d most L c T) : T P := by
  obtain ⟨⟨e, mb, nb, bl, hd, nx, pv, dat, M, Y, h1, h2, h3, h4⟩, h5⟩ := h
  exact h4 P (.inl rfl)
theorem PoolAt.n_le {n0 : Nat} {w : World} {P d most : Nat} {L : List Hand} {c : Nat} {T : Nat → Prop} (h : PoolAt n0 w P d most L c T) : n0 ≤ w.heap.size := by
  have := h.2 P h.here; omega
/-- what is left of a pool -/
def PNow (n0 : Nat) (w : World) (P d most : Nat) (T : Nat → Prop) (L : List Hand) (c : Nat) (w' : World) : Prop := ∃ T', PoolAt n0 w' P d most L c T' ∧ Grows w T T' ∧ Chg T w w'
theorem PoolAt.pnow {n0 : Nat} {w w' : World} {P d most : Nat} {L : List Hand} {c : Nat} {T : Nat → Prop} (h : PoolAt n0 w' P d most L c T) (hc : Chg T w w') : PNow n0 w P d most T L c w' := ⟨T, h, Grows.refl _ _, hc⟩
theorem pool_key {n : Nat} (hn : n < 4294967296) : keyOf Tryz.prog 67 (.int .u32 (n : Int)) = some (numKey n) := by
  have h1 : (n : Int) ≤ 4294967295 := by omega
  exact keyOf_int_mk Tryz.underlying67 (by go_wf)
theorem pool_keyed : Keyed Tryz.prog 67 := int_keyed Tryz.underlying67
theorem Tryz.info114 : (Tryz.prog.info? 114).map (fun i => (i.zero, i.size, i.bytes)) = some (some (.pointer none), 1, 8) := by kernel_rfl
theorem zero199 (w : World) : (zeroValue 114).run Tryz.prog w = .ok (.pointer none) w := by
  obtain ⟨i3, h3, e3, _⟩ := info_parts Tryz.info114
  simp [zeroValue, typeInfo, h3, e3]
end Go.Proofs.YtfbjjblgcgjndaaGreat

/- Contracts of the pool's Forget, Has, Len. -/
namespace Go.Proofs.YtfbjjblgcgjndaaGreat
open Go.RowKit Go.Maps

theorem Tryz.under119 : Tryz.prog.underlying 119 = some (.map 67 114) := by kernel_rfl
section
variable {n0 : Nat} {w w1 w2 : World} {P d most e mb nb : Nat} {bl l1 l2 : List Nat} {b : Nat} {hd : Nat → Hand} {nx pv nx' pv' : Nat → Nat} {dat : Nat → Nat → Value} {M : DataW Unit} {Y : Nat → Prop}
theorem PoolIn.look_no (h : PoolIn n0 w P d most e mb nb bl hd nx pv dat M Y) (n : Nat) (hn : n < 4294967296) (hno : ∀ b, b ∈ bl → (hd b).num ≠ n) : (Instr.lookup 119 (.map (some mb)) (.int .u32 (n : Int)) false).run Tryz.prog w = .ok (.pointer none) w := by
  obtain ⟨v, ps, hr, hv⟩ := h.map.lookup pool_keyed Tryz.under119 (zero199 w) ptrElem_nil (pool_key hn)
  rw [atKey_of_not_has (h.mfor.no n hno)] at hv
  rw [ptrElem_inv0 hv] at hr
  exact hr
theorem PoolIn.look_yes (h : PoolIn n0 w P d most e mb nb bl hd nx pv dat M Y) (b : Nat) (hb : b ∈ bl) : (Instr.lookup 119 (.map (some mb)) (.int .u32 ((hd b).num : Int)) false).run Tryz.prog w = .ok (.pointer (some ⟨b, 0, none⟩)) w := by
  obtain ⟨v, ps, hr, hv⟩ := h.map.lookup pool_keyed Tryz.under119 (zero199 w) ptrElem_nil (pool_key (h.dat b hb).2.2.2.num)
  rw [(h.mfor.yes b hb).2] at hv
  rw [ptrElem_inv hv] at hr
  exact hr
/-- by the number: none, or just one -/
theorem PoolIn.split (h : PoolIn n0 w P d most e mb nb bl hd nx pv dat M Y) (n : Nat) : (∀ b, b ∈ bl → (hd b).num ≠ n) ∨ ∃ l1 b l2, bl = l1 ++ b :: l2 ∧ (hd b).num = n := by
  by_cases hx : ∃ b, b ∈ bl ∧ (hd b).num = n
  · obtain ⟨b, hb, e⟩ := hx
    obtain ⟨l1, l2, e2⟩ := List.append_of_mem hb
    exact .inr ⟨l1, b, l2, e2, e⟩
  · exact .inl fun b hb e => hx ⟨b, hb, e⟩
theorem forget_none {L : List Hand} {n : Nat} (h : ∀ x, x ∈ L → x.num ≠ n) : forget n L = L := by
  unfold forget
  rw [List.filter_eq_self]
  intro x hx
  simpa using h x hx
theorem PoolIn.others (h : PoolIn n0 w P d most e mb nb (l1 ++ b :: l2) hd nx pv dat M Y) : ∀ c, c ∈ l1 ++ l2 → (hd c).num ≠ (hd b).num := fun c hc e' => by
  have hc2 : c ∈ l1 ++ b :: l2 := by
    simp only [List.mem_append, List.mem_cons] at hc ⊢
    rcases hc with hc | hc
    · exact .inl hc
    · exact .inr (.inr hc)
  have := h.nums c b hc2 (by simp) e'
  subst this
  have nd := h.ring.nodup
  rw [List.nodup_cons, List.nodup_append, List.nodup_cons] at nd
  rcases List.mem_append.1 hc with hc | hc
  · exact nd.2.2.2 c hc c (by simp) rfl
  · exact nd.2.2.1.1 hc
theorem PoolIn.forget_one (h : PoolIn n0 w P d most e mb nb (l1 ++ b :: l2) hd nx pv dat M Y) : forget (hd b).num ((l1 ++ b :: l2).map hd) = (l1 ++ l2).map hd := by
  unfold forget
  have ho := h.others
  rw [List.map_append, List.map_cons, List.filter_append, List.filter_cons]
  simp only [bne_self_eq_false, Bool.false_eq_true, if_false]
  rw [List.filter_eq_self.2, List.filter_eq_self.2, List.map_append]
  · intro x hx
    obtain ⟨c, hc, rfl⟩ := List.mem_map.1 hx
    simpa using ho c (by simp [hc])
  · intro x hx
    obtain ⟨c, hc, rfl⟩ := List.mem_map.1 hx
    simpa using ho c (by simp [hc])
theorem mem_mid {x : Nat} (h : x ∈ e :: (l1 ++ l2)) : x ∈ e :: (l1 ++ b :: l2) := by
  simp only [List.mem_cons, List.mem_append] at h ⊢
  rcases h with h | h | h
  · exact .inl h
  · exact .inr (.inl h)
  · exact .inr (.inr (.inr h))
theorem mem_mid' {x : Nat} (h : x ∈ l1 ++ l2) : x ∈ l1 ++ b :: l2 := by
  simp only [List.mem_cons, List.mem_append] at h ⊢
  rcases h with h | h
  · exact .inl h
  · exact .inr (.inr h)
/-- the ring's nodes alone have turned -/
theorem PoolIn.rest (h : PoolIn n0 w P d most e mb nb bl hd nx pv dat M Y) (hc : Chg (fun g => g ∈ e :: bl) w w1) : RecAt w1 P 121 4 (lcell d most mb e) ∧ w1.ownsMap Tryz.prog 67 ptrElem mb nb M ∧
    (∀ b, b ∈ bl → dat b 2 = .int .u32 ((hd b).num : Int) ∧ dat b 3 = .int .u8 ((hd b).kind : Int) ∧ (∃ A c, dat b 4 = .slice A (hd b).pay.length c ∧ At w1 A (ns .u8 (hd b).pay) ∧ (A = none → c = 0) ∧ ∀ a, A = some a → Y a.block) ∧ (hd b).Ok) :=
  ⟨h.rcd.keep hc h.sep.2.1, map_chg2 h.map hc h.sep.2.2.1, fun b hb => by
    obtain ⟨x, y, ⟨A, c, z1, z2, z3, z4⟩, t⟩ := h.dat b hb
    exact ⟨x, y, ⟨A, c, z1, z2.chg hc (fun a ha => (h.sep.2.2.2 _ (z4 a ha)).2.2), z3, z4⟩, t⟩⟩
theorem PoolIn.dropped (h : PoolIn n0 w P d most e mb nb (l1 ++ b :: l2) hd nx pv dat M Y) (hr : RingIn w1 e (l1 ++ l2) nx' pv' dat) (hc : Chg (fun g => g ∈ e :: (l1 ++ l2)) w w1) (hm : w2.ownsMap Tryz.prog 67 ptrElem mb nb (M.del (numKey (hd b).num))) (hg : w1.grownBy w2 (some mb)) :
    PoolIn n0 w2 P d most e mb nb (l1 ++ l2) hd nx' pv' dat (M.del (numKey (hd b).num)) Y ∧ Chg (fun g => g = mb ∨ g ∈ e :: (l1 ++ l2)) w w2 := by
  have hc' : Chg (fun g => g ∈ e :: (l1 ++ b :: l2)) w w1 := hc.mono (fun g _ hg => mem_mid hg)
  obtain ⟨r1, r2, r3⟩ := h.rest hc'
  have hcm : Chg (fun g => g = mb) w1 w2 := Chg.of_grown hg (fun g e => by cases e; rfl)
  have hcc : Chg (fun g => g = mb ∨ g ∈ e :: (l1 ++ l2)) w w2 := (hc.mono (G := fun g => g = mb ∨ g ∈ e :: (l1 ++ l2)) (fun g _ hg => .inr hg)).trans hcm (fun g _ hg => .inl hg)
  obtain ⟨s1, s2, s3, s4⟩ := h.sep
  refine ⟨⟨r1.keep hcm s1, hr.keep hcm (fun x hx e' => s3 (by rw [← show x = mb from e']; exact mem_mid hx)), fun c hc => ?_, fun c c' hc hc' => h.nums c c' (mem_mid' hc) (mem_mid' hc'), hm, h.mfor.del (h.map.tidy pool_keyed) h.others, ⟨h.base.1, h.base.2.1, fun x hx => h.base.2.2.1 x (mem_mid hx), fun g hg => ⟨(h.base.2.2.2 g hg).1, Nat.lt_of_lt_of_le (h.base.2.2.2 g hg).2 hcc.size⟩⟩, s1, fun hx => s2 (mem_mid hx), fun hx => s3 (mem_mid hx), fun g hg => ⟨(s4 g hg).1, (s4 g hg).2.1, fun hx => (s4 g hg).2.2 (mem_mid hx)⟩⟩, hcc⟩
  obtain ⟨x, y, ⟨A, c, z1, z2, z3, z4⟩, t⟩ := r3 c (mem_mid' hc)
  exact ⟨x, y, ⟨A, c, z1, z2.chg hcm (fun a ha => (s4 _ (z4 a ha)).2.1), z3, z4⟩, t⟩
end
def PlForgot (n0 : Nat) (w : World) (P d most : Nat) (T : Nat → Prop) (L : List Hand) (c : Nat) (x : Ending) (w' : World) : Prop := x = .returned (.tuple #[]) ∧ PoolAt n0 w' P d most L c T ∧ Chg T w w'
set_option maxRecDepth 100000 in
set_option maxHeartbeats 4000000 in
theorem forget_any {n0 : Nat} {w : World} {P d most : Nat} {L : List Hand} {c : Nat} {T : Nat → Prop} (h : PoolAt n0 w P d most L c T) (n : Nat) (hn : n < 4294967296) :
    Calls Tryz.prog 21 #[.pointer (some ⟨P, 0, none⟩), .int .u32 (n : Int)] w (PlForgot n0 w P d most T (forget n L) c) := by
  obtain ⟨⟨e, mb, nb, bl, hd, nx, pv, dat, M, Y, h1, rfl, h3, h4⟩, h5⟩ := h
  have c2 : w.cell? ⟨P, 2, none⟩ = some (.map (some mb)) := h1.rcd.cell 2 (by omega)
  rcases h1.split n with hno | ⟨l1, b, l2, rfl, rfl⟩
  · have hl := h1.look_no n hn hno
    have hf : forget n (bl.map hd) = bl.map hd := forget_none (fun x hx => by obtain ⟨c, hc, rfl⟩ := List.mem_map.1 hx; exact hno c hc)
    rw [hf]
    have HFIN := Lib.hid (show PlForgot n0 w P d most T (bl.map hd) c (.returned (.tuple #[])) w from ⟨rfl, ⟨⟨e, mb, nb, bl, hd, nx, pv, dat, M, Y, h1, rfl, h3, h4⟩, h5⟩, Chg.refl _ _⟩)
    clear hf hno h1 h3 h4 h5
    go_enter Tryz.func21, Tryz.ntmps21
    go_wp2_with fail
    go_end0
    exact HFIN.out
  · have hl := h1.look_yes b (by simp)
    have hf := h1.forget_one
    rw [hf]
    have HK := Lib.hid (pool_key hn)
    generalize hnn : (hd b).num = n at *
    have HOUT := Lib.hid (out_any h1.ring)
    have H1 := Lib.hid h1
    have H3 := Lib.hid h3
    have H4 := Lib.hid h4
    have H5 := Lib.hid h5
    have HNN := Lib.hid hnn
    clear hf h1 h3 h4 h5 hnn
    go_enter Tryz.func21, Tryz.ntmps21
    go_wp2_with fail
    refine HOUT.out.mono ?_
    rintro x w1 ⟨rfl, hr1, _, hc1⟩
    have hc1' : Chg (fun g => g ∈ e :: (l1 ++ b :: l2)) w w1 := hc1.mono (fun g _ hg => mem_mid hg)
    obtain ⟨r1, r2, _⟩ := H1.out.rest hc1'
    have d2 : w1.cell? ⟨P, 2, none⟩ = some (.map (some mb)) := r1.cell 2 (by omega)
    have HR1 := Lib.hid hr1
    have HC1 := Lib.hid hc1
    have HM1 := Lib.hid r2
    clear hr1 hc1 hc1' r1 r2 hl c2
    go_wp2_with (at_delete; refine wpList_delete_own _ rfl _ _ 119 67 rfl 114 pool_keyed Tryz.under119 ptrElem mb nb M rfl HM1.out _ _ rfl HK.out ?_; intro w2 hown2 hturn2)
    go_end0
    have hdr := H1.out.dropped HR1.out HC1.out (by rw [HNN.out]; exact hown2) hturn2.grown
    refine ⟨rfl, ⟨⟨e, mb, nb, l1 ++ l2, hd, _, _, dat, _, Y, hdr.1, by simp, H3.out, fun g hg => H4.out g ?_⟩, fun g hg => ⟨(H5.out g hg).1, Nat.lt_of_lt_of_le (H5.out g hg).2 hdr.2.size⟩⟩, hdr.2.mono (fun g _ hg => H4.out g ?_)⟩
    · rcases hg with hg | hg | hg | hg
      · exact .inl hg
      · exact .inr (.inl hg)
      · exact .inr (.inr (.inl (mem_mid hg)))
      · exact .inr (.inr (.inr hg))
    · rcases hg with hg | hg
      · exact .inr (.inl hg)
      · exact .inr (.inr (.inl (mem_mid hg)))
def isHand (n : Nat) (L : List Hand) : Bool := L.any fun h => h.num == n
set_option maxRecDepth 100000 in
theorem has_any {n0 : Nat} {w : World} {P d most : Nat} {L : List Hand} {c : Nat} {T : Nat → Prop} (h : PoolAt n0 w P d most L c T) (n : Nat) (hn : n < 4294967296) :
    Calls Tryz.prog 32 #[.pointer (some ⟨P, 0, none⟩), .int .u32 (n : Int)] w fun x w' => x = .returned (.bool (isHand n L)) ∧ w = w' := by
  obtain ⟨⟨e, mb, nb, bl, hd, nx, pv, dat, M, Y, h1, rfl, h3, h4⟩, h5⟩ := h
  have c2 : w.cell? ⟨P, 2, none⟩ = some (.map (some mb)) := h1.rcd.cell 2 (by omega)
  rcases h1.split n with hno | ⟨l1, b, l2, rfl, rfl⟩
  · have hl := h1.look_no n hn hno
    have hi : isHand n (bl.map hd) = false := by
      unfold isHand
      rw [List.any_eq_false]
      intro x hx
      obtain ⟨c, hc, rfl⟩ := List.mem_map.1 hx
      simpa using hno c hc
    rw [hi]
    clear hi hno h1 h3 h4 h5
    go_enter Tryz.func32, Tryz.ntmps32
    go_wp2_with fail
    go_ret
    exact ⟨rfl, rfl⟩
  · have hl := h1.look_yes b (by simp)
    have hi : isHand (hd b).num ((l1 ++ b :: l2).map hd) = true := by
      unfold isHand
      rw [List.any_eq_true]
      exact ⟨hd b, List.mem_map.2 ⟨b, by simp, rfl⟩, by simp⟩
    rw [hi]
    clear hi h1 h3 h4 h5
    generalize (hd b).num = n at *
    go_enter Tryz.func32, Tryz.ntmps32
    go_wp2_with fail
    go_ret
    exact ⟨rfl, rfl⟩
set_option maxRecDepth 100000 in
theorem len_any {n0 : Nat} {w : World} {P d most : Nat} {L : List Hand} {c : Nat} {T : Nat → Prop} (h : PoolAt n0 w P d most L c T) :
    Calls Tryz.prog 30 #[.pointer (some ⟨P, 0, none⟩)] w fun x w' => x = .returned (.int .i64 (L.length : Int)) ∧ w = w' := by
  obtain ⟨⟨e, mb, nb, bl, hd, nx, pv, dat, M, Y, h1, rfl, h3, h4⟩, h5⟩ := h
  have c2 : w.cell? ⟨P, 2, none⟩ = some (.map (some mb)) := h1.rcd.cell 2 (by omega)
  have HM := Lib.hid h1.map
  have HZ := Lib.hid h1.mfor.size
  clear h1 h3 h4 h5
  go_enter Tryz.func30, Tryz.ntmps30
  go_wp2_with (with_reducible refine wpList_len_own _ rfl _ 119 rfl 67 114 Tryz.under119 ptrElem mb nb M rfl HM.out ?_)
  go_ret
  exact ⟨by rw [HZ.out, List.length_map]; rfl, rfl⟩
end Go.Proofs.YtfbjjblgcgjndaaGreat

/- What a walk over a disk carries along: rows and clipped rows aside of the disk's blocks. -/
namespace Go.Proofs.YtfbjjblgcgjndaaGreat
open Go.RowKit

def Fills (n c : Nat) (w : World) (e : Ending) (w' : World) : Prop := ∃ A cc, e = .returned (.slice A n cc) ∧ Buf w.heap.size w' (.slice A n cc) (List.replicate n c) ∧ Below w.heap.size w w'
theorem rep_bytes (n c : Nat) (hc : c < 256) : Bytes (List.replicate n c) := fun x hx => by rw [(List.mem_replicate.1 hx).2]; exact hc
theorem buf_ok {n0 n c : Nat} {w : World} {A : Option Addr} {l : List Nat} (h : Buf n0 w (.slice A n c) l) (hb : Bytes l) (hs : l.length ≤ 140737488351232) : n = l.length ∧ Inner.Ok w ⟨A, l, c⟩ := by
  obtain ⟨A', c', e, h1, h2, h3, h4⟩ := h.at
  injection e with e1 e2 e3
  subst e1 e3
  exact ⟨e2, h1, h2, h3, hs, hb⟩
/-- blocks X that lie, and are none of S -/
structure Aside (w : World) (S X : Nat → Prop) : Prop where
  lt : ∀ g, X g → g < w.heap.size
  off : ∀ g, X g → ¬ S g
theorem Aside.up {w w' : World} {S X : Nat → Prop} (h : Aside w S X) (hs : w.heap.size ≤ w'.heap.size) : Aside w' S X := ⟨fun g hg => Nat.lt_of_lt_of_le (h.lt g hg) hs, h.off⟩
theorem Aside.now {w w' : World} {S S' X : Nat → Prop} (h : Aside w S X) (hg : Grows w S S') (hs : w.heap.size ≤ w'.heap.size) : Aside w' S' X := ⟨fun g hg => Nat.lt_of_lt_of_le (h.lt g hg) hs, hg.apart h.lt h.off⟩
theorem Aside.row {n0 : Nat} {w : World} {e : TypeId} {n : Nat} {v : Value} {xs : List Value} {S : Nat → Prop} (h : w.ownsRow n0 e 1 v n xs) (hS : ∀ g, S g → g < n0) : Aside w S (blk v) :=
  ⟨fun g hg => (row_lt h hg).2, fun g hg h' => by have := (row_lt h hg).1; have := hS g h'; omega⟩
theorem Aside.clip {n0 : Nat} {w : World} {A : Option Addr} {l : List Nat} {n c : Nat} {S : Nat → Prop} (h : Clip n0 w A l) (hS : ∀ g, S g → g < n0) : Aside w S (blk (.slice A n c)) :=
  ⟨fun g hg => by
    cases A with
    | none => cases hg
    | some a => cases hg; exact (h.base a rfl).2, fun g hg h' => by
    cases A with
    | none => cases hg
    | some a => cases hg; have := (h.base a rfl).1; have := hS _ h'; omega⟩
theorem Clip.chg {n0 : Nat} {w w' : World} {A : Option Addr} {l : List Nat} {n c : Nat} {S : Nat → Prop} (h : Clip n0 w A l) (ha : Aside w S (blk (.slice A n c))) (hc : Chg S w w') : Clip n0 w' A l :=
  h.keep hc (fun a e => ha.off _ (by rw [e]; rfl))
theorem Clip.below {n0 : Nat} {w w' : World} {A : Option Addr} {l : List Nat} (h : Clip n0 w A l) (hb : Below w.heap.size w w') : Clip n0 w' A l :=
  h.keep (G := fun _ => False) (.of_below hb) (fun _ _ h => h)
theorem own_aside {n0 : Nat} {w w' : World} {e : TypeId} {n : Nat} {v : Value} {xs : List Value} {S : Nat → Prop} (h : w.ownsRow n0 e 1 v n xs) (ha : Aside w S (blk v)) (hc : Chg S w w') : w'.ownsRow n0 e 1 v n xs := own_chg h hc ha.off
theorem DG.after {n0 : Nat} {w0 w w' : World} {p : Nat} {D : Dsk} {S : Nat → Prop} (h : DG n0 w p D S) (hb : Below n0 w0 w) (hc : Chg S w w') : Below n0 w0 w' := hb.trans (hc.below h.new_n (fun g hg => (h.lt g hg).1))
theorem DG.top {n0 : Nat} {w : World} {p : Nat} {D : Dsk} {S : Nat → Prop} (h : DG n0 w p D S) : ∀ g, S g → g < w.heap.size := fun g hg => (h.lt g hg).2
/-- a disk aside of another one's blocks -/
theorem DG.chg {n0 : Nat} {w w' : World} {p : Nat} {D : Dsk} {S T : Nat → Prop} (h : DG n0 w p D S) (ha : Aside w T S) (hc : Chg T w w') : DG n0 w' p D S := h.keep hc ha.off
theorem Aside.comm {w : World} {S T : Nat → Prop} (h : Aside w S T) (hS : ∀ g, S g → g < w.heap.size) : Aside w T S := ⟨hS, fun g hg ht => h.off g ht hg⟩
theorem dg_writeb {n0 m : Nat} {w : World} {p : Nat} {D : Dsk} {S : Nat → Prop} (h : DG n0 w p D S) (pg : Int) (n : Nat) (A : Option Addr) (c : Nat) (l : List Nat) (hv : Buf m w (.slice A n c) l) (ha : Aside w S (blk (.slice A n c))) (hl : Bytes l) (hs : l.length ≤ 140737488351232) (hc : D.cache.length ≤ 1000000000000) (hn : D.n 2 ≤ 4611686018427387904) :
    Calls Tryz.prog 8 #[.pointer (some ⟨p, 0, none⟩), .int .i64 pg, .slice A n c] w (DkGives n0 w p S (D.write pg l).1 (D.write pg l).2) := by
  obtain ⟨rfl, hok⟩ := buf_ok hv hl hs
  exact dg_write h h.new_n pg A c l hok (fun a e => ha.off _ (by rw [e]; rfl)) hc hn
theorem dg_writef {n0 m : Nat} {w : World} {p : Nat} {D : Dsk} {S : Nat → Prop} (h : DG n0 w p D S) (pg : Int) (n k : Nat) (A : Option Addr) (c : Nat) (hv : Buf m w (.slice A n c) (List.replicate n k)) (ha : Aside w S (blk (.slice A n c))) (hk : k < 256) (hs : n ≤ 1000000) (hc : D.cache.length ≤ 1000000000000) (hn : D.n 2 ≤ 4611686018427387904) :
    Calls Tryz.prog 8 #[.pointer (some ⟨p, 0, none⟩), .int .i64 pg, .slice A n c] w (DkGives n0 w p S (D.write pg (List.replicate n k)).1 (D.write pg (List.replicate n k)).2) :=
  dg_writeb h pg n A c _ hv ha (rep_bytes n k hk) (by rw [List.length_replicate]; omega) hc hn
theorem ints_at {n0 n c : Nat} {w : World} {A : Option Addr} {l : List Nat} (h : w.ownsRow n0 3 1 (.slice A n c) n (ns .i64 l)) : At w A (ns .i64 l) := by
  obtain ⟨A', c', e, h1, _⟩ := At.own h
  injection e with e1 e2 e3
  subst e1
  exact h1
theorem image_small {D : Dsk} (ok : D.Ok) : D.last.flatten.length ≤ 140737488355328 := by
  rw [rows_length (m := 128) (fun s hs => (ok.last s hs).1)]
  obtain ⟨p, h1, h2, h3⟩ := ok.pages
  omega
theorem dg_imagel {n0 : Nat} {w : World} {p : Nat} {D : Dsk} {S : Nat → Prop} {F : List Nat} (h : DG n0 w p D S) (hF : F = D.last.flatten) : Calls Tryz.prog 33 #[.pointer (some ⟨p, 0, none⟩)] w (GivesFill F w) := by
  rw [hF]; exact dg_image h
theorem own_down {w : World} {base b2 : Nat} {e : TypeId} {size n : Nat} {v : Value} {xs : List Value} (h : w.ownsRow base e size v n xs) (hb : b2 ≤ base) : w.ownsRow b2 e size v n xs :=
  own_up h (fun g hg => Nat.le_trans hb (row_lt h hg).1)
theorem DiskAt.lift {n0 n1 : Nat} {w : World} {p : Nat} {D : Dsk} {S : Nat → Prop} (h : DiskAt n1 w p D S) (hn : n0 ≤ n1) : DiskAt n0 w p D S := by
  obtain ⟨ok, q, M, hin, hft⟩ := h
  exact ⟨ok, q, M, ⟨hin.rcd, hin.last, own_down hin.cache hn, hin.map, hin.seen, ⟨Nat.le_trans hn hin.bases.1, Nat.le_trans hn hin.bases.2.1, Nat.le_trans hn hin.bases.2.2.1, hin.bases.2.2.2⟩, hin.sep⟩, hft⟩
theorem dg_newl {n0 : Nat} (n : Nat) (w : World) (hn : n0 ≤ w.heap.size) (h1 : 1 ≤ n) (h2 : n ≤ 16384) : Calls Tryz.prog 6 #[.int .i64 (n : Int)] w fun e w' => ∃ p S, e = .returned (.tuple #[.pointer (some ⟨p, 0, none⟩), .int .u16 0]) ∧ DG n0 w' p (Dsk.new n) S ∧ (∀ T, (∀ g, T g → g < w.heap.size) → Aside w' S T) ∧ Below w.heap.size w w' :=
  (dg_new n w h1 h2).mono fun e w' ⟨p, S, a, b, c⟩ => ⟨p, S, a, ⟨b.disk.lift hn, fun g hg => ⟨Nat.le_trans hn (b.lt g hg).1, (b.lt g hg).2⟩⟩, fun T hT => ⟨fun g hg => Nat.lt_of_lt_of_le (hT g hg) c.size, fun g hg hs => by have := hT g hg; have := (b.lt g hs).1; omega⟩, c⟩
theorem At.part {w : World} {g o : Nat} {l : List Nat} (h : At w (some ⟨g, o, none⟩) (ns .u8 l)) (i n : Nat) : At w (some ⟨g, o + i, none⟩) (ns .u8 ((l.drop i).take n)) := fun hn => by
  have hne : ns .u8 l ≠ [] := fun e => hn (by
    have : l = [] := by simpa [ns] using e
    rw [this]; simp [ns])
  obtain ⟨b, o', e, hr⟩ := h hne
  cases e
  refine ⟨g, o + i, rfl, fun j v hv => ?_⟩
  rw [show o + i + j = o + (i + j) by omega]
  refine hr (i + j) v ?_
  simp only [ns, List.getElem?_map, List.getElem?_take, List.getElem?_drop] at hv ⊢
  split at hv
  · exact hv
  · simp at hv
theorem Clip.form {n0 : Nat} {w : World} {A : Option Addr} {l : List Nat} (h : Clip n0 w A l) (hl : 0 < l.length) : ∃ g, A = some ⟨g, 0, none⟩ := by
  rcases h with ⟨rfl, rfl⟩ | ⟨g, cur, rfl, _⟩
  · simp at hl
  · exact ⟨g, rfl⟩
theorem same_num (A B : Option Addr) (n k c d : Nat) (l m : List Nat) (w : World) (hn : n = l.length) (hk : k = m.length) (hl : l.length ≤ 140737488355328) (hm : m.length ≤ 140737488355328) (hA : At w A (ns .u8 l)) (hB : At w B (ns .u8 m)) :
    Calls Tryz.prog 15 #[.slice A n c, .slice B k d] w fun e w' => e = .returned (.bool (decide (l = m))) ∧ Below w.heap.size w w' := by
  subst hn hk
  exact same_any A B c d l m w hl hm hA hB
theorem same_eq (A B : Option Addr) (n k c d : Nat) (l m : List Nat) (w : World) (hn : n = l.length) (hk : k = m.length) (hl : l.length ≤ 140737488355328) (h : l = m) (hA : At w A (ns .u8 l)) (hB : At w B (ns .u8 m)) :
    Calls Tryz.prog 15 #[.slice A n c, .slice B k d] w fun e w' => e = .returned (.bool true) ∧ Below w.heap.size w w' := by
  refine (same_num A B n k c d l m w hn hk hl (by rw [← h]; exact hl) hA hB).mono ?_
  rintro e w' ⟨rfl, hb⟩
  exact ⟨by rw [decide_eq_true h], hb⟩
theorem buf_at {n0 n c : Nat} {w : World} {A : Option Addr} {l : List Nat} (h : Buf n0 w (.slice A n c) l) : n = l.length ∧ At w A (ns .u8 l) := by
  obtain ⟨A', c', e, h1, _⟩ := h.at
  injection e with e1 e2 e3
  subst e1 e3
  exact ⟨e2, h1⟩
end Go.Proofs.YtfbjjblgcgjndaaGreat

/- Disk, plain laws: how far the counts and the cache have come. -/
namespace Go.Proofs.YtfbjjblgcgjndaaGreat

/-- behind k operations at most -/
def Small (D : Dsk) (k : Nat) : Prop := D.cache.length ≤ 8 * k ∧ ∀ j, D.n j ≤ (k : Int)
theorem Small.new (p : Nat) : Small (Dsk.new p) 0 := ⟨Nat.zero_le _, fun j => by simp [Dsk.new]⟩
theorem Small.mono {D : Dsk} {k m : Nat} (h : Small D k) (hk : k ≤ m) : Small D m := ⟨by have := h.1; omega, fun j => by have := h.2 j; omega⟩
theorem Small.more {D D' : Dsk} {k : Nat} (h : Small D k) (hc : D'.cache.length ≤ D.cache.length + 8) (hn : ∀ j, D'.n j ≤ D.n j + 1) : Small D' (k + 1) :=
  ⟨by have := h.1; omega, fun j => by have := h.2 j; have := hn j; omega⟩
theorem turn_le (n : Nat → Int) (k j : Nat) : turn n k (n k + 1) j ≤ n j + 1 := by
  by_cases e : j = k
  · subst e; rw [turn_same]; omega
  · rw [turn_other _ _ _ _ e]; omega
theorem Dsk.begin_n (D : Dsk) (k j : Nat) : (D.begin k).2.n j ≤ D.n j + 1 := by
  unfold Dsk.begin
  split
  · show D.n j ≤ _; omega
  · split
    · show D.n j ≤ _; omega
    · split
      · exact turn_le D.n k j
      · exact turn_le D.n k j
theorem Small.begin {D : Dsk} {k : Nat} (h : Small D k) (i : Nat) : Small (D.begin i).2 (k + 1) :=
  h.more (by rw [(D.begin_last i).2]; omega) (D.begin_n i)
theorem Small.go {D : Dsk} {k : Nat} (h : Small D k) (i : Nat) : Small (D.go i) (k + 1) :=
  h.more (by show D.cache.length ≤ _; omega) (turn_le D.n i)
theorem Small.write {D : Dsk} {k : Nat} (h : Small D k) (pg : Int) (b : List Nat) : Small (D.write pg b).2 (k + 1) := by
  unfold Dsk.write
  split
  · exact h.begin 2
  · split
    · exact h.go 2
    · split
      · exact h.go 2
      · rename_i hb
        refine h.more ?_ (turn_le D.n 2)
        show (D.cache ++ puts (8 * pg.toNat) b (b.length / 128)).length ≤ _
        rw [List.length_append, puts_length]
        have : b.length = 1024 ∨ b.length = 128 := by omega
        rcases this with e | e <;> rw [e] <;> omega
theorem Small.sync {D : Dsk} {k : Nat} (h : Small D k) : Small D.sync.2 (k + 1) := by
  unfold Dsk.sync
  split
  · exact h.begin 3
  · exact h.more (by show 0 ≤ _; omega) (turn_le D.n 3)
theorem Small.read {D : Dsk} {k : Nat} (h : Small D k) (pg : Int) : Small (D.read pg).2.2 (k + 1) := by
  unfold Dsk.read
  split
  · exact h.begin 1
  · split
    · exact h.go 1
    · exact h.go 1
theorem Small.cut {D : Dsk} {k : Nat} (h : Small D k) (bs : List Bool) : Small (D.cut bs) k := ⟨Nat.zero_le _, h.2⟩
theorem Small.setTrip {D : Dsk} {k : Nat} (h : Small D k) (n : Int) : Small (D.setTrip n).2 k := by
  unfold Dsk.setTrip
  split
  · exact h
  · split <;> exact h
theorem Small.setFail {D : Dsk} {k : Nat} (h : Small D k) (i n : Int) : Small (D.setFail i n).2 k := by
  unfold Dsk.setFail
  split
  · exact h
  · split <;> exact h
theorem Small.c {D : Dsk} {k : Nat} (h : Small D k) (hk : k ≤ 100000000) : D.cache.length ≤ 1000000000000 := by have := h.1; omega
theorem Small.m {D : Dsk} {k : Nat} (h : Small D k) (hk : k ≤ 100000000) (j : Nat) : D.n j ≤ 4611686018427387904 := by have := h.2 j; omega
end Go.Proofs.YtfbjjblgcgjndaaGreat

/- The reference's disk in memory, over the same plain disk. -/
namespace Go.Proofs.YtfbjjblgcgjndaaGreat
open Go.RowKit

/-- the reference disk's own cells -/
def rcell (L C V : Value) (D : Dsk) : Nat → Value
  | 0 => L
  | 1 => C
  | 2 => .bool D.dark
  | 3 => .int .i64 D.trip
  | 4 => V
  | 5 => .int .i64 (D.n 1)
  | 6 => .int .i64 (D.n 2)
  | 7 => .int .i64 (D.n 3)
  | _ => undef
/-- its four faults -/
def fourF (D : Dsk) : List Value := [.int .i64 (D.f 0), .int .i64 (D.f 1), .int .i64 (D.f 2), .int .i64 (D.f 3)]
/-- a value that is a slice of these bytes, its block among Y -/
def RowIn (w : World) (Y : Nat → Prop) (v : Value) (s : List Nat) : Prop := ∃ A c, v = .slice A s.length c ∧ At w A (ns .u8 s) ∧ (A = none → c = 0) ∧ ∀ a, A = some a → Y a.block
theorem RowIn.keep {w w' : World} {Y G : Nat → Prop} {v : Value} {s : List Nat} (h : RowIn w Y v s) (hc : Chg G w w') (hG : ∀ g, Y g → ¬ G g) : RowIn w' Y v s := by
  obtain ⟨A, c, h1, h2, h3, h4⟩ := h
  exact ⟨A, c, h1, h2.chg hc (fun a ha => hG _ (h4 a ha)), h3, h4⟩
theorem RowIn.mono {w : World} {Y Y' : Nat → Prop} {v : Value} {s : List Nat} (h : RowIn w Y v s) (hY : ∀ g, Y g → Y' g) : RowIn w Y' v s := by
  obtain ⟨A, c, h1, h2, h3, h4⟩ := h
  exact ⟨A, c, h1, h2, h3, fun a ha => hY _ (h4 a ha)⟩
/-- the cells of a write in the cache -/
def rwcell (x : Nat × Value) : List Value := [.int .i64 (x.1 : Int), x.2]
structure RParts where
  L : Value
  C : Value
  V : Value
  F : Nat → Value
  G : Nat → Value
/-- the cache's cells: where, and a slice -/
def ccells (c : List (Nat × List Nat)) (G : Nat → Value) : List Value := (List.range c.length).flatMap fun i => [.int .i64 (((c.getD i (0, [])).1 : Nat) : Int), G i]
/-- the containers' blocks -/
def RParts.box (p : Nat) (q : RParts) (g : Nat) : Prop := g = p ∨ blk q.L g ∨ blk q.C g ∨ blk q.V g
structure RDiskIn (n0 : Nat) (w : World) (p : Nat) (D : Dsk) (q : RParts) (Y : Nat → Prop) : Prop where
  rcd : RecAt w p 88 8 (rcell q.L q.C q.V D)
  last : w.ownsRow n0 22 1 q.L D.last.length (lst q.F D.last.length)
  rows : ∀ i, i < D.last.length → RowIn w Y (q.F i) (D.last.getD i [])
  cache : w.ownsRow n0 113 2 q.C D.cache.length (ccells D.cache q.G)
  crows : ∀ i, i < D.cache.length → RowIn w Y (q.G i) (D.cache.getD i (0, [])).2
  faults : w.ownsRow n0 3 1 q.V 4 (fourF D)
  base : n0 ≤ p
  sep : ¬ blk q.L p ∧ ¬ blk q.C p ∧ ¬ blk q.V p ∧ (∀ g, blk q.L g → ¬ blk q.C g ∧ ¬ blk q.V g) ∧ ∀ g, blk q.C g → ¬ blk q.V g
  apart : ∀ g, Y g → ¬ q.box p g
  lt : ∀ g, Y g → n0 ≤ g ∧ g < w.heap.size
/-- the reference's disk at p; all its blocks are S -/
def RD (n0 : Nat) (w : World) (p : Nat) (D : Dsk) (S : Nat → Prop) : Prop := D.Ok ∧ (∃ q Y, RDiskIn n0 w p D q Y ∧ (∀ g, Y g ∨ q.box p g → S g)) ∧ ∀ g, S g → n0 ≤ g ∧ g < w.heap.size
theorem RDiskIn.keep {n0 : Nat} {w w' : World} {p : Nat} {D : Dsk} {q : RParts} {Y G : Nat → Prop} (h : RDiskIn n0 w p D q Y) (hc : Chg G w w') (hG : ∀ g, Y g ∨ q.box p g → ¬ G g) : RDiskIn n0 w' p D q Y :=
  ⟨h.rcd.keep hc (hG p (.inr (.inl rfl))), own_chg h.last hc (fun g hg => hG g (.inr (.inr (.inl hg)))), fun i hi => (h.rows i hi).keep hc (fun g hg => hG g (.inl hg)), own_chg h.cache hc (fun g hg => hG g (.inr (.inr (.inr (.inl hg))))),
    fun i hi => (h.crows i hi).keep hc (fun g hg => hG g (.inl hg)), own_chg h.faults hc (fun g hg => hG g (.inr (.inr (.inr (.inr hg))))), h.base, h.sep, h.apart, fun g hg => ⟨(h.lt g hg).1, Nat.lt_of_lt_of_le (h.lt g hg).2 hc.size⟩⟩
theorem RD.keep {n0 : Nat} {w w' : World} {p : Nat} {D : Dsk} {S G : Nat → Prop} (h : RD n0 w p D S) (hc : Chg G w w') (hG : ∀ g, S g → ¬ G g) : RD n0 w' p D S := by
  obtain ⟨ok, ⟨q, Y, h1, h2⟩, h3⟩ := h
  exact ⟨ok, ⟨q, Y, h1.keep hc (fun g hg => hG g (h2 g hg)), h2⟩, fun g hg => ⟨(h3 g hg).1, Nat.lt_of_lt_of_le (h3 g hg).2 hc.size⟩⟩
theorem RD.below {n0 : Nat} {w w' : World} {p : Nat} {D : Dsk} {S : Nat → Prop} (h : RD n0 w p D S) (hb : Below w.heap.size w w') : RD n0 w' p D S :=
  h.keep (G := fun _ => False) (.of_below hb) (fun _ _ h => h)
theorem RD.top {n0 : Nat} {w : World} {p : Nat} {D : Dsk} {S : Nat → Prop} (h : RD n0 w p D S) : ∀ g, S g → g < w.heap.size := fun g hg => (h.2.2 g hg).2
theorem all8 {F F' : Nat → Value} (h0 : F 0 = F' 0) (h1 : F 1 = F' 1) (h2 : F 2 = F' 2) (h3 : F 3 = F' 3) (h4 : F 4 = F' 4) (h5 : F 5 = F' 5) (h6 : F 6 = F' 6) (h7 : F 7 = F' 7) : ∀ i, i < 8 → F i = F' i := fun i hi => by
  match i, hi with
  | 0, _ => exact h0
  | 1, _ => exact h1
  | 2, _ => exact h2
  | 3, _ => exact h3
  | 4, _ => exact h4
  | 5, _ => exact h5
  | 6, _ => exact h6
  | 7, _ => exact h7
/-- the record alone is written: the sectors and the cache stay -/
theorem RDiskIn.turned {n0 : Nat} {w w' : World} {p : Nat} {D D' : Dsk} {q : RParts} {Y : Nat → Prop} (h : RDiskIn n0 w p D q Y) (hr : RecAt w' p 88 8 (rcell q.L q.C q.V D')) (hf : w'.ownsRow n0 3 1 q.V 4 (fourF D')) (hc : Chg (fun g => g = p ∨ blk q.V g) w w') (h1 : D'.last = D.last) (h2 : D'.cache = D.cache) : RDiskIn n0 w' p D' q Y := by
  obtain ⟨s1, s2, s3, s4, s5⟩ := h.sep
  have hY : ∀ g, Y g → ¬ (g = p ∨ blk q.V g) := fun g hg e => h.apart g hg (e.elim .inl (fun e => .inr (.inr (.inr e))))
  refine ⟨hr, ?_, ?_, ?_, ?_, hf, h.base, h.sep, h.apart, fun g hg => ⟨(h.lt g hg).1, Nat.lt_of_lt_of_le (h.lt g hg).2 hc.size⟩⟩
  · rw [h1]; exact own_chg h.last hc (fun g hg e => e.elim (fun e => s1 (e ▸ hg)) (fun e => (s4 g hg).2 e))
  · rw [h1]; exact fun i hi => (h.rows i hi).keep hc hY
  · rw [h2]; exact own_chg h.cache hc (fun g hg e => e.elim (fun e => s2 (e ▸ hg)) (fun e => s5 g hg e))
  · rw [h2]; exact fun i hi => (h.crows i hi).keep hc hY
theorem RD.rcd_cell {n0 : Nat} {w : World} {p : Nat} {D : Dsk} {q : RParts} {Y : Nat → Prop} (h : RDiskIn n0 w p D q Y) (i : Nat) (hi : i < 8) : w.cell? ⟨p, i, none⟩ = some (rcell q.L q.C q.V D i) := h.rcd.cell i hi
set_option maxRecDepth 100000 in
theorem rpages_any {n0 : Nat} {w : World} {p : Nat} {D : Dsk} {S : Nat → Prop} (h : RD n0 w p D S) : Calls Tryz.prog 42 #[.pointer (some ⟨p, 0, none⟩)] w fun e w' => e = .returned (.int .i64 (D.pages : Int)) ∧ w = w' := by
  obtain ⟨ok, ⟨q, Y, hin, _⟩, _⟩ := h
  obtain ⟨A, c, e, _⟩ := At.own hin.last
  have c0 : w.cell? ⟨p, 0, none⟩ = some (.slice A D.last.length c) := by rw [← e]; exact hin.rcd.cell 0 (by omega)
  have hl : D.last.length ≤ 131072 := by obtain ⟨k, h1, h2, h3⟩ := ok.pages; omega
  unfold Dsk.pages
  clear hin e ok
  go_enter Tryz.func42, Tryz.ntmps42
  go_wp2
  go_ret
  exact ⟨by congr 2, rfl⟩
end Go.Proofs.YtfbjjblgcgjndaaGreat

/- The reference's pool: its list of pages at hand; find (50). -/
namespace Go.Proofs.YtfbjjblgcgjndaaGreat
open Go.RowKit

/-- the cells of pages at hand: three each -/
def hl : List (Hand × Value) → List Value
  | [] => []
  | (x, v) :: r => .int .u32 (x.num : Int) :: .int .u8 (x.kind : Int) :: v :: hl r
theorem hl_length : ∀ (M : List (Hand × Value)), (hl M).length = 3 * M.length
  | [] => rfl
  | (x, v) :: r => by simp only [hl, List.length_cons, hl_length r]; omega
theorem hl_append : ∀ (M N : List (Hand × Value)), hl (M ++ N) = hl M ++ hl N
  | [], N => rfl
  | (x, v) :: r, N => by simp only [List.cons_append, hl, hl_append r N]
theorem hl_take : ∀ (M : List (Hand × Value)) (i : Nat), hl (M.take i) = (hl M).take (3 * i)
  | [], i => by simp [hl]
  | (x, v) :: r, 0 => by simp [hl]
  | (x, v) :: r, i + 1 => by
    rw [show 3 * (i + 1) = 3 * i + 1 + 1 + 1 by omega]
    simp only [List.take_succ_cons, hl, hl_take r i]
theorem hl_drop : ∀ (M : List (Hand × Value)) (i : Nat), hl (M.drop i) = (hl M).drop (3 * i)
  | [], i => by simp [hl]
  | (x, v) :: r, 0 => by simp [hl]
  | (x, v) :: r, i + 1 => by
    rw [show 3 * (i + 1) = 3 * i + 1 + 1 + 1 by omega]
    simp only [List.drop_succ_cons, hl, hl_drop r i]
theorem hl_get : ∀ (M : List (Hand × Value)) (i : Nat) (x : Hand) (v : Value), M[i]? = some (x, v) → (hl M)[3 * i]? = some (.int .u32 (x.num : Int)) ∧ (hl M)[3 * i + 1]? = some (.int .u8 (x.kind : Int)) ∧ (hl M)[3 * i + 2]? = some v
  | [], i, x, v, h => by simp at h
  | (y, u) :: r, 0, x, v, h => by
    simp only [List.getElem?_cons_zero, Option.some.injEq, Prod.mk.injEq] at h
    obtain ⟨rfl, rfl⟩ := h
    exact ⟨rfl, rfl, rfl⟩
  | (y, u) :: r, i + 1, x, v, h => by
    rw [List.getElem?_cons_succ] at h
    obtain ⟨h1, h2, h3⟩ := hl_get r i x v h
    refine ⟨?_, ?_, ?_⟩
    · rw [show 3 * (i + 1) = 3 * i + 1 + 1 + 1 by omega]; exact h1
    · rw [show 3 * (i + 1) + 1 = (3 * i + 1) + 1 + 1 + 1 by omega]; exact h2
    · rw [show 3 * (i + 1) + 2 = (3 * i + 2) + 1 + 1 + 1 by omega]; exact h3
theorem hl_one : ∀ (M : List (Hand × Value)), (∀ p, p ∈ M → p.2.oneCell' = true) → ∀ u ∈ hl M, u.oneCell' = true
  | [], _, u, h => by simp [hl] at h
  | (x, v) :: r, hM, u, h => by
    simp only [hl, List.mem_cons] at h
    rcases h with rfl | rfl | rfl | h
    · rfl
    · rfl
    · exact hM (x, u) (by simp)
    · exact hl_one r (fun p hp => hM p (by simp [hp])) u h
/-- a list of pages at hand lies in memory -/
structure LstAt (w : World) (Lv : Value) (A : Option Addr) (cap : Nat) (M : List (Hand × Value)) : Prop where
  form : Lv = .slice A M.length cap
  cells : At w A (hl M)
  nil : A = none → M = [] ∧ cap = 0
  some_ : ∀ a, A = some a → ∃ g o cur, a = ⟨g, o, none⟩ ∧ w.heap[g]? = some (.cells cur 95 (0, 0)) ∧ o + 3 * cap ≤ cur.size
  room : M.length ≤ cap ∧ cap ≤ maxLen
/-- the pool's own cells -/
def pcell (r most : Nat) (Lv : Value) : Nat → Value
  | 0 => .pointer (some ⟨r, 0, none⟩)
  | 1 => .int .i64 (most : Int)
  | 2 => Lv
  | _ => undef
structure RPIn (n0 : Nat) (w : World) (pp r most : Nat) (M : List (Hand × Value)) (Lv : Value) (A : Option Addr) (cap : Nat) (Y : Nat → Prop) : Prop where
  rcd : RecAt w pp 92 3 (pcell r most Lv)
  list : LstAt w Lv A cap M
  rows : ∀ p, p ∈ M → RowIn w Y p.2 p.1.pay
  ok : ∀ p, p ∈ M → p.1.Ok
  nodup : (M.map fun p => p.1.num).Nodup
  base : n0 ≤ pp
  lb : ∀ a, A = some a → n0 ≤ a.block ∧ a.block ≠ pp
  yb : ∀ g, Y g → n0 ≤ g ∧ g < w.heap.size ∧ g ≠ pp ∧ ∀ a, A = some a → g ≠ a.block
/-- the place of a page, or -1 -/
def placeOf (n : Nat) (M : List (Hand × Value)) : Int := match M.findIdx? (fun p => p.1.num == n) with | some i => (i : Int) | none => -1
theorem placeOf_some {n i : Nat} {M : List (Hand × Value)} (h : M.findIdx? (fun p => p.1.num == n) = some i) : placeOf n M = (i : Int) := by unfold placeOf; rw [h]
theorem placeOf_none {n : Nat} {M : List (Hand × Value)} (h : M.findIdx? (fun p => p.1.num == n) = none) : placeOf n M = -1 := by unfold placeOf; rw [h]
theorem RPIn.rc {n0 : Nat} {w : World} {pp r most : Nat} {M : List (Hand × Value)} {Lv : Value} {A : Option Addr} {cap : Nat} {Y : Nat → Prop} (h : RPIn n0 w pp r most M Lv A cap Y) :
    w.cell? ⟨pp, 0, none⟩ = some (.pointer (some ⟨r, 0, none⟩)) ∧ w.cell? ⟨pp, 1, none⟩ = some (.int .i64 (most : Int)) ∧ w.cell? ⟨pp, 2, none⟩ = some (.slice A M.length cap) := by
  refine ⟨h.rcd.cell 0 (by omega), h.rcd.cell 1 (by omega), ?_⟩
  rw [← h.list.form]; exact h.rcd.cell 2 (by omega)
theorem LstAt.get {w : World} {Lv : Value} {A : Option Addr} {cap : Nat} {M : List (Hand × Value)} (h : LstAt w Lv A cap M) (i : Nat) (x : Hand) (v : Value) (hi : M[i]? = some (x, v)) :
    ∃ g o, A = some ⟨g, o, none⟩ ∧ w.cell? ⟨g, o + i * 3, none⟩ = some (.int .u32 (x.num : Int)) ∧ w.cell? ⟨g, o + i * 3 + 1, none⟩ = some (.int .u8 (x.kind : Int)) ∧ w.cell? ⟨g, o + i * 3 + 2, none⟩ = some v := by
  obtain ⟨h1, h2, h3⟩ := hl_get M i x v hi
  obtain ⟨g, o, e, hr⟩ := h.cells (by intro e; rw [e] at h1; simp at h1)
  refine ⟨g, o, e, ?_, ?_, ?_⟩
  · rw [show o + i * 3 = o + 3 * i by omega]; exact hr _ _ h1
  · rw [show o + i * 3 + 1 = o + (3 * i + 1) by omega]; exact hr _ _ h2
  · rw [show o + i * 3 + 2 = o + (3 * i + 2) by omega]; exact hr _ _ h3
theorem LstAt.of_own {n0 : Nat} {w : World} {v : Value} {M : List (Hand × Value)} (h : w.ownsRow n0 95 3 v M.length (hl M)) : ∃ A cap, LstAt w v A cap M ∧ ∀ a, A = some a → v.ownBlock = some a.block := by
  obtain ⟨A, c, e, hA, hn, hle, hmx⟩ := At.own h
  rcases h.2 with ⟨rfl, hz⟩ | ⟨g, cap, cur, rfl, h1, h2, h3, h4, h5, h6⟩
  · injection e with e1 e2 e3
    subst e1 e3
    exact ⟨none, 0, ⟨by rw [hz], hA, fun _ => ⟨List.eq_nil_of_length_eq_zero hz, rfl⟩, (fun a ha => by cases ha), ⟨hle, hmx⟩⟩, (fun a ha => by cases ha)⟩
  · injection e with e1 e2 e3
    subst e1 e3
    exact ⟨_, cap, ⟨rfl, hA, (fun e => by cases e), (fun a ha => by cases ha; exact ⟨g, 0, cur, rfl, h2, by omega⟩), ⟨hle, hmx⟩⟩, (fun a ha => by cases ha; rfl)⟩
theorem LstAt.keep {w w' : World} {Lv : Value} {A : Option Addr} {cap : Nat} {M : List (Hand × Value)} {G : Nat → Prop} (h : LstAt w Lv A cap M) (hc : Chg G w w') (hG : ∀ a, A = some a → ¬ G a.block) : LstAt w' Lv A cap M :=
  ⟨h.form, h.cells.chg hc hG, h.nil, fun a ha => by
    obtain ⟨g, o, cur, e, h1, h2⟩ := h.some_ a ha
    refine ⟨g, o, cur, e, ?_, h2⟩
    rw [hc.block g (Array.getElem?_eq_some_iff.1 h1).1 (by have := hG a ha; rw [e] at this; exact this)]
    exact h1, h.room⟩
theorem LstAt.lt {w : World} {Lv : Value} {A : Option Addr} {cap : Nat} {M : List (Hand × Value)} (h : LstAt w Lv A cap M) (a : Addr) (ha : A = some a) : a.block < w.heap.size := by
  obtain ⟨g, o, cur, rfl, h1, _⟩ := h.some_ a ha
  exact (Array.getElem?_eq_some_iff.1 h1).1
theorem RPIn.keep {n0 : Nat} {w w' : World} {pp r most : Nat} {M : List (Hand × Value)} {Lv : Value} {A : Option Addr} {cap : Nat} {Y G : Nat → Prop} (h : RPIn n0 w pp r most M Lv A cap Y) (hc : Chg G w w') (h1 : ¬ G pp) (h2 : ∀ a, A = some a → ¬ G a.block) (h3 : ∀ g, Y g → ¬ G g) : RPIn n0 w' pp r most M Lv A cap Y :=
  ⟨h.rcd.keep hc h1, h.list.keep hc h2, fun p hp => (h.rows p hp).keep hc h3, h.ok, h.nodup, h.base, h.lb, fun g hg => ⟨(h.yb g hg).1, Nat.lt_of_lt_of_le (h.yb g hg).2.1 hc.size, (h.yb g hg).2.2⟩⟩
set_option maxRecDepth 100000 in
set_option maxHeartbeats 1000000 in
theorem rfind_any {n0 : Nat} {w : World} {pp r most : Nat} {M : List (Hand × Value)} {Lv : Value} {A : Option Addr} {cap : Nat} {Y : Nat → Prop} (h : RPIn n0 w pp r most M Lv A cap Y) (n : Nat) (hn : n < 4294967296) (hM : M.length ≤ 1000000000) :
    Calls Tryz.prog 50 #[.pointer (some ⟨pp, 0, none⟩), .int .u32 (n : Int)] w fun e w' => e = .returned (.int .i64 (placeOf n M)) ∧ w = w' := by
  obtain ⟨c0, c1, c2⟩ := h.rc
  have H := Lib.hid h
  clear h c0 c1
  go_enter Tryz.func50, Tryz.ntmps50
  go_wp2_with fail
  go_loop [5] (fun i => ∃ k : Nat, k ≤ M.length ∧ i = .int .i64 k ∧ ∀ p, p ∈ M.take k → p.1.num ≠ n) (fun i => M.length - (intOf i).toNat)
  case atStart => exact ⟨0, by omega, rfl, fun p hp => by simp at hp⟩
  case round =>
    obtain ⟨k, hk, rfl, hall⟩ := hrel
    by_cases hlt : k < M.length
    · have hki : (k : Int) < (M.length : Int) := by omega
      obtain ⟨⟨x, v⟩, hx⟩ : ∃ p, M[k]? = some p := ⟨M[k], List.getElem?_eq_getElem hlt⟩
      obtain ⟨g, o, rfl, d0, _, _⟩ := H.out.list.get k x v hx
      have hxn : x.num < 4294967296 := (H.out.ok (x, v) (List.mem_of_getElem? hx)).num
      have HX := Lib.hid hx
      have HALL := Lib.hid hall
      clear hx hall
      by_cases he : x.num = n
      · have hf : M.findIdx? (fun p => p.1.num == n) = some k := by
          rw [List.findIdx?_eq_some_iff_getElem]
          have hg : M[k] = (x, v) := by
            have := HX.out
            rw [List.getElem?_eq_getElem hlt] at this
            exact Option.some.inj this
          refine ⟨hlt, by rw [hg]; simpa using he, fun j hj => ?_⟩
          have := HALL.out M[j] (List.mem_take_iff_getElem.2 ⟨j, by omega, rfl⟩)
          simpa using this
        have HF := Lib.hid (placeOf_some hf)
        have e1 : ((x.num : Int) == (n : Int)) = true := by simp; omega
        have HE := Lib.hid he
        clear hf he
        generalize x.num = y at *
        go_wp2_with fail
        go_ret
        rw [HF.out]
        exact ⟨rfl, rfl⟩
      · have hq : ∀ p, p ∈ M.take (k + 1) → p.1.num ≠ n := by
          intro p hp
          rw [List.take_add_one, HX.out] at hp
          rcases List.mem_append.1 hp with h | h
          · exact HALL.out p h
          · obtain rfl : p = (x, v) := by simpa using h
            exact he
        have HQ := Lib.hid hq
        have e1 : ((x.num : Int) == (n : Int)) = false := by simp; omega
        clear hq he
        generalize x.num = y at *
        go_wp2_with fail
        case roundEnd => exact ⟨⟨k + 1, by omega, by go_num, HQ.out⟩, by simp only [intOf]; omega⟩
    · obtain rfl : k = M.length := by omega
      have hf : M.findIdx? (fun p => p.1.num == n) = none := by
        rw [List.findIdx?_eq_none_iff]
        intro p hp
        have := hall p (by rw [List.take_length]; exact hp)
        simpa using this
      have HF := Lib.hid (placeOf_none hf)
      clear hf hall
      go_wp2_with fail
      go_ret
      rw [HF.out]
      exact ⟨rfl, rfl⟩
end Go.Proofs.YtfbjjblgcgjndaaGreat

/- The reference's pool: Forget (22). -/
namespace Go.Proofs.YtfbjjblgcgjndaaGreat
open Go.RowKit

theorem Tryz.info95r : (Tryz.prog.info? 95).map (fun i => (i.zero, i.size, i.bytes)) = some (some (.agg #[.int .u32 0, .int .u8 0, .slice none 0 0]), 3, 32) := by kernel_rfl
/-- what Forget leaves -/
def RpF (n0 : Nat) (w : World) (pp r most n : Nat) (M : List (Hand × Value)) (A : Option Addr) (Y : Nat → Prop) (e : Ending) (w' : World) : Prop :=
  e = .returned (.tuple #[]) ∧ ∃ M' Lv' A' cap', RPIn n0 w' pp r most M' Lv' A' cap' Y ∧ M'.map (·.1) = forget n (M.map (·.1)) ∧ Chg (OnlyP pp) w w' ∧ M'.length ≤ M.length ∧ (∀ p, p ∈ M' → p ∈ M) ∧ ∀ a, A' = some a → A = some a ∨ w.heap.size ≤ a.block
theorem erase_forget : ∀ (M : List (Hand × Value)) (n i : Nat), (M.map fun p => p.1.num).Nodup → M.findIdx? (fun p => p.1.num == n) = some i → (M.take i ++ M.drop (i + 1)).map (·.1) = forget n (M.map (·.1))
  | [], n, i, _, h => by simp at h
  | p :: M, n, i, hnd, h => by
    rw [List.map_cons, List.nodup_cons] at hnd
    rw [List.findIdx?_cons] at h
    by_cases e : p.1.num = n
    · rw [if_pos (by simpa using e)] at h
      obtain rfl : 0 = i := Option.some.inj h
      have hq : forget n (M.map (·.1)) = M.map (·.1) := by
        unfold forget
        rw [List.filter_eq_self]
        intro x hx
        obtain ⟨q, hq, rfl⟩ := List.mem_map.1 hx
        have : q.1.num ≠ n := fun e2 => hnd.1 (List.mem_map.2 ⟨q, hq, by rw [e2, e]⟩)
        simpa using this
      unfold forget at hq ⊢
      rw [List.map_cons, List.filter_cons_of_neg (by simpa using e), hq]
      simp
    · rw [if_neg (by simpa using e)] at h
      obtain ⟨j, hj, rfl⟩ := Option.map_eq_some_iff.1 h
      have ih := erase_forget M n j hnd.2 hj
      unfold forget at ih ⊢
      rw [List.map_cons, List.filter_cons_of_pos (by simpa using e), ← ih]
      simp
theorem none_forget {M : List (Hand × Value)} {n : Nat} (h : M.findIdx? (fun p => p.1.num == n) = none) : M.map (·.1) = forget n (M.map (·.1)) := by
  unfold forget
  symm
  rw [List.filter_eq_self]
  intro x hx
  obtain ⟨q, hq, rfl⟩ := List.mem_map.1 hx
  have := List.findIdx?_eq_none_iff.1 h q hq
  simpa using this
theorem idx_lt {M : List (Hand × Value)} {n i : Nat} (h : M.findIdx? (fun p => p.1.num == n) = some i) : i < M.length := by
  obtain ⟨h1, _⟩ := List.findIdx?_eq_some_iff_getElem.1 h
  exact h1
theorem mem_cut {M : List (Hand × Value)} {i : Nat} {p : Hand × Value} (h : p ∈ M.take i ++ M.drop (i + 1)) : p ∈ M := by
  rcases List.mem_append.1 h with h | h
  · exact List.mem_of_mem_take h
  · exact List.mem_of_mem_drop h
theorem cut_len {M : List (Hand × Value)} {i : Nat} (h : i < M.length) : (M.take i ++ M.drop (i + 1)).length = i + (M.length - (i + 1)) := by
  rw [List.length_append, List.length_take, List.length_drop]; omega
theorem cut_nodup {M : List (Hand × Value)} {i : Nat} (h : (M.map fun p => p.1.num).Nodup) : ((M.take i ++ M.drop (i + 1)).map fun p => p.1.num).Nodup := by
  refine List.Nodup.sublist (List.Sublist.map _ ?_) h
  rw [← List.eraseIdx_eq_take_drop_succ]
  exact List.eraseIdx_sublist M i
/-- behind the store of the new list -/
theorem RPIn.cut {n0 : Nat} {w w2 : World} {pp r most : Nat} {M : List (Hand × Value)} {Lv : Value} {A : Option Addr} {cap : Nat} {Y : Nat → Prop} (h : RPIn n0 w pp r most M Lv A cap Y) (n i : Nat) (hf : M.findIdx? (fun p => p.1.num == n) = some i)
    (hc : Chg (fun _ => False) w w2) {v : Value} (ho : w2.ownsRow w.heap.size 95 3 v (i + (M.length - (i + 1))) (hl (M.take i) ++ hl (M.drop (i + 1)))) : RpF n0 w pp r most n M A Y (.returned (.tuple #[])) (w2.setCell ⟨pp, 2, none⟩ v) := by
  have hi := idx_lt hf
  rw [← hl_append, ← cut_len hi] at ho
  obtain ⟨A', cap', hL, hbk⟩ := LstAt.of_own ho
  have hpp : pp < w.heap.size := h.rcd.lt
  have hn0 := h.base
  have hch : Chg (OnlyP pp) w (w2.setCell ⟨pp, 2, none⟩ v) := (hc.mono (fun _ _ h => h.elim)).setCell _ _ (.inl rfl)
  have hge : ∀ a, A' = some a → w.heap.size ≤ a.block := fun a ha => own_base ho _ (hbk a ha)
  refine ⟨rfl, M.take i ++ M.drop (i + 1), v, A', cap', ⟨?_, ?_, ?_, ?_, cut_nodup h.nodup, h.base, ?_, ?_⟩, erase_forget M n i h.nodup hf, hch, by rw [cut_len hi]; omega, fun p hp => mem_cut hp, fun a ha => .inr (hge a ha)⟩
  · refine ((h.rcd.keep hc (fun h => h)).set 2 v).congr ?_
    intro j hj
    match j, hj with
    | 0, _ => rfl
    | 1, _ => rfl
    | 2, _ => rfl
  · refine hL.keep (G := OnlyP pp) ((Chg.refl _ _).setCell _ _ (.inl rfl)) (fun a ha e => ?_)
    have := hge a ha
    rw [show a.block = pp from e] at this
    omega
  · exact fun p hp => (h.rows p (mem_cut hp)).keep hch (fun g hg e => (h.yb g hg).2.2.1 e)
  · exact fun p hp => h.ok p (mem_cut hp)
  · exact fun a ha => ⟨by have := hge a ha; omega, by have := hge a ha; omega⟩
  · exact fun g hg => ⟨(h.yb g hg).1, Nat.lt_of_lt_of_le (h.yb g hg).2.1 hch.size, (h.yb g hg).2.2.1, fun a ha e => by have := hge a ha; have := (h.yb g hg).2.1; omega⟩
set_option maxRecDepth 100000 in
set_option maxHeartbeats 1000000 in
theorem rforget_any {n0 : Nat} {w : World} {pp r most : Nat} {M : List (Hand × Value)} {Lv : Value} {A : Option Addr} {cap : Nat} {Y : Nat → Prop} (h : RPIn n0 w pp r most M Lv A cap Y) (n : Nat) (hn : n < 4294967296) (hM : M.length ≤ 1000000000) :
    Calls Tryz.prog 22 #[.pointer (some ⟨pp, 0, none⟩), .int .u32 (n : Int)] w (RpF n0 w pp r most n M A Y) := by
  have hfi := rfind_any h n hn hM
  obtain ⟨c0, c1, c2⟩ := h.rc
  cases hp : M.findIdx? (fun p => p.1.num == n) with
  | none =>
    rw [placeOf_none hp] at hfi
    have HF := Lib.hid hfi
    have HN := Lib.hid (none_forget hp)
    have H := Lib.hid h
    clear hfi hp h c0 c1 c2
    go_enter Tryz.func22, Tryz.ntmps22
    go_wp2_with (go_at_call 50; refine HF.out.mono ?_; rintro e w1 ⟨rfl, rfl⟩)
    go_end0
    exact ⟨rfl, M, Lv, A, cap, H.out, HN.out, Chg.refl _ _, Nat.le_refl _, fun p h => h, fun a ha => .inl ha⟩
  | some i =>
    rw [placeOf_some hp] at hfi
    have hi := idx_lt hp
    obtain ⟨g, o, rfl, _⟩ := h.list.get i M[i].1 M[i].2 (by rw [List.getElem?_eq_getElem hi])
    have hroom := h.list.room.1
    have hpp := h.rcd.lt
    have HA1 := Lib.hid (show At w (some ⟨g, o, none⟩) (hl (M.take i)) from by
      have := h.list.cells
      rw [← List.take_append_drop i M, hl_append] at this
      exact this.pre)
    have HO1 := Lib.hid (show ∀ u ∈ hl (M.take i), u.oneCell' = true from hl_one _ (fun p hp => by obtain ⟨A3, c3, e3, _⟩ := h.rows p (List.mem_of_mem_take hp); rw [e3]; rfl))
    have HO2 := Lib.hid (show ∀ u ∈ hl (M.drop (i + 1)), u.oneCell' = true from hl_one _ (fun p hp => by obtain ⟨A3, c3, e3, _⟩ := h.rows p (List.mem_of_mem_drop hp); rw [e3]; rfl))
    have HL1 := Lib.hid (show (hl (M.take i)).length = i * 3 from by rw [hl_length, List.length_take]; omega)
    have hl2 := (show (hl (M.drop (i + 1))).length = (M.length - (i + 1)) * 3 from by rw [hl_length, List.length_drop]; omega)
    have HF := Lib.hid hfi
    have HP := Lib.hid hp
    have H := Lib.hid h
    have hi0 : (0 : Int) ≤ (i : Int) := by omega
    have hi1 : (i : Int) ≤ (cap : Int) := by omega
    have hc0 : ¬ cap = 0 := by omega
    have e1 : IntKind.i64.wrap ((i : Int) + 1) = (i : Int) + 1 := by rw [IntKind.wrap_i64]; omega
    have e2 : ((i : Int) + 1).toNat = i + 1 := by omega
    have h0 : (0 : Int) ≤ (i : Int) + 1 := by omega
    have h1 : (i : Int) + 1 ≤ (M.length : Int) := by omega
    have hlt : ¬ (i : Int) < 0 := by omega
    clear hfi hp h c0 c1
    obtain ⟨N, hN⟩ : ∃ N, N = M.length := ⟨_, rfl⟩
    rw [← hN] at hi h1 c2 hroom hM hl2
    have HL2 := Lib.hid hl2
    clear hl2
    have HLN := Lib.hid hN.symm
    clear hN
    rcases Classical.em (cap = i + 1) with rfl | hq
    · have HA2 := Lib.hid (show At w (some ⟨g, o, none⟩) (hl (M.drop (i + 1))) from by
        intro hne
        exact absurd (List.eq_nil_of_length_eq_zero (by rw [HL2.out]; omega)) hne)
      go_enter Tryz.func22, Tryz.ntmps22
      go_wp2_with (first
        | (go_at_call 50; refine HF.out.mono ?_; rintro e w1 ⟨rfl, rfl⟩)
        | (at_builtin; go_loud (refine wp_append2 rfl (.tmp 11) (.tmp 17) 90 95 (.agg #[.int .u32 0, .int .u8 0, .slice none 0 0]) 3 32 rfl Tryz.underlying90 Tryz.info95r rfl (by decide) w.heap.size (.slice none 0 0) 0 [] rfl (World.ownsRow_nil _ _ _ _) (some ⟨g, o, none⟩) i (i + 1) (hl (M.take i)) rfl HL1.out HA1.out (by simp) HO1.out (by omega) (by omega) (Nat.le_refl _) ?_); intro v1 w1 ho1 hor1; rw [Nat.zero_add, List.nil_append] at ho1; obtain ⟨A1, k1, rfl, _⟩ := At.own ho1; have hb1 : Below w.heap.size w w1 := below_of_grown (hor1.elim (fun h => h.1) (fun h => h.1)); have c3 : w1.cell? ⟨pp, 2, none⟩ = some (.slice (some ⟨g, o, none⟩) N (i + 1)) := (Chg.of_below (F := fun _ => False) hb1).cell c2 (fun h => h); have HB1 := Lib.hid hb1; have HW1 := Lib.hid ho1; clear hor1 ho1 hb1 c2)
        | (at_builtin; go_loud (refine wp_append2 rfl (.tmp 20) (.tmp 27) 90 95 (.agg #[.int .u32 0, .int .u8 0, .slice none 0 0]) 3 32 rfl Tryz.underlying90 Tryz.info95r rfl (by decide) w.heap.size (.slice A1 i k1) i (hl (M.take i)) rfl HW1.out (some ⟨g, o, none⟩) (N - (i + 1)) ((i + 1) - (i + 1)) (hl (M.drop (i + 1))) (by first | rfl | (simp [Act.eval]; done) | (go_simp; done)) HL2.out (HA2.out.below HB1.out) (by simp) HO2.out (by omega) (by omega) HB1.out.size ?_; intro v2 w2 ho2 hor2; have hc2 : Chg (fun _ => False) w w2 := (Chg.of_below HB1.out).trans (push_chg hor2) (fun j hj hg => by have := own_base HW1.out j hg; omega); have hr2 := H.out.rcd.keep hc2 (fun h => h); have q1 : ∃ x, w2.cell? ⟨pp, 2, none⟩ = some x := ⟨_, hr2.cell 2 (by omega)⟩; obtain ⟨x2, q1⟩ := q1; obtain ⟨A2, k2, rfl, _⟩ := At.own ho2; have q2 := hr2.frozen 2; have HC2 := Lib.hid hc2; have HW2 := Lib.hid ho2; clear ho2 hor2 hc2 hr2 c3)))
      go_end0
      exact H.out.cut n i HP.out HC2.out (by
        rw [HLN.out]
        first
          | exact HW2.out
          | (have h5 := HW2.out; rw [show N - (i + 1) = 0 by omega] at h5 ⊢; exact h5))
    · have HA2 := Lib.hid (show At w (some ⟨g, o + (i + 1) * 3, none⟩) (hl (M.drop (i + 1))) from by
        intro hne
        obtain ⟨g2, o2, e3, hr⟩ := H.out.list.cells (by intro e; refine hne ?_; rw [hl_drop, e]; simp)
        cases e3
        refine ⟨g, _, rfl, fun j u hu => ?_⟩
        rw [hl_drop, List.getElem?_drop] at hu
        have := hr _ _ hu
        rw [show o + (i + 1) * 3 + j = o + (3 * (i + 1) + j) by omega]
        exact this)
      go_enter Tryz.func22, Tryz.ntmps22
      go_wp2_with (first
        | (go_at_call 50; refine HF.out.mono ?_; rintro e w1 ⟨rfl, rfl⟩)
        | (at_builtin; go_loud (refine wp_append2 rfl (.tmp 11) (.tmp 17) 90 95 (.agg #[.int .u32 0, .int .u8 0, .slice none 0 0]) 3 32 rfl Tryz.underlying90 Tryz.info95r rfl (by decide) w.heap.size (.slice none 0 0) 0 [] rfl (World.ownsRow_nil _ _ _ _) (some ⟨g, o, none⟩) i cap (hl (M.take i)) rfl HL1.out HA1.out (by simp) HO1.out (by omega) (by omega) (Nat.le_refl _) ?_); intro v1 w1 ho1 hor1; rw [Nat.zero_add, List.nil_append] at ho1; obtain ⟨A1, k1, rfl, _⟩ := At.own ho1; have hb1 : Below w.heap.size w w1 := below_of_grown (hor1.elim (fun h => h.1) (fun h => h.1)); have c3 : w1.cell? ⟨pp, 2, none⟩ = some (.slice (some ⟨g, o, none⟩) N cap) := (Chg.of_below (F := fun _ => False) hb1).cell c2 (fun h => h); have HB1 := Lib.hid hb1; have HW1 := Lib.hid ho1; clear hor1 ho1 hb1 c2)
        | (at_builtin; go_loud (refine wp_append2 rfl (.tmp 20) (.tmp 27) 90 95 (.agg #[.int .u32 0, .int .u8 0, .slice none 0 0]) 3 32 rfl Tryz.underlying90 Tryz.info95r rfl (by decide) w.heap.size (.slice A1 i k1) i (hl (M.take i)) rfl HW1.out (some ⟨g, o + (i + 1) * 3, none⟩) (N - (i + 1)) (cap - (i + 1)) (hl (M.drop (i + 1))) (by first | rfl | (simp [Act.eval]; done) | (go_simp; done)) HL2.out (HA2.out.below HB1.out) (by simp) HO2.out (by omega) (by omega) HB1.out.size ?_; intro v2 w2 ho2 hor2; have hc2 : Chg (fun _ => False) w w2 := (Chg.of_below HB1.out).trans (push_chg hor2) (fun j hj hg => by have := own_base HW1.out j hg; omega); have hr2 := H.out.rcd.keep hc2 (fun h => h); have q1 : ∃ x, w2.cell? ⟨pp, 2, none⟩ = some x := ⟨_, hr2.cell 2 (by omega)⟩; obtain ⟨x2, q1⟩ := q1; obtain ⟨A2, k2, rfl, _⟩ := At.own ho2; have q2 := hr2.frozen 2; have HC2 := Lib.hid hc2; have HW2 := Lib.hid ho2; clear ho2 hor2 hc2 hr2 c3)))
      go_end0
      exact H.out.cut n i HP.out HC2.out (by
        rw [HLN.out]
        first
          | exact HW2.out
          | (have h5 := HW2.out; rw [show N - (i + 1) = 0 by omega] at h5 ⊢; exact h5))
end Go.Proofs.YtfbjjblgcgjndaaGreat

/- The reference's pool: append of one page at hand, at whatever offset the list lies. -/
namespace Go.Proofs.YtfbjjblgcgjndaaGreat
open Go.RowKit

theorem heap_setCells {g : Nat} {t : TypeId} : ∀ (vs : List Value) (o : Nat) (w : World) (cur : Array Value), w.heap[g]? = some (.cells cur t (0, 0)) → ∃ cur' : Array Value, (w.setCells g o vs).heap[g]? = some (.cells cur' t (0, 0)) ∧ cur'.size = cur.size
  | [], o, w, cur, h => ⟨cur, h, rfl⟩
  | v :: r, o, w, cur, h => by
    obtain ⟨cur', h1, h2⟩ := heap_setCells r (o + 1) (w.setCell ⟨g, o, none⟩ v) _ (heap_setCell_same w g o cur t v h)
    exact ⟨cur', h1, by rw [h2]; simp⟩
theorem setCells_chg2 {g : Nat} {F : Nat → Prop} (hg : F g) : ∀ (vs : List Value) (o : Nat) (w w0 : World), Chg F w0 w → Chg F w0 (w.setCells g o vs)
  | [], o, w, w0, h => h
  | v :: r, o, w, w0, h => setCells_chg2 hg r (o + 1) _ w0 (h.setCell _ _ (.inl hg))
/-- within the room -/
theorem LstAt.room_put {w : World} {Lv : Value} {g o cap : Nat} {M : List (Hand × Value)} (h : LstAt w Lv (some ⟨g, o, none⟩) cap M) (p : Hand × Value) (hr : M.length + 1 ≤ cap) :
    LstAt (w.setCells g (o + M.length * 3) (hl [p])) (.slice (some ⟨g, o, none⟩) (M.length + 1) cap) (some ⟨g, o, none⟩) cap (M ++ [p]) := by
  obtain ⟨g2, o2, cur, e, h1, h2⟩ := h.some_ _ rfl
  cases e
  obtain ⟨cur', h3, h4⟩ := heap_setCells (hl [p]) (o + M.length * 3) w cur h1
  refine ⟨by simp, ?_, (fun e => by cases e), (fun a ha => by cases ha; exact ⟨g, o, cur', rfl, h3, by omega⟩), by simpa using hr, h.room.2⟩
  intro _
  refine ⟨g, o, rfl, fun j u hu => ?_⟩
  rw [hl_append] at hu
  by_cases hj : j < 3 * M.length
  · rw [List.getElem?_append_left (by rw [hl_length]; exact hj)] at hu
    obtain ⟨g3, o3, e3, hc⟩ := h.cells (by intro e; rw [e] at hu; simp at hu)
    cases e3
    rw [World.cell?_setCells_out _ _ _ _ _ (fun _ _ => .inl (by simp; omega))]
    exact hc j u hu
  · rw [List.getElem?_append_right (by rw [hl_length]; omega), hl_length] at hu
    have hj2 := (List.getElem?_eq_some_iff.1 hu).1
    have hlen : (hl [p]).length = 3 := by rw [hl_length]; rfl
    have hin := World.cell?_setCells_in g (hl [p]) (o + M.length * 3) w (fun i hi => by
      rw [hlen] at hi
      rw [cell_of_row w g (o + M.length * 3 + i) _ 95 (0, 0) h1, Array.getElem?_eq_getElem (show o + M.length * 3 + i < cur.size by omega)]
      rfl) (j - 3 * M.length) hj2
    rw [show o + j = o + M.length * 3 + (j - 3 * M.length) by omega, hin, ← hu, List.getElem?_eq_getElem hj2]
/-- append of one page at hand: both arms -/
theorem run_append_lst {w : World} {Lv : Value} {A : Option Addr} {cap : Nat} {M : List (Hand × Value)} (h : LstAt w Lv A cap M) (p : Hand × Value) (hp1 : p.2.oneCell' = true) (ty : TypeId) (ad : Addr) (hn : At w (some ad) (hl [p])) (hM : M.length ≤ 1000000000) :
    ∃ v' w' A' cap', (Builtin.append_ #[90, 90] ty #[Lv, .slice (some ad) 1 1]).run Tryz.prog w = .ok v' w' ∧ LstAt w' v' A' cap' (M ++ [p]) ∧ Chg (fun g => ∃ a, A = some a ∧ g = a.block) w w' ∧ ∀ a', A' = some a' → (∃ a, A = some a ∧ a.block = a'.block) ∨ w.heap.size ≤ a'.block := by
  obtain ⟨i0, hi, hzz⟩ := Option.map_eq_some_iff.1 Tryz.info95r
  simp only [Prod.mk.injEq] at hzz
  obtain ⟨hz0, hz1, hz2⟩ := hzz
  have hlen : (hl [p]).length = 3 := by rw [hl_length]; rfl
  have hnews : ∀ j u, (hl [p])[j]? = some u → w.cell? (ad.add j) = some u := fun j u hu => by
    obtain ⟨b, o, e, hr⟩ := hn (by intro e; rw [e] at hlen; simp at hlen)
    cases e
    rw [Addr.add_mid]; exact hr j u hu
  have h1 : ∀ u ∈ hl [p], u.oneCell' = true := hl_one _ (fun q hq => by rw [List.mem_singleton.1 hq]; exact hp1)
  have hroom := h.room
  have hform := h.form
  subst hform
  have fin : ∀ v' w', w'.ownsRow w.heap.size 95 3 v' (M.length + 1) (hl M ++ hl [p]) → w.grownBy w' none → ∃ A' cap', LstAt w' v' A' cap' (M ++ [p]) ∧ Chg (fun g => ∃ a, A = some a ∧ g = a.block) w w' ∧ ∀ a', A' = some a' → (∃ a, A = some a ∧ a.block = a'.block) ∨ w.heap.size ≤ a'.block := by
    intro v' w' ho hg
    rw [← hl_append, show M.length + 1 = (M ++ [p]).length by simp] at ho
    obtain ⟨A', cap', hL, hb⟩ := LstAt.of_own ho
    exact ⟨A', cap', hL, .of_below (below_of_grown hg), fun a' ha => .inr (own_base ho _ (hb a' ha))⟩
  cases A with
  | none =>
    obtain ⟨rfl, rfl⟩ := h.nil rfl
    obtain ⟨v', w', hrun, r1, r2, _⟩ := run_append_own (P := Tryz.prog) w w.heap.size 90 ty 95 i0 _ 3 32 Tryz.underlying90 hi hz0 hz1 hz2 rfl (by decide) (.slice none 0 0) 0 [] (World.ownsRow_nil w _ 95 3) ad 1 1 (hl [p]) (by rw [hlen]) hnews h1 (by simp only [maxLen]; omega) (by omega) (Nat.le_refl _)
    obtain ⟨A', cap', q⟩ := fin v' w' (by simpa [hl] using r1) r2
    exact ⟨v', w', A', cap', hrun, q⟩
  | some a =>
    obtain ⟨g, o, cur, rfl, hh, hsz⟩ := h.some_ a rfl
    by_cases hr : M.length + 1 ≤ cap
    · have hrun := run_append_room_cells (P := Tryz.prog) w 90 ty 95 i0 Tryz.underlying90 hi g o M.length cap ad 1 1 (hl [p]) (by rw [hlen, hz1]) hnews h1 hr (fun j hj => by
        rw [hlen] at hj
        rw [hz1, cell_of_row w g (o + M.length * 3 + j) _ 95 (0, 0) hh, Array.getElem?_eq_getElem (show o + M.length * 3 + j < cur.size by omega)]
        rfl) (fun j hj => frozen_of_row w g _ _ 95 hh)
      rw [hz1] at hrun
      exact ⟨_, _, _, cap, hrun, h.room_put p hr, setCells_chg2 (F := fun g' => ∃ a, some (⟨g, o, none⟩ : Addr) = some a ∧ g' = a.block) ⟨_, rfl, rfl⟩ _ _ _ _ (Chg.refl _ _), fun a' ha => .inl ⟨_, rfl, by cases ha; rfl⟩⟩
    · obtain ⟨v', w', hrun, r1, r2⟩ := run_append_arg_grows (P := Tryz.prog) w 90 ty 95 i0 _ 3 32 Tryz.underlying90 hi hz0 hz1 hz2 rfl (by decide) ⟨g, o, none⟩ M.length cap (hl M) (by rw [hl_length]; omega) (fun j u hu => by
        obtain ⟨g3, o3, e3, hc⟩ := h.cells (by intro e; rw [e] at hu; simp at hu)
        cases e3
        rw [Addr.add_lit]; exact hc j u hu) ad 1 1 (hl [p]) (by rw [hlen]) hnews (by omega) (by simp only [maxLen]; omega) (by omega)
      obtain ⟨A', cap', q⟩ := fin v' w' r1 r2
      exact ⟨v', w', A', cap', hrun, q⟩
end Go.Proofs.YtfbjjblgcgjndaaGreat

/- The reference's pool: use (51). -/
namespace Go.Proofs.YtfbjjblgcgjndaaGreat
open Go.RowKit

/-- append, at the operation -/
theorem oper_append_lst {Q : Exit → Go.Act → World → Prop} {o : Oper} {a : Go.Act} {w : World} {K : Go.Act → World → Prop} (s x : Operand)
    (ho : o.op = .call { callee := .builtin .append, args := #[s, x], argTypes := #[90, 90] }) {Lv : Value} {A : Option Addr} {cap : Nat} {M : List (Hand × Value)} (h : LstAt w Lv A cap M) (hs : a.eval s = Lv) (p : Hand × Value) (hp1 : p.2.oneCell' = true) (ad : Addr) (hx : a.eval x = .slice (some ad) 1 1) (hn : At w (some ad) (hl [p])) (hM : M.length ≤ 1000000000)
    (hK : ∀ v' w' A' cap', LstAt w' v' A' cap' (M ++ [p]) → Chg (fun g => ∃ a, A = some a ∧ g = a.block) w w' → (∀ a', A' = some a' → (∃ a, A = some a ∧ a.block = a'.block) ∨ w.heap.size ≤ a'.block) → K (a.put o.dst v') w') :
    Oper.wp Tryz.prog o a w K Q := by
  obtain ⟨v', w', A', cap', hr, h1, h2, h3⟩ := run_append_lst h p hp1 o.type ad hn hM
  unfold Oper.wp execOp
  simp only [ho, resolve, invoke, builtin, Sem.run_bind, Sem.run_pure, Result.andThen_ok, List.map_toArray, List.map_cons, List.map_nil, hs, hx, hr]
  exact hK v' w' A' cap' h1 h2 h3
/-- behind the append and the store -/
theorem RPIn.used {n0 : Nat} {w1 w2 : World} {pp r most : Nat} {M1 : List (Hand × Value)} {Lv1 : Value} {A1 A2 : Option Addr} {cap1 cap2 N : Nat} {Y : Nat → Prop} (h : RPIn n0 w1 pp r most M1 Lv1 A1 cap1 Y) (x : Hand) (v : Value) (hx : x.Ok) (hv : RowIn w1 Y v x.pay) (hne : ∀ p, p ∈ M1 → p.1.num ≠ x.num)
    (hL2 : LstAt w2 (.slice A2 N cap2) A2 cap2 (M1 ++ [(x, v)])) (hc2 : Chg (fun g => ∃ a, A1 = some a ∧ g = a.block) w1 w2) (hA2 : ∀ a', A2 = some a' → (∃ a, A1 = some a ∧ a.block = a'.block) ∨ w1.heap.size ≤ a'.block) :
    RPIn n0 (w2.setCell ⟨pp, 2, none⟩ (.slice A2 N cap2)) pp r most (M1 ++ [(x, v)]) (.slice A2 N cap2) A2 cap2 Y ∧ Chg (fun g => g = pp ∨ ∃ a, A1 = some a ∧ g = a.block) w1 (w2.setCell ⟨pp, 2, none⟩ (.slice A2 N cap2)) := by
  have hpp : ¬ ∃ a, A1 = some a ∧ pp = a.block := fun ⟨a, ha, e⟩ => (h.lb a ha).2 e.symm
  have hch : Chg (fun g => g = pp ∨ ∃ a, A1 = some a ∧ g = a.block) w1 (w2.setCell ⟨pp, 2, none⟩ (.slice A2 N cap2)) := (hc2.mono (G := fun g => g = pp ∨ ∃ a, A1 = some a ∧ g = a.block) (fun _ _ h => .inr h)).setCell _ _ (.inl (.inl rfl))
  have hlt := h.rcd.lt
  have hn0 := h.base
  have hA2n : ∀ a, A2 = some a → n0 ≤ a.block ∧ a.block ≠ pp := fun a ha => by
    rcases hA2 a ha with ⟨a1, e, e2⟩ | e
    · rw [← e2]; exact h.lb a1 e
    · exact ⟨by omega, by omega⟩
  have hYn : ∀ g, Y g → ¬ (g = pp ∨ ∃ a, A1 = some a ∧ g = a.block) := fun g hg e => e.elim (h.yb g hg).2.2.1 (fun ⟨a, ha, e⟩ => (h.yb g hg).2.2.2 a ha e)
  refine ⟨⟨?_, hL2.keep (G := OnlyP pp) ((Chg.refl _ _).setCell _ _ (.inl rfl)) (fun a ha e => (hA2n a ha).2 e), fun p hp => ?_, fun p hp => ?_, ?_, h.base, hA2n, fun g hg => ⟨(h.yb g hg).1, Nat.lt_of_lt_of_le (h.yb g hg).2.1 hch.size, (h.yb g hg).2.2.1, fun a ha e => ?_⟩⟩, hch⟩
  · refine ((h.rcd.keep hc2 hpp).set 2 _).congr ?_
    intro j hj
    match j, hj with
    | 0, _ => rfl
    | 1, _ => rfl
    | 2, _ => rfl
  · rcases List.mem_append.1 hp with hp | hp
    · exact (h.rows p hp).keep hch hYn
    · rw [List.mem_singleton.1 hp]; exact hv.keep hch hYn
  · rcases List.mem_append.1 hp with hp | hp
    · exact h.ok p hp
    · rw [List.mem_singleton.1 hp]; exact hx
  · rw [List.map_append, List.nodup_append]
    refine ⟨h.nodup, by simp, fun a ha c hc e => ?_⟩
    obtain ⟨p, hp, rfl⟩ := List.mem_map.1 ha
    simp at hc
    exact hne p hp (by rw [e, hc])
  · rcases hA2 a ha with ⟨a1, e1, e2⟩ | e1
    · exact (h.yb g hg).2.2.2 a1 e1 (by rw [e, e2])
    · have := (h.yb g hg).2.1; omega
theorem LstAt.drop1 {w : World} {N g o cap : Nat} {M : List (Hand × Value)} (h : LstAt w (.slice (some ⟨g, o, none⟩) N cap) (some ⟨g, o, none⟩) cap M) (hM : M ≠ []) : LstAt w (.slice (some ⟨g, o + 3, none⟩) (N - 1) (cap - 1)) (some ⟨g, o + 3, none⟩) (cap - 1) (M.drop 1) := by
  have hN : N = M.length := by have := h.form; injection this
  have h0 : 0 < M.length := List.length_pos_iff.2 hM
  refine ⟨by rw [hN]; simp, fun hne => ?_, (fun e => by cases e), fun a ha => ?_, by have := h.room; rw [List.length_drop]; omega⟩
  · obtain ⟨g2, o2, e, hr⟩ := h.cells (by intro e; refine hne ?_; rw [hl_drop, e]; simp)
    cases e
    refine ⟨g, o + 3, rfl, fun j u hu => ?_⟩
    rw [hl_drop, List.getElem?_drop] at hu
    have := hr _ _ hu
    rw [show o + 3 + j = o + (3 * 1 + j) by omega]
    exact this
  · cases ha
    obtain ⟨g2, o2, cur, e, h1, h2⟩ := h.some_ _ rfl
    cases e
    have := h.room
    exact ⟨g, o + 3, cur, rfl, h1, by omega⟩
theorem RPIn.drop1 {n0 : Nat} {w : World} {pp r most : Nat} {M : List (Hand × Value)} {N g o cap : Nat} {Y : Nat → Prop} (h : RPIn n0 w pp r most M (.slice (some ⟨g, o, none⟩) N cap) (some ⟨g, o, none⟩) cap Y) (hM : M ≠ []) :
    RPIn n0 (w.setCell ⟨pp, 2, none⟩ (.slice (some ⟨g, o + 3, none⟩) (N - 1) (cap - 1))) pp r most (M.drop 1) (.slice (some ⟨g, o + 3, none⟩) (N - 1) (cap - 1)) (some ⟨g, o + 3, none⟩) (cap - 1) Y ∧ Chg (OnlyP pp) w (w.setCell ⟨pp, 2, none⟩ (.slice (some ⟨g, o + 3, none⟩) (N - 1) (cap - 1))) := by
  have hch : Chg (OnlyP pp) w (w.setCell ⟨pp, 2, none⟩ (.slice (some ⟨g, o + 3, none⟩) (N - 1) (cap - 1))) := (Chg.refl _ _).setCell _ _ (.inl rfl)
  have hlb := h.lb _ rfl
  refine ⟨⟨?_, (h.list.drop1 hM).keep hch (fun a ha e => by cases ha; exact hlb.2 e), fun p hp => (h.rows p (List.mem_of_mem_drop hp)).keep hch (fun g hg e => (h.yb g hg).2.2.1 e), fun p hp => h.ok p (List.mem_of_mem_drop hp), ?_, h.base, fun a ha => by cases ha; exact hlb, fun g' hg => ⟨(h.yb g' hg).1, Nat.lt_of_lt_of_le (h.yb g' hg).2.1 hch.size, (h.yb g' hg).2.2.1, fun a ha => by cases ha; exact (h.yb g' hg).2.2.2 ⟨g, o, none⟩ rfl⟩⟩, hch⟩
  · refine (h.rcd.set 2 _).congr ?_
    intro j hj
    match j, hj with
    | 0, _ => rfl
    | 1, _ => rfl
    | 2, _ => rfl
  · exact List.Nodup.sublist (List.Sublist.map _ (List.drop_sublist _ _)) h.nodup
/-- what use leaves -/
def RpU (n0 : Nat) (w : World) (pp r most : Nat) (x : Hand) (M : List (Hand × Value)) (A : Option Addr) (Y : Nat → Prop) (e : Ending) (w' : World) : Prop :=
  e = .returned (.tuple #[]) ∧ ∃ M' Lv' A' cap', RPIn n0 w' pp r most M' Lv' A' cap' Y ∧ M'.map (·.1) = usePage most x (M.map (·.1)) ∧ Chg (fun g => g = pp ∨ ∃ a, A = some a ∧ g = a.block) w w' ∧ ∀ a', A' = some a' → (∃ a, A = some a ∧ a.block = a'.block) ∨ w.heap.size ≤ a'.block
theorem use_stay {most : Nat} {x : Hand} {L : List Hand} {M1 : List (Hand × Value)} (v : Value) (h : M1.map (·.1) = forget x.num L) (hm : ¬ most < M1.length + 1) : (M1 ++ [(x, v)]).map (·.1) = usePage most x L := by
  unfold usePage
  rw [← h, if_neg (by simpa using hm), List.map_append]
  rfl
theorem use_fall {most : Nat} {x : Hand} {L : List Hand} {M1 : List (Hand × Value)} (v : Value) (h : M1.map (·.1) = forget x.num L) (hm : most < M1.length + 1) : ((M1 ++ [(x, v)]).drop 1).map (·.1) = usePage most x L := by
  unfold usePage
  rw [← h, if_pos (by simpa using hm), List.map_drop, List.map_append]
  rfl
theorem forget_ne {n : Nat} {L : List Hand} {M1 : List (Hand × Value)} (h : M1.map (·.1) = forget n L) : ∀ p, p ∈ M1 → p.1.num ≠ n := fun p hp => by
  have : p.1 ∈ forget n L := by rw [← h]; exact List.mem_map.2 ⟨p, hp, rfl⟩
  simpa using (List.mem_filter.1 this).2
set_option maxRecDepth 100000 in
set_option maxHeartbeats 4000000 in
theorem ruse_any {n0 : Nat} {w : World} {pp r most : Nat} {M : List (Hand × Value)} {Lv : Value} {A : Option Addr} {cap : Nat} {Y : Nat → Prop} (h : RPIn n0 w pp r most M Lv A cap Y) (x : Hand) (v : Value) (hx : x.Ok) (hv : RowIn w Y v x.pay) (hM : M.length ≤ 100000000) (h1 : 1 ≤ most) (hm : most ≤ 9223372036854775807) :
    Calls Tryz.prog 51 #[.pointer (some ⟨pp, 0, none⟩), .agg #[.int .u32 (x.num : Int), .int .u8 (x.kind : Int), v]] w (RpU n0 w pp r most x M A Y) := by
  have hxn := hx.num
  have HV0 := Lib.hid hv
  obtain ⟨V, vc, rfl, hvr⟩ := hv
  have hb0 : Below w.heap.size w (w.alloc (.cells #[.int .u32 (x.num : Int), .int .u8 (x.kind : Int), .slice V x.pay.length vc] 95)) := below_alloc0 (Below.refl _ _) _
  have H0 := Lib.hid (h.keep (G := fun _ => False) (.of_below hb0) (fun h => h) (fun _ _ h => h) (fun _ _ h => h))
  have hat := heap_alloc_new w (.cells #[.int .u32 (x.num : Int), .int .u8 (x.kind : Int), .slice V x.pay.length vc] 95)
  have HD := Lib.hid (show (∀ k, k < 3 → (w.alloc (.cells #[.int .u32 (x.num : Int), .int .u8 (x.kind : Int), .slice V x.pay.length vc] 95)).cell? ⟨w.heap.size, k, none⟩ = #[.int .u32 (x.num : Int), .int .u8 (x.kind : Int), .slice V x.pay.length vc][k]?) from fun k hk => cell_of_row _ w.heap.size k _ 95 (0, 0) hat)
  have HPP := Lib.hid h.rcd.lt
  have HLT := Lib.hid h.list.lt
  have HB0 := Lib.hid hb0
  clear hat h hb0
  go_enter Tryz.func51, Tryz.ntmps51
  go_wp2_with (go_at_call 22; go_loud (refine (rforget_any H0.out x.num (by omega) (by omega)).mono ?_); rintro e w1 ⟨rfl, M1, Lv1, A1, cap1, hI1, hf1, hc1, hlen1, hmem1, hA1⟩; obtain rfl := hI1.list.form; have HI1 := Lib.hid hI1; have HC1 := Lib.hid hc1; have HF1 := Lib.hid hf1; have HA1 := Lib.hid hA1; clear hI1 hc1 hf1 hmem1 hA1)
  have hne : ¬ OnlyP pp w.heap.size := fun e => by
    have e2 : w.heap.size = pp := e
    have := HPP.out; omega
  have HS0 := Lib.hid (show (fun w5 : World => w5.cell? ⟨pp, 2, none⟩ = some (.slice A1 M1.length cap1) ∧ w5.cell? ⟨w.heap.size, 0, none⟩ = some (.int .u32 (x.num : Int)) ∧ w5.cell? ⟨w.heap.size, 1, none⟩ = some (.int .u8 (x.kind : Int)) ∧ w5.cell? ⟨w.heap.size, 2, none⟩ = some (.slice V x.pay.length vc)) w1.drew from ⟨HI1.out.rcd.cell 2 (by omega), HC1.out.cell (HD.out 0 (by omega)) hne, HC1.out.cell (HD.out 1 (by omega)) hne, HC1.out.cell (HD.out 2 (by omega)) hne⟩)
  clear hne
  refine AnyL.start 10 (fun w5 : World => w5.cell? ⟨pp, 2, none⟩ = some (.slice A1 M1.length cap1) ∧ w5.cell? ⟨w.heap.size, 0, none⟩ = some (.int .u32 (x.num : Int)) ∧ w5.cell? ⟨w.heap.size, 1, none⟩ = some (.int .u8 (x.kind : Int)) ∧ w5.cell? ⟨w.heap.size, 2, none⟩ = some (.slice V x.pay.length vc)) (by kernel_rfl) ?_
  refine AnyL.take (i := 0) (oi := { dst := some 8, op := Op.move (Operand.tmp 0), type := 38, pos := "ref.go:56", after := #[], guard := none }) (v := ?_) rfl (by kernel_rfl) (by kernel_rfl) (by kernel_rfl) (by kernel_rfl) (fun _ _ _ h => h) (Or.inl ⟨by rfl, ?_⟩) HS0.out ?_
  rotate_left
  · (intro w5 hSw; obtain ⟨s1, s2, s3, s4⟩ := hSw; go_simp; try with_reducible rfl)
  simp only [Act.put, List.setIfInBounds_toArray, List.set_cons_zero, List.set_cons_succ]
  refine AnyL.take (i := 1) (oi := { dst := some 9, op := Op.move (Operand.tmp 0), type := 38, pos := "ref.go:56", after := #[], guard := none }) (v := ?_) rfl (by kernel_rfl) (by kernel_rfl) (by kernel_rfl) (by kernel_rfl) (fun _ _ _ h => h) (Or.inl ⟨by rfl, ?_⟩) HS0.out ?_
  rotate_left
  · (intro w5 hSw; obtain ⟨s1, s2, s3, s4⟩ := hSw; go_simp; try with_reducible rfl)
  simp only [Act.put, List.setIfInBounds_toArray, List.set_cons_zero, List.set_cons_succ]
  refine AnyL.take (i := 2) (oi := { dst := some 10, op := Op.nilCheck (Operand.tmp 9), type := 0, pos := "ref.go:56", after := #[{ on := 1, ground := Ground.data }], guard := none }) (v := ?_) rfl (by kernel_rfl) (by kernel_rfl) (by kernel_rfl) (by kernel_rfl) (fun _ _ _ h => h) (Or.inl ⟨by rfl, ?_⟩) HS0.out ?_
  rotate_left
  · (intro w5 hSw; obtain ⟨s1, s2, s3, s4⟩ := hSw; go_simp; try with_reducible rfl)
  simp only [Act.put, List.setIfInBounds_toArray, List.set_cons_zero, List.set_cons_succ]
  refine AnyL.take (i := 3) (oi := { dst := some 11, op := Op.fieldAddr 92 (Operand.tmp 10) 2, type := 0, pos := "ref.go:56", after := #[{ on := 2, ground := Ground.data }], guard := none }) (v := ?_) rfl (by kernel_rfl) (by kernel_rfl) (by kernel_rfl) (by kernel_rfl) (fun _ _ _ h => h) (Or.inl ⟨by rfl, ?_⟩) HS0.out ?_
  rotate_left
  · (intro w5 hSw; obtain ⟨s1, s2, s3, s4⟩ := hSw; go_simp; try with_reducible rfl)
  simp only [Act.put, List.setIfInBounds_toArray, List.set_cons_zero, List.set_cons_succ]
  refine AnyL.take (i := 4) (oi := { dst := some 12, op := Op.load 90 (Operand.tmp 11), type := 90, pos := "ref.go:56", after := #[{ on := 3, ground := Ground.data }], guard := none }) (v := ?_) rfl (by kernel_rfl) (by kernel_rfl) (by kernel_rfl) (by kernel_rfl) (fun _ _ _ h => h) (Or.inl ⟨by rfl, ?_⟩) HS0.out ?_
  rotate_left
  · (intro w5 hSw; obtain ⟨s1, s2, s3, s4⟩ := hSw; go_simp; try with_reducible rfl)
  simp only [Act.put, List.setIfInBounds_toArray, List.set_cons_zero, List.set_cons_succ]
  refine AnyL.take (i := 5) (oi := { dst := some 13, op := Op.load 95 (Operand.tmp 3), type := 95, pos := "ref.go:56", after := #[], guard := none }) (v := ?_) rfl (by kernel_rfl) (by kernel_rfl) (by kernel_rfl) (by kernel_rfl) (fun _ _ _ h => h) (Or.inl ⟨by rfl, ?_⟩) HS0.out ?_
  rotate_left
  · (intro w5 hSw; obtain ⟨s1, s2, s3, s4⟩ := hSw; go_simp; try with_reducible rfl)
  simp only [Act.put, List.setIfInBounds_toArray, List.set_cons_zero, List.set_cons_succ]
  have HC2 := Lib.hid (show Chg (fun _ => False) w1 (w1.drew.alloc (.cells #[.int .u32 (x.num : Int), .int .u8 (x.kind : Int), .slice V x.pay.length vc] 95)) from ((Chg.refl _ w1).drew).alloc _)
  have HS1 := Lib.hid (show (fun w5 : World => w5.cell? ⟨pp, 2, none⟩ = some (.slice A1 M1.length cap1) ∧ w5.cell? ⟨w.heap.size, 0, none⟩ = some (.int .u32 (x.num : Int)) ∧ w5.cell? ⟨w.heap.size, 1, none⟩ = some (.int .u8 (x.kind : Int)) ∧ w5.cell? ⟨w.heap.size, 2, none⟩ = some (.slice V x.pay.length vc)) (w1.drew.alloc (.cells #[.int .u32 (x.num : Int), .int .u8 (x.kind : Int), .slice V x.pay.length vc] 95)) from ⟨HC2.out.cell HS0.out.1 (fun h => h), HC2.out.cell HS0.out.2.1 (fun h => h), HC2.out.cell HS0.out.2.2.1 (fun h => h), HC2.out.cell HS0.out.2.2.2 (fun h => h)⟩)
  have HL2 := Lib.hid (HI1.out.list.keep HC2.out (fun _ _ h => h))
  have HN := Lib.hid (show At (w1.drew.alloc (.cells #[.int .u32 (x.num : Int), .int .u8 (x.kind : Int), .slice V x.pay.length vc] 95)) (some ⟨w1.heap.size, 0, none⟩) (hl [(x, .slice V x.pay.length vc)]) from At.whole (heap_alloc_new w1.drew _))
  refine AnyL.one (i := 6) (o := { dst := some 14, op := Op.buildSlice 90 1 #[(0, Operand.tmp 13)], type := 90, pos := "ref.go:56", after := #[{ on := 5, ground := Ground.data }], guard := none }) (by kernel_rfl) rfl (by rfl) (fun K hK => ?_)
  have H8 := Lib.hid hK
  clear hK
  go_simp
  replace hK := H8.out
  refine hK _ _ (fun _ => HS1.out) ?_
  (try clear H8); (try clear hK); (try clear K)
  try simp only [Act.put, List.setIfInBounds_toArray, List.set_cons_zero, List.set_cons_succ]
  refine AnyL.one (i := 7) (o := { dst := some 15, op := Op.call { callee := Callee.builtin Builtin.append, args := #[Operand.tmp 12, Operand.tmp 14], argTypes := #[90, 90] }, type := 90, pos := "ref.go:56", after := #[{ on := 4, ground := Ground.data }, { on := 6, ground := Ground.data }], guard := none }) (by kernel_rfl) rfl (by rfl) (fun K hK => ?_)
  refine oper_append_lst (.tmp 12) (.tmp 14) rfl HL2.out rfl (x, .slice V x.pay.length vc) rfl ⟨w1.heap.size, 0, none⟩ rfl HN.out (by omega) ?_
  intro v2 w2 A2 cap2 hL2 hc2 hA2
  obtain rfl := hL2.form
  have hpp2 : ¬ (∃ a, A1 = some a ∧ pp = a.block) := fun ⟨a, ha, e⟩ => (HI1.out.lb a ha).2 e.symm
  have hbx2 : ¬ (∃ a, A1 = some a ∧ w.heap.size = a.block) := fun ⟨a, ha, e⟩ => by
    rcases HA1.out a ha with e2 | e2
    · have := HLT.out a e2
      omega
    · simp only [sz_alloc] at e2
      omega
  have HS2 := Lib.hid (show (fun w5 : World => w5.cell? ⟨pp, 2, none⟩ = some (.slice A1 M1.length cap1) ∧ w5.cell? ⟨w.heap.size, 0, none⟩ = some (.int .u32 (x.num : Int)) ∧ w5.cell? ⟨w.heap.size, 1, none⟩ = some (.int .u8 (x.kind : Int)) ∧ w5.cell? ⟨w.heap.size, 2, none⟩ = some (.slice V x.pay.length vc)) w2 from ⟨hc2.cell HS1.out.1 hpp2, hc2.cell HS1.out.2.1 hbx2, hc2.cell HS1.out.2.2.1 hbx2, hc2.cell HS1.out.2.2.2 hbx2⟩)
  have hc12 : Chg (fun g => ∃ a, A1 = some a ∧ g = a.block) w1 w2 := (HC2.out.mono (fun _ _ h => h.elim)).trans hc2 (fun _ _ h => h)
  have q1 := HS2.out.1
  have q2 : w2.frozen? ⟨pp, 2, none⟩ = false := (HI1.out.rcd.keep hc12 hpp2).frozen 2
  have hA12 : ∀ a', A2 = some a' → (∃ a, A1 = some a ∧ a.block = a'.block) ∨ w1.heap.size ≤ a'.block := fun a' ha => (hA2 a' ha).imp id (fun e => Nat.le_trans HC2.out.size e)
  have hlen2 : (M1 ++ [(x, Value.slice V x.pay.length vc)]).length = M1.length + 1 := by simp
  rw [hlen2] at hL2 ⊢
  have HU := Lib.hid (HI1.out.used x (.slice V x.pay.length vc) hx ((HV0.out.keep (G := fun _ => False) (.of_below HB0.out) (fun _ _ h => h)).keep HC1.out (fun g hg e => (H0.out.yb g hg).2.2.1 e)) (forget_ne HF1.out) hL2 hc12 hA12)
  have HL2' := Lib.hid hL2
  have HA12 := Lib.hid hA12
  clear hL2 hc2 hA2 hpp2 hbx2 hc12 hA12 hlen2
  refine hK _ _ (fun _ => HS2.out) ?_
  (try clear H8); (try clear hK); (try clear K)
  try simp only [Act.put, List.setIfInBounds_toArray, List.set_cons_zero, List.set_cons_succ]
  refine AnyL.one (i := 8) (o := { dst := some 16, op := Op.nilCheck (Operand.tmp 8), type := 0, pos := "ref.go:56", after := #[{ on := 0, ground := Ground.data }, { on := 0, ground := Ground.phase }, { on := 1, ground := Ground.phase }, { on := 2, ground := Ground.phase }, { on := 3, ground := Ground.phase }, { on := 4, ground := Ground.phase }, { on := 5, ground := Ground.phase }, { on := 6, ground := Ground.phase }, { on := 7, ground := Ground.phase }], guard := none }) (by kernel_rfl) rfl (by rfl) (fun K hK => ?_)
  have H8 := Lib.hid hK
  clear hK
  go_simp
  replace hK := H8.out
  refine hK _ _ (fun _ => HS2.out) ?_
  (try clear H8); (try clear hK); (try clear K)
  try simp only [Act.put, List.setIfInBounds_toArray, List.set_cons_zero, List.set_cons_succ]
  refine AnyL.one (i := 9) (o := { dst := some 17, op := Op.fieldAddr 92 (Operand.tmp 16) 2, type := 0, pos := "ref.go:56", after := #[{ on := 8, ground := Ground.data }, { on := 0, ground := Ground.phase }, { on := 1, ground := Ground.phase }, { on := 2, ground := Ground.phase }, { on := 3, ground := Ground.phase }, { on := 4, ground := Ground.phase }, { on := 5, ground := Ground.phase }, { on := 6, ground := Ground.phase }, { on := 7, ground := Ground.phase }], guard := none }) (by kernel_rfl) rfl (by rfl) (fun K hK => ?_)
  have H8 := Lib.hid hK
  clear hK
  go_simp
  replace hK := H8.out
  refine hK _ _ (fun _ => HS2.out) ?_
  (try clear H8); (try clear hK); (try clear K)
  try simp only [Act.put, List.setIfInBounds_toArray, List.set_cons_zero, List.set_cons_succ]
  refine AnyL.one (i := 10) (o := { dst := none, op := Op.store 90 (Operand.tmp 17) (Operand.tmp 15), type := 0, pos := "ref.go:56", after := #[{ on := 9, ground := Ground.data }, { on := 7, ground := Ground.data }, { on := 7, ground := Ground.chain }, { on := 0, ground := Ground.phase }, { on := 1, ground := Ground.phase }, { on := 2, ground := Ground.phase }, { on := 3, ground := Ground.phase }, { on := 4, ground := Ground.phase }, { on := 5, ground := Ground.phase }, { on := 6, ground := Ground.phase }, { on := 7, ground := Ground.phase }], guard := none }) (by kernel_rfl) rfl (by rfl) (fun K hK => ?_)
  have H8 := Lib.hid hK
  clear hK
  go_simp
  replace hK := H8.out
  refine hK _ _ (fun h => by simp at h) ?_
  (try clear H8); (try clear hK); (try clear K)
  try simp only [Act.put, List.setIfInBounds_toArray, List.set_cons_zero, List.set_cons_succ]
  refine AnyL.done (by kernel_rfl) ?_
  obtain ⟨w3, hw3⟩ : ∃ w3, w3 = w2.setCell ⟨pp, 2, none⟩ (.slice A2 (M1.length + 1) cap2) := ⟨_, rfl⟩
  have hu := HU.out
  rw [← hw3] at hu ⊢
  have HU3 := Lib.hid hu
  obtain ⟨c0, c1, c2⟩ := hu.1.rc
  rw [List.length_append, List.length_cons, List.length_nil, Nat.zero_add] at c2
  have hroom := HU3.out.1.list.room
  rw [List.length_append, List.length_cons, List.length_nil, Nat.zero_add] at hroom
  have HC13 := Lib.hid (show Chg (fun g => g = pp ∨ ∃ a, A = some a ∧ g = a.block) w w3 from ((Chg.of_below (F := fun g => g = pp ∨ ∃ a, A = some a ∧ g = a.block) HB0.out).trans HC1.out (fun j hj e => .inl e)).trans hu.2 (fun j hj e => e.imp id (fun ⟨a, ha, e2⟩ => (HA1.out a ha).elim (fun e3 => ⟨a, e3, e2⟩) (fun e3 => by simp only [sz_alloc] at e3; omega))))
  have HA3 := Lib.hid (show ∀ a', A2 = some a' → (∃ a, A = some a ∧ a.block = a'.block) ∨ w.heap.size ≤ a'.block from fun a' ha => by
    have hs1 : w.heap.size + 1 ≤ w1.heap.size := by have := HC1.out.size; simpa only [sz_alloc] using this
    rcases HA12.out a' ha with ⟨a, e1, e2⟩ | e1
    · rcases HA1.out a e1 with e3 | e3
      · exact .inl ⟨a, e3, e2⟩
      · simp only [sz_alloc] at e3
        exact .inr (by omega)
    · exact .inr (by omega))
  clear hu q1 q2 HU hw3 c0
  obtain ⟨N, hN⟩ : ∃ N, N = M1.length + 1 := ⟨_, rfl⟩
  rw [← hN] at c2 hroom
  by_cases hov : most < M1.length + 1
  · have hov1 : (most : Int) < (N : Int) := by omega
    obtain ⟨g2, o2, rfl⟩ : ∃ g2 o2, A2 = some ⟨g2, o2, none⟩ := by
      cases hA : A2 with
      | none => have := (HU3.out.1.list.nil hA).1; simp at this
      | some a => obtain ⟨g, o, cur, e, _⟩ := HU3.out.1.list.some_ a hA; exact ⟨g, o, by rw [e]⟩
    have hc0 : ¬ cap2 = 1 := by omega
    have h1N : (1 : Int) ≤ (N : Int) := by omega
    have HN2 := Lib.hid hN
    clear hN
    go_wp2_with fail
    go_quiet (fail)
    have hb4 := below_drewN (Below.refl w3.heap.size w3) nq
    have HI4 := Lib.hid (HU3.out.1.keep (G := fun _ => False) (.of_below hb4) (fun h => h) (fun _ _ h => h) (fun _ _ h => h))
    have HC4 := Lib.hid (show Chg (fun g => g = pp ∨ ∃ a, A = some a ∧ g = a.block) w (w3.drewN nq) from HC13.out.trans (Chg.of_below (F := fun g => g = pp ∨ ∃ a, A = some a ∧ g = a.block) hb4) (fun _ _ h => h))
    generalize w3.drewN nq = w4 at *
    have c2 : w4.cell? ⟨pp, 2, none⟩ = some (.slice (some ⟨g2, o2, none⟩) N cap2) := by
      have := HI4.out.rc.2.2
      rwa [List.length_append, List.length_cons, List.length_nil, Nat.zero_add, ← HN2.out] at this
    have q2 := HI4.out.rcd.frozen 2
    clear hb4
    go_wp2_with fail
    go_end0
    obtain ⟨k1, k2⟩ := HI4.out.drop1 (by simp)
    rw [← HN2.out] at k1 k2
    exact ⟨rfl, _, _, _, _, k1, use_fall _ HF1.out hov, HC4.out.trans k2 (fun g _ e => .inl e), fun a' ha => by cases ha; exact HA3.out ⟨g2, o2, none⟩ rfl⟩
  · have hov1 : ¬ (most : Int) < (N : Int) := by omega
    have HN2 := Lib.hid hN
    clear hN
    go_wp2_with fail
    go_quiet (fail)
    have hb4 := below_drewN (Below.refl w3.heap.size w3) nq
    have HI4 := Lib.hid (HU3.out.1.keep (G := fun _ => False) (.of_below hb4) (fun h => h) (fun _ _ h => h) (fun _ _ h => h))
    have HC4 := Lib.hid (show Chg (fun g => g = pp ∨ ∃ a, A = some a ∧ g = a.block) w (w3.drewN nq) from HC13.out.trans (Chg.of_below (F := fun g => g = pp ∨ ∃ a, A = some a ∧ g = a.block) hb4) (fun _ _ h => h))
    generalize w3.drewN nq = w4 at *
    clear hb4
    go_wp2_with fail
    go_end0
    exact ⟨rfl, _, _, _, _, HI4.out, use_stay _ HF1.out hov, HC4.out, HA3.out⟩
end Go.Proofs.YtfbjjblgcgjndaaGreat

/- Contracts of the reference disk's begins, Trip and Fail. -/
namespace Go.Proofs.YtfbjjblgcgjndaaGreat
open Go.RowKit

def PV (p : Nat) (q : RParts) (g : Nat) : Prop := g = p ∨ blk q.V g
section
variable {n0 : Nat} {w : World} {p : Nat} {D : Dsk} {q : RParts} {Y : Nat → Prop}
theorem chg_pv (w : World) (i : Nat) (x : Value) : Chg (PV p q) w (w.setCell ⟨p, i, none⟩ x) := (setCell_chg w p i x).mono (fun _ _ h => .inl h)
theorem RDiskIn.f_keep (h : RDiskIn n0 w p D q Y) (i : Nat) (x : Value) {D' : Dsk} (hf : D'.f = D.f) : (w.setCell ⟨p, i, none⟩ x).ownsRow n0 3 1 q.V 4 (fourF D') := by
  have := own_chg h.faults (setCell_chg w p i x) (fun g hg e => h.sep.2.2.1 (by rw [← show g = p from e]; exact hg))
  rw [show fourF D' = fourF D by unfold fourF; rw [hf]]
  exact this
theorem RDiskIn.inTrip (h : RDiskIn n0 w p D q Y) (x : Int) : RDiskIn n0 (w.setCell ⟨p, 3, none⟩ (.int .i64 x)) p { D with trip := x } q Y :=
  h.turned ((h.rcd.set 3 _).congr (all8 rfl rfl rfl rfl rfl rfl rfl rfl)) (h.f_keep 3 _ rfl) (chg_pv w 3 _) rfl rfl
theorem RDiskIn.inDark (h : RDiskIn n0 w p D q Y) (x : Bool) : RDiskIn n0 (w.setCell ⟨p, 2, none⟩ (.bool x)) p { D with dark := x } q Y :=
  h.turned ((h.rcd.set 2 _).congr (all8 rfl rfl rfl rfl rfl rfl rfl rfl)) (h.f_keep 2 _ rfl) (chg_pv w 2 _) rfl rfl
theorem RDiskIn.inN1 (h : RDiskIn n0 w p D q Y) (x : Int) : RDiskIn n0 (w.setCell ⟨p, 5, none⟩ (.int .i64 x)) p { D with n := turn D.n 1 x } q Y :=
  h.turned ((h.rcd.set 5 _).congr (all8 rfl rfl rfl rfl rfl rfl rfl rfl)) (h.f_keep 5 _ rfl) (chg_pv w 5 _) rfl rfl
theorem RDiskIn.inN2 (h : RDiskIn n0 w p D q Y) (x : Int) : RDiskIn n0 (w.setCell ⟨p, 6, none⟩ (.int .i64 x)) p { D with n := turn D.n 2 x } q Y :=
  h.turned ((h.rcd.set 6 _).congr (all8 rfl rfl rfl rfl rfl rfl rfl rfl)) (h.f_keep 6 _ rfl) (chg_pv w 6 _) rfl rfl
theorem RDiskIn.inN3 (h : RDiskIn n0 w p D q Y) (x : Int) : RDiskIn n0 (w.setCell ⟨p, 7, none⟩ (.int .i64 x)) p { D with n := turn D.n 3 x } q Y :=
  h.turned ((h.rcd.set 7 _).congr (all8 rfl rfl rfl rfl rfl rfl rfl rfl)) (h.f_keep 7 _ rfl) (chg_pv w 7 _) rfl rfl
theorem RDiskIn.inF (h : RDiskIn n0 w p D q Y) {g cap : Nat} (hV : q.V = .slice (some ⟨g, 0, none⟩) 4 cap) (k : Nat) (hk : k < 4) (x : Int) : RDiskIn n0 (w.setCell ⟨g, k, none⟩ (.int .i64 x)) p { D with f := turn D.f k x } q Y ∧ Chg (PV p q) w (w.setCell ⟨g, k, none⟩ (.int .i64 x)) := by
  have hgp : g ≠ p := fun e => h.sep.2.2.1 (by rw [hV, e]; rfl)
  have hch : Chg (PV p q) w (w.setCell ⟨g, k, none⟩ (.int .i64 x)) := (setCell_chg w g k _).mono (fun j _ e => .inr (by rw [show j = g from e, hV]; rfl))
  refine ⟨h.turned (h.rcd.keep (setCell_chg w g k _) (fun e => hgp (show p = g from e).symm)) ?_ hch rfl rfl, hch⟩
  have h1 := h.faults
  rw [hV] at h1 ⊢
  have h2 := (h1.stored k (.int .i64 x)).1
  have : (fourF D).set k (.int .i64 x) = fourF { D with f := turn D.f k x } := by
    match k, hk with
    | 0, _ => rfl
    | 1, _ => rfl
    | 2, _ => rfl
    | 3, _ => rfl
  rw [this] at h2
  exact h2
theorem RDiskIn.fcell (h : RDiskIn n0 w p D q Y) : ∃ g cap, q.V = .slice (some ⟨g, 0, none⟩) 4 cap ∧ g ≠ p ∧ (∀ k, k < 4 → w.cell? ⟨g, k, none⟩ = (fourF D)[k]?) ∧ ∀ k, w.frozen? ⟨g, k, none⟩ = false := by
  obtain ⟨g, cap, hV, _, _, _, _⟩ := own_form h.faults (by omega)
  have h1 := h.faults
  have hgp : g ≠ p := fun e => h.sep.2.2.1 (by rw [hV, e]; rfl)
  rw [hV] at h1
  refine ⟨g, cap, hV, hgp, fun k hk => ?_, fun k => ?_⟩
  · rw [h1.cellAt k (by omega)]
  · rcases h1.2 with ⟨e, _⟩ | ⟨g', cap', cur, e, _, hh, _⟩
    · cases e
    · cases e
      exact frozen_of_row w g k cur 3 hh
theorem RDiskIn.done {S : Nat → Prop} {w' : World} {D' : Dsk} (h : RD n0 w p D S) (hS : ∀ g, Y g ∨ q.box p g → S g) (ok : D'.Ok) (h' : RDiskIn n0 w' p D' q Y) (hc : Chg (PV p q) w w') : RD n0 w' p D' S ∧ Chg S w w' :=
  ⟨⟨ok, ⟨q, Y, h', hS⟩, fun g hg => ⟨(h.2.2 g hg).1, Nat.lt_of_lt_of_le (h.2.2 g hg).2 hc.size⟩⟩, hc.mono (fun g _ e => hS g (.inr (e.elim .inl (fun e => .inr (.inr (.inr e))))))⟩
end
theorem turn_self {α : Type} (f : Nat → α) (i : Nat) : turn f i (f i) = f := by
  funext j; unfold turn; split
  · rename_i e; rw [e]
  · rfl
/-- what a call on the reference's disk leaves -/
def RGives (n0 : Nat) (w : World) (p : Nat) (S : Nat → Prop) (x : Nat) (D' : Dsk) (e : Ending) (w' : World) : Prop := e = .returned (.int .u16 (x : Nat)) ∧ RD n0 w' p D' S ∧ Chg S w w'
set_option maxRecDepth 100000 in
set_option maxHeartbeats 4000000 in
theorem rfail_any {n0 : Nat} {w : World} {p : Nat} {D : Dsk} {S : Nat → Prop} (h : RD n0 w p D S) (k n : Int) (hn : n ≤ 9223372036854775807) : Calls Tryz.prog 26 #[.pointer (some ⟨p, 0, none⟩), .int .i64 k, .int .i64 n] w (RGives n0 w p S (D.setFail k n).1 (D.setFail k n).2) := by
  have HH := Lib.hid h
  obtain ⟨ok, ⟨q, Y, hin, hS⟩, _⟩ := h
  have c2 : w.cell? ⟨p, 2, none⟩ = some (.bool D.dark) := hin.rcd.cell 2 (by omega)
  have c4 : w.cell? ⟨p, 4, none⟩ = some q.V := hin.rcd.cell 4 (by omega)
  obtain ⟨g, cap, hV, hgp, hfc, hff⟩ := hin.fcell
  rw [hV] at c4
  have g1 : w.cell? ⟨g, 1, none⟩ = some (.int .i64 (D.f 1)) := hfc 1 (by omega)
  have g2 : w.cell? ⟨g, 2, none⟩ = some (.int .i64 (D.f 2)) := hfc 2 (by omega)
  have g3 : w.cell? ⟨g, 3, none⟩ = some (.int .i64 (D.f 3)) := hfc 3 (by omega)
  have f1 := hff 1
  have f2 := hff 2
  have f3 := hff 3
  have HIN := Lib.hid hin
  have HS := Lib.hid hS
  have OK := Lib.hid ok
  have HV := Lib.hid hV
  unfold Dsk.setFail RGives
  clear hin hS ok hV hfc hff
  by_cases h1 : (k < 1 ∨ 3 < k) ∨ n < 0
  · rw [if_pos h1]
    rcases (show k < 1 ∨ (¬ k < 1 ∧ 3 < k) ∨ (¬ k < 1 ∧ ¬ 3 < k ∧ n < 0) by omega) with a | ⟨a, b⟩ | ⟨a, b, c⟩
    all_goals
      clear h1
      go_enter Tryz.func26, Tryz.ntmps26
      go_wp2
      go_ret
      exact ⟨rfl, HH.out, Chg.refl _ _⟩
  · rw [if_neg h1]
    have hk : k = 1 ∨ k = 2 ∨ k = 3 := by omega
    have hnn : ¬ n < 0 := by omega
    clear h1
    by_cases h2 : D.dark = true
    · rw [if_pos h2]
      rw [h2] at c2
      clear h2
      rcases hk with rfl | rfl | rfl
      all_goals
        go_enter Tryz.func26, Tryz.ntmps26
        go_wp2
        go_ret
        exact ⟨rfl, HH.out, Chg.refl _ _⟩
    · rw [if_neg h2]
      rw [show D.dark = false by simpa using h2] at c2
      clear h2
      rcases hk with rfl | rfl | rfl
      all_goals
        go_enter Tryz.func26, Tryz.ntmps26
        go_wp2
        go_ret
      · exact ⟨rfl, RDiskIn.done (D' := { D with f := turn D.f 1 n }) HH.out HS.out ⟨OK.out.last, OK.out.cache, OK.out.pages, OK.out.trip, D.turn_f OK.out 1 n (by omega) hn, OK.out.n⟩ (HIN.out.inF HV.out 1 (by omega) n).1 (HIN.out.inF HV.out 1 (by omega) n).2⟩
      · exact ⟨rfl, RDiskIn.done (D' := { D with f := turn D.f 2 n }) HH.out HS.out ⟨OK.out.last, OK.out.cache, OK.out.pages, OK.out.trip, D.turn_f OK.out 2 n (by omega) hn, OK.out.n⟩ (HIN.out.inF HV.out 2 (by omega) n).1 (HIN.out.inF HV.out 2 (by omega) n).2⟩
      · exact ⟨rfl, RDiskIn.done (D' := { D with f := turn D.f 3 n }) HH.out HS.out ⟨OK.out.last, OK.out.cache, OK.out.pages, OK.out.trip, D.turn_f OK.out 3 n (by omega) hn, OK.out.n⟩ (HIN.out.inF HV.out 3 (by omega) n).1 (HIN.out.inF HV.out 3 (by omega) n).2⟩
end Go.Proofs.YtfbjjblgcgjndaaGreat

/- Contract of the reference disk's begins. -/
namespace Go.Proofs.YtfbjjblgcgjndaaGreat
open Go.RowKit

set_option maxRecDepth 100000 in
set_option maxHeartbeats 8000000 in
theorem rbegin1 {n0 : Nat} {w : World} {p : Nat} {D : Dsk} {S : Nat → Prop} (h : RD n0 w p D S) (hn : D.n 1 ≤ 4611686018427387904) : Calls Tryz.prog 41 #[.pointer (some ⟨p, 0, none⟩), .int .i64 1] w (RGives n0 w p S (D.begin 1).1 (D.begin 1).2) := by
  have HH := Lib.hid h
  have OKB := Lib.hid (D.begin_ok h.1 1)
  obtain ⟨ok, ⟨q, Y, hin, hS⟩, _⟩ := h
  have c2 : w.cell? ⟨p, 2, none⟩ = some (.bool D.dark) := hin.rcd.cell 2 (by omega)
  have c3 : w.cell? ⟨p, 3, none⟩ = some (.int .i64 D.trip) := hin.rcd.cell 3 (by omega)
  have c4 : w.cell? ⟨p, 4, none⟩ = some q.V := hin.rcd.cell 4 (by omega)
  have cn : w.cell? ⟨p, 5, none⟩ = some (.int .i64 (D.n 1)) := hin.rcd.cell 5 (by omega)
  have e2 := hin.rcd.frozen 2
  have e3 := hin.rcd.frozen 3
  have en := hin.rcd.frozen 5
  obtain ⟨g, cap, hV, hgp, hfc, hff⟩ := hin.fcell
  rw [hV] at c4
  have g1 : w.cell? ⟨g, 1, none⟩ = some (.int .i64 (D.f 1)) := hfc 1 (by omega)
  have f1 := hff 1
  have hgp' : p ≠ g := Ne.symm hgp
  obtain ⟨t1, t2⟩ := ok.trip
  obtain ⟨u1, u2⟩ := ok.f 1
  have n1 := ok.n 1
  have HIN := Lib.hid hin
  have HS := Lib.hid hS
  have HV := Lib.hid hV
  unfold RGives
  unfold Dsk.begin at OKB ⊢
  clear hin hS hV hfc hff ok
  by_cases h1 : D.dark = true
  · rw [if_pos h1]
    rw [h1] at c2
    clear h1
    go_enter Tryz.func41, Tryz.ntmps41
    go_wp2
    go_ret
    exact ⟨rfl, HH.out, Chg.refl _ _⟩
  · rw [if_neg h1] at OKB ⊢
    rw [show D.dark = false by simpa using h1] at c2
    clear h1
    by_cases h2 : D.trip = 0
    · rw [if_pos h2] at OKB ⊢
      rw [h2] at c3
      clear h2
      go_enter Tryz.func41, Tryz.ntmps41
      go_wp2
      go_ret
      exact ⟨rfl, RDiskIn.done (D' := D.off) HH.out HS.out OKB.out ((HIN.out.inDark true).inTrip (-1)) ((chg_pv w 2 _).trans (chg_pv _ 3 _) (fun _ _ h => h))⟩
    · rw [if_neg h2] at OKB ⊢
      have i2 : ¬ D.trip = 0 := h2
      clear h2
      by_cases h3 : D.f 1 = 0
      · rw [if_pos h3] at OKB ⊢
        rw [h3] at g1
        clear h3
        rcases (show 0 < D.trip ∨ D.trip < 0 by omega) with h4 | h4
        · have hD : D.fall 1 = { D with trip := D.trip - 1, n := turn D.n 1 (D.n 1 + 1), f := turn D.f 1 (-1) } := by unfold Dsk.fall; rw [dec1_pos h4]
          have HD := Lib.hid hD
          clear hD
          go_enter Tryz.func41, Tryz.ntmps41
          go_wp2
          go_ret
          refine ⟨rfl, RDiskIn.done HH.out HS.out OKB.out (q := q) (Y := Y) ?_ ?_⟩
          · rw [HD.out]; exact (((HIN.out.inTrip _).inN1 _).inF HV.out 1 (by omega) _).1
          · exact ((chg_pv w 3 _).trans (chg_pv _ 5 _) (fun _ _ h => h)).trans (((HIN.out.inTrip _).inN1 _).inF HV.out 1 (by omega) _).2 (fun _ _ h => h)
        · have hD : D.fall 1 = { D with n := turn D.n 1 (D.n 1 + 1), f := turn D.f 1 (-1) } := by unfold Dsk.fall; rw [dec1_neg (by omega)]
          have HD := Lib.hid hD
          clear hD
          go_enter Tryz.func41, Tryz.ntmps41
          go_wp2
          go_ret
          refine ⟨rfl, RDiskIn.done HH.out HS.out OKB.out (q := q) (Y := Y) ?_ ?_⟩
          · rw [HD.out]; exact ((HIN.out.inN1 _).inF HV.out 1 (by omega) _).1
          · exact (chg_pv w 5 _).trans ((HIN.out.inN1 _).inF HV.out 1 (by omega) _).2 (fun _ _ h => h)
      · rw [if_neg h3] at OKB ⊢
        have i3 : ¬ D.f 1 = 0 := h3
        clear h3
        rcases (show 0 < D.trip ∨ D.trip < 0 by omega) with h4 | h4
        all_goals rcases (show 0 < D.f 1 ∨ D.f 1 < 0 by omega) with h5 | h5
        · have hD : D.go 1 = { D with trip := D.trip - 1, n := turn D.n 1 (D.n 1 + 1), f := turn D.f 1 (D.f 1 - 1) } := by unfold Dsk.go; rw [dec1_pos h4, dec1_pos h5]
          have HD := Lib.hid hD
          clear hD
          go_enter Tryz.func41, Tryz.ntmps41
          go_wp2
          go_ret
          refine ⟨rfl, RDiskIn.done HH.out HS.out OKB.out (q := q) (Y := Y) ?_ ?_⟩
          · rw [HD.out]; exact (((HIN.out.inTrip _).inN1 _).inF HV.out 1 (by omega) _).1
          · exact ((chg_pv w 3 _).trans (chg_pv _ 5 _) (fun _ _ h => h)).trans (((HIN.out.inTrip _).inN1 _).inF HV.out 1 (by omega) _).2 (fun _ _ h => h)
        · have hD : D.go 1 = { D with trip := D.trip - 1, n := turn D.n 1 (D.n 1 + 1) } := by unfold Dsk.go; rw [dec1_pos h4, dec1_neg (show ¬ 0 < D.f 1 by omega), turn_self]
          have HD := Lib.hid hD
          clear hD
          go_enter Tryz.func41, Tryz.ntmps41
          go_wp2
          go_ret
          refine ⟨rfl, RDiskIn.done HH.out HS.out OKB.out (q := q) (Y := Y) ?_ ?_⟩
          · rw [HD.out]; exact (HIN.out.inTrip _).inN1 _
          · exact (chg_pv w 3 _).trans (chg_pv _ 5 _) (fun _ _ h => h)
        · have hD : D.go 1 = { D with n := turn D.n 1 (D.n 1 + 1), f := turn D.f 1 (D.f 1 - 1) } := by unfold Dsk.go; rw [dec1_neg (show ¬ 0 < D.trip by omega), dec1_pos h5]
          have HD := Lib.hid hD
          clear hD
          go_enter Tryz.func41, Tryz.ntmps41
          go_wp2
          go_ret
          refine ⟨rfl, RDiskIn.done HH.out HS.out OKB.out (q := q) (Y := Y) ?_ ?_⟩
          · rw [HD.out]; exact ((HIN.out.inN1 _).inF HV.out 1 (by omega) _).1
          · exact (chg_pv w 5 _).trans ((HIN.out.inN1 _).inF HV.out 1 (by omega) _).2 (fun _ _ h => h)
        · have hD : D.go 1 = { D with n := turn D.n 1 (D.n 1 + 1) } := by unfold Dsk.go; rw [dec1_neg (show ¬ 0 < D.trip by omega), dec1_neg (show ¬ 0 < D.f 1 by omega), turn_self]
          have HD := Lib.hid hD
          clear hD
          go_enter Tryz.func41, Tryz.ntmps41
          go_wp2
          go_ret
          refine ⟨rfl, RDiskIn.done HH.out HS.out OKB.out (q := q) (Y := Y) ?_ ?_⟩
          · rw [HD.out]; exact HIN.out.inN1 _
          · exact chg_pv w 5 _
set_option maxRecDepth 100000 in
set_option maxHeartbeats 8000000 in
theorem rbegin2 {n0 : Nat} {w : World} {p : Nat} {D : Dsk} {S : Nat → Prop} (h : RD n0 w p D S) (hn : D.n 2 ≤ 4611686018427387904) : Calls Tryz.prog 41 #[.pointer (some ⟨p, 0, none⟩), .int .i64 2] w (RGives n0 w p S (D.begin 2).1 (D.begin 2).2) := by
  have HH := Lib.hid h
  have OKB := Lib.hid (D.begin_ok h.1 2)
  obtain ⟨ok, ⟨q, Y, hin, hS⟩, _⟩ := h
  have c2 : w.cell? ⟨p, 2, none⟩ = some (.bool D.dark) := hin.rcd.cell 2 (by omega)
  have c3 : w.cell? ⟨p, 3, none⟩ = some (.int .i64 D.trip) := hin.rcd.cell 3 (by omega)
  have c4 : w.cell? ⟨p, 4, none⟩ = some q.V := hin.rcd.cell 4 (by omega)
  have cn : w.cell? ⟨p, 6, none⟩ = some (.int .i64 (D.n 2)) := hin.rcd.cell 6 (by omega)
  have e2 := hin.rcd.frozen 2
  have e3 := hin.rcd.frozen 3
  have en := hin.rcd.frozen 6
  obtain ⟨g, cap, hV, hgp, hfc, hff⟩ := hin.fcell
  rw [hV] at c4
  have g1 : w.cell? ⟨g, 2, none⟩ = some (.int .i64 (D.f 2)) := hfc 2 (by omega)
  have f1 := hff 2
  have hgp' : p ≠ g := Ne.symm hgp
  obtain ⟨t1, t2⟩ := ok.trip
  obtain ⟨u1, u2⟩ := ok.f 2
  have n1 := ok.n 2
  have HIN := Lib.hid hin
  have HS := Lib.hid hS
  have HV := Lib.hid hV
  unfold RGives
  unfold Dsk.begin at OKB ⊢
  clear hin hS hV hfc hff ok
  by_cases h1 : D.dark = true
  · rw [if_pos h1]
    rw [h1] at c2
    clear h1
    go_enter Tryz.func41, Tryz.ntmps41
    go_wp2
    go_ret
    exact ⟨rfl, HH.out, Chg.refl _ _⟩
  · rw [if_neg h1] at OKB ⊢
    rw [show D.dark = false by simpa using h1] at c2
    clear h1
    by_cases h2 : D.trip = 0
    · rw [if_pos h2] at OKB ⊢
      rw [h2] at c3
      clear h2
      go_enter Tryz.func41, Tryz.ntmps41
      go_wp2
      go_ret
      exact ⟨rfl, RDiskIn.done (D' := D.off) HH.out HS.out OKB.out ((HIN.out.inDark true).inTrip (-1)) ((chg_pv w 2 _).trans (chg_pv _ 3 _) (fun _ _ h => h))⟩
    · rw [if_neg h2] at OKB ⊢
      have i2 : ¬ D.trip = 0 := h2
      clear h2
      by_cases h3 : D.f 2 = 0
      · rw [if_pos h3] at OKB ⊢
        rw [h3] at g1
        clear h3
        rcases (show 0 < D.trip ∨ D.trip < 0 by omega) with h4 | h4
        · have hD : D.fall 2 = { D with trip := D.trip - 1, n := turn D.n 2 (D.n 2 + 1), f := turn D.f 2 (-1) } := by unfold Dsk.fall; rw [dec1_pos h4]
          have HD := Lib.hid hD
          clear hD
          go_enter Tryz.func41, Tryz.ntmps41
          go_wp2
          go_ret
          refine ⟨rfl, RDiskIn.done HH.out HS.out OKB.out (q := q) (Y := Y) ?_ ?_⟩
          · rw [HD.out]; exact (((HIN.out.inTrip _).inN2 _).inF HV.out 2 (by omega) _).1
          · exact ((chg_pv w 3 _).trans (chg_pv _ 6 _) (fun _ _ h => h)).trans (((HIN.out.inTrip _).inN2 _).inF HV.out 2 (by omega) _).2 (fun _ _ h => h)
        · have hD : D.fall 2 = { D with n := turn D.n 2 (D.n 2 + 1), f := turn D.f 2 (-1) } := by unfold Dsk.fall; rw [dec1_neg (by omega)]
          have HD := Lib.hid hD
          clear hD
          go_enter Tryz.func41, Tryz.ntmps41
          go_wp2
          go_ret
          refine ⟨rfl, RDiskIn.done HH.out HS.out OKB.out (q := q) (Y := Y) ?_ ?_⟩
          · rw [HD.out]; exact ((HIN.out.inN2 _).inF HV.out 2 (by omega) _).1
          · exact (chg_pv w 6 _).trans ((HIN.out.inN2 _).inF HV.out 2 (by omega) _).2 (fun _ _ h => h)
      · rw [if_neg h3] at OKB ⊢
        have i3 : ¬ D.f 2 = 0 := h3
        clear h3
        rcases (show 0 < D.trip ∨ D.trip < 0 by omega) with h4 | h4
        all_goals rcases (show 0 < D.f 2 ∨ D.f 2 < 0 by omega) with h5 | h5
        · have hD : D.go 2 = { D with trip := D.trip - 1, n := turn D.n 2 (D.n 2 + 1), f := turn D.f 2 (D.f 2 - 1) } := by unfold Dsk.go; rw [dec1_pos h4, dec1_pos h5]
          have HD := Lib.hid hD
          clear hD
          go_enter Tryz.func41, Tryz.ntmps41
          go_wp2
          go_ret
          refine ⟨rfl, RDiskIn.done HH.out HS.out OKB.out (q := q) (Y := Y) ?_ ?_⟩
          · rw [HD.out]; exact (((HIN.out.inTrip _).inN2 _).inF HV.out 2 (by omega) _).1
          · exact ((chg_pv w 3 _).trans (chg_pv _ 6 _) (fun _ _ h => h)).trans (((HIN.out.inTrip _).inN2 _).inF HV.out 2 (by omega) _).2 (fun _ _ h => h)
        · have hD : D.go 2 = { D with trip := D.trip - 1, n := turn D.n 2 (D.n 2 + 1) } := by unfold Dsk.go; rw [dec1_pos h4, dec1_neg (show ¬ 0 < D.f 2 by omega), turn_self]
          have HD := Lib.hid hD
          clear hD
          go_enter Tryz.func41, Tryz.ntmps41
          go_wp2
          go_ret
          refine ⟨rfl, RDiskIn.done HH.out HS.out OKB.out (q := q) (Y := Y) ?_ ?_⟩
          · rw [HD.out]; exact (HIN.out.inTrip _).inN2 _
          · exact (chg_pv w 3 _).trans (chg_pv _ 6 _) (fun _ _ h => h)
        · have hD : D.go 2 = { D with n := turn D.n 2 (D.n 2 + 1), f := turn D.f 2 (D.f 2 - 1) } := by unfold Dsk.go; rw [dec1_neg (show ¬ 0 < D.trip by omega), dec1_pos h5]
          have HD := Lib.hid hD
          clear hD
          go_enter Tryz.func41, Tryz.ntmps41
          go_wp2
          go_ret
          refine ⟨rfl, RDiskIn.done HH.out HS.out OKB.out (q := q) (Y := Y) ?_ ?_⟩
          · rw [HD.out]; exact ((HIN.out.inN2 _).inF HV.out 2 (by omega) _).1
          · exact (chg_pv w 6 _).trans ((HIN.out.inN2 _).inF HV.out 2 (by omega) _).2 (fun _ _ h => h)
        · have hD : D.go 2 = { D with n := turn D.n 2 (D.n 2 + 1) } := by unfold Dsk.go; rw [dec1_neg (show ¬ 0 < D.trip by omega), dec1_neg (show ¬ 0 < D.f 2 by omega), turn_self]
          have HD := Lib.hid hD
          clear hD
          go_enter Tryz.func41, Tryz.ntmps41
          go_wp2
          go_ret
          refine ⟨rfl, RDiskIn.done HH.out HS.out OKB.out (q := q) (Y := Y) ?_ ?_⟩
          · rw [HD.out]; exact HIN.out.inN2 _
          · exact chg_pv w 6 _
set_option maxRecDepth 100000 in
set_option maxHeartbeats 8000000 in
theorem rbegin3 {n0 : Nat} {w : World} {p : Nat} {D : Dsk} {S : Nat → Prop} (h : RD n0 w p D S) (hn : D.n 3 ≤ 4611686018427387904) : Calls Tryz.prog 41 #[.pointer (some ⟨p, 0, none⟩), .int .i64 3] w (RGives n0 w p S (D.begin 3).1 (D.begin 3).2) := by
  have HH := Lib.hid h
  have OKB := Lib.hid (D.begin_ok h.1 3)
  obtain ⟨ok, ⟨q, Y, hin, hS⟩, _⟩ := h
  have c2 : w.cell? ⟨p, 2, none⟩ = some (.bool D.dark) := hin.rcd.cell 2 (by omega)
  have c3 : w.cell? ⟨p, 3, none⟩ = some (.int .i64 D.trip) := hin.rcd.cell 3 (by omega)
  have c4 : w.cell? ⟨p, 4, none⟩ = some q.V := hin.rcd.cell 4 (by omega)
  have cn : w.cell? ⟨p, 7, none⟩ = some (.int .i64 (D.n 3)) := hin.rcd.cell 7 (by omega)
  have e2 := hin.rcd.frozen 2
  have e3 := hin.rcd.frozen 3
  have en := hin.rcd.frozen 7
  obtain ⟨g, cap, hV, hgp, hfc, hff⟩ := hin.fcell
  rw [hV] at c4
  have g1 : w.cell? ⟨g, 3, none⟩ = some (.int .i64 (D.f 3)) := hfc 3 (by omega)
  have f1 := hff 3
  have hgp' : p ≠ g := Ne.symm hgp
  obtain ⟨t1, t2⟩ := ok.trip
  obtain ⟨u1, u2⟩ := ok.f 3
  have n1 := ok.n 3
  have HIN := Lib.hid hin
  have HS := Lib.hid hS
  have HV := Lib.hid hV
  unfold RGives
  unfold Dsk.begin at OKB ⊢
  clear hin hS hV hfc hff ok
  by_cases h1 : D.dark = true
  · rw [if_pos h1]
    rw [h1] at c2
    clear h1
    go_enter Tryz.func41, Tryz.ntmps41
    go_wp2
    go_ret
    exact ⟨rfl, HH.out, Chg.refl _ _⟩
  · rw [if_neg h1] at OKB ⊢
    rw [show D.dark = false by simpa using h1] at c2
    clear h1
    by_cases h2 : D.trip = 0
    · rw [if_pos h2] at OKB ⊢
      rw [h2] at c3
      clear h2
      go_enter Tryz.func41, Tryz.ntmps41
      go_wp2
      go_ret
      exact ⟨rfl, RDiskIn.done (D' := D.off) HH.out HS.out OKB.out ((HIN.out.inDark true).inTrip (-1)) ((chg_pv w 2 _).trans (chg_pv _ 3 _) (fun _ _ h => h))⟩
    · rw [if_neg h2] at OKB ⊢
      have i2 : ¬ D.trip = 0 := h2
      clear h2
      by_cases h3 : D.f 3 = 0
      · rw [if_pos h3] at OKB ⊢
        rw [h3] at g1
        clear h3
        rcases (show 0 < D.trip ∨ D.trip < 0 by omega) with h4 | h4
        · have hD : D.fall 3 = { D with trip := D.trip - 1, n := turn D.n 3 (D.n 3 + 1), f := turn D.f 3 (-1) } := by unfold Dsk.fall; rw [dec1_pos h4]
          have HD := Lib.hid hD
          clear hD
          go_enter Tryz.func41, Tryz.ntmps41
          go_wp2
          go_ret
          refine ⟨rfl, RDiskIn.done HH.out HS.out OKB.out (q := q) (Y := Y) ?_ ?_⟩
          · rw [HD.out]; exact (((HIN.out.inTrip _).inN3 _).inF HV.out 3 (by omega) _).1
          · exact ((chg_pv w 3 _).trans (chg_pv _ 7 _) (fun _ _ h => h)).trans (((HIN.out.inTrip _).inN3 _).inF HV.out 3 (by omega) _).2 (fun _ _ h => h)
        · have hD : D.fall 3 = { D with n := turn D.n 3 (D.n 3 + 1), f := turn D.f 3 (-1) } := by unfold Dsk.fall; rw [dec1_neg (by omega)]
          have HD := Lib.hid hD
          clear hD
          go_enter Tryz.func41, Tryz.ntmps41
          go_wp2
          go_ret
          refine ⟨rfl, RDiskIn.done HH.out HS.out OKB.out (q := q) (Y := Y) ?_ ?_⟩
          · rw [HD.out]; exact ((HIN.out.inN3 _).inF HV.out 3 (by omega) _).1
          · exact (chg_pv w 7 _).trans ((HIN.out.inN3 _).inF HV.out 3 (by omega) _).2 (fun _ _ h => h)
      · rw [if_neg h3] at OKB ⊢
        have i3 : ¬ D.f 3 = 0 := h3
        clear h3
        rcases (show 0 < D.trip ∨ D.trip < 0 by omega) with h4 | h4
        all_goals rcases (show 0 < D.f 3 ∨ D.f 3 < 0 by omega) with h5 | h5
        · have hD : D.go 3 = { D with trip := D.trip - 1, n := turn D.n 3 (D.n 3 + 1), f := turn D.f 3 (D.f 3 - 1) } := by unfold Dsk.go; rw [dec1_pos h4, dec1_pos h5]
          have HD := Lib.hid hD
          clear hD
          go_enter Tryz.func41, Tryz.ntmps41
          go_wp2
          go_ret
          refine ⟨rfl, RDiskIn.done HH.out HS.out OKB.out (q := q) (Y := Y) ?_ ?_⟩
          · rw [HD.out]; exact (((HIN.out.inTrip _).inN3 _).inF HV.out 3 (by omega) _).1
          · exact ((chg_pv w 3 _).trans (chg_pv _ 7 _) (fun _ _ h => h)).trans (((HIN.out.inTrip _).inN3 _).inF HV.out 3 (by omega) _).2 (fun _ _ h => h)
        · have hD : D.go 3 = { D with trip := D.trip - 1, n := turn D.n 3 (D.n 3 + 1) } := by unfold Dsk.go; rw [dec1_pos h4, dec1_neg (show ¬ 0 < D.f 3 by omega), turn_self]
          have HD := Lib.hid hD
          clear hD
          go_enter Tryz.func41, Tryz.ntmps41
          go_wp2
          go_ret
          refine ⟨rfl, RDiskIn.done HH.out HS.out OKB.out (q := q) (Y := Y) ?_ ?_⟩
          · rw [HD.out]; exact (HIN.out.inTrip _).inN3 _
          · exact (chg_pv w 3 _).trans (chg_pv _ 7 _) (fun _ _ h => h)
        · have hD : D.go 3 = { D with n := turn D.n 3 (D.n 3 + 1), f := turn D.f 3 (D.f 3 - 1) } := by unfold Dsk.go; rw [dec1_neg (show ¬ 0 < D.trip by omega), dec1_pos h5]
          have HD := Lib.hid hD
          clear hD
          go_enter Tryz.func41, Tryz.ntmps41
          go_wp2
          go_ret
          refine ⟨rfl, RDiskIn.done HH.out HS.out OKB.out (q := q) (Y := Y) ?_ ?_⟩
          · rw [HD.out]; exact ((HIN.out.inN3 _).inF HV.out 3 (by omega) _).1
          · exact (chg_pv w 7 _).trans ((HIN.out.inN3 _).inF HV.out 3 (by omega) _).2 (fun _ _ h => h)
        · have hD : D.go 3 = { D with n := turn D.n 3 (D.n 3 + 1) } := by unfold Dsk.go; rw [dec1_neg (show ¬ 0 < D.trip by omega), dec1_neg (show ¬ 0 < D.f 3 by omega), turn_self]
          have HD := Lib.hid hD
          clear hD
          go_enter Tryz.func41, Tryz.ntmps41
          go_wp2
          go_ret
          refine ⟨rfl, RDiskIn.done HH.out HS.out OKB.out (q := q) (Y := Y) ?_ ?_⟩
          · rw [HD.out]; exact HIN.out.inN3 _
          · exact chg_pv w 7 _
end Go.Proofs.YtfbjjblgcgjndaaGreat

/- Contracts of the reference disk's sector, Pending and Image. -/
namespace Go.Proofs.YtfbjjblgcgjndaaGreat
open Go.RowKit

/-- a sector as the first i writes give it -/
def secUp (D : Dsk) (i a : Nat) : List Nat := match lastWrite (D.cache.take i) a with
  | some s => s
  | none => D.last.getD a []
theorem secUp_zero (D : Dsk) (a : Nat) : secUp D 0 a = D.last.getD a [] := rfl
theorem secUp_all (D : Dsk) (a : Nat) : secUp D D.cache.length a = D.sec a := by unfold secUp Dsk.sec; rw [List.take_length]; rfl
theorem secUp_succ (D : Dsk) (i a : Nat) (h : i < D.cache.length) : secUp D (i + 1) a = if (D.cache.getD i (0, [])).1 = a then (D.cache.getD i (0, [])).2 else secUp D i a := by
  have hx : D.cache[i]? = some D.cache[i] := List.getElem?_eq_getElem h
  have hg : D.cache.getD i (0, []) = D.cache[i] := by rw [List.getD_eq_getElem?_getD, hx]; rfl
  rw [hg]
  unfold secUp
  rw [take_snoc _ i _ hx, show D.cache[i] = (D.cache[i].1, D.cache[i].2) from rfl, lastWrite_append]
  by_cases e : D.cache[i].1 = a
  · rw [if_pos e, if_pos e]
  · rw [if_neg e, if_neg e]
theorem ccells_get (c : List (Nat × List Nat)) (G : Nat → Value) (i : Nat) (h : i < c.length) : (ccells c G)[i * 2]? = some (.int .i64 (((c.getD i (0, [])).1 : Nat) : Int)) ∧ (ccells c G)[i * 2 + 1]? = some (G i) := by
  have key : ∀ (n : Nat) (f : Nat → List Value), (∀ i, (f i).length = 2) → ∀ i, i < n → ∀ j, j < 2 → ((List.range n).flatMap f)[i * 2 + j]? = (f i)[j]? := by
    intro n f hf
    induction n with
    | zero => intro i hi; omega
    | succ n ih =>
      intro i hi j hj
      have hl : ∀ m, ((List.range m).flatMap f).length = m * 2 := by
        intro m
        induction m with
        | zero => rfl
        | succ m ihm => rw [List.range_succ, List.flatMap_append, List.length_append, ihm]; simp [hf]; omega
      rw [List.range_succ, List.flatMap_append]
      by_cases hin : i < n
      · rw [List.getElem?_append_left (by rw [hl]; omega)]; exact ih i hin j hj
      · obtain rfl : i = n := by omega
        rw [List.getElem?_append_right (by rw [hl]; omega), hl]
        simp
  exact ⟨key c.length _ (fun _ => rfl) i h 0 (by omega), key c.length _ (fun _ => rfl) i h 1 (by omega)⟩
theorem RDiskIn.lcell {n0 : Nat} {w : World} {p : Nat} {D : Dsk} {q : RParts} {Y : Nat → Prop} (h : RDiskIn n0 w p D q Y) (hl : 0 < D.last.length) : ∃ g cap, q.L = .slice (some ⟨g, 0, none⟩) D.last.length cap ∧ (∀ i, i < D.last.length → w.cell? ⟨g, i, none⟩ = some (q.F i)) ∧ ∀ i, w.frozen? ⟨g, i, none⟩ = false := by
  obtain ⟨g, cap, hV, _⟩ := own_form h.last hl
  have h1 := h.last
  rw [hV] at h1
  refine ⟨g, cap, hV, fun i hi => ?_, fun i => ?_⟩
  · rw [h1.cellAt i (by omega)]; exact lst_get _ _ _ hi
  · rcases h1.2 with ⟨e, _⟩ | ⟨g', cap', cur, e, _, hh, _⟩
    · cases e
    · cases e
      exact frozen_of_row w g i cur 22 hh
theorem RDiskIn.ccell {n0 : Nat} {w : World} {p : Nat} {D : Dsk} {q : RParts} {Y : Nat → Prop} (h : RDiskIn n0 w p D q Y) (hl : 0 < D.cache.length) : ∃ g cap, q.C = .slice (some ⟨g, 0, none⟩) D.cache.length cap ∧ ∀ i, i < D.cache.length → w.cell? ⟨g, i * 2, none⟩ = some (.int .i64 (((D.cache.getD i (0, [])).1 : Nat) : Int)) ∧ w.cell? ⟨g, i * 2 + 1, none⟩ = some (q.G i) := by
  obtain ⟨g, cap, hV, _⟩ := own_form h.cache hl
  have h1 := h.cache
  rw [hV] at h1
  refine ⟨g, cap, hV, fun i hi => ?_⟩
  obtain ⟨a, b⟩ := ccells_get D.cache q.G i hi
  exact ⟨by rw [h1.cellAt (i * 2) (by omega)]; exact a, by rw [h1.cellAt (i * 2 + 1) (by omega)]; exact b⟩
def SecGives (s : List Nat) (Y : Nat → Prop) (w : World) (e : Ending) (w' : World) : Prop := ∃ v, e = .returned v ∧ RowIn w Y v s ∧ w = w'
set_option maxRecDepth 100000 in
set_option maxHeartbeats 2000000 in
theorem rsector_any {n0 : Nat} {w : World} {p : Nat} {D : Dsk} {q : RParts} {Y : Nat → Prop} (h : RDiskIn n0 w p D q Y) (a : Nat) (ha : a < D.last.length) (hc : D.cache.length ≤ 1000000000000) (hl : D.last.length ≤ 131072) :
    Calls Tryz.prog 86 #[.pointer (some ⟨p, 0, none⟩), .int .i64 (a : Int)] w (SecGives (D.sec a) Y w) := by
  obtain ⟨g, cap, hL, hlc, _⟩ := h.lcell (by omega)
  have c0 : w.cell? ⟨p, 0, none⟩ = some (.slice (some ⟨g, 0, none⟩) D.last.length cap) := by rw [← hL]; exact h.rcd.cell 0 (by omega)
  have c1 : w.cell? ⟨g, a, none⟩ = some (q.F a) := hlc a ha
  obtain ⟨C, cc, hC, _⟩ := At.own h.cache
  have c2 : w.cell? ⟨p, 1, none⟩ = some (.slice C D.cache.length cc) := by rw [← hC]; exact h.rcd.cell 1 (by omega)
  have h1 : (a : Int) < (D.last.length : Int) := by omega
  have HF := Lib.hid (h.rows a ha)
  have HIN := Lib.hid h
  have HC := Lib.hid hC
  clear h hL hlc hC
  generalize q.F a = fa at *
  go_enter Tryz.func86, Tryz.ntmps86
  go_wp2_with fail
  go_loop [5, 6] (fun v i => ∃ k : Nat, k ≤ D.cache.length ∧ i = .int .i64 k ∧ RowIn w Y v (secUp D k a)) (fun _ i => D.cache.length - (intOf i).toNat)
  case atStart => exact ⟨0, by omega, rfl, by rw [secUp_zero]; exact HF.out⟩
  case round =>
    obtain ⟨k, hk, rfl, hr⟩ := hrel
    by_cases hlt : k < D.cache.length
    · obtain ⟨gc, capc, hC2, hcc⟩ := HIN.out.ccell (by omega)
      rw [HC.out] at hC2
      injection hC2 with e1 e2 e3
      subst e1 e3
      clear e2
      obtain ⟨d1, d2⟩ := hcc k hlt
      have hs := secUp_succ D k a hlt
      have HR := Lib.hid (HIN.out.crows k hlt)
      have h3 : (k : Int) < (D.cache.length : Int) := by omega
      generalize D.cache.getD k (0, []) = x at *
      generalize q.G k = gk at *
      clear hcc
      by_cases hxa : x.1 = a
      · rw [if_pos hxa] at hs
        have t1 : ((x.1 : Int) == (a : Int)) = true := by simp; omega
        have HS := Lib.hid hs
        have HX := Lib.hid hxa
        have HRR := Lib.hid hr
        clear hs hxa hr
        go_wp2_with fail
        case roundEnd => exact ⟨⟨k + 1, by omega, by go_num, by rw [HS.out]; exact HR.out⟩, by simp only [intOf]; omega⟩
      · rw [if_neg hxa] at hs
        have t1 : ((x.1 : Int) == (a : Int)) = false := by simp; omega
        have HS := Lib.hid hs
        have HX := Lib.hid hxa
        have HRR := Lib.hid hr
        clear hs hxa hr
        go_wp2_with fail
        case roundEnd => exact ⟨⟨k + 1, by omega, by go_num, by rw [HS.out]; exact HRR.out⟩, by simp only [intOf]; omega⟩
    · obtain rfl : k = D.cache.length := by omega
      rw [secUp_all] at hr
      have HR := Lib.hid hr
      clear hr
      go_wp2_with fail
      go_ret
      exact ⟨_, rfl, HR.out, rfl⟩
end Go.Proofs.YtfbjjblgcgjndaaGreat

/- Contracts of the reference disk's Pending, Image and Read. -/
namespace Go.Proofs.YtfbjjblgcgjndaaGreat
open Go.RowKit

theorem RDiskIn.below {n0 : Nat} {w w' : World} {p : Nat} {D : Dsk} {q : RParts} {Y : Nat → Prop} (h : RDiskIn n0 w p D q Y) (hb : Below w.heap.size w w') : RDiskIn n0 w' p D q Y :=
  h.keep (G := fun _ => False) (.of_below hb) (fun _ _ h => h)
set_option maxRecDepth 100000 in
set_option maxHeartbeats 2000000 in
theorem rimage_any {n0 : Nat} {w : World} {p : Nat} {D : Dsk} {S : Nat → Prop} (h : RD n0 w p D S) : Calls Tryz.prog 34 #[.pointer (some ⟨p, 0, none⟩)] w (GivesFill D.last.flatten w) := by
  obtain ⟨ok, ⟨q, Y, hin, _⟩, _⟩ := h
  have hlen : D.last.length ≤ 131072 ∧ 0 < D.last.length := by obtain ⟨k, a, b, c⟩ := ok.pages; omega
  have h128 : ∀ s ∈ D.last, s.length = 128 := fun s hs => (ok.last s hs).1
  have HIN := Lib.hid hin
  have HL := Lib.hid hlen
  have H128 := Lib.hid h128
  clear hin ok hlen h128
  go_enter Tryz.func34, Tryz.ntmps34
  go_wp2_with fail
  go_loopw [3, 4] (fun v i wr => ∃ j : Nat, j ≤ D.last.length ∧ i = .int .i64 j ∧ Buf w.heap.size wr v (D.last.take j).flatten ∧ Below w.heap.size w wr) (fun _ i _ => D.last.length - (intOf i).toNat)
  case atStart => exact ⟨0, by omega, rfl, Buf.nil _ _, Below.refl _ _⟩
  case round =>
    obtain ⟨j, hj, rfl, hv, hb⟩ := hrel
    have hin := HIN.out.below hb
    obtain ⟨g, cap, hLv, hlc, _⟩ := hin.lcell HL.out.2
    have c0 : wr.cell? ⟨p, 0, none⟩ = some (.slice (some ⟨g, 0, none⟩) D.last.length cap) := by rw [← hLv]; exact hin.rcd.cell 0 (by omega)
    obtain ⟨A0, cv, rfl⟩ := own_slice hv
    have hfl := flat_take H128.out j hj
    rw [hfl] at hv ⊢
    by_cases hlt : j < D.last.length
    · obtain ⟨A1, c1, hF, hA1, hn1, _⟩ := hin.rows j hlt
      have hd1 := hlc j hlt
      have h128j : (D.last.getD j []).length = 128 := by rw [List.getD_eq_getElem?_getD, List.getElem?_eq_getElem hlt]; exact H128.out _ (List.getElem_mem _)
      rw [hF, h128j] at hd1
      have h3 : (j : Int) < (D.last.length : Int) := by omega
      have HV := Lib.hid hv
      have HB := Lib.hid hb
      have HA1 := Lib.hid hA1
      have HN1 := Lib.hid hn1
      have HJ := Lib.hid h128j
      have HFS := Lib.hid (flat_snoc D.last j hlt)
      have HBD := Lib.hid (show (D.last.take j).flatten.length + (D.last.getD j []).length ≤ 140737488355328 by have := HL.out; omega)
      have hbs := Lib.hid hb.size
      have HFL := Lib.hid hfl
      have hjs : j ≤ 131072 := by have := HL.out; omega
      clear hv hb hA1 hn1 h128j hfl hin hlc hLv hF
      go_wp2_with (at_builtin; go_loud (refine buf_append rfl (.tmp 14) (.tmp 21) rfl Tryz.underlying22 Tryz.info5 w.heap.size (.slice A0 (128 * j) cv) (D.last.take j).flatten rfl HV.out A1 128 c1 (D.last.getD j []) rfl HJ.out.symm HA1.out HN1.out HBD.out hbs.out HB.out ?_); intro v1 w1 hv1 hb1 hn1)
      have HV1 := Lib.hid hv1
      clear hv1
      go_wp2
      case roundEnd =>
        refine ⟨⟨j + 1, by omega, by push_cast; rfl, ?_, hb1⟩, by simp only [intOf]; omega⟩
        rw [HFS.out]; exact HV1.out
    · obtain rfl : j = D.last.length := by omega
      rw [List.take_length] at hv hfl
      have HV := Lib.hid hv
      have HFL := Lib.hid hfl
      clear hv hfl hin hlc hLv
      go_wp2
      go_ret
      refine ⟨A0, cv, ?_, ?_, hb⟩
      · rw [HFL.out]; rfl
      · rw [HFL.out]; exact HV.out
end Go.Proofs.YtfbjjblgcgjndaaGreat

/- Contract of the reference disk's Read. -/
namespace Go.Proofs.YtfbjjblgcgjndaaGreat
open Go.RowKit

def RReadGives (n0 : Nat) (w : World) (p : Nat) (S : Nat → Prop) (r : Nat × List Nat × Dsk) (e : Ending) (w' : World) : Prop :=
  ∃ A c, e = .returned (.tuple #[.slice A r.2.1.length c, .int .u16 (r.1 : Nat)]) ∧ Buf w.heap.size w' (.slice A r.2.1.length c) r.2.1 ∧ RD n0 w' p r.2.2 S ∧ Chg S w w'
set_option maxRecDepth 100000 in
set_option maxHeartbeats 4000000 in
theorem rread_any {n0 : Nat} {w : World} {p : Nat} {D : Dsk} {S : Nat → Prop} (h : RD n0 w p D S) (pg : Int) (hc : D.cache.length ≤ 1000000000000) (hn : D.n 1 ≤ 4611686018427387904) :
    Calls Tryz.prog 52 #[.pointer (some ⟨p, 0, none⟩), .int .i64 pg] w (RReadGives n0 w p S (D.read pg)) := by
  have HBG := Lib.hid (rbegin1 h hn)
  have hlen : D.last.length ≤ 131072 := by obtain ⟨k, a, b, c⟩ := h.1.pages; omega
  have H128 := Lib.hid (fun a (ha : a < D.last.length) => (D.sec_ok h.1 a ha).1)
  have HSO := Lib.hid (fun a k (ha : a + k ≤ D.last.length) => (D.secs_ok h.1 a k ha).1)
  have HPGS := Lib.hid h.1.pages
  have HC := Lib.hid hc
  clear hc hn h
  by_cases hb : (D.begin 1).1 = 0
  · have hrd : D.read pg = if pg < 0 ∨ (D.pages : Int) ≤ pg then (2, [], D.go 1) else (0, D.secs (8 * pg.toNat) 8, D.go 1) := by unfold Dsk.read; rw [if_neg (by simpa using hb)]
    have hgo : D.begin 1 = (0, D.go 1) := by rw [← Dsk.begin_go hb, ← hb]
    rw [hgo] at HBG
    have HRD0 := Lib.hid hrd
    clear hrd hgo hb
    go_enter Tryz.func52, Tryz.ntmps52
    go_wp2_with fail
    refine HBG.out.mono ?_
    rintro e w1 ⟨rfl, hd, hch⟩
    have HD := Lib.hid hd
    have HCH := Lib.hid hch
    have hp := Lib.hid (rpages_any hd)
    have hpe : (D.go 1).pages = D.pages := rfl
    rw [hpe] at hp
    clear hd hch hpe HBG
    have HHP := Lib.hid hp.out
    clear hp
    by_cases hneg : pg < 0
    · have hrd := HRD0.out
      rw [if_pos (.inl hneg)] at hrd
      have HRD := Lib.hid hrd
      clear hrd
      go_wp2_with fail
      go_ret2
      rw [HRD.out]
      exact ⟨none, 0, rfl, Buf.nil _ _, HD.out, HCH.out⟩
    · by_cases hbig : (D.pages : Int) ≤ pg
      · have hrd := HRD0.out
        rw [if_pos (.inr hbig)] at hrd
        have HRD := Lib.hid hrd
        clear hrd
        have HBI := Lib.hid hbig
        clear HRD0
        generalize D.pages = N at *
        go_wp2_with fail
        refine HHP.out.mono ?_
        rintro e w2 ⟨rfl, rfl⟩
        have hd1 : decide ((N : Int) ≤ pg) = true := by have := HBI.out; simpa using this
        go_wp2_with fail
        go_ret2
        rw [HRD.out]
        exact ⟨none, 0, rfl, Buf.nil _ _, HD.out, HCH.out⟩
      · have hrd := HRD0.out
        rw [if_neg (by omega)] at hrd
        obtain ⟨n, rfl⟩ : ∃ n : Nat, pg = (n : Int) := ⟨pg.toNat, by omega⟩
        rw [Int.toNat_natCast] at hrd
        have HRD := Lib.hid hrd
        clear hrd
        have hnp : n < D.pages := by omega
        have h8 : 8 * n + 8 ≤ D.last.length := by obtain ⟨k, a, b, c⟩ := HPGS.out; unfold Dsk.pages at hnp; omega
        have hd1 : decide ((D.pages : Int) ≤ (n : Int)) = false := by simp; omega
        have hd2 : ¬ D.pages ≤ n := by omega
        have hnb : n ≤ 16384 := by omega
        have H8 := Lib.hid h8
        have HNP := Lib.hid hnp
        clear h8 hneg hbig
        go_wp2_with fail
        refine HHP.out.mono ?_
        rintro e w2 ⟨rfl, rfl⟩
        go_wp2_with fail
        obtain ⟨ok, ⟨q, Y, hin, hS⟩, hlt⟩ := HD.out
        have HIN := Lib.hid hin
        clear ok hin hS hlt
        go_loopw [7, 8] (fun v i wr => ∃ j : Nat, j ≤ 8 ∧ i = .int .i64 j ∧ Buf w1.heap.size wr v (D.secs (8 * n) j) ∧ Below w1.heap.size w1 wr) (fun _ i _ => 8 - (intOf i).toNat)
        case atStart => exact ⟨0, by omega, rfl, by rw [Dsk.secs_zero]; exact Buf.nil _ _, Below.refl _ _⟩
        case round =>
          obtain ⟨j, hj, rfl, hv, hb⟩ := hrel
          obtain ⟨A0, cv, rfl⟩ := own_slice hv
          have hsl := HSO.out (8 * n) j (by have := H8.out; omega)
          rw [hsl] at hv ⊢
          by_cases hlt : j < 8
          · have h3 : (j : Int) < 8 := by omega
            have hsec := rsector_any (HIN.out.below hb) (8 * n + j) (by have := H8.out; show _ < D.last.length; omega) HC.out hlen
            rw [show ((8 * n + j : Nat) : Int) = 8 * (n : Int) + (j : Int) by push_cast; rfl] at hsec
            have HSEC := Lib.hid hsec
            have h128 := H128.out (8 * n + j) (by have := H8.out; omega)
            have HSS := Lib.hid (D.secs_succ (8 * n) j)
            have HV := Lib.hid hv
            have HB := Lib.hid hb
            have HSL := Lib.hid hsl
            have HBZ := Lib.hid hb.size
            have HBD := Lib.hid (show (D.secs (8 * n) j).length + (D.sec (8 * n + j)).length ≤ 140737488355328 by rw [hsl, h128]; omega)
            have H12 := Lib.hid h128
            clear hsec h128 hv hb hsl
            go_wp2_with fail
            refine HSEC.out.mono ?_
            rintro e w3 ⟨v3, rfl, ⟨A3, c3, rfl, hA3, hn3, _⟩, rfl⟩
            rw [show (Dsk.sec (D.go 1) (8 * n + j)).length = 128 from H12.out]
            have HA3 := Lib.hid hA3
            have HN3 := Lib.hid hn3
            clear hA3 hn3
            go_wp2_with (at_builtin; go_loud (refine buf_append rfl (.tmp 26) (.tmp 32) rfl Tryz.underlying22 Tryz.info5 w1.heap.size (.slice A0 (128 * j) cv) (D.secs (8 * n) j) rfl HV.out A3 128 c3 (D.sec (8 * n + j)) rfl H12.out.symm HA3.out HN3.out HBD.out HBZ.out HB.out ?_); intro v4 w4 hv4 hb4 hn4)
            have HV4 := Lib.hid hv4
            clear hv4
            go_wp2
            case roundEnd =>
              refine ⟨⟨j + 1, by omega, by go_num, ?_, hb4⟩, by simp only [intOf]; omega⟩
              rw [HSS.out]; exact HV4.out
          · obtain rfl : j = 8 := by omega
            have HV := Lib.hid hv
            have HSL := Lib.hid hsl
            clear hv hsl
            go_wp2_with fail
            go_ret2
            rw [HRD.out]
            refine ⟨A0, cv, ?_, ?_, ⟨HD.out.below hb, HCH.out.trans (.of_below (F := fun _ => False) hb) (fun _ _ h => h.elim)⟩⟩
            · show _ = Ending.returned (.tuple #[.slice A0 (D.secs (8 * n) 8).length cv, .int .u16 ((0 : Nat) : Int)])
              rw [HSL.out]; rfl
            · show Buf w.heap.size wr (.slice A0 (D.secs (8 * n) 8).length cv) (D.secs (8 * n) 8)
              rw [HSL.out]; exact own_down HV.out HCH.out.size
  · have hrd : D.read pg = ((D.begin 1).1, [], (D.begin 1).2) := by unfold Dsk.read; rw [if_pos hb]
    rw [hrd]
    clear hrd
    have he : (((D.begin 1).1 : Nat) != 0) = true := by simpa using hb
    have he2 : ((((D.begin 1).1 : Nat) : Int) != 0) = true := by simp; omega
    have HNE := Lib.hid hb
    generalize (D.begin 1).1 = x at *
    generalize (D.begin 1).2 = D' at *
    clear hb
    go_enter Tryz.func52, Tryz.ntmps52
    go_wp2_with fail
    refine HBG.out.mono ?_
    rintro e w1 ⟨rfl, hd, hch⟩
    have HD := Lib.hid hd
    have HCH := Lib.hid hch
    clear hd hch
    go_wp2_with fail
    go_ret2
    exact ⟨none, 0, rfl, Buf.nil _ _, HD.out, HCH.out⟩
end Go.Proofs.YtfbjjblgcgjndaaGreat
