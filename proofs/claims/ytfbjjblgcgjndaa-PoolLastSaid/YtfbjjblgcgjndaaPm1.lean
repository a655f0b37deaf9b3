/- Joined texts: Two, PoolPl2, Open5, Open6, Two2, PoolLp, PoolL. -/
import Derived.StillTailTactics
import Derived.Test.YtfbjjblgcgjndaaPk1
import Derived.Test.YtfbjjblgcgjndaaPk2
import Derived.Test.YtfbjjblgcgjndaaPk3
import Derived.Test.YtfbjjblgcgjndaaPk4
import Derived.Test.YtfbjjblgcgjndaaPk5
import Derived.Test.YtfbjjblgcgjndaaPk6
import Derived.Test.YtfbjjblgcgjndaaPk7
import Derived.Test.YtfbjjblgcgjndaaPk8
import Derived.Test.YtfbjjblgcgjndaaPk9
set_option linter.unusedVariables false
set_option linter.unusedSimpArgs false

/- Two pools, each over its own disk, side by side. -/
namespace Go.Proofs.Ytfbjjblgcgjndaa
open Go.RowKit

/-- two pools -/
def Two (n0 : Nat) (w : World) (P1 d1 m1 : Nat) (D1 : Dsk) (L1 : List Hand) (c1 : Nat) (P2 d2 m2 : Nat) (D2 : Dsk) (L2 : List Hand) (c2 : Nat) (X : Nat → Prop) : Prop :=
  ∃ U1 U2 : Nat → Prop, (∃ S1 T1, PoolOk n0 w P1 d1 m1 D1 L1 c1 S1 T1 ∧ U1 = fun g => S1 g ∨ T1 g) ∧ (∃ S2 T2, PoolOk n0 w P2 d2 m2 D2 L2 c2 S2 T2 ∧ U2 = fun g => S2 g ∨ T2 g) ∧ (∀ g, U1 g → ¬ U2 g) ∧ ∀ g, X g → g < w.heap.size ∧ ¬ U1 g ∧ ¬ U2 g
section
variable {n0 : Nat} {w w' : World} {P1 d1 m1 : Nat} {D1 : Dsk} {L1 : List Hand} {c1 : Nat} {P2 d2 m2 : Nat} {D2 : Dsk} {L2 : List Hand} {c2 : Nat} {X : Nat → Prop}
theorem Two.swap (h : Two n0 w P1 d1 m1 D1 L1 c1 P2 d2 m2 D2 L2 c2 X) : Two n0 w P2 d2 m2 D2 L2 c2 P1 d1 m1 D1 L1 c1 X := by
  obtain ⟨U1, U2, h1, h2, hs, hx⟩ := h
  exact ⟨U2, U1, h2, h1, fun g a b => hs g b a, fun g hg => ⟨(hx g hg).1, (hx g hg).2.2, (hx g hg).2.1⟩⟩
theorem Two.n_le (h : Two n0 w P1 d1 m1 D1 L1 c1 P2 d2 m2 D2 L2 c2 X) : n0 ≤ w.heap.size := by
  obtain ⟨U1, U2, ⟨S1, T1, h1, _⟩, _⟩ := h
  exact h1.disk.new_n
theorem Two.less (h : Two n0 w P1 d1 m1 D1 L1 c1 P2 d2 m2 D2 L2 c2 X) {X' : Nat → Prop} (hX : ∀ g, X' g → X g) : Two n0 w P1 d1 m1 D1 L1 c1 P2 d2 m2 D2 L2 c2 X' := by
  obtain ⟨U1, U2, h1, h2, hs, hx⟩ := h
  exact ⟨U1, U2, h1, h2, hs, fun g hg => hx g (hX g hg)⟩
theorem PoolOk.lt {P d most : Nat} {D : Dsk} {L : List Hand} {c : Nat} {S T : Nat → Prop} (h : PoolOk n0 w P d most D L c S T) (g : Nat) (hg : S g ∨ T g) : n0 ≤ g ∧ g < w.heap.size := by
  rcases hg with hg | hg
  · exact ⟨(h.disk.lt g hg).1, h.disk.top g hg⟩
  · exact h.pool.2 g hg
theorem PoolOk.keep {P d most : Nat} {D : Dsk} {L : List Hand} {c : Nat} {S T G : Nat → Prop} (h : PoolOk n0 w P d most D L c S T) (hc : Chg G w w') (hG : ∀ g, S g ∨ T g → ¬ G g) : PoolOk n0 w' P d most D L c S T :=
  ⟨h.disk.keep hc (fun g hg => hG g (.inl hg)), h.pool.keep hc (fun g hg => hG g (.inr hg)), h.sep⟩
/-- the first of them -/
theorem Two.one (h : Two n0 w P1 d1 m1 D1 L1 c1 P2 d2 m2 D2 L2 c2 X) : ∃ U : Nat → Prop, (∀ g, U g → n0 ≤ g) ∧ PoolX n0 w P1 d1 m1 D1 L1 c1 (fun g => X g ∨ U g) ∧
    ∀ w' D' L' c' (Y : Nat → Prop), PoolX n0 w' P1 d1 m1 D' L' c' (fun g => (X g ∨ U g) ∨ Y g) → Step n0 (fun g => X g ∨ U g) w w' → (∀ g, Y g → w.heap.size ≤ g) → Two n0 w' P1 d1 m1 D' L' c' P2 d2 m2 D2 L2 c2 (fun g => X g ∨ Y g) ∧ Step n0 X w w' := by
  obtain ⟨U1, U2, ⟨S1, T1, h1, rfl⟩, ⟨S2, T2, h2, rfl⟩, hs, hx⟩ := h
  refine ⟨fun g => S2 g ∨ T2 g, fun g hg => (h2.lt g hg).1, ⟨S1, T1, h1, fun g hg => ?_⟩, fun w' D' L' c' Y hp hst hY => ⟨?_, hst.1.mono (fun g _ a b => a (.inl b)), hst.2⟩⟩
  · rcases hg with hg | hg
    · exact ⟨(hx g hg).1, fun e => (hx g hg).2.1 (.inl e), fun e => (hx g hg).2.1 (.inr e)⟩
    · exact ⟨(h2.lt g hg).2, fun e => hs g (.inl e) hg, fun e => hs g (.inr e) hg⟩
  · obtain ⟨S1', T1', h1', hx'⟩ := hp
    refine ⟨_, _, ⟨S1', T1', h1', rfl⟩, ⟨S2, T2, h2.keep hst.1 (fun g hg a => a (.inr hg)), rfl⟩, fun g hg e => ?_, fun g hg => ?_⟩
    · have := hx' g (.inl (.inr e))
      exact hg.elim this.2.1 this.2.2
    · rcases hg with hg | hg
      · have := hx' g (.inl (.inl hg))
        exact ⟨this.1, fun e => e.elim this.2.1 this.2.2, (hx g hg).2.2⟩
      · have := hx' g (.inr hg)
        exact ⟨this.1, fun e => e.elim this.2.1 this.2.2, fun e => by have := (h2.lt g e).2; have := hY g hg; omega⟩
theorem Two.keep (h : Two n0 w P1 d1 m1 D1 L1 c1 P2 d2 m2 D2 L2 c2 X) {G : Nat → Prop} (hc : Chg G w w') (hG : ∀ g, g < w.heap.size → G g → X g) : Two n0 w' P1 d1 m1 D1 L1 c1 P2 d2 m2 D2 L2 c2 X := by
  obtain ⟨U1, U2, ⟨S1, T1, h1, rfl⟩, ⟨S2, T2, h2, rfl⟩, hs, hx⟩ := h
  refine ⟨_, _, ⟨S1, T1, h1.keep hc (fun g hg e => (hx g (hG g (h1.lt g hg).2 e)).2.1 hg), rfl⟩, ⟨S2, T2, h2.keep hc (fun g hg e => (hx g (hG g (h2.lt g hg).2 e)).2.2 hg), rfl⟩, hs, fun g hg => ⟨Nat.lt_of_lt_of_le (hx g hg).1 hc.size, (hx g hg).2⟩⟩
theorem Two.below (h : Two n0 w P1 d1 m1 D1 L1 c1 P2 d2 m2 D2 L2 c2 X) (hb : Below w.heap.size w w') : Two n0 w' P1 d1 m1 D1 L1 c1 P2 d2 m2 D2 L2 c2 X :=
  h.keep (G := fun _ => False) (.of_below hb) (fun _ _ h => h.elim)
theorem Two.also (h : Two n0 w P1 d1 m1 D1 L1 c1 P2 d2 m2 D2 L2 c2 X) (hb : Below w.heap.size w w') {Y : Nat → Prop} (hY : ∀ g, Y g → w.heap.size ≤ g ∧ g < w'.heap.size) : Two n0 w' P1 d1 m1 D1 L1 c1 P2 d2 m2 D2 L2 c2 (fun g => X g ∨ Y g) := by
  have hb' := h.below hb
  obtain ⟨U1, U2, ⟨S1, T1, h1, rfl⟩, ⟨S2, T2, h2, rfl⟩, hs, hx⟩ := h
  have hc : Chg (fun _ => False) w w' := .of_below hb
  refine ⟨_, _, ⟨S1, T1, h1.keep hc (fun _ _ h => h), rfl⟩, ⟨S2, T2, h2.keep hc (fun _ _ h => h), rfl⟩, hs, fun g hg => ?_⟩
  rcases hg with hg | hg
  · exact ⟨Nat.lt_of_lt_of_le (hx g hg).1 hc.size, (hx g hg).2⟩
  · obtain ⟨a, b⟩ := hY g hg
    exact ⟨b, fun e => by have := (h1.lt g e).2; omega, fun e => by have := (h2.lt g e).2; omega⟩
def TwRead (n0 : Nat) (w : World) (P1 d1 m1 c1 P2 d2 m2 : Nat) (D2 : Dsk) (L2 : List Hand) (c2 : Nat) (X : Nat → Prop) (r : Rd) (e : Ending) (w' : World) : Prop :=
  ∃ A cap, e = .returned (.tuple #[.int .u8 (r.kind : Nat), .slice A r.pay.length cap, .int .u16 (r.err : Nat)]) ∧ Buf w.heap.size w' (.slice A r.pay.length cap) r.pay ∧ Two n0 w' P1 d1 m1 r.D r.L (c1 + 1) P2 d2 m2 D2 L2 c2 (fun g => X g ∨ blk (.slice A r.pay.length cap) g) ∧ Step n0 X w w'
theorem two_read (h : Two n0 w P1 d1 m1 D1 L1 c1 P2 d2 m2 D2 L2 c2 X) (n : Nat) (hn : n < 4294967296) {j : Nat} (hs : Small D1 j) (hj : j ≤ 10000000) (hm : m1 ≤ 4611686018427387904) (hcc : c1 ≤ 100000000) :
    Calls Try.prog 81 #[.pointer (some ⟨P1, 0, none⟩), .int .u32 (n : Int)] w (TwRead n0 w P1 d1 m1 c1 P2 d2 m2 D2 L2 c2 X (plRead m1 D1 L1 n)) := by
  obtain ⟨U, hU, hp, hst⟩ := h.one
  refine (plread_any hp n hn (hs.c (by omega)) (hs.m (by omega) 1) hm (by omega)).mono ?_
  rintro e w' ⟨A, cap, rfl, hb, hx, hs'⟩
  obtain ⟨a, b⟩ := hst w' _ _ _ (blk (.slice A (plRead m1 D1 L1 n).pay.length cap)) hx hs' (fun g hg => (row_lt hb hg).1)
  exact ⟨A, cap, rfl, hb, a, b⟩
theorem two_write (h : Two n0 w P1 d1 m1 D1 L1 c1 P2 d2 m2 D2 L2 c2 X) (n k : Nat) (hn : n < 4294967296) (hk : k < 256) (s : Inner) (hok : ∀ w', Below n0 w w' → s.Ok w') {j : Nat} (hs : Small D1 j) (hj : j ≤ 10000000) (hm : m1 ≤ 4611686018427387904) (hcc : c1 ≤ 100000000) :
    Calls Try.prog 80 #[.pointer (some ⟨P1, 0, none⟩), .int .u32 (n : Int), .int .u8 (k : Int), .slice s.A s.l.length s.c] w fun e w' => e = .returned (.int .u16 ((plWrite m1 D1 L1 n k s.l).err : Nat)) ∧ Two n0 w' P1 d1 m1 (plWrite m1 D1 L1 n k s.l).D (plWrite m1 D1 L1 n k s.l).L (c1 + 1) P2 d2 m2 D2 L2 c2 X ∧ Step n0 X w w' := by
  obtain ⟨U, hU, hp, hst⟩ := h.one
  have h0 := hok w (Below.refl _ _)
  refine (plwrite_any hp n k hn hk s.l s.A s.c s.l.length rfl (fun w' hw' => (hok w' hw'.2).lies) h0.nil h0.bytes (hs.c (by omega)) (hs.m (by omega) 2) hm (by omega)).mono ?_
  rintro e w' ⟨rfl, hx, hs'⟩
  obtain ⟨a, b⟩ := hst w' _ _ _ (fun _ => False) (hx.less (fun g hg => hg.elim id (fun e => e.elim))) hs' (fun g hg => hg.elim)
  exact ⟨rfl, a.less (fun g hg => .inl hg), b⟩
theorem two_forget (h : Two n0 w P1 d1 m1 D1 L1 c1 P2 d2 m2 D2 L2 c2 X) (n : Nat) (hn : n < 4294967296) :
    Calls Try.prog 85 #[.pointer (some ⟨P1, 0, none⟩), .int .u32 (n : Int)] w fun e w' => e = .returned (.tuple #[]) ∧ Two n0 w' P1 d1 m1 D1 (forget n L1) c1 P2 d2 m2 D2 L2 c2 X ∧ Step n0 X w w' := by
  obtain ⟨U, hU, hp, hst⟩ := h.one
  refine (plforget_any hp n hn).mono ?_
  rintro e w' ⟨rfl, hx, hs'⟩
  obtain ⟨a, b⟩ := hst w' _ _ _ (fun _ => False) (hx.less (fun g hg => hg.elim id (fun e => e.elim))) hs' (fun g hg => hg.elim)
  exact ⟨rfl, a.less (fun g hg => .inl hg), b⟩
theorem two_len (h : Two n0 w P1 d1 m1 D1 L1 c1 P2 d2 m2 D2 L2 c2 X) : Calls Try.prog 82 #[.pointer (some ⟨P1, 0, none⟩)] w fun x w' => x = .returned (.int .i64 (L1.length : Int)) ∧ w = w' := by
  obtain ⟨U, hU, hp, hst⟩ := h.one
  exact pllen_any hp
theorem two_sync (h : Two n0 w P1 d1 m1 D1 L1 c1 P2 d2 m2 D2 L2 c2 X) {j : Nat} (hs : Small D1 j) (hj : j ≤ 10000000) : Calls Try.prog 86 #[.pointer (some ⟨P1, 0, none⟩)] w fun e w' => e = .returned (.int .u16 (D1.sync.1 : Nat)) ∧ Two n0 w' P1 d1 m1 D1.sync.2 L1 c1 P2 d2 m2 D2 L2 c2 X ∧ Step n0 X w w' := by
  obtain ⟨U, hU, hp, hst⟩ := h.one
  refine (plsync_any hp (hs.c (by omega)) (hs.m (by omega) 3)).mono ?_
  rintro e w' ⟨rfl, hx, hs'⟩
  obtain ⟨a, b⟩ := hst w' _ _ _ (fun _ => False) (hx.less (fun g hg => hg.elim id (fun e => e.elim))) hs' (fun g hg => hg.elim)
  exact ⟨rfl, a.less (fun g hg => .inl hg), b⟩
theorem Two.moreC (h : Two n0 w P1 d1 m1 D1 L1 c1 P2 d2 m2 D2 L2 c2 X) {c1' c2' : Nat} (e1 : c1 ≤ c1') (e2 : c2 ≤ c2') : Two n0 w P1 d1 m1 D1 L1 c1' P2 d2 m2 D2 L2 c2' X := by
  obtain ⟨U1, U2, ⟨S1, T1, h1, rfl⟩, ⟨S2, T2, h2, rfl⟩, hs, hx⟩ := h
  exact ⟨_, _, ⟨S1, T1, ⟨h1.disk, h1.pool.moreC e1, h1.sep⟩, rfl⟩, ⟨S2, T2, ⟨h2.disk, h2.pool.moreC e2, h2.sep⟩, rfl⟩, hs, hx⟩
theorem two_new {S : Nat → Prop} (hp : PoolX n0 w P1 d1 m1 D1 L1 c1 S) (hd : DG n0 w d2 D2 S) (m : Nat) (h1 : 1 ≤ m) (hm : m ≤ 4611686018427387904) :
    Calls Try.prog 79 #[.pointer (some ⟨d2, 0, none⟩), .int .i64 (m : Int)] w fun e w' => ∃ P, e = .returned (.tuple #[.pointer (some ⟨P, 0, none⟩), .int .u16 0]) ∧ Two n0 w' P1 d1 m1 D1 L1 c1 P d2 m D2 [] 0 (fun _ => False) ∧ Below w.heap.size w w' := by
  obtain ⟨S1, T1, ho, hx⟩ := hp
  refine (pnew_ok hd (X := fun g => S1 g ∨ T1 g) (fun g hg => ⟨(ho.lt g hg).2, fun e => hg.elim (hx g e).2.1 (hx g e).2.2⟩) m h1 hm).mono ?_
  rintro e w' ⟨P, rfl, ⟨S2, T2, h2, hx2⟩, hb⟩
  refine ⟨P, rfl, ⟨_, _, ⟨S1, T1, ho.keep (G := fun _ => False) (.of_below hb) (fun _ _ h => h), rfl⟩, ⟨S2, T2, h2, rfl⟩, fun g hg e => ?_, fun g hg => hg.elim⟩, hb⟩
  have := hx2 g hg
  exact e.elim this.2.1 this.2.2
end
end Go.Proofs.Ytfbjjblgcgjndaa

/- Pool, plain laws: calm disks, lit disks, sync. -/
namespace Go.Proofs.Ytfbjjblgcgjndaa

theorem lastSet (l : List (List Nat)) (i x : Nat) (s : List Nat) (hx : x < l.length) : (l.set i s).getD x [] = if i = x then s else l.getD x [] := by
  rw [List.getD_eq_getElem?_getD, List.getD_eq_getElem?_getD, List.getElem?_set]
  by_cases h : i = x
  · subst h
    rw [if_pos rfl, if_pos hx, if_pos rfl]; rfl
  · rw [if_neg h, if_neg h]
theorem snoc_ind {α : Type} {P : List α → Prop} (h0 : P []) (h1 : ∀ c x, P c → P (c ++ [x])) (c : List α) : P c := by
  have : ∀ n (c : List α), c.length = n → P c := by
    intro n
    induction n with
    | zero => intro c hc; rw [List.eq_nil_of_length_eq_zero hc]; exact h0
    | succ n ih =>
      intro c hc
      have hne : c ≠ [] := fun e => by rw [e] at hc; simp at hc
      rw [← List.dropLast_concat_getLast hne]
      exact h1 _ _ (ih _ (by simp [hc]))
  exact this _ c rfl
theorem settled_all (l : List (List Nat)) (x : Nat) (hx : x < l.length) (c : List (Nat × List Nat)) : (settled l c (fun _ => true) c.length).getD x [] = (lastWrite c x).getD (l.getD x []) := by
  induction c using snoc_ind with
  | h0 => rfl
  | h1 c y ih =>
    obtain ⟨a, s⟩ := y
    rw [List.length_append, List.length_singleton, settled_snoc, if_pos rfl, lastSet _ _ _ _ (by rw [settled_length]; exact hx), lastWrite_append, ih]
    simp only
    split <;> rfl
theorem sec_settle (D : Dsk) (x : Nat) (hx : x < D.last.length) : (D.settle fun _ => true).sec x = D.sec x := by
  have h := settled_all D.last x hx D.cache
  have e : (D.settle fun _ => true).sec x = (settled D.last D.cache (fun _ => true) D.cache.length).getD x [] := rfl
  rw [e, h]
  unfold Dsk.sec
  cases lastWrite D.cache x <;> rfl
theorem page_settle (D : Dsk) (n : Nat) (hn : n < D.pages) : pageOf (D.settle fun _ => true) n = pageOf D n := by
  unfold pageOf
  refine secs_congr fun i hi => sec_settle D _ ?_
  unfold Dsk.pages at hn
  omega
/-- the pages are the same -/
structure SameP (D E : Dsk) : Prop where
  pages : E.pages = D.pages
  page : ∀ n, n < D.pages → pageOf E n = pageOf D n
theorem SameD.p {D E : Dsk} (h : SameD D E) : SameP D E := ⟨h.pages, fun n _ => h.page n⟩
theorem SameP.trans {D E F : Dsk} (h : SameP D E) (k : SameP E F) : SameP D F := ⟨k.pages.trans h.pages, fun n hn => (k.page n (by rw [h.pages]; exact hn)).trans (h.page n hn)⟩
theorem coh_pages {most : Nat} {D E : Dsk} {L : List Hand} {C : Nat → Option (Nat × List Nat)} (h : Coh most D L C) (hs : SameP D E) : Coh most E L C :=
  ⟨fun m hm' => by
    rw [hs.pages] at hm'
    exact (h.page m hm').same (hs.page m hm'), fun x hx => by rw [hs.pages]; exact h.hand x hx, h.len⟩
theorem coh_bare {most : Nat} {D : Dsk} {L : List Hand} {C : Nat → Option (Nat × List Nat)} (h : Coh most D L C) (m : Nat) : Coh m D [] C :=
  ⟨h.page, fun x hx => by simp at hx, Nat.zero_le _⟩
theorem same_sync (D : Dsk) : SameP D D.sync.2 := by
  unfold Dsk.sync
  split
  · exact (same_begin D 3).p
  · exact ⟨by simp only; rw [Dsk.settle_pages]; rfl, fun n hn => by
      simp only
      rw [page_settle (D.go 3) n hn]
      exact (show SameD D (D.go 3) from ⟨rfl, rfl⟩).page n⟩
section
variable {most : Nat} {D : Dsk} {L : List Hand} {C : Nat → Option (Nat × List Nat)} {j : Nat}
/-- a pool over a disk that does not fail -/
structure Even (most j N : Nat) (D : Dsk) (L : List Hand) (C : Nat → Option (Nat × List Nat)) : Prop where
  coh : Coh most D L C
  calm : D.Calm
  small : Small D j
  pages : D.pages = N
  one : 1 ≤ most
theorem small_rd {D : Dsk} {j : Nat} (h : Small D j) (most n : Nat) (L : List Hand) : Small (plRead most D L n).D (j + 1) := by
  unfold plRead
  split
  · exact h.mono (by omega)
  · split
    · exact h.mono (by omega)
    · split
      · exact h.read _
      · split <;> exact h.read _
theorem small_wr {D : Dsk} {j : Nat} (h : Small D j) (most n k : Nat) (p : List Nat) (L : List Hand) : Small (plWrite most D L n k p).D (j + 1) := by
  unfold plWrite
  split
  · split
    · exact h.mono (by omega)
    · split <;> exact h.write _ _
  · exact h.mono (by omega)
theorem calm_rd {D : Dsk} (h : D.Calm) (most n : Nat) (L : List Hand) : (plRead most D L n).D.Calm := by
  unfold plRead
  split
  · exact h
  · rename_i hp
    have hc : (D.read (n : Int)).2.2.Calm := by rw [h.read n (by omega)]; exact h.go 1
    split
    · exact h
    · split
      · exact hc
      · split <;> exact hc
theorem calm_wr {D : Dsk} (h : D.Calm) (most n k : Nat) (p : List Nat) (L : List Hand) : (plWrite most D L n k p).D.Calm := by
  unfold plWrite
  split
  · rename_i hs
    split
    · exact h
    · rename_i hp
      have hw := h.write n (by omega) (sealed k n p) (.inl (sealed_length k n p hs.2.2))
      have hc : (D.write (n : Int) (sealed k n p)).2.Calm := by rw [hw]; exact (h.go 2).put _ _ _
      split <;> exact hc
  · exact h
theorem Even.read {N : Nat} (h : Even most j N D L C) (n : Nat) : Even most (j + 1) N (plRead most D L n).D (plRead most D L n).L C ∧ ((plRead most D L n).kind, (plRead most D L n).pay, (plRead most D L n).err) = tells D C n := by
  obtain ⟨a, b, c⟩ := coh_read h.coh h.one n
  refine ⟨⟨a, calm_rd h.calm _ _ _, small_rd h.small _ _ _, b.pages.trans h.pages, h.one⟩, ?_⟩
  rcases c with c | ⟨c1, _, c2, _⟩
  · exact c
  · rw [h.calm.read n c1] at c2
    exact absurd rfl c2
theorem tells_eq {D E : Dsk} (h : D.pages = E.pages) (n : Nat) : tells D C n = tells E C n := by unfold tells; rw [h]
theorem calm_wr_err {D : Dsk} (h : D.Calm) (most n k : Nat) (p : List Nat) (L : List Hand) : (plWrite most D L n k p).err = if SealOk k p then (if D.pages ≤ n then 2 else 0) else 80 := by
  unfold plWrite
  by_cases hs : SealOk k p
  · rw [if_pos hs, if_pos hs]
    by_cases hp : D.pages ≤ n
    · rw [if_pos hp, if_pos hp]
    · rw [if_neg hp, if_neg hp]
      have hw := h.write n (by omega) (sealed k n p) (.inl (sealed_length k n p hs.2.2))
      rw [hw]
      simp
  · rw [if_neg hs, if_neg hs]
theorem Even.write {N : Nat} (h : Even most j N D L C) (n k : Nat) (p : List Nat) : Even most (j + 1) N (plWrite most D L n k p).D (plWrite most D L n k p).L (if (if SealOk k p then (if N ≤ n then 2 else 0) else 80) = 0 then turn C n (some (k, p)) else C) ∧ (plWrite most D L n k p).err = if SealOk k p then (if N ≤ n then 2 else 0) else 80 := by
  obtain ⟨a, b⟩ := coh_write h.coh h.one n k p
  have he := calm_wr_err h.calm most n k p L
  rw [h.pages] at he
  rw [he] at a
  exact ⟨⟨a, calm_wr h.calm _ _ _ _ _, small_wr h.small _ _ _ _ _, b.trans h.pages, h.one⟩, he⟩
theorem Even.forget {N : Nat} (h : Even most j N D L C) (n : Nat) : Even most j N D (forget n L) C := ⟨coh_forget h.coh n, h.calm, h.small, h.pages, h.one⟩
theorem Even.sync {N : Nat} (h : Even most j N D L C) : Even most (j + 1) N D.sync.2 L C ∧ D.sync.1 = 0 := by
  refine ⟨⟨coh_pages h.coh (same_sync D), by rw [h.calm.sync]; exact (h.calm.go 3).settle _, h.small.sync, (same_sync D).pages.trans h.pages, h.one⟩, by rw [h.calm.sync]⟩
theorem Even.mono {N j' : Nat} (h : Even most j N D L C) (hj : j ≤ j') : Even most j' N D L C := ⟨h.coh, h.calm, h.small.mono hj, h.pages, h.one⟩
theorem Even.new (N m : Nat) (h1 : 1 ≤ N) (h2 : N ≤ 16384) (hm : 1 ≤ m) : Even m 0 N (Dsk.new N) [] (fun _ => none) := ⟨coh_new m N h1 h2, Dsk.new_calm N, Small.new N, Dsk.new_pages N, hm⟩
/-- power is on, no trip is set -/
def Lit (D : Dsk) : Prop := D.dark = false ∧ D.trip = -1
theorem Lit.begin (h : Lit D) (k : Nat) : (D.begin k = (6, D.fall k) ∧ D.f k = 0) ∨ (D.begin k = (0, D.go k) ∧ D.f k ≠ 0) := by
  unfold Dsk.begin
  rw [if_neg (by simp [h.1]), if_neg (by have := h.2; omega)]
  by_cases e : D.f k = 0
  · rw [if_pos e]; exact .inl ⟨rfl, e⟩
  · rw [if_neg e]; exact .inr ⟨rfl, e⟩
theorem Lit.fall (h : Lit D) (k : Nat) : Lit (D.fall k) := ⟨h.1, by unfold Dsk.fall; simp only [h.2]; rfl⟩
theorem Lit.go (h : Lit D) (k : Nat) : Lit (D.go k) := ⟨h.1, by unfold Dsk.go; simp only [h.2]; rfl⟩
theorem Lit.beg (h : Lit D) (k : Nat) : Lit (D.begin k).2 := by
  rcases h.begin k with e | e
  · rw [e.1]; exact h.fall k
  · rw [e.1]; exact h.go k
theorem Lit.read (h : Lit D) (n : Int) : Lit (D.read n).2.2 := by
  unfold Dsk.read
  split
  · exact h.beg 1
  · split <;> exact h.go 1
theorem Lit.write (h : Lit D) (n : Int) (b : List Nat) : Lit (D.write n b).2 := by
  unfold Dsk.write
  split
  · exact h.beg 2
  · split
    · exact h.go 2
    · split
      · exact h.go 2
      · exact h.go 2
theorem Lit.sync (h : Lit D) : Lit D.sync.2 := by
  unfold Dsk.sync
  split
  · exact h.beg 3
  · exact h.go 3
theorem Lit.setFail (h : Lit D) (k n : Int) : Lit (D.setFail k n).2 := by
  unfold Dsk.setFail
  split
  · exact h
  · split <;> exact h
theorem same_setFail (D : Dsk) (k n : Int) : SameD D (D.setFail k n).2 := by
  unfold Dsk.setFail
  split
  · exact ⟨rfl, rfl⟩
  · split <;> exact ⟨rfl, rfl⟩
/-- a read that fails, fails once -/
theorem Lit.read_once (h : Lit D) (n : Nat) (hn : n < D.pages) (he : (D.read (n : Int)).1 ≠ 0) : (D.read (n : Int)).1 = 6 ∧ ((D.read (n : Int)).2.2.read (n : Int)).1 = 0 := by
  have hr : D.read (n : Int) = ((D.begin 1).1, [], (D.begin 1).2) ∧ (D.begin 1).1 ≠ 0 := by
    unfold Dsk.read at he ⊢
    split
    · rename_i h1; exact ⟨rfl, h1⟩
    · rename_i h1
      rw [if_neg h1, if_neg (by omega)] at he
      exact absurd rfl he
  rcases h.begin 1 with e | e
  · rw [hr.1, e.1]
    refine ⟨rfl, ?_⟩
    have hl := h.fall 1
    have hf : (D.fall 1).f 1 = -1 := by unfold Dsk.fall; simp only [turn_same]
    have hp : (D.fall 1).pages = D.pages := rfl
    simp only
    unfold Dsk.read
    rcases hl.begin 1 with e' | e'
    · rw [hf] at e'; exact absurd e'.2 (by omega)
    · rw [e'.1, if_neg (by simp), if_neg (by rw [hp]; omega)]
  · rw [e.1] at hr; exact absurd rfl hr.2
/-- a sync that fails, fails once -/
theorem Lit.sync_once (h : Lit D) (he : D.sync.1 ≠ 0) : D.sync.2.sync.1 = 0 := by
  have hs : D.sync = D.begin 3 := by
    unfold Dsk.sync at he ⊢
    split
    · rfl
    · rename_i h1; rw [if_neg h1] at he; exact absurd rfl he
  rcases h.begin 3 with e | e
  · rw [hs, e.1]
    have hl := h.fall 3
    have hf : (D.fall 3).f 3 = -1 := by unfold Dsk.fall; simp only [turn_same]
    simp only
    unfold Dsk.sync
    rcases hl.begin 3 with e' | e'
    · rw [hf] at e'; exact absurd e'.2 (by omega)
    · rw [e'.1]; simp
  · rw [hs, e.1] at he; exact absurd rfl he
theorem sync_bare (h : D.sync.1 = 0) : D.sync.2.cache = [] := by
  unfold Dsk.sync at h ⊢
  split
  · rename_i h1; rw [if_pos h1] at h; exact absurd h h1
  · rfl
/-- a cut of a disk with nothing under way -/
theorem same_cut (D : Dsk) (h : D.cache = []) (bs : List Bool) : SameD D (D.cut bs) := by
  refine ⟨?_, ?_⟩
  · show settled D.last D.cache _ D.cache.length = D.last
    rw [h, settled_none]
  · rw [h]; rfl
theorem cut_calm (D : Dsk) (bs : List Bool) : (D.cut bs).Calm := ⟨rfl, rfl, fun _ => rfl⟩
end
end Go.Proofs.Ytfbjjblgcgjndaa

/- Openings of arguments: the acts of the disk laws. -/
namespace Go.Proofs.Ytfbjjblgcgjndaa
open Go.ChangeShapes Go.WideShapes Go.ChangeAt Go.RowKit Go.Deep

theorem flat_get {α β : Type} (f : α → List β) (n : Nat) (hf : ∀ x, (f x).length = n) : ∀ (l : List α) (i : Nat) (a : α), l[i]? = some a → ∀ j, j < n → (l.flatMap f)[i * n + j]? = (f a)[j]?
  | [], i, a, h, j, hj => by simp at h
  | x :: l, 0, a, h, j, hj => by
    simp at h; subst h
    rw [List.flatMap_cons, List.getElem?_append_left (by rw [hf]; omega)]
    simp
  | x :: l, i + 1, a, h, j, hj => by
    have := flat_get f n hf l i a (by simpa using h) j hj
    rw [List.flatMap_cons, List.getElem?_append_right (by rw [hf, Nat.succ_mul]; omega), hf, show (i + 1) * n + j - n = i * n + j by rw [Nat.succ_mul]; omega]
    exact this
theorem flat_len {α β : Type} (f : α → List β) (n : Nat) (hf : ∀ x, (f x).length = n) : ∀ (l : List α), (l.flatMap f).length = l.length * n
  | [] => by simp
  | x :: l => by rw [List.flatMap_cons, List.length_append, flat_len f n hf l, hf, List.length_cons, Nat.succ_mul]; omega
section
variable {H : Type} {enc : TypeId × Value → H} {W : World} {r : Reach} {b0 : Nat} {v : Value} {d : DataW H} {p : List MemPlace}
theorem addr_add_plain (a : Addr) (h : a = ⟨a.block, a.off, none⟩) (i : Nat) : a.add i = ⟨a.block, a.off + i, none⟩ := by rw [h, Addr.add_mid]
set_option maxRecDepth 100000 in
/-- a slice whose elements are many cells each -/
theorem open_many {α : Type} {t e : TypeId} {k : Nat} (cells : α → List Value) (q : α → Prop) (ht : Try.prog.underlying t = some (.slice e)) (hk : Try.prog.cellsOf e = k) (hk0 : 0 < k) (hb1 : 1 ≤ Try.prog.bytesOf e) (hcl : ∀ a, (cells a).length = k)
    (hR : ∀ n cs (d : DataW H) pl, DataW.trod enc Try.prog W 0 (fun _ => true) true n e cs = some (d, pl) → (∀ x ∈ d.weights Try.prog e, x ≤ reachBytes) → ∃ a, cs = cells a ∧ q a)
    (hv : Value.okWide Try.prog W r b0 t v) (h : DataW.Trod enc Try.prog W 0 (fun _ => true) true t v d p) (hw : ∀ x ∈ d.weights Try.prog t, x ≤ reachBytes) :
    ∃ (A : Option Addr) (l : List α) (c : Nat), v = .slice A l.length c ∧ At W A (l.flatMap cells) ∧ (∀ a ∈ l, q a) ∧ (A = none → c = 0) ∧ l.length ≤ c ∧ l.length ≤ 140737488351232 := by
  obtain ⟨a, n, c, rfl⟩ := okWide_slice ht hv
  obtain ⟨fuel, hf⟩ := h
  rw [show (Value.slice a n c).cells.toList = [.slice a n c] from rfl] at hf
  rcases Deep.open_slice ht hf with ⟨hcs, _⟩ | ⟨ad, len, cap, m, n', D, Pl, hcs, _, hl, hm, hmm, hx, hcell⟩
  · injection hcs with hv'
    injection hv' with e1 e2 e3
    subst e1 e2 e3
    exact ⟨none, [], 0, rfl, At.nil _ _, fun a ha => by simp at ha, fun _ => rfl, Nat.le_refl _, by simp⟩
  · injection hcs with hv'
    injection hv' with e1 e2 e3
    subst e1 e2 e3
    have hmm' : m = c := by simpa using hmm
    subst hmm'
    injection hx with hd _
    rw [hk] at hcell
    have hel : ∀ i, i < n → ∃ x, q x ∧ W.cells? 0 (ad.add (i * k)) k = some (cells x) := fun i hi => by
      obtain ⟨cs, h1, h2⟩ := hcell i (by omega)
      obtain ⟨x, rfl, hq⟩ := hR n' cs (D i) (Pl i) h2 (fun y hy => hw y (by
        rw [hd]
        exact weights_elem ht (.inl (List.mem_map.2 ⟨i, List.mem_range.2 hi, rfl⟩)) y hy))
      exact ⟨x, hq, h1⟩
    have hall : ∀ j, j ≤ n → ∃ l : List α, l.length = j ∧ (∀ a ∈ l, q a) ∧ ∀ i a, l[i]? = some a → W.cells? 0 (ad.add (i * k)) k = some (cells a) := by
      intro j
      induction j with
      | zero => exact fun _ => ⟨[], rfl, fun a ha => by simp at ha, fun i a ha => by simp at ha⟩
      | succ j ih =>
        intro hj
        obtain ⟨l, h1, h2, h3⟩ := ih (by omega)
        obtain ⟨x, hx1, hx2⟩ := hel j (by omega)
        refine ⟨l ++ [x], by simp [h1], fun a ha => ?_, fun i a ha => ?_⟩
        · rcases List.mem_append.1 ha with ha | ha
          · exact h2 a ha
          · rw [List.mem_singleton.1 ha]; exact hx1
        · by_cases hi : i < l.length
          · rw [List.getElem?_append_left hi] at ha
            exact h3 i a ha
          · have hil := (List.getElem?_eq_some_iff.1 ha).1
            simp at hil
            obtain rfl : i = l.length := by omega
            simp at ha
            subst ha
            rw [h1]; exact hx2
    obtain ⟨l, rfl, h2, h3⟩ := hall n (Nat.le_refl _)
    refine ⟨some ad, l, m, rfl, ?_, h2, fun e => (by cases e), hl, ?_⟩
    · intro hne
      have hl0 : 0 < l.length := by
        rcases Nat.eq_zero_or_pos l.length with h | h
        · rw [List.eq_nil_of_length_eq_zero h] at hne; simp at hne
        · exact h
      obtain ⟨_, _, hc0⟩ := World.cells?_some (h3 0 l[0] (List.getElem?_eq_getElem hl0))
      have hc00 := hc0 0 hk0
      have hcc : (cells l[0])[0]? = some ((cells l[0])[0]'(by rw [hcl]; exact hk0)) := List.getElem?_eq_getElem (by rw [hcl]; exact hk0)
      rw [hcc, Nat.zero_mul] at hc00
      have ha : ad = ⟨ad.block, ad.off, none⟩ := by
        refine addr_plain (w := W) (v := (cells l[0])[0]'(by rw [hcl]; exact hk0)) ?_
        have : (ad.add 0).add 0 = ad := by simp [Addr.add]
        rw [this] at hc00; exact hc00
      refine ⟨ad.block, ad.off, by rw [← ha], fun j u hu => ?_⟩
      have hj : j < (l.flatMap cells).length := (List.getElem?_eq_some_iff.1 hu).1
      have hlen : (l.flatMap cells).length = l.length * k := flat_len cells k hcl l
      rw [hlen] at hj
      have hi : j / k < l.length := (Nat.div_lt_iff_lt_mul hk0).2 hj
      have hjk : j % k < k := Nat.mod_lt _ hk0
      have hdm : j / k * k + j % k = j := by rw [Nat.mul_comm]; exact Nat.div_add_mod j k
      obtain ⟨_, _, hce⟩ := World.cells?_some (h3 (j / k) l[j / k] (List.getElem?_eq_getElem hi))
      have := hce (j % k) hjk
      rw [addr_add_plain ad ha, Addr.add_mid, show ad.off + j / k * k + j % k = ad.off + j by omega] at this
      rw [this, ← flat_get cells k hcl l (j / k) _ (List.getElem?_eq_getElem hi) (j % k) hjk, hdm]
      exact hu
    · have := hw (m * Try.prog.bytesOf e) (by
        rw [hd]
        simp only [DataW.weights, ht, List.length_map, List.length_range]
        refine List.mem_cons.2 (.inl ?_)
        rw [show l.length + (m - l.length) = m from by omega])
      rw [reach_num] at this
      exact Nat.le_trans hl (Nat.le_trans (Nat.le_mul_of_pos_right m hb1) this)
end

/-- an act -/
structure ActD where
  kind : Nat
  num : Int
  of_ : Int
  data : Inner
  keep : Lies Bool
def ActD.cells (a : ActD) : List Value := [.int .u8 (a.kind : Int), .int .i64 a.num, .int .i64 a.of_, a.data.val, a.keep.val]
structure ActD.Ok (W : World) (a : ActD) : Prop where
  kind : a.kind < 256
  num : -9223372036854775808 ≤ a.num ∧ a.num ≤ 9223372036854775807
  of_ : -9223372036854775808 ≤ a.of_ ∧ a.of_ ≤ 9223372036854775807
  data : a.data.Ok W
  keep : BoolsOk W a.keep
theorem ActD.Ok.below {w w' : World} {a : ActD} (h : a.Ok w) (hb : Below w.heap.size w w') : a.Ok w' := ⟨h.kind, h.num, h.of_, h.data.below hb, h.keep.below hb⟩
/-- acts that lie in memory -/
structure Acts where
  A : Option Addr
  l : List ActD
  c : Nat
def Acts.val (s : Acts) : Value := .slice s.A s.l.length s.c
structure Acts.Ok (W : World) (s : Acts) : Prop where
  lies : At W s.A (s.l.flatMap ActD.cells)
  all : ∀ a ∈ s.l, a.Ok W
  nil : s.A = none → s.c = 0
  le : s.l.length ≤ s.c
  small : s.l.length ≤ 140737488351232
theorem act_cell {w : World} {A : Option Addr} {l : List ActD} (h : At w A (l.flatMap ActD.cells)) (i : Nat) (a : ActD) (ha : l[i]? = some a) : ∃ b o, A = some ⟨b, o, none⟩ ∧ ∀ j, j < 5 → w.cell? ⟨b, o + i * 5 + j, none⟩ = a.cells[j]? := by
  have hg := flat_get ActD.cells 5 (fun _ => rfl) l i a ha
  obtain ⟨b, o, e, hr⟩ := h (by
    intro e
    have := hg 0 (by omega)
    rw [e] at this; simp [ActD.cells] at this)
  refine ⟨b, o, e, fun j hj => ?_⟩
  have h5 : a.cells[j]? = some (a.cells[j]'hj) := List.getElem?_eq_getElem (show j < a.cells.length from hj)
  rw [Nat.add_assoc, h5]
  exact hr _ _ (by rw [hg j hj]; exact h5)
section
variable {H : Type} {enc : TypeId × Value → H} {W : World} {r : Reach} {b0 : Nat} {v : Value} {d : DataW H} {p : List MemPlace}
theorem Try.cells109 : Try.prog.cellsOf 109 = 5 := by kernel_rfl
theorem Try.bytes109' : Try.prog.bytesOf 109 = 72 := by kernel_rfl
theorem Try.cells5' : Try.prog.cellsOf 5 = 1 := by kernel_rfl
theorem Try.cells3' : Try.prog.cellsOf 3 = 1 := by kernel_rfl
theorem Try.cells23' : Try.prog.cellsOf 23 = 1 := by kernel_rfl
theorem Try.cells73' : Try.prog.cellsOf 73 = 1 := by kernel_rfl
set_option maxRecDepth 100000 in
theorem lies_of {α : Type} {t e : TypeId} (f : α → Value) (q : α → Prop) (ht : Try.prog.underlying t = some (.slice e)) (hc : Try.prog.cellsOf e = 1) (hb1 : 1 ≤ Try.prog.bytesOf e)
    (hR : ∀ n v (d : DataW H) pl, DataW.trod enc Try.prog W 0 (fun _ => true) true n e [v] = some (d, pl) → ∃ a, v = f a ∧ q a)
    {n : Nat} (h : DataW.trod enc Try.prog W 0 (fun _ => true) true n t [v] = some (d, p)) (hw : ∀ x ∈ d.weights Try.prog t, x ≤ reachBytes) :
    ∃ s : Lies α, v = s.val ∧ s.Ok f q W := by
  have hsl : v.cells.toList = [v] := by
    rcases DataW.trod_slice ht h with ⟨hcs, _⟩ | ⟨a, len, cap, elems, rest, n', _, hcs, _⟩
    · injection hcs with h1; rw [h1]; rfl
    · injection hcs with h1; rw [h1]; rfl
  obtain ⟨A, c, vs, hvs, hA, hR', hn, hl, hb⟩ := open_one ht hc ⟨n, by rw [hsl]; exact h⟩ hsl hw (fun v => ∃ a, v = f a ∧ q a) (fun n v d pl h _ => hR n v d pl h)
  obtain ⟨l, rfl, hq⟩ := map_all vs hR'
  subst hvs
  rw [List.length_map] at hl
  refine ⟨⟨A, l, c⟩, by simp [Lies.val], hA, hn, hl, ?_, hq⟩
  have := Nat.le_trans (Nat.le_mul_of_pos_right c hb1) hb
  rw [reach_num] at this
  exact Nat.le_trans hl this
set_option maxRecDepth 100000 in
theorem bools_of {n : Nat} (h : DataW.trod enc Try.prog W 0 (fun _ => true) true n 73 [v] = some (d, p)) (hw : ∀ x ∈ d.weights Try.prog 73, x ≤ reachBytes) : ∃ s : Lies Bool, v = s.val ∧ BoolsOk W s := by
  refine lies_of Value.bool (fun _ => True) Try.underlying73 Try.cells4' (by rw [Try.bytes4']; omega) ?_ h hw
  intro n u y pl hu
  obtain ⟨b, h1, h2⟩ := DataW.trod_bool Try.underlying4 hu
  exact ⟨b, by simpa using h1, trivial⟩
set_option maxRecDepth 100000 in
theorem i64_of {n : Nat} (h : DataW.trod enc Try.prog W 0 (fun _ => true) true n 3 [v] = some (d, p)) : ∃ x : Int, v = .int .i64 x ∧ -9223372036854775808 ≤ x ∧ x ≤ 9223372036854775807 := by
  obtain ⟨a, h1, _, w⟩ := DataW.trod_int Try.underlying3 h
  injection h1 with h1
  exact ⟨a, h1, wf_i64 w⟩
set_option maxRecDepth 100000 in
theorem u8_of {n : Nat} (h : DataW.trod enc Try.prog W 0 (fun _ => true) true n 5 [v] = some (d, p)) : ∃ x : Nat, v = .int .u8 (x : Int) ∧ x < 256 := by
  obtain ⟨a, h1, _, w⟩ := DataW.trod_int Try.underlying5 h
  injection h1 with h1
  obtain ⟨l1, l2⟩ := wf_u8 w
  obtain ⟨m, rfl⟩ := Int.eq_ofNat_of_zero_le l1
  exact ⟨m, h1, by omega⟩
set_option maxRecDepth 100000 in
theorem act_of {n : Nat} {cs : List Value} (h : DataW.trod enc Try.prog W 0 (fun _ => true) true n 109 cs = some (d, p)) (hw : ∀ x ∈ d.weights Try.prog 109, x ≤ reachBytes) : ∃ a : ActD, cs = a.cells ∧ a.Ok W := by
  obtain ⟨xs, n', _, hx, hlen, hsz, hg⟩ := DataW.trod_struct Try.underlying109 h
  rw [Try.cells109] at hlen
  match cs, hlen with
  | [c0, c1, c2, c3, c4], _ =>
    match xs, hsz with
    | [y0, y1, y2, y3, y4], _ =>
      have g0 := hg 0 _ rfl
      have g1 := hg 1 _ rfl
      have g2 := hg 2 _ rfl
      have g3 := hg 3 _ rfl
      have g4 := hg 4 _ rfl
      simp only [Try.cells5', Try.cells3', Try.cells23', Try.cells73', List.drop_succ_cons, List.drop_zero, List.take_succ_cons, List.take_zero, List.getElem?_cons_zero, List.getElem?_cons_succ] at g0 g1 g2 g3 g4
      injection hx with hd _
      have hww : ∀ t (y : DataW H), (t, y) ∈ [(5, y0.1), (3, y1.1), (3, y2.1), (23, y3.1), (73, y4.1)] → ∀ x ∈ y.weights Try.prog t, x ≤ reachBytes := by
        intro t y hy x hx
        refine hw x ?_
        rw [hd]
        simp only [DataW.weights, Try.underlying109, List.map_cons, List.map_nil, DataW.weightsEach, List.mem_append]
        simp only [List.mem_cons, Prod.mk.injEq, List.not_mem_nil, or_false] at hy
        rcases hy with ⟨rfl, rfl⟩ | ⟨rfl, rfl⟩ | ⟨rfl, rfl⟩ | ⟨rfl, rfl⟩ | ⟨rfl, rfl⟩ <;> simp [hx]
      obtain ⟨x0, rfl, b0⟩ := u8_of g0
      obtain ⟨x1, rfl, b1⟩ := i64_of g1
      obtain ⟨x2, rfl, b2⟩ := i64_of g2
      obtain ⟨x3, rfl, b3⟩ := open_inner g3 (hww 23 y3.1 (by simp))
      obtain ⟨x4, rfl, b4⟩ := bools_of g4 (hww 73 y4.1 (by simp))
      exact ⟨⟨x0, x1, x2, x3, x4⟩, rfl, b0, b1, b2, b3, b4⟩
set_option maxRecDepth 100000 in
theorem open_acts {r : Reach} {b0 : Nat} (hv : Value.okWide Try.prog W r b0 96 v) (h : DataW.Trod enc Try.prog W 0 (fun _ => true) true 96 v d p) (hw : ∀ x ∈ d.weights Try.prog 96, x ≤ reachBytes) : ∃ s : Acts, v = s.val ∧ s.Ok W := by
  obtain ⟨A, l, c, rfl, h1, h2, h3, h4, h5⟩ := open_many (k := 5) ActD.cells (ActD.Ok W) Try.underlying96 Try.cells109 (by omega) (by rw [Try.bytes109']; omega) (fun _ => rfl) (fun n cs d pl h hw => act_of h hw) hv h hw
  exact ⟨⟨A, l, c⟩, rfl, h1, h2, h3, h4, h5⟩
end
end Go.Proofs.Ytfbjjblgcgjndaa

/- Openings of arguments: the acts of the pool laws; much of them. -/
namespace Go.Proofs.Ytfbjjblgcgjndaa
open Go.ChangeShapes Go.WideShapes Go.ChangeAt Go.RowKit Go.Deep

/-- an act of the pool laws -/
structure PActD where
  kind : Nat
  num : Nat
  of_ : Nat
  n : Int
  data : Inner
  keep : Lies Bool
def PActD.cells (a : PActD) : List Value := [.int .u8 (a.kind : Int), .int .u32 (a.num : Int), .int .u8 (a.of_ : Int), .int .i64 a.n, a.data.val, a.keep.val]
structure PActD.Ok (W : World) (a : PActD) : Prop where
  kind : a.kind < 256
  num : a.num < 4294967296
  of_ : a.of_ < 256
  n : -9223372036854775808 ≤ a.n ∧ a.n ≤ 9223372036854775807
  data : a.data.Ok W
  keep : BoolsOk W a.keep
theorem PActD.Ok.below {w w' : World} {a : PActD} (h : a.Ok w) (hb : Below w.heap.size w w') : a.Ok w' := ⟨h.kind, h.num, h.of_, h.n, h.data.below hb, h.keep.below hb⟩
structure PActs where
  A : Option Addr
  l : List PActD
  c : Nat
def PActs.val (s : PActs) : Value := .slice s.A s.l.length s.c
structure PActs.Ok (W : World) (s : PActs) : Prop where
  lies : At W s.A (s.l.flatMap PActD.cells)
  all : ∀ a ∈ s.l, a.Ok W
  nil : s.A = none → s.c = 0
  le : s.l.length ≤ s.c
  small : s.l.length ≤ 140737488351232
theorem PActs.Ok.below {w w' : World} {s : PActs} (h : s.Ok w) (hb : Below w.heap.size w w') : s.Ok w' := ⟨h.lies.below hb, fun a ha => (h.all a ha).below hb, h.nil, h.le, h.small⟩
theorem pact_cell {w : World} {A : Option Addr} {l : List PActD} (h : At w A (l.flatMap PActD.cells)) (i : Nat) (a : PActD) (ha : l[i]? = some a) : ∃ b o, A = some ⟨b, o, none⟩ ∧ ∀ j, j < 6 → w.cell? ⟨b, o + i * 6 + j, none⟩ = a.cells[j]? := by
  have hg := flat_get PActD.cells 6 (fun _ => rfl) l i a ha
  obtain ⟨b, o, e, hr⟩ := h (by
    intro e
    have := hg 0 (by omega)
    rw [e] at this; simp [PActD.cells] at this)
  refine ⟨b, o, e, fun j hj => ?_⟩
  have h5 : a.cells[j]? = some (a.cells[j]'hj) := List.getElem?_eq_getElem (show j < a.cells.length from hj)
  rw [Nat.add_assoc, h5]
  exact hr _ _ (by rw [hg j hj]; exact h5)
section
variable {H : Type} {enc : TypeId × Value → H} {W : World} {r : Reach} {b0 : Nat} {v : Value} {d : DataW H} {p : List MemPlace}
theorem Try.cells138 : Try.prog.cellsOf 138 = 6 := by kernel_rfl
theorem Try.bytes138 : 1 ≤ Try.prog.bytesOf 138 := of_decide_eq_true (by kernel_rfl)
set_option maxRecDepth 100000 in
theorem u32_of {n : Nat} (h : DataW.trod enc Try.prog W 0 (fun _ => true) true n 22 [v] = some (d, p)) : ∃ x : Nat, v = .int .u32 (x : Int) ∧ x < 4294967296 := by
  obtain ⟨a, h1, _, w⟩ := DataW.trod_int Try.underlying22 h
  injection h1 with h1
  obtain ⟨l1, l2⟩ := wf_u32 w
  obtain ⟨m, rfl⟩ := Int.eq_ofNat_of_zero_le l1
  exact ⟨m, h1, by omega⟩
set_option maxRecDepth 100000 in
theorem pact_of {n : Nat} {cs : List Value} (h : DataW.trod enc Try.prog W 0 (fun _ => true) true n 138 cs = some (d, p)) (hw : ∀ x ∈ d.weights Try.prog 138, x ≤ reachBytes) : ∃ a : PActD, cs = a.cells ∧ a.Ok W := by
  obtain ⟨xs, n', _, hx, hlen, hsz, hg⟩ := DataW.trod_struct Try.underlying138 h
  rw [Try.cells138] at hlen
  match cs, hlen with
  | [c0, c1, c2, c3, c4, c5], _ =>
    match xs, hsz with
    | [y0, y1, y2, y3, y4, y5], _ =>
      have g0 := hg 0 _ rfl
      have g1 := hg 1 _ rfl
      have g2 := hg 2 _ rfl
      have g3 := hg 3 _ rfl
      have g4 := hg 4 _ rfl
      have g5 := hg 5 _ rfl
      simp only [Try.cells5', Try.cells22', Try.cells3', Try.cells23', Try.cells73', List.drop_succ_cons, List.drop_zero, List.take_succ_cons, List.take_zero, List.getElem?_cons_zero, List.getElem?_cons_succ] at g0 g1 g2 g3 g4 g5
      injection hx with hd _
      have hww : ∀ t (y : DataW H), (t, y) ∈ [(5, y0.1), (22, y1.1), (5, y2.1), (3, y3.1), (23, y4.1), (73, y5.1)] → ∀ x ∈ y.weights Try.prog t, x ≤ reachBytes := by
        intro t y hy x hx
        refine hw x ?_
        rw [hd]
        simp only [DataW.weights, Try.underlying138, List.map_cons, List.map_nil, DataW.weightsEach, List.mem_append]
        simp only [List.mem_cons, Prod.mk.injEq, List.not_mem_nil, or_false] at hy
        rcases hy with ⟨rfl, rfl⟩ | ⟨rfl, rfl⟩ | ⟨rfl, rfl⟩ | ⟨rfl, rfl⟩ | ⟨rfl, rfl⟩ | ⟨rfl, rfl⟩ <;> simp [hx]
      obtain ⟨x0, rfl, b0⟩ := u8_of g0
      obtain ⟨x1, rfl, b1⟩ := u32_of g1
      obtain ⟨x2, rfl, b2⟩ := u8_of g2
      obtain ⟨x3, rfl, b3⟩ := i64_of g3
      obtain ⟨x4, rfl, b4⟩ := open_inner g4 (hww 23 y4.1 (by simp))
      obtain ⟨x5, rfl, b5⟩ := bools_of g5 (hww 73 y5.1 (by simp))
      exact ⟨⟨x0, x1, x2, x3, x4, x5⟩, rfl, b0, b1, b2, b3, b4, b5⟩
set_option maxRecDepth 100000 in
theorem open_pacts {r : Reach} {b0 : Nat} (hv : Value.okWide Try.prog W r b0 135 v) (h : DataW.Trod enc Try.prog W 0 (fun _ => true) true 135 v d p) (hw : ∀ x ∈ d.weights Try.prog 135, x ≤ reachBytes) : ∃ s : PActs, v = s.val ∧ s.Ok W := by
  obtain ⟨A, l, c, rfl, h1, h2, h3, h4, h5⟩ := open_many (k := 6) PActD.cells (PActD.Ok W) Try.underlying135 Try.cells138 (by omega) Try.bytes138 (fun _ => rfl) (fun n cs d pl h hw => pact_of h hw) hv h hw
  exact ⟨⟨A, l, c⟩, rfl, h1, h2, h3, h4, h5⟩
end
/-- where the acts are not many -/
def PSmall (l : List PActD) : Prop := l.length ≤ 200 ∧ ∀ a ∈ l, a.data.l.length ≤ 200000
def PMuch (l : List PActD) (w : World) (e : Ending) (w' : World) : Prop := ∃ b, e = .returned (.bool b) ∧ (b = false → PSmall l) ∧ Below w.heap.size w w'
def PSum (l : List PActD) (k m : Nat) : Prop := ∀ i a, i < k → l[i]? = some a → a.data.l.length ≤ m
theorem PSum.zero (l : List PActD) (m : Nat) : PSum l 0 m := fun i a hi => by omega
theorem PSum.succ {l : List PActD} {k m m' x : Nat} {a : PActD} (h : PSum l k m) (ha : l[k]? = some a) (hx : x = a.data.l.length) (h1 : m ≤ m') (h2 : x ≤ m') : PSum l (k + 1) m' := fun i a' hi ha' => by
  by_cases e : i = k
  · subst e
    rw [ha] at ha'
    cases ha'
    omega
  · have := h i a' (by omega) ha'
    omega
theorem PSum.all {l : List PActD} {m : Nat} (h : PSum l l.length m) (hm : m ≤ 200000) : ∀ a ∈ l, a.data.l.length ≤ 200000 := fun a ha => by
  obtain ⟨i, hi, e⟩ := List.getElem_of_mem ha
  have := h i a hi (by rw [List.getElem?_eq_getElem hi, e])
  omega
theorem pact_mem {l : List PActD} {k : Nat} (h : k < l.length) : ∃ a, l[k]? = some a ∧ a ∈ l := ⟨l[k], List.getElem?_eq_getElem h, List.getElem_mem _⟩
set_option maxRecDepth 100000 in
set_option maxHeartbeats 1000000 in
theorem much10_any (s : PActs) (w : World) (hs : s.Ok w) : Calls Try.prog 84 #[.slice s.A s.l.length s.c] w (PMuch s.l w) := by
  obtain ⟨A, l, c⟩ := s
  have hsm := hs.small
  simp only at hsm ⊢
  have HAT := Lib.hid hs.lies
  have HAL := Lib.hid hs.all
  clear hs
  go_enter Try.func84, Try.ntmps84
  go_wp2_with fail
  go_loopw [3, 4] (fun n i wr => ∃ k : Nat, k ≤ l.length ∧ i = .int .i64 k ∧ (∃ m : Nat, n = .int .i64 (m : Int) ∧ m ≤ 1000000000000000 ∧ PSum l k m) ∧ Below w.heap.size w wr) (fun _ i _ => l.length - (intOf i).toNat)
  case atStart => exact ⟨0, by omega, rfl, ⟨l.length, rfl, by omega, PSum.zero l _⟩, Below.refl _ _⟩
  case round =>
    obtain ⟨k, hk, rfl, ⟨m, rfl, hm, hso⟩, hb⟩ := hrel
    by_cases hlt : k < l.length ∧ m ≤ 200000
    · obtain ⟨h1, h2⟩ := hlt
      obtain ⟨a, ha, hmem⟩ := pact_mem h1
      have hok := HAL.out a hmem
      obtain ⟨b, o, rfl, hcell⟩ := pact_cell (HAT.out.below hb) k a ha
      have c4 : wr.cell? ⟨b, o + k * 6 + 4, none⟩ = some (.slice a.data.A a.data.l.length a.data.c) := hcell 4 (by omega)
      have c5 : wr.cell? ⟨b, o + k * 6 + 5, none⟩ = some (.slice a.keep.A a.keep.l.length a.keep.c) := hcell 5 (by omega)
      have d1 := hok.data.small
      have d2 := hok.keep.small
      obtain ⟨x, hx⟩ : ∃ x, x = a.data.l.length := ⟨_, rfl⟩
      obtain ⟨y, hy⟩ : ∃ y, y = a.keep.l.length := ⟨_, rfl⟩
      have HSO := Lib.hid (fun (m' : Nat) (h1 : m ≤ m') (h2 : x ≤ m') => hso.succ ha hx h1 h2)
      clear hso
      rw [← hx] at c4 d1
      rw [← hy] at c5 d2
      have h3 : (k : Int) < (l.length : Int) := by omega
      have h4 : (m : Int) ≤ 200000 := by omega
      have e1 : IntKind.i64.wrap ((x : Int) + (y : Int)) = (x : Int) + (y : Int) := by rw [IntKind.wrap_i64]; omega
      have e3 : IntKind.i64.wrap ((m : Int) + ((x : Int) + (y : Int))) = (m : Int) + ((x : Int) + (y : Int)) := by rw [IntKind.wrap_i64]; omega
      have HB := Lib.hid hb
      clear hb hcell hok ha hmem hx hy
      go_wp2_with fail
      go_quiet (fail)
      go_wp2_with fail
      case roundEnd => exact ⟨⟨k + 1, by omega, by go_num, ⟨m + (x + y), by push_cast; rfl, by omega, HSO.out _ (by omega) (by omega)⟩, below_drewN HB.out _⟩, by simp only [intOf]; omega⟩
    · have hfin : ¬ (200000 < m) → ∀ a ∈ l, a.data.l.length ≤ 200000 := fun h => by
        obtain rfl : k = l.length := by omega
        exact hso.all (by omega)
      have HF := Lib.hid hfin
      clear hfin hso
      by_cases hm2 : m ≤ 200000
      · have h6 : ¬ (200000 : Int) < (m : Int) := by omega
        have h7 : (m : Int) ≤ 200000 := by omega
        have h8 : ¬ (k : Int) < (l.length : Int) := by omega
        go_wp2_with fail
        go_ret
        exact ⟨_, rfl, fun h => ⟨by have := of_decide_eq_false h; omega, HF.out (by omega)⟩, hb⟩
      · have h6 : (200000 : Int) < (m : Int) := by omega
        have h7 : ¬ (m : Int) ≤ 200000 := by omega
        go_wp2_with fail
        all_goals
          go_ret
          exact ⟨_, rfl, fun h => (by cases h), hb⟩
end Go.Proofs.Ytfbjjblgcgjndaa

/- Two pools of different sizes over calm disks: what each call gives. -/
namespace Go.Proofs.Ytfbjjblgcgjndaa
open Go.RowKit

/-- what a read tells of N pages -/
def told (N : Nat) (C : Nat → Option (Nat × List Nat)) (n : Nat) : Nat × List Nat × Nat :=
  if N ≤ n then (0, [], 2) else match C n with
    | some x => (x.1, x.2, 0)
    | none => (0, [], 100)
theorem told_tells (D : Dsk) (C : Nat → Option (Nat × List Nat)) (n : Nat) : tells D C n = told D.pages C n := rfl
def werr (N n k : Nat) (p : List Nat) : Nat := if SealOk k p then (if N ≤ n then 2 else 0) else 80
def wturn (N : Nat) (C : Nat → Option (Nat × List Nat)) (n k : Nat) (p : List Nat) : Nat → Option (Nat × List Nat) := if werr N n k p = 0 then turn C n (some (k, p)) else C
theorem told_small {m j N : Nat} {D : Dsk} {L : List Hand} {C : Nat → Option (Nat × List Nat)} (h : Even m j N D L C) (n : Nat) : (told N C n).2.1.length ≤ 1008 := by
  unfold told
  split
  · simp
  · rename_i hn
    have := h.coh.page n (by rw [h.pages]; omega)
    cases hc : C n with
    | none => simp
    | some x => rw [hc] at this; exact this.2.2.2
def bcell (a : PActD) : Nat → Value
  | 0 => .int .u8 (a.kind : Int)
  | 1 => .int .u32 (a.num : Int)
  | 2 => .int .u8 (a.of_ : Int)
  | 3 => .int .i64 a.n
  | 4 => .slice a.data.A a.data.l.length a.data.c
  | _ => .slice a.keep.A a.keep.l.length a.keep.c
def PActAt (w : World) (q : Nat) (a : PActD) : Prop := RecAt w q 138 6 (bcell a)
theorem PActAt.chg {w w' : World} {q : Nat} {a : PActD} {G : Nat → Prop} (h : PActAt w q a) (hc : Chg G w w') (hq : ¬ G q) : PActAt w' q a := RecAt.keep h hc hq
theorem PActAt.below {w w' : World} {q : Nat} {a : PActD} (h : PActAt w q a) (hb : Below w.heap.size w w') : PActAt w' q a := RecAt.keep (G := fun _ => False) h (.of_below hb) (fun e => e)
theorem PActAt.step {n0 : Nat} {X : Nat → Prop} {w w' : World} {q : Nat} {a : PActD} (h : PActAt w q a) (hs : Step n0 X w w') (hq : X q) : PActAt w' q a := RecAt.keep h hs.1 (fun e => e hq)
/-- the act is boxed -/
theorem pact_box (w : World) (a : PActD) (w1 : World) (hw : w1 = w.alloc (.cells #[.int .u8 (a.kind : Int), .int .u32 (a.num : Int), .int .u8 (a.of_ : Int), .int .i64 a.n, .slice a.data.A a.data.l.length a.data.c, .slice a.keep.A a.keep.l.length a.keep.c] 138)) :
    PActAt w1 w.heap.size a ∧ Below w.heap.size w w1 ∧ w1.heap.size = w.heap.size + 1 := by
  refine ⟨RecAt.of (by rw [hw]; exact heap_alloc_new w _) (by simp [lst, bcell, List.range_succ]), by rw [hw]; exact below_alloc0 (Below.refl _ _) _, by rw [hw]; simp⟩
section
variable {n0 : Nat} {w : World} {P1 d1 m1 : Nat} {D1 : Dsk} {L1 : List Hand} {c1 : Nat} {P2 d2 m2 : Nat} {D2 : Dsk} {L2 : List Hand} {c2 : Nat} {X : Nat → Prop} {C : Nat → Option (Nat × List Nat)} {N j : Nat}
def EvRead (n0 : Nat) (w : World) (P1 d1 m1 c1 P2 d2 m2 : Nat) (D2 : Dsk) (L2 : List Hand) (c2 : Nat) (X : Nat → Prop) (j N : Nat) (C : Nat → Option (Nat × List Nat)) (tk : Nat) (tp : List Nat) (te : Nat) (e : Ending) (w' : World) : Prop :=
  ∃ A cap D' L', e = .returned (.tuple #[.int .u8 (tk : Nat), .slice A tp.length cap, .int .u16 (te : Nat)]) ∧ Buf w.heap.size w' (.slice A tp.length cap) tp ∧ Even m1 (j + 1) N D' L' C ∧ Two n0 w' P1 d1 m1 D' L' (c1 + 1) P2 d2 m2 D2 L2 c2 (fun g => X g ∨ blk (.slice A tp.length cap) g) ∧ Step n0 X w w'
theorem ev_read (h : Two n0 w P1 d1 m1 D1 L1 c1 P2 d2 m2 D2 L2 c2 X) (he : Even m1 j N D1 L1 C) (n : Nat) (hn : n < 4294967296) (tk : Nat) (tp : List Nat) (te : Nat) (ht : told N C n = (tk, tp, te)) (hj : j ≤ 10000000) (hm : m1 ≤ 256) (hcc : c1 ≤ 100000000) :
    Calls Try.prog 81 #[.pointer (some ⟨P1, 0, none⟩), .int .u32 (n : Int)] w (EvRead n0 w P1 d1 m1 c1 P2 d2 m2 D2 L2 c2 X j N C tk tp te) := by
  refine (two_read h n hn he.small hj (by omega) hcc).mono ?_
  obtain ⟨a, b⟩ := he.read n
  rw [told_tells, he.pages, ht] at b
  generalize plRead m1 D1 L1 n = r at *
  obtain ⟨rk, rp, re, rD, rL⟩ := r
  simp only [Prod.mk.injEq] at b
  obtain ⟨rfl, rfl, rfl⟩ := b
  rintro e w' ⟨A, cap, rfl, hb, hx, hs'⟩
  exact ⟨A, cap, rD, rL, rfl, hb, a, hx, hs'⟩
def EvDo (n0 : Nat) (w : World) (P1 d1 m1 c1 P2 d2 m2 : Nat) (D2 : Dsk) (L2 : List Hand) (c2 : Nat) (X : Nat → Prop) (j N : Nat) (C : Nat → Option (Nat × List Nat)) (r : Value) (e : Ending) (w' : World) : Prop :=
  ∃ D' L', e = .returned r ∧ Even m1 (j + 1) N D' L' C ∧ Two n0 w' P1 d1 m1 D' L' (c1 + 1) P2 d2 m2 D2 L2 c2 X ∧ Step n0 X w w'
theorem ev_write (h : Two n0 w P1 d1 m1 D1 L1 c1 P2 d2 m2 D2 L2 c2 X) (he : Even m1 j N D1 L1 C) (n k : Nat) (hn : n < 4294967296) (hk : k < 256) (s : Inner) (hok : ∀ w', Below n0 w w' → s.Ok w') (hj : j ≤ 10000000) (hm : m1 ≤ 256) (hcc : c1 ≤ 100000000) :
    Calls Try.prog 80 #[.pointer (some ⟨P1, 0, none⟩), .int .u32 (n : Int), .int .u8 (k : Int), .slice s.A s.l.length s.c] w (EvDo n0 w P1 d1 m1 c1 P2 d2 m2 D2 L2 c2 X j N (wturn N C n k s.l) (.int .u16 (werr N n k s.l : Nat))) := by
  refine (two_write h n k hn hk s hok he.small hj (by omega) hcc).mono ?_
  obtain ⟨a, b⟩ := he.write n k s.l
  rw [b]
  rintro e w' ⟨rfl, hx, hs'⟩
  exact ⟨_, _, rfl, a, hx, hs'⟩
theorem ev_forget (h : Two n0 w P1 d1 m1 D1 L1 c1 P2 d2 m2 D2 L2 c2 X) (he : Even m1 j N D1 L1 C) (n : Nat) (hn : n < 4294967296) :
    Calls Try.prog 85 #[.pointer (some ⟨P1, 0, none⟩), .int .u32 (n : Int)] w (EvDo n0 w P1 d1 m1 c1 P2 d2 m2 D2 L2 c2 X j N C (.tuple #[])) := by
  refine (two_forget h n hn).mono ?_
  rintro e w' ⟨rfl, hx, hs'⟩
  exact ⟨_, _, rfl, (he.forget n).mono (by omega), hx.moreC (by omega) (Nat.le_refl _), hs'⟩
theorem ev_sync (h : Two n0 w P1 d1 m1 D1 L1 c1 P2 d2 m2 D2 L2 c2 X) (he : Even m1 j N D1 L1 C) (hj : j ≤ 10000000) :
    Calls Try.prog 86 #[.pointer (some ⟨P1, 0, none⟩)] w (EvDo n0 w P1 d1 m1 c1 P2 d2 m2 D2 L2 c2 X j N C (.int .u16 (0 : Nat))) := by
  obtain ⟨a, b⟩ := he.sync
  refine (two_sync h he.small hj).mono ?_
  rw [b]
  rintro e w' ⟨rfl, hx, hs'⟩
  exact ⟨_, _, rfl, a, hx.moreC (by omega) (Nat.le_refl _), hs'⟩
end
end Go.Proofs.Ytfbjjblgcgjndaa

/- PoolLast: contracts over a disk that may fail, and what the law keeps. -/
namespace Go.Proofs.Ytfbjjblgcgjndaa
open Go.RowKit

structure LastIn (most j : Nat) (D : Dsk) (L : List Hand) (C : Nat → Option (Nat × List Nat)) : Prop where
  coh : Coh most D L C
  lit : Lit D
  small : Small D j
  pages : D.pages = 6
  one : 1 ≤ most
section
variable {most j : Nat} {D : Dsk} {L : List Hand} {C : Nat → Option (Nat × List Nat)}
theorem LastIn.mono {j' : Nat} (h : LastIn most j D L C) (hj : j ≤ j') : LastIn most j' D L C := ⟨h.coh, h.lit, h.small.mono hj, h.pages, h.one⟩
theorem lit_rd (h : Lit D) (n : Nat) : Lit (plRead most D L n).D := by
  unfold plRead
  split
  · exact h
  · split
    · exact h
    · split
      · exact h.read _
      · split <;> exact h.read _
theorem lit_wr (h : Lit D) (n k : Nat) (p : List Nat) : Lit (plWrite most D L n k p).D := by
  unfold plWrite
  split
  · split
    · exact h
    · split <;> exact h.write _ _
  · exact h
theorem LastIn.read (h : LastIn most j D L C) (n : Nat) (hn : n < 6) : LastIn most (j + 1) (plRead most D L n).D (plRead most D L n).L C ∧
    (((plRead most D L n).kind, (plRead most D L n).pay, (plRead most D L n).err) = told 6 C n ∨ ((plRead most D L n).kind = 0 ∧ (plRead most D L n).pay = [] ∧ (plRead most D L n).err = 6 ∧ ((plRead most D L n).D.read (n : Int)).1 = 0)) := by
  obtain ⟨a, b, c⟩ := coh_read h.coh h.one n
  refine ⟨⟨a, lit_rd h.lit n, small_rd h.small _ _ _, b.pages.trans h.pages, h.one⟩, ?_⟩
  rcases c with c | ⟨c1, _, c2, c3⟩
  · rw [told_tells, h.pages] at c; exact .inl c
  · obtain ⟨e1, e2⟩ := h.lit.read_once n c1 c2
    rw [c3]
    exact .inr ⟨rfl, rfl, e1, e2⟩
theorem LastIn.again (h : LastIn most j D L C) (n : Nat) (hn : n < 6) (hr : (D.read (n : Int)).1 = 0) : ((plRead most D L n).kind, (plRead most D L n).pay, (plRead most D L n).err) = told 6 C n := by
  obtain ⟨a, b, c⟩ := coh_read h.coh h.one n
  rcases c with c | ⟨c1, _, c2, c3⟩
  · rw [told_tells, h.pages] at c; exact c
  · exact absurd hr c2
theorem LastIn.write (h : LastIn most j D L C) (n k : Nat) (p : List Nat) : LastIn most (j + 1) (plWrite most D L n k p).D (plWrite most D L n k p).L (if (plWrite most D L n k p).err = 0 then turn C n (some (k, p)) else C) := by
  obtain ⟨a, b⟩ := coh_write h.coh h.one n k p
  exact ⟨a, lit_wr h.lit _ _ _, small_wr h.small _ _ _ _ _, b.trans h.pages, h.one⟩
theorem LastIn.forget (h : LastIn most j D L C) (n : Nat) : LastIn most j D (forget n L) C := ⟨coh_forget h.coh n, h.lit, h.small, h.pages, h.one⟩
theorem LastIn.fail (h : LastIn most j D L C) (k n : Int) : LastIn most j (D.setFail k n).2 L C := ⟨coh_same h.coh (same_setFail D k n), h.lit.setFail k n, h.small.setFail k n, (same_setFail D k n).pages.trans h.pages, h.one⟩
theorem LastIn.sync (h : LastIn most j D L C) : LastIn most (j + 1) D.sync.2 L C := ⟨coh_pages h.coh (same_sync D), h.lit.sync, h.small.sync, (same_sync D).pages.trans h.pages, h.one⟩
theorem LastIn.cut (h : LastIn most j D L C) (hc : D.cache = []) (m : Nat) (hm : 1 ≤ m) : Even m j 6 (D.cut []) [] C := ⟨coh_bare (coh_same h.coh (same_cut D hc [])) m, cut_calm D [], h.small.cut [], (same_cut D hc []).pages.trans h.pages, hm⟩
variable {n0 : Nat} {w : World} {P d c : Nat} {X : Nat → Prop}
def LastRead (n0 : Nat) (w : World) (P d most c j : Nat) (X : Nat → Prop) (C : Nat → Option (Nat × List Nat)) (n tk : Nat) (tp : List Nat) (te : Nat) (e : Ending) (w' : World) : Prop :=
  (∃ A cap D' L', e = .returned (.tuple #[.int .u8 (tk : Nat), .slice A tp.length cap, .int .u16 (te : Nat)]) ∧ Buf w.heap.size w' (.slice A tp.length cap) tp ∧ LastIn most (j + 1) D' L' C ∧ PoolX n0 w' P d most D' L' (c + 1) (fun g => X g ∨ blk (.slice A tp.length cap) g) ∧ Step n0 X w w') ∨
  ∃ A cap D' L', e = .returned (.tuple #[.int .u8 0, .slice A 0 cap, .int .u16 6]) ∧ LastIn most (j + 1) D' L' C ∧ (D'.read (n : Int)).1 = 0 ∧ PoolX n0 w' P d most D' L' (c + 1) X ∧ Step n0 X w w'
theorem last_read (h : PoolX n0 w P d most D L c X) (hl : LastIn most j D L C) (n : Nat) (hn : n < 6) (tk : Nat) (tp : List Nat) (te : Nat) (ht : told 6 C n = (tk, tp, te)) (hj : j ≤ 10000000) (hm : most ≤ 256) (hcc : c ≤ 100000000) :
    Calls Try.prog 81 #[.pointer (some ⟨P, 0, none⟩), .int .u32 (n : Int)] w (LastRead n0 w P d most c j X C n tk tp te) := by
  refine (plread_any h n (by omega) (hl.small.c (by omega)) (hl.small.m (by omega) 1) (by omega) (by omega)).mono ?_
  obtain ⟨a, b⟩ := hl.read n hn
  rw [ht] at b
  generalize plRead most D L n = r at *
  obtain ⟨rk, rp, re, rD, rL⟩ := r
  simp only [Prod.mk.injEq] at b a ⊢
  rintro e w' ⟨A, cap, rfl, hb, hx, hs'⟩
  rcases b with ⟨rfl, rfl, rfl⟩ | ⟨rfl, rfl, rfl, hr⟩
  · exact .inl ⟨A, cap, rD, rL, rfl, hb, a, hx, hs'⟩
  · exact .inr ⟨A, cap, rD, rL, rfl, a, hr, hx.less (fun g hg => .inl hg), hs'⟩
def LastRead2 (n0 : Nat) (w : World) (P d most c j : Nat) (X : Nat → Prop) (C : Nat → Option (Nat × List Nat)) (tk : Nat) (tp : List Nat) (te : Nat) (e : Ending) (w' : World) : Prop :=
  ∃ A cap D' L', e = .returned (.tuple #[.int .u8 (tk : Nat), .slice A tp.length cap, .int .u16 (te : Nat)]) ∧ Buf w.heap.size w' (.slice A tp.length cap) tp ∧ LastIn most (j + 1) D' L' C ∧ PoolX n0 w' P d most D' L' (c + 1) (fun g => X g ∨ blk (.slice A tp.length cap) g) ∧ Step n0 X w w'
theorem last_again (h : PoolX n0 w P d most D L c X) (hl : LastIn most j D L C) (n : Nat) (hn : n < 6) (hr : (D.read (n : Int)).1 = 0) (tk : Nat) (tp : List Nat) (te : Nat) (ht : told 6 C n = (tk, tp, te)) (hj : j ≤ 10000000) (hm : most ≤ 256) (hcc : c ≤ 100000000) :
    Calls Try.prog 81 #[.pointer (some ⟨P, 0, none⟩), .int .u32 (n : Int)] w (LastRead2 n0 w P d most c j X C tk tp te) := by
  refine (plread_any h n (by omega) (hl.small.c (by omega)) (hl.small.m (by omega) 1) (by omega) (by omega)).mono ?_
  obtain ⟨a, _⟩ := hl.read n hn
  have b := hl.again n hn hr
  rw [ht] at b
  generalize plRead most D L n = r at *
  obtain ⟨rk, rp, re, rD, rL⟩ := r
  simp only [Prod.mk.injEq] at b a ⊢
  rintro e w' ⟨A, cap, rfl, hb, hx, hs'⟩
  obtain ⟨rfl, rfl, rfl⟩ := b
  exact ⟨A, cap, rD, rL, rfl, hb, a, hx, hs'⟩
/-- a write: done, or not -/
def LastWrite (n0 : Nat) (w : World) (P d most c j : Nat) (X : Nat → Prop) (C : Nat → Option (Nat × List Nat)) (n k : Nat) (p : List Nat) (e : Ending) (w' : World) : Prop :=
  ∃ (er : Nat) (D' : Dsk) (L' : List Hand), e = .returned (.int .u16 (er : Nat)) ∧ LastIn most (j + 1) D' L' (if er = 0 then turn C n (some (k, p)) else C) ∧ PoolX n0 w' P d most D' L' (c + 1) X ∧ Step n0 X w w'
theorem last_write (h : PoolX n0 w P d most D L c X) (hl : LastIn most j D L C) (n k : Nat) (hn : n < 6) (hk : k < 256) (s : Inner) (hok : ∀ w', Below n0 w w' → s.Ok w') (hj : j ≤ 10000000) (hm : most ≤ 256) (hcc : c ≤ 100000000) :
    Calls Try.prog 80 #[.pointer (some ⟨P, 0, none⟩), .int .u32 (n : Int), .int .u8 (k : Int), .slice s.A s.l.length s.c] w (LastWrite n0 w P d most c j X C n k s.l) := by
  have h0 := hok w (Below.refl _ _)
  refine (plwrite_any h n k (by omega) hk s.l s.A s.c s.l.length rfl (fun w' hw' => (hok w' hw'.2).lies) h0.nil h0.bytes (hl.small.c (by omega)) (hl.small.m (by omega) 2) (by omega) (by omega)).mono ?_
  have a := hl.write n k s.l
  rintro e w' ⟨rfl, hx, hs'⟩
  exact ⟨_, _, _, rfl, a, hx, hs'⟩
theorem last_fail (h : PoolX n0 w P d most D L c X) (hl : LastIn most j D L C) (k n : Int) (hn : n ≤ 9223372036854775807) :
    Calls Try.prog 58 #[.pointer (some ⟨d, 0, none⟩), .int .i64 k, .int .i64 n] w fun e w' => ∃ er D', e = .returned (.int .u16 (er : Nat)) ∧ LastIn most j D' L C ∧ PoolX n0 w' P d most D' L c X ∧ Step n0 X w w' := by
  obtain ⟨S, hd, _, hst, _⟩ := h.disk
  refine (dg_fail hd hd.new_n k n hn).mono ?_
  rintro e w' ⟨rfl, hN⟩
  obtain ⟨a, b⟩ := hst w' _ hN
  exact ⟨_, _, rfl, hl.fail k n, a, b⟩
theorem last_sync (h : PoolX n0 w P d most D L c X) (hl : LastIn most j D L C) (hj : j ≤ 10000000) :
    Calls Try.prog 86 #[.pointer (some ⟨P, 0, none⟩)] w (PlSync n0 w P d most D.sync.2 L c X D.sync.1) :=
  plsync_any h (hl.small.c (by omega)) (hl.small.m (by omega) 3)
/-- the disk is cut, with nothing given -/
theorem last_cut (h : PoolX n0 w P d most D L c X) (hl : LastIn most j D L C) (hj : j ≤ 10000000) :
    Calls Try.prog 51 #[.pointer (some ⟨d, 0, none⟩), .slice none 0 0] w fun e w' => e = .returned (.tuple #[]) ∧ (∃ S, DG n0 w' d (D.cut []) S ∧ ∀ g, X g → g < w'.heap.size ∧ ¬ S g) ∧ Step n0 X w w' := by
  obtain ⟨S, T, ho, hx⟩ := h
  refine (dg_cut ho.disk ho.disk.new_n none 0 [] (hl.small.c (by omega)) (fun w' _ => At.nil _ _)).mono ?_
  rintro e w' ⟨rfl, S', hd, hg, hc⟩
  refine ⟨rfl, ⟨S', hd, fun g hg' => ⟨Nat.lt_of_lt_of_le (hx g hg').1 hc.size, fun e => ?_⟩⟩, hc.mono (fun g _ e hg => (hx g hg).2.1 e), hc.below ho.disk.new_n (fun g hg => (ho.disk.lt g hg).1)⟩
  rcases hg g e with a | a
  · exact (hx g hg').2.1 a
  · have := (hx g hg').1; omega
def EvRead1 (n0 : Nat) (w : World) (P d m c : Nat) (X : Nat → Prop) (j N : Nat) (C : Nat → Option (Nat × List Nat)) (tk : Nat) (tp : List Nat) (te : Nat) (e : Ending) (w' : World) : Prop :=
  ∃ A cap D' L', e = .returned (.tuple #[.int .u8 (tk : Nat), .slice A tp.length cap, .int .u16 (te : Nat)]) ∧ Buf w.heap.size w' (.slice A tp.length cap) tp ∧ Even m (j + 1) N D' L' C ∧ PoolX n0 w' P d m D' L' (c + 1) (fun g => X g ∨ blk (.slice A tp.length cap) g) ∧ Step n0 X w w'
theorem ev_read1 {N : Nat} (h : PoolX n0 w P d most D L c X) (he : Even most j N D L C) (n : Nat) (hn : n < 4294967296) (tk : Nat) (tp : List Nat) (te : Nat) (ht : told N C n = (tk, tp, te)) (hj : j ≤ 10000000) (hm : most ≤ 256) (hcc : c ≤ 100000000) :
    Calls Try.prog 81 #[.pointer (some ⟨P, 0, none⟩), .int .u32 (n : Int)] w (EvRead1 n0 w P d most c X j N C tk tp te) := by
  refine (plread_any h n hn (he.small.c (by omega)) (he.small.m (by omega) 1) (by omega) (by omega)).mono ?_
  obtain ⟨a, b⟩ := he.read n
  rw [told_tells, he.pages, ht] at b
  generalize plRead most D L n = r at *
  obtain ⟨rk, rp, re, rD, rL⟩ := r
  simp only [Prod.mk.injEq] at b
  obtain ⟨rfl, rfl, rfl⟩ := b
  rintro e w' ⟨A, cap, rfl, hb, hx, hs'⟩
  exact ⟨A, cap, rD, rL, rfl, hb, a, hx, hs'⟩
end
/-- what the law keeps of the pages -/
def KeepOk (w0 : World) (C : Nat → Option (Nat × List Nat)) (K : Nat → Inner) : Prop := ∀ p x, C p = some x → (K p).l = x.2 ∧ (K p).Ok w0
def kcell (K : Nat → Inner) (i : Nat) : Value := .slice (K i).A (K i).l.length (K i).c
def fcell (C : Nat → Option (Nat × List Nat)) (i : Nat) : Value := .bool (C i).isSome
theorem KeepOk.put {w0 : World} {C : Nat → Option (Nat × List Nat)} {K : Nat → Inner} (h : KeepOk w0 C K) (p k : Nat) (s : Inner) (hs : s.Ok w0) : KeepOk w0 (turn C p (some (k, s.l))) (turn K p s) := fun q x hx => by
  by_cases e : q = p
  · subst e
    rw [turn_same] at hx ⊢
    injection hx with hx
    subst hx
    exact ⟨rfl, hs⟩
  · rw [turn_other _ _ _ _ e] at hx ⊢
    exact h q x hx
theorem kcell_put (K : Nat → Inner) (p : Nat) (s : Inner) : turn (kcell K) p (.slice s.A s.l.length s.c) = kcell (turn K p s) := by
  funext i
  unfold kcell
  by_cases e : i = p
  · subst e; rw [turn_same, turn_same]
  · rw [turn_other _ _ _ _ e, turn_other _ _ _ _ e]
theorem fcell_put (C : Nat → Option (Nat × List Nat)) (p : Nat) (x : Nat × List Nat) : turn (fcell C) p (.bool true) = fcell (turn C p (some x)) := by
  funext i
  unfold fcell
  by_cases e : i = p
  · subst e; rw [turn_same, turn_same]; rfl
  · rw [turn_other _ _ _ _ e, turn_other _ _ _ _ e]
theorem told_none {C : Nat → Option (Nat × List Nat)} {n : Nat} (hn : n < 6) (h : C n = none) : told 6 C n = (0, [], 100) := by unfold told; rw [if_neg (by omega), h]
theorem told_some {C : Nat → Option (Nat × List Nat)} {n : Nat} {x : Nat × List Nat} (hn : n < 6) (h : C n = some x) : told 6 C n = (x.1, x.2, 0) := by unfold told; rw [if_neg (by omega), h]
/-- the law's two rows, and the pages kept -/
structure RowsAt (w0 w : World) (k1 k2 : Nat) (C : Nat → Option (Nat × List Nat)) (K : Nat → Inner) : Prop where
  kept : RecAt w k1 23 6 (kcell K)
  flag : RecAt w k2 4 6 (fcell C)
  ok : KeepOk w0 C K
theorem RowsAt.step {n0 : Nat} {X : Nat → Prop} {w0 w w' : World} {k1 k2 : Nat} {C : Nat → Option (Nat × List Nat)} {K : Nat → Inner} (h : RowsAt w0 w k1 k2 C K) (hs : Step n0 X w w') (h1 : X k1) (h2 : X k2) : RowsAt w0 w' k1 k2 C K :=
  ⟨h.kept.keep hs.1 (fun e => e h1), h.flag.keep hs.1 (fun e => e h2), h.ok⟩
theorem RowsAt.below {w0 w w' : World} {k1 k2 : Nat} {C : Nat → Option (Nat × List Nat)} {K : Nat → Inner} (h : RowsAt w0 w k1 k2 C K) (hb : Below w.heap.size w w') : RowsAt w0 w' k1 k2 C K :=
  ⟨h.kept.keep (G := fun _ => False) (.of_below hb) (fun e => e), h.flag.keep (G := fun _ => False) (.of_below hb) (fun e => e), h.ok⟩
theorem RowsAt.put {w0 w : World} {k1 k2 : Nat} {C : Nat → Option (Nat × List Nat)} {K : Nat → Inner} (h : RowsAt w0 w k1 k2 C K) (hk : k1 ≠ k2) (p k : Nat) (s : Inner) (hs : s.Ok w0) :
    RowsAt w0 ((w.setCell ⟨k1, p, none⟩ (.slice s.A s.l.length s.c)).setCell ⟨k2, p, none⟩ (.bool true)) k1 k2 (turn C p (some (k, s.l))) (turn K p s) ∧ Chg (fun g => g = k1 ∨ g = k2) w ((w.setCell ⟨k1, p, none⟩ (.slice s.A s.l.length s.c)).setCell ⟨k2, p, none⟩ (.bool true)) := by
  have c1 : Chg (OnlyP k1) w (w.setCell ⟨k1, p, none⟩ (.slice s.A s.l.length s.c)) := one_chg _ _ _ _
  have c2 : Chg (OnlyP k2) (w.setCell ⟨k1, p, none⟩ (.slice s.A s.l.length s.c)) ((w.setCell ⟨k1, p, none⟩ (.slice s.A s.l.length s.c)).setCell ⟨k2, p, none⟩ (.bool true)) := one_chg _ _ _ _
  refine ⟨⟨?_, ?_, h.ok.put p k s hs⟩, (c1.mono (fun g _ e => .inl e)).trans (c2.mono (fun g _ e => .inr e)) (fun g _ hg => hg)⟩
  · have := (h.kept.set p (.slice s.A s.l.length s.c)).keep c2 (fun e => hk e)
    rwa [kcell_put] at this
  · have := (h.flag.keep c1 (fun e => hk e.symm)).set p (.bool true)
    rwa [fcell_put C p (k, s.l)] at this
/-- behind i acts -/
def LastAt' (w0 : World) (P d most k1 k2 i : Nat) (wr : World) : Prop := ∃ D L C K, LastIn most (3 * i) D L C ∧ RowsAt w0 wr k1 k2 C K ∧ PoolX w0.heap.size wr P d most D L (3 * i) (fun g => g = k1 ∨ g = k2) ∧ Below w0.heap.size w0 wr
theorem rows_new (w0 w w5 : World) (hw : w5 = (w.alloc (.cells #[.slice none 0 0, .slice none 0 0, .slice none 0 0, .slice none 0 0, .slice none 0 0, .slice none 0 0] 23)).alloc (.cells #[.bool false, .bool false, .bool false, .bool false, .bool false, .bool false] 4)) :
    RowsAt w0 w5 w.heap.size (w.heap.size + 1) (fun _ => none) (fun _ => ⟨none, [], 0⟩) ∧ Below w.heap.size w w5 ∧ w5.heap.size = w.heap.size + 2 := by
  subst hw
  refine ⟨⟨?_, ?_, fun p x hx => by cases hx⟩, below_alloc0 (below_alloc0 (Below.refl _ _) _) _, by simp⟩
  · refine RecAt.of (cs := #[.slice none 0 0, .slice none 0 0, .slice none 0 0, .slice none 0 0, .slice none 0 0, .slice none 0 0]) ?_ (by simp [lst, kcell, List.range_succ])
    simp only [hp_alloc, sz_alloc]; rw [if_neg (by omega)]; first | rw [if_pos trivial] | rw [if_pos rfl]
  · refine RecAt.of (cs := #[.bool false, .bool false, .bool false, .bool false, .bool false, .bool false]) ?_ (by simp [lst, fcell, List.range_succ])
    have := heap_alloc_new (w.alloc (.cells #[.slice none 0 0, .slice none 0 0, .slice none 0 0, .slice none 0 0, .slice none 0 0, .slice none 0 0] 23)) (.cells #[.bool false, .bool false, .bool false, .bool false, .bool false, .bool false] 4)
    rwa [sz_alloc] at this
theorem last_page {most j : Nat} {D : Dsk} {L : List Hand} {C : Nat → Option (Nat × List Nat)} (h : LastIn most j D L C) {n : Nat} (hn : n < 6) {x : Nat × List Nat} (hx : C n = some x) : x.2.length ≤ 1008 := by
  have := h.coh.page n (by rw [h.pages]; exact hn)
  rw [hx] at this
  exact this.2.2.2
theorem even_page {most j : Nat} {D : Dsk} {L : List Hand} {C : Nat → Option (Nat × List Nat)} (h : Even most j 6 D L C) {n : Nat} (hn : n < 6) {x : Nat × List Nat} (hx : C n = some x) : x.2.length ≤ 1008 := by
  have := h.coh.page n (by rw [h.pages]; exact hn)
  rw [hx] at this
  exact this.2.2.2
theorem flag_no {w0 w : World} {k1 k2 : Nat} {C : Nat → Option (Nat × List Nat)} {K : Nat → Inner} (h : RowsAt w0 w k1 k2 C K) {p : Nat} (hp : p < 6) (hc : C p = none) : w.cell? ⟨k2, p, none⟩ = some (.bool false) := by
  have := h.flag.cell p hp
  unfold fcell at this
  rwa [hc] at this
theorem flag_yes {w0 w : World} {k1 k2 : Nat} {C : Nat → Option (Nat × List Nat)} {K : Nat → Inner} (h : RowsAt w0 w k1 k2 C K) {p : Nat} (hp : p < 6) {x : Nat × List Nat} (hc : C p = some x) : w.cell? ⟨k2, p, none⟩ = some (.bool true) := by
  have := h.flag.cell p hp
  unfold fcell at this
  rwa [hc] at this
theorem kept_same {w0 w : World} {k1 k2 : Nat} {C : Nat → Option (Nat × List Nat)} {K : Nat → Inner} (h : RowsAt w0 w k1 k2 C K) {p : Nat} (hp : p < 6) {x : Nat × List Nat} (hc : C p = some x) (hb : Below w0.heap.size w0 w) (A : Option Addr) (cap m : Nat) (hx : x.2.length ≤ 1008) (hv : Buf m w (.slice A x.2.length cap) x.2) :
    ∃ kA kn kc, w.cell? ⟨k1, p, none⟩ = some (.slice kA kn kc) ∧ Calls Try.prog 45 #[.slice A x.2.length cap, .slice kA kn kc] w fun e w' => e = .returned (.bool true) ∧ Below w.heap.size w w' := by
  obtain ⟨e, ok⟩ := h.ok p x hc
  exact ⟨(K p).A, (K p).l.length, (K p).c, h.kept.cell p hp, same_eq A (K p).A x.2.length (K p).l.length cap (K p).c x.2 (K p).l w rfl rfl (by omega) e.symm (buf_at hv).2 (ok.below hb).lies⟩
end Go.Proofs.Ytfbjjblgcgjndaa

/- Walk of PoolLast. Printed by pooll.py. -/
namespace Go.Proofs.Ytfbjjblgcgjndaa
open Go.RowKit Go.Maps

set_option maxRecDepth 100000 in
set_option maxHeartbeats 64000000 in
theorem poolLast_any (m : Nat) (s : PActs) (w : World) (hm : m < 256) (hs : s.Ok w) :
    Calls Try.prog 24 #[.int .u8 (m : Int), s.val] w fun e w' => e = .returned (.bool true) ∧ Below w.heap.size w w' := by
  obtain ⟨A, l, c⟩ := s
  have hsm := hs.small
  simp only at hsm
  unfold PActs.val
  simp only
  have HS := Lib.hid hs
  clear hs
  obtain ⟨n, hn⟩ : ∃ n, n = m % 6 + 1 := ⟨_, rfl⟩
  have hn1 : IntKind.i64.wrap ((m : Int) % 6 + 1) = (n : Int) := by rw [IntKind.wrap_i64]; omega
  have hn2 : (m : Int) % 6 + 1 = (n : Int) := by omega
  have HN := Lib.hid (show 1 ≤ n ∧ n ≤ 6 by omega)
  clear hn
  have hmk1 : ∀ w, (Instr.makeSlice 30 (.int .i64 6) (.int .i64 6)).run Try.prog w = .ok (.slice (some ⟨w.heap.size, 0, none⟩) 6 6) (w.alloc (.cells #[.slice none 0 0, .slice none 0 0, .slice none 0 0, .slice none 0 0, .slice none 0 0, .slice none 0 0] 23)) := fun _ => by kernel_rfl
  have hmk2 : ∀ w, (Instr.makeSlice 73 (.int .i64 6) (.int .i64 6)).run Try.prog w = .ok (.slice (some ⟨w.heap.size, 0, none⟩) 6 6) (w.alloc (.cells #[.bool false, .bool false, .bool false, .bool false, .bool false, .bool false] 4)) := fun _ => by kernel_rfl
  go_enter Try.func24, Try.ntmps24
  go_wp2_with fail
  refine (much10_any ⟨A, l, c⟩ w HS.out).mono ?_
  rintro e w1 ⟨b, rfl, hfew, hb1⟩
  have HB1 := Lib.hid hb1
  clear hb1
  cases b with
  | true =>
    go_wp2_with fail
    refine (known10_any w1).mono ?_
    rintro e w2 ⟨rfl, hb2⟩
    go_wp2_with fail
    go_ret
    exact ⟨rfl, below_next0 HB1.out hb2⟩
  | false =>
    have hfw := hfew rfl
    simp only at hfw
    have hl2 := hfw.1
    clear hfew hfw
    go_wp2_with fail
    refine (known10_any w1).mono ?_
    rintro e w2 ⟨rfl, hb2⟩
    have HB2 := Lib.hid (below_next0 HB1.out hb2)
    clear hb2
    go_wp2_with fail
    refine (dg_newl (n0 := w.heap.size) 6 w2 HB2.out.size (by omega) (by omega)).mono ?_
    rintro e w3 ⟨d, Sd, rfl, hd, _, hb3⟩
    have HD := Lib.hid hd
    have HB3 := Lib.hid (below_next0 HB2.out hb3)
    clear hd hb3
    go_wp2_with fail
    refine (pnew_ok HD.out (X := fun _ => False) (fun g hg => hg.elim) n HN.out.1 (by have := HN.out; omega)).mono ?_
    rintro e w4 ⟨P, rfl, hx4, hb4⟩
    have HX4 := Lib.hid hx4
    have HB4 := Lib.hid (below_next0 HB3.out hb4)
    clear hx4 hb4
    go_upto_region 11 with (fail)
    obtain ⟨w5, hw5⟩ : ∃ w5, w5 = (w4.alloc (.cells #[.slice none 0 0, .slice none 0 0, .slice none 0 0, .slice none 0 0, .slice none 0 0, .slice none 0 0] 23)).alloc (.cells #[.bool false, .bool false, .bool false, .bool false, .bool false, .bool false] 4) := ⟨_, rfl⟩
    rw [← hw5]
    obtain ⟨hr5, hb5, hz5⟩ := rows_new w w4 w5 hw5
    have HR5 := Lib.hid hr5
    have HX5 := Lib.hid ((HX4.out.also hb5 (Y := fun g => g = w4.heap.size ∨ g = w4.heap.size + 1) (fun g hg => by omega)).less (X' := fun g => g = w4.heap.size ∨ g = w4.heap.size + 1) (fun g hg => .inr hg))
    have HB5 := Lib.hid (below_next0 HB4.out hb5)
    obtain ⟨k1, hk1⟩ : ∃ k1, k1 = w4.heap.size := ⟨_, rfl⟩
    obtain ⟨k2, hk2⟩ : ∃ k2, k2 = w4.heap.size + 1 := ⟨_, rfl⟩
    try simp only [sz_alloc]
    rw [← hk2] at HR5 HX5 ⊢
    rw [← hk1] at HR5 HX5 ⊢
    have hkk : k1 ≠ k2 := by omega
    have K1N := Lib.hid (show w.heap.size ≤ k1 by have := HB4.out.size; omega)
    have K2N := Lib.hid (show w.heap.size ≤ k2 by have := HB4.out.size; omega)
    have hkk' : k2 ≠ k1 := by omega
    clear hw5 hr5 hb5 hz5 hk1 hk2 hmk1 hmk2 HX4
    have hL5 : LastIn n 0 (Dsk.new 6) [] (fun _ => none) := ⟨coh_new n 6 (by omega) (by omega), ⟨rfl, rfl⟩, Small.new 6, Dsk.new_pages 6, HN.out.1⟩
    have HL5 := Lib.hid hL5
    clear hL5
    go_wp2_with fail
    go_loopw [11] (fun i wr => ∃ j : Nat, j ≤ l.length ∧ i = .int .i64 j ∧ LastAt' w P d n k1 k2 j wr) (fun i _ => l.length - (intOf i).toNat)
    case atStart => exact ⟨0, by omega, rfl, _, _, _, _, HL5.out, HR5.out, HX5.out, HB5.out⟩
    case round =>
      clear HL5 HR5 HX5 HB5 HB4 HB3 HB2 HB1
      obtain ⟨j, hj, rfl, D, L, C, K, hl, hr, hx, hb⟩ := hrel
      by_cases hlt : j < l.length
      · have hji : (j : Int) < (l.length : Int) := by omega
        obtain ⟨a, ha, hmem⟩ := pact_mem hlt
        obtain ⟨gb, go, hA, hcell⟩ := pact_cell (HS.out.lies.below hb) j a ha
        simp only at hA
        subst hA
        have c0 : wr.cell? ⟨gb, go + j * 6, none⟩ = some (.int .u8 (a.kind : Int)) := hcell 0 (by omega)
        have c1 : wr.cell? ⟨gb, go + j * 6 + 1, none⟩ = some (.int .u32 (a.num : Int)) := hcell 1 (by omega)
        have c2 : wr.cell? ⟨gb, go + j * 6 + 2, none⟩ = some (.int .u8 (a.of_ : Int)) := hcell 2 (by omega)
        have c3 : wr.cell? ⟨gb, go + j * 6 + 3, none⟩ = some (.int .i64 a.n) := hcell 3 (by omega)
        have c4 : wr.cell? ⟨gb, go + j * 6 + 4, none⟩ = some (.slice a.data.A a.data.l.length a.data.c) := hcell 4 (by omega)
        have c5 : wr.cell? ⟨gb, go + j * 6 + 5, none⟩ = some (.slice a.keep.A a.keep.l.length a.keep.c) := hcell 5 (by omega)
        have HAO := Lib.hid (HS.out.all a hmem)
        have HAB := Lib.hid (show ∀ w', Below w.heap.size w w' → a.data.Ok w' from fun w' hw' => HAO.out.data.below hw')
        have HL := Lib.hid hl
        have HR := Lib.hid hr
        have HX := Lib.hid hx
        have HB := Lib.hid hb
        obtain ⟨p, hp⟩ : ∃ p, p = a.num % 6 := ⟨_, rfl⟩
        have hpi : (a.num : Int) % 6 = (p : Int) := by omega
        have hp6 : p < 6 := by omega
        clear hcell ha hmem hl hr hx hb hp
        go_upto_region 15 with (fail)
        obtain ⟨w7, hw7⟩ : ∃ w7, w7 = wr.alloc (.cells #[.int .u8 (a.kind : Int), .int .u32 (a.num : Int), .int .u8 (a.of_ : Int), .int .i64 a.n, .slice a.data.A a.data.l.length a.data.c, .slice a.keep.A a.keep.l.length a.keep.c] 138) := ⟨_, rfl⟩
        rw [← hw7]
        obtain ⟨hq7, hb7, hz7⟩ := pact_box wr a w7 hw7
        have HQ := Lib.hid hq7
        have HX7 := Lib.hid (HX.out.also hb7 (Y := fun g => g = wr.heap.size) (fun g hg => ⟨by omega, by omega⟩))
        have HR7 := Lib.hid (HR.out.below hb7)
        have HB7 := Lib.hid (below_next0 HB.out hb7)
        generalize wr.heap.size = gx at *
        have b0 : w7.cell? ⟨gx, 0, none⟩ = some (.int .u8 (a.kind : Int)) := RecAt.cell HQ.out 0 (by omega)
        have b1 : w7.cell? ⟨gx, 1, none⟩ = some (.int .u32 (a.num : Int)) := RecAt.cell HQ.out 1 (by omega)
        have b2 : w7.cell? ⟨gx, 2, none⟩ = some (.int .u8 (a.of_ : Int)) := RecAt.cell HQ.out 2 (by omega)
        have b3 : w7.cell? ⟨gx, 3, none⟩ = some (.int .i64 a.n) := RecAt.cell HQ.out 3 (by omega)
        have b4 : w7.cell? ⟨gx, 4, none⟩ = some (.slice a.data.A a.data.l.length a.data.c) := RecAt.cell HQ.out 4 (by omega)
        clear hw7 hq7 hb7 hz7 c0 c1 c2 c3 c4 c5 HX HB HR
        have hki := HAO.out.kind
        have hoi := HAO.out.of_
        obtain ⟨kd, hkd⟩ : ∃ kd, kd = a.of_ % 4 + 1 := ⟨_, rfl⟩
        have hkd1 : IntKind.u8.wrap ((a.of_ : Int) % 4 + 1) = (kd : Int) := by rw [IntKind.wrap_u8]; omega
        have hkd2 : (a.of_ : Int) % 4 + 1 = (kd : Int) := by omega
        have HKD := Lib.hid (show kd < 256 by omega)
        have hfw1 : IntKind.i64.wrap ((a.of_ : Int) % 3 + 1) = (a.of_ : Int) % 3 + 1 := by rw [IntKind.wrap_i64]; omega
        clear hkd
        rcases (show a.kind % 9 = 3 ∨ a.kind % 9 = 4 ∨ a.kind % 9 = 5 ∨ a.kind % 9 = 7 ∨ (a.kind % 9 ≠ 3 ∧ a.kind % 9 ≠ 4 ∧ a.kind % 9 ≠ 5 ∧ a.kind % 9 ≠ 7) by omega) with hk | hk | hk | hk | hk
        · have g3 : ((a.kind : Int) % 9 == 3) = true := by simp; omega
          have h3 : (a.kind : Int) % 9 = 3 := by omega
          clear hk
          have HWR := Lib.hid (last_write HX7.out HL.out p kd hp6 HKD.out a.data (fun w' hw' => HAB.out w' (HB7.out.trans hw')) (by omega) (by have := HN.out; omega) (by omega))
          go_wp2_with fail
          refine HWR.out.mono ?_
          rintro e w8 ⟨er, D8, L8, rfl, hl8, hx8, hs8⟩
          have HR8 := Lib.hid (HR7.out.step hs8 (.inl (.inl rfl)) (.inl (.inr rfl)))
          have HQ8 := Lib.hid (HQ.out.step hs8 (.inr rfl))
          have HX8 := Lib.hid (hx8.less (X' := (fun g => g = k1 ∨ g = k2)) (fun g hg => .inl hg))
          have HB8 := Lib.hid (HB7.out.trans hs8.2)
          clear HWR hx8 hs8 b0 b1 b2 b3 b4
          by_cases her : er = 0
          · rw [if_pos her] at hl8
            have HL8 := Lib.hid (hl8.mono (show 3 * j + 1 ≤ 3 * j + 1 by omega))
            have hee : ((er : Int) == 0) = true := by simp; omega
            have hei : (er : Int) = 0 := by omega
            have b4 : w8.cell? ⟨gx, 4, none⟩ = some (.slice a.data.A a.data.l.length a.data.c) := RecAt.cell HQ8.out 4 (by omega)
            have f1 : w8.frozen? ⟨k1, p, none⟩ = false := HR8.out.kept.frozen p
            have f2 : w8.frozen? ⟨k2, p, none⟩ = false := HR8.out.flag.frozen p
            have q1 : w8.cell? ⟨k1, p, none⟩ = some (kcell K p) := HR8.out.kept.cell p hp6
            have q2 : w8.cell? ⟨k2, p, none⟩ = some (fcell C p) := HR8.out.flag.cell p hp6
            obtain ⟨hrz, hcz⟩ := HR8.out.put hkk p kd a.data HAO.out.data
            have HRP := Lib.hid hrz
            have HCZ := Lib.hid hcz
            clear hl8 her hrz hcz
            go_upto_region 13 with (fail)
            obtain ⟨wq, hwq⟩ : ∃ wq, wq = (w8.setCell ⟨k1, p, none⟩ (.slice a.data.A a.data.l.length a.data.c)).setCell ⟨k2, p, none⟩ (.bool true) := ⟨_, rfl⟩
            rw [← hwq] at HRP HCZ ⊢
            have HXQ := Lib.hid (HX8.out.keep HCZ.out (fun g _ hg => hg))
            have HBQ := Lib.hid (HB8.out.trans (HCZ.out.below HX8.out.n_le (fun g hg => hg.elim (fun e => by rw [e]; exact K1N.out) (fun e => by rw [e]; exact K2N.out))))
            clear hwq b4 f1 f2 q1 q2 hee hei
            go_wp2_with fail
            case roundEnd => exact ⟨⟨j + 1, by omega, by go_num, D8, L8, (turn C p (some (kd, a.data.l))), (turn K p a.data), HL8.out.mono (by omega), HRP.out, (HXQ.out.moreC (by omega)).less (fun g hg => hg), HBQ.out⟩, by simp only [intOf]; omega⟩
          · rw [if_neg her] at hl8
            have HL8 := Lib.hid (hl8.mono (show 3 * j + 1 ≤ 3 * j + 1 by omega))
            have hee : ((er : Int) == 0) = false := by simp; omega
            have hei : ¬ (er : Int) = 0 := by omega
            clear hl8 her
            go_wp2_with fail
            case roundEnd => exact ⟨⟨j + 1, by omega, by go_num, D8, L8, C, K, HL8.out.mono (by omega), HR8.out, (HX8.out.moreC (by omega)).less (fun g hg => hg), HB8.out⟩, by simp only [intOf]; omega⟩
        · have g3 : ((a.kind : Int) % 9 == 3) = false := by simp; omega
          have h3 : ¬ (a.kind : Int) % 9 = 3 := by omega
          have g4 : ((a.kind : Int) % 9 == 4) = true := by simp; omega
          have h4 : (a.kind : Int) % 9 = 4 := by omega
          clear hk
          have HWR := Lib.hid (last_write HX7.out HL.out p kd hp6 HKD.out a.data (fun w' hw' => HAB.out w' (HB7.out.trans hw')) (by omega) (by have := HN.out; omega) (by omega))
          go_wp2_with fail
          refine HWR.out.mono ?_
          rintro e w8 ⟨er, D8, L8, rfl, hl8, hx8, hs8⟩
          have HR8 := Lib.hid (HR7.out.step hs8 (.inl (.inl rfl)) (.inl (.inr rfl)))
          have HQ8 := Lib.hid (HQ.out.step hs8 (.inr rfl))
          have HX8 := Lib.hid (hx8.less (X' := (fun g => g = k1 ∨ g = k2)) (fun g hg => .inl hg))
          have HB8 := Lib.hid (HB7.out.trans hs8.2)
          clear HWR hx8 hs8 b0 b1 b2 b3 b4
          by_cases her : er = 0
          · rw [if_pos her] at hl8
            have HL8 := Lib.hid (hl8.mono (show 3 * j + 1 ≤ 3 * j + 1 by omega))
            have hee : ((er : Int) == 0) = true := by simp; omega
            have hei : (er : Int) = 0 := by omega
            have b4 : w8.cell? ⟨gx, 4, none⟩ = some (.slice a.data.A a.data.l.length a.data.c) := RecAt.cell HQ8.out 4 (by omega)
            have f1 : w8.frozen? ⟨k1, p, none⟩ = false := HR8.out.kept.frozen p
            have f2 : w8.frozen? ⟨k2, p, none⟩ = false := HR8.out.flag.frozen p
            have q1 : w8.cell? ⟨k1, p, none⟩ = some (kcell K p) := HR8.out.kept.cell p hp6
            have q2 : w8.cell? ⟨k2, p, none⟩ = some (fcell C p) := HR8.out.flag.cell p hp6
            obtain ⟨hrz, hcz⟩ := HR8.out.put hkk p kd a.data HAO.out.data
            have HRP := Lib.hid hrz
            have HCZ := Lib.hid hcz
            clear hl8 her hrz hcz
            go_upto_region 13 with (fail)
            obtain ⟨wq, hwq⟩ : ∃ wq, wq = (w8.setCell ⟨k1, p, none⟩ (.slice a.data.A a.data.l.length a.data.c)).setCell ⟨k2, p, none⟩ (.bool true) := ⟨_, rfl⟩
            rw [← hwq] at HRP HCZ ⊢
            have HXQ := Lib.hid (HX8.out.keep HCZ.out (fun g _ hg => hg))
            have HBQ := Lib.hid (HB8.out.trans (HCZ.out.below HX8.out.n_le (fun g hg => hg.elim (fun e => by rw [e]; exact K1N.out) (fun e => by rw [e]; exact K2N.out))))
            clear hwq b4 f1 f2 q1 q2 hee hei
            go_wp2_with fail
            case roundEnd => exact ⟨⟨j + 1, by omega, by go_num, D8, L8, (turn C p (some (kd, a.data.l))), (turn K p a.data), HL8.out.mono (by omega), HRP.out, (HXQ.out.moreC (by omega)).less (fun g hg => hg), HBQ.out⟩, by simp only [intOf]; omega⟩
          · rw [if_neg her] at hl8
            have HL8 := Lib.hid (hl8.mono (show 3 * j + 1 ≤ 3 * j + 1 by omega))
            have hee : ((er : Int) == 0) = false := by simp; omega
            have hei : ¬ (er : Int) = 0 := by omega
            clear hl8 her
            go_wp2_with fail
            case roundEnd => exact ⟨⟨j + 1, by omega, by go_num, D8, L8, C, K, HL8.out.mono (by omega), HR8.out, (HX8.out.moreC (by omega)).less (fun g hg => hg), HB8.out⟩, by simp only [intOf]; omega⟩
        · have g3 : ((a.kind : Int) % 9 == 3) = false := by simp; omega
          have h3 : ¬ (a.kind : Int) % 9 = 3 := by omega
          have g4 : ((a.kind : Int) % 9 == 4) = false := by simp; omega
          have h4 : ¬ (a.kind : Int) % 9 = 4 := by omega
          have g5 : ((a.kind : Int) % 9 == 5) = true := by simp; omega
          have h5 : (a.kind : Int) % 9 = 5 := by omega
          clear hk
          go_wp2_with fail
          refine (plforget_any HX7.out p (by omega)).mono ?_
          rintro e w8 ⟨rfl, hx8, hs8⟩
          have HR8 := Lib.hid (HR7.out.step hs8 (.inl (.inl rfl)) (.inl (.inr rfl)))
          have HX8 := Lib.hid ((hx8.less (X' := (fun g => g = k1 ∨ g = k2)) (fun g hg => .inl hg)).moreC (show 3 * j ≤ 3 * j + 1 by omega))
          have HB8 := Lib.hid (HB7.out.trans hs8.2)
          have HL8 := Lib.hid ((HL.out.forget p).mono (show 3 * j ≤ 3 * j + 1 by omega))
          clear hx8 hs8 b0 b1 b2 b3 b4
          go_wp2_with fail
          case roundEnd => exact ⟨⟨j + 1, by omega, by go_num, D, (forget p L), C, K, HL8.out.mono (by omega), HR8.out, (HX8.out.moreC (by omega)).less (fun g hg => hg), HB8.out⟩, by simp only [intOf]; omega⟩
        · have g3 : ((a.kind : Int) % 9 == 3) = false := by simp; omega
          have h3 : ¬ (a.kind : Int) % 9 = 3 := by omega
          have g4 : ((a.kind : Int) % 9 == 4) = false := by simp; omega
          have h4 : ¬ (a.kind : Int) % 9 = 4 := by omega
          have g5 : ((a.kind : Int) % 9 == 5) = false := by simp; omega
          have h5 : ¬ (a.kind : Int) % 9 = 5 := by omega
          have g7 : ((a.kind : Int) % 9 == 7) = true := by simp; omega
          have h7 : (a.kind : Int) % 9 = 7 := by omega
          clear hk
          go_wp2_with fail
          refine (last_fail HX7.out HL.out _ a.n HAO.out.n.2).mono ?_
          rintro e w8 ⟨er, D8, rfl, hl8, hx8, hs8⟩
          have HR8 := Lib.hid (HR7.out.step hs8 (.inl (.inl rfl)) (.inl (.inr rfl)))
          have HX8 := Lib.hid ((hx8.less (X' := (fun g => g = k1 ∨ g = k2)) (fun g hg => .inl hg)).moreC (show 3 * j ≤ 3 * j + 1 by omega))
          have HB8 := Lib.hid (HB7.out.trans hs8.2)
          have HL8 := Lib.hid (hl8.mono (show 3 * j ≤ 3 * j + 1 by omega))
          clear hl8 hx8 hs8 b0 b1 b2 b3 b4
          go_wp2_with fail
          case roundEnd => exact ⟨⟨j + 1, by omega, by go_num, D8, L, C, K, HL8.out.mono (by omega), HR8.out, (HX8.out.moreC (by omega)).less (fun g hg => hg), HB8.out⟩, by simp only [intOf]; omega⟩
        · have g3 : ((a.kind : Int) % 9 == 3) = false := by simp; omega
          have h3 : ¬ (a.kind : Int) % 9 = 3 := by omega
          have g4 : ((a.kind : Int) % 9 == 4) = false := by simp; omega
          have h4 : ¬ (a.kind : Int) % 9 = 4 := by omega
          have g5 : ((a.kind : Int) % 9 == 5) = false := by simp; omega
          have h5 : ¬ (a.kind : Int) % 9 = 5 := by omega
          have g7 : ((a.kind : Int) % 9 == 7) = false := by simp; omega
          have h7 : ¬ (a.kind : Int) % 9 = 7 := by omega
          clear hk
          have HX8 := Lib.hid ((HX7.out.less (X' := (fun g => g = k1 ∨ g = k2)) (fun g hg => .inl hg)).moreC (show 3 * j ≤ 3 * j + 1 by omega))
          have HL8 := Lib.hid (HL.out.mono (show 3 * j ≤ 3 * j + 1 by omega))
          obtain ⟨o, hC⟩ : ∃ o, C p = o := ⟨_, rfl⟩
          cases o with
          | none =>
            have HC := Lib.hid hC
            clear hC
            have HRD := Lib.hid (last_read HX8.out HL8.out p hp6 0 [] 100 (told_none hp6 HC.out) (by omega) (by have := HN.out; omega) (by omega))
            go_wp2_with fail
            refine HRD.out.mono ?_
            rintro e w9 (⟨A9, p9, D9, L9, rfl, hbf, hl9, hx9, hs9⟩ | ⟨A9, p9, D9, L9, rfl, hl9, hr9, hx9, hs9⟩)
            · clear HRD
              have HLZ := Lib.hid hl9
              have HXZ := Lib.hid (hx9.less (X' := (fun g => g = k1 ∨ g = k2)) (fun g hg => .inl hg))
              have HRZ := Lib.hid (HR7.out.step hs9 (.inl rfl) (.inr rfl))
              have HBZ := Lib.hid (HB7.out.trans hs9.2)
              have q2 := flag_no HRZ.out hp6 HC.out
              clear hl9 hx9 hs9 hbf
              go_wp2_with fail
              case roundEnd => exact ⟨⟨j + 1, by omega, by go_num, D9, L9, C, K, HLZ.out.mono (by omega), HRZ.out, (HXZ.out.moreC (by omega)).less (fun g hg => hg), HBZ.out⟩, by simp only [intOf]; omega⟩
            · clear HRD
              have HL9 := Lib.hid hl9
              have HX9 := Lib.hid (hx9.less (X' := (fun g => g = k1 ∨ g = k2)) (fun g hg => hg))
              have HR9 := Lib.hid (HR7.out.step hs9 (.inl rfl) (.inr rfl))
              have HB9 := Lib.hid (HB7.out.trans hs9.2)
              have HRD := Lib.hid (last_again HX9.out HL9.out p hp6 hr9 0 [] 100 (told_none hp6 HC.out) (by omega) (by have := HN.out; omega) (by omega))
              clear hl9 hx9 hs9 hr9
              go_wp2_with fail
              refine HRD.out.mono ?_
              rintro e w10 ⟨A10, p10, D10, L10, rfl, hbf, hl10, hx10, hs10⟩
              clear HRD
              have HLZ := Lib.hid hl10
              have HXZ := Lib.hid (hx10.less (X' := (fun g => g = k1 ∨ g = k2)) (fun g hg => .inl hg))
              have HRZ := Lib.hid (HR9.out.step hs10 (.inl rfl) (.inr rfl))
              have HBZ := Lib.hid (HB9.out.trans hs10.2)
              have q2 := flag_no HRZ.out hp6 HC.out
              clear hl10 hx10 hs10 hbf
              go_wp2_with fail
              case roundEnd => exact ⟨⟨j + 1, by omega, by go_num, D10, L10, C, K, HLZ.out.mono (by omega), HRZ.out, (HXZ.out.moreC (by omega)).less (fun g hg => hg), HBZ.out⟩, by simp only [intOf]; omega⟩
          | some x =>
            have HC := Lib.hid hC
            clear hC
            have hx8 := last_page HL8.out hp6 HC.out
            have HRD := Lib.hid (last_read HX8.out HL8.out p hp6 x.1 x.2 0 (told_some hp6 HC.out) (by omega) (by have := HN.out; omega) (by omega))
            go_wp2_with fail
            refine HRD.out.mono ?_
            rintro e w9 (⟨A9, p9, D9, L9, rfl, hbf, hl9, hx9, hs9⟩ | ⟨A9, p9, D9, L9, rfl, hl9, hr9, hx9, hs9⟩)
            · clear HRD
              have HLZ := Lib.hid hl9
              have HXZ := Lib.hid (hx9.less (X' := (fun g => g = k1 ∨ g = k2)) (fun g hg => .inl hg))
              have HRZ := Lib.hid (HR7.out.step hs9 (.inl rfl) (.inr rfl))
              have HBZ := Lib.hid (HB7.out.trans hs9.2)
              have q2 := flag_yes HRZ.out hp6 HC.out
              obtain ⟨kA, kn, kc, q1, hse⟩ := kept_same HRZ.out hp6 HC.out HBZ.out A9 p9 _ hx8 hbf
              have HSE := Lib.hid hse
              clear hl9 hx9 hs9 hbf hse hx8
              go_wp2_with fail
              refine HSE.out.mono ?_
              rintro e w11 ⟨rfl, hb11⟩
              have HXE := Lib.hid (HXZ.out.below hb11)
              have HRE := Lib.hid (HRZ.out.below hb11)
              have HBE := Lib.hid (HBZ.out.trans (Step.of_below (X := fun _ => False) hb11 HXZ.out.n_le).2)
              clear hb11
              go_wp2_with fail
              case roundEnd => exact ⟨⟨j + 1, by omega, by go_num, D9, L9, C, K, HLZ.out.mono (by omega), HRE.out, (HXE.out.moreC (by omega)).less (fun g hg => hg), HBE.out⟩, by simp only [intOf]; omega⟩
            · clear HRD
              have HL9 := Lib.hid hl9
              have HX9 := Lib.hid (hx9.less (X' := (fun g => g = k1 ∨ g = k2)) (fun g hg => hg))
              have HR9 := Lib.hid (HR7.out.step hs9 (.inl rfl) (.inr rfl))
              have HB9 := Lib.hid (HB7.out.trans hs9.2)
              have HRD := Lib.hid (last_again HX9.out HL9.out p hp6 hr9 x.1 x.2 0 (told_some hp6 HC.out) (by omega) (by have := HN.out; omega) (by omega))
              clear hl9 hx9 hs9 hr9
              go_wp2_with fail
              refine HRD.out.mono ?_
              rintro e w10 ⟨A10, p10, D10, L10, rfl, hbf, hl10, hx10, hs10⟩
              clear HRD
              have HLZ := Lib.hid hl10
              have HXZ := Lib.hid (hx10.less (X' := (fun g => g = k1 ∨ g = k2)) (fun g hg => .inl hg))
              have HRZ := Lib.hid (HR9.out.step hs10 (.inl rfl) (.inr rfl))
              have HBZ := Lib.hid (HB9.out.trans hs10.2)
              have q2 := flag_yes HRZ.out hp6 HC.out
              obtain ⟨kA, kn, kc, q1, hse⟩ := kept_same HRZ.out hp6 HC.out HBZ.out A10 p10 _ hx8 hbf
              have HSE := Lib.hid hse
              clear hl10 hx10 hs10 hbf hse hx8
              go_wp2_with fail
              refine HSE.out.mono ?_
              rintro e w11 ⟨rfl, hb11⟩
              have HXE := Lib.hid (HXZ.out.below hb11)
              have HRE := Lib.hid (HRZ.out.below hb11)
              have HBE := Lib.hid (HBZ.out.trans (Step.of_below (X := fun _ => False) hb11 HXZ.out.n_le).2)
              clear hb11
              go_wp2_with fail
              case roundEnd => exact ⟨⟨j + 1, by omega, by go_num, D10, L10, C, K, HLZ.out.mono (by omega), HRE.out, (HXE.out.moreC (by omega)).less (fun g hg => hg), HBE.out⟩, by simp only [intOf]; omega⟩
      · have hji : ¬ (j : Int) < (l.length : Int) := by omega
        have HL := Lib.hid (hl.mono (show 3 * j ≤ 600 by omega))
        have HR := Lib.hid hr
        have HX := Lib.hid (hx.moreC (show 3 * j ≤ 600 by omega))
        have HB := Lib.hid hb
        clear hl hr hx hb
        go_wp2_with fail
        go_loopw [17] (fun i wr => ∃ k : Nat, k ≤ 1 ∧ i = .int .i64 k ∧ ∃ D L, LastIn n (600 + k) D L C ∧ RowsAt w wr k1 k2 C K ∧ PoolX w.heap.size wr P d n D L 600 (fun g => g = k1 ∨ g = k2) ∧ Below w.heap.size w wr ∧ (k = 1 → D.sync.1 = 0)) (fun i _ => 2 - (intOf i).toNat)
        case atStart => exact ⟨0, by omega, rfl, D, L, HL.out, HR.out, HX.out, HB.out, fun h => absurd h (by omega)⟩
        case round =>
          clear HL HR HX HB
          obtain ⟨k, hk, rfl, D, L, hl, hr, hx, hb, hz⟩ := hrel
          have hk5 : (k : Int) < 5 := by omega
          have HSY := Lib.hid (last_sync hx hl (by omega))
          have HL := Lib.hid hl
          have HR := Lib.hid hr
          have HX := Lib.hid hx
          have HB := Lib.hid hb
          by_cases hs : D.sync.1 = 0
          · rw [hs] at HSY
            have HS0 := Lib.hid hs
            clear hl hr hx hb hz hs
            go_wp2_with fail
            refine HSY.out.mono ?_
            rintro e w12 ⟨rfl, hx12, hs12⟩
            have HX12 := Lib.hid hx12
            have HR12 := Lib.hid (HR.out.step hs12 (.inl rfl) (.inr rfl))
            have HB12 := Lib.hid (HB.out.trans hs12.2)
            have HL12 := Lib.hid HL.out.sync
            have HCA := Lib.hid (sync_bare HS0.out)
            generalize D.sync.2 = D2 at *
            have HCU := Lib.hid (last_cut HX12.out HL12.out (by omega))
            clear hx12 hs12 HSY HS0
            go_wp2_with fail
            refine HCU.out.mono ?_
            rintro e w13 ⟨rfl, ⟨S, hd13, hxs⟩, hs13⟩
            have HR13 := Lib.hid (HR12.out.step hs13 (.inl rfl) (.inr rfl))
            have HB13 := Lib.hid (HB12.out.trans hs13.2)
            have HE13 := Lib.hid ((HL12.out.cut HCA.out 2 (by omega)).mono (show 600 + k + 1 ≤ 602 by omega))
            have HPN := Lib.hid (pnew_ok hd13 (X := fun g => g = k1 ∨ g = k2) hxs 2 (by omega) (by omega))
            generalize D2.cut [] = D3 at *
            clear hd13 hxs hs13 HCU HX12 HL12 HCA
            go_wp2_with fail
            refine HPN.out.mono ?_
            rintro e w14 ⟨P2, rfl, hx14, hb14⟩
            have HX14 := Lib.hid hx14
            have HR14 := Lib.hid (HR13.out.below hb14)
            have HB14 := Lib.hid (below_next0 HB13.out hb14)
            clear hx14 hb14 HPN
            go_wp2_with fail
            go_loopw [20] (fun i wr => ∃ q : Nat, q ≤ 6 ∧ i = .int .i64 q ∧ ∃ D L, Even 2 (602 + q) 6 D L C ∧ RowsAt w wr k1 k2 C K ∧ PoolX w.heap.size wr P2 d 2 D L q (fun g => g = k1 ∨ g = k2) ∧ Below w.heap.size w wr) (fun i _ => 6 - (intOf i).toNat)
            case atStart => exact ⟨0, by omega, rfl, D3, [], HE13.out, HR14.out, HX14.out, HB14.out⟩
            case round =>
              clear HE13 HR14 HX14 HB14 HR13 HB13
              obtain ⟨q, hq, rfl, D, L, he, hr, hx, hb⟩ := hrel
              by_cases hq6 : q < 6
              · have hqi : (q : Int) < 6 := by omega
                have hqw : IntKind.u32.wrap (q : Int) = (q : Int) := by rw [IntKind.wrap_u32]; omega
                have HE := Lib.hid he
                have HR := Lib.hid hr
                have HX := Lib.hid hx
                have HB := Lib.hid hb
                clear he hr hx hb
                obtain ⟨o, hC⟩ : ∃ o, C q = o := ⟨_, rfl⟩
                cases o with
                | none =>
                  have HC := Lib.hid hC
                  clear hC
                  have HRD := Lib.hid (ev_read1 HX.out HE.out q (by omega) 0 [] 100 (told_none hq6 HC.out) (by omega) (by omega) (by omega))
                  go_wp2_with fail
                  refine HRD.out.mono ?_
                  rintro e w15 ⟨A15, p15, D15, L15, rfl, hbf, he15, hx15, hs15⟩
                  have HE15 := Lib.hid he15
                  have HX15 := Lib.hid (hx15.less (X' := fun g => g = k1 ∨ g = k2) (fun g hg => .inl hg))
                  have HR15 := Lib.hid (HR.out.step hs15 (.inl rfl) (.inr rfl))
                  have HB15 := Lib.hid (HB.out.trans hs15.2)
                  have q2 := flag_no HR15.out hq6 HC.out
                  clear hbf he15 hx15 hs15 HRD
                  go_wp2_with fail
                  case roundEnd => exact ⟨⟨q + 1, by omega, by go_num, D15, L15, HE15.out, HR15.out, HX15.out, HB15.out⟩, by simp only [intOf]; omega⟩
                | some x =>
                  have HC := Lib.hid hC
                  clear hC
                  have hx8 := even_page HE.out hq6 HC.out
                  have HRD := Lib.hid (ev_read1 HX.out HE.out q (by omega) x.1 x.2 0 (told_some hq6 HC.out) (by omega) (by omega) (by omega))
                  go_wp2_with fail
                  refine HRD.out.mono ?_
                  rintro e w15 ⟨A15, p15, D15, L15, rfl, hbf, he15, hx15, hs15⟩
                  have HE15 := Lib.hid he15
                  have HX15 := Lib.hid (hx15.less (X' := fun g => g = k1 ∨ g = k2) (fun g hg => .inl hg))
                  have HR15 := Lib.hid (HR.out.step hs15 (.inl rfl) (.inr rfl))
                  have HB15 := Lib.hid (HB.out.trans hs15.2)
                  have q2 := flag_yes HR15.out hq6 HC.out
                  obtain ⟨kA, kn, kc, q1, hse⟩ := kept_same HR15.out hq6 HC.out HB15.out A15 p15 _ hx8 hbf
                  have HSE := Lib.hid hse
                  clear hbf he15 hx15 hs15 HRD hse hx8
                  go_wp2_with fail
                  refine HSE.out.mono ?_
                  rintro e w16 ⟨rfl, hb16⟩
                  have HX16 := Lib.hid (HX15.out.below hb16)
                  have HR16 := Lib.hid (HR15.out.below hb16)
                  have HB16 := Lib.hid (HB15.out.trans (Step.of_below (X := fun _ => False) hb16 HX15.out.n_le).2)
                  clear hb16
                  go_wp2_with fail
                  case roundEnd => exact ⟨⟨q + 1, by omega, by go_num, D15, L15, HE15.out, HR16.out, HX16.out, HB16.out⟩, by simp only [intOf]; omega⟩
              · have hqi : ¬ (q : Int) < 6 := by omega
                go_wp2_with fail
                go_ret
                exact ⟨rfl, hb⟩
          · have hk0 : k = 0 := by
              rcases Nat.lt_or_ge k 1 with h | h
              · omega
              · exact absurd (hz (by omega)) hs
            have hk1 : k + 1 ≤ 1 := by omega
            have hk2' : ¬ 2 < (k : Int) := by omega
            have HON := Lib.hid (hl.lit.sync_once hs)
            have HL12 := Lib.hid (hl.sync.mono (show 600 + k + 1 ≤ 600 + (k + 1) by omega))
            obtain ⟨er, her⟩ : ∃ er, er = D.sync.1 := ⟨_, rfl⟩
            rw [← her] at HSY hs
            have hee : ((er : Int) != 0) = true := by simp; omega
            have hei : ¬ (er : Int) = 0 := by omega
            generalize D.sync.2 = D2 at *
            clear hl hr hx hb hz hs her hk0
            go_wp2_with fail
            refine HSY.out.mono ?_
            rintro e w12 ⟨rfl, hx12, hs12⟩
            have HX12 := Lib.hid hx12
            have HR12 := Lib.hid (HR.out.step hs12 (.inl rfl) (.inr rfl))
            have HB12 := Lib.hid (HB.out.trans hs12.2)
            clear hx12 hs12 HSY
            go_wp2_with fail
            case roundEnd => exact ⟨⟨k + 1, hk1, by go_num, D2, L, HL12.out, HR12.out, HX12.out, HB12.out, fun _ => HON.out⟩, by simp only [intOf]; omega⟩
end Go.Proofs.Ytfbjjblgcgjndaa
