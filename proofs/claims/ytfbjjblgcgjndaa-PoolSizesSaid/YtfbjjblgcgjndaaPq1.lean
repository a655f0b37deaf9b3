/- Joined texts: Two, PoolPl2, Open5, Open6, Two2, PoolS. -/
import Derived.StillTailTactics
import Derived.Test.YtfbjjblgcgjndaaPk1
import Derived.Test.YtfbjjblgcgjndaaPk2
import Derived.Test.YtfbjjblgcgjndaaPk3
import Derived.Test.YtfbjjblgcgjndaaPk4
import Derived.Test.YtfbjjblgcgjndaaPk5
import Derived.Test.YtfbjjblgcgjndaaPk6
import Derived.Test.YtfbjjblgcgjndaaPk7
import Derived.Test.YtfbjjblgcgjndaaPk8
import Derived.Test.YtfbjjblgcgjndaaPk9
set_option linter.unusedVariables false
set_option linter.unusedSimpArgs false

/- Two pools, each over its own disk, side by side. -/
namespace Go.Proofs.Ytfbjjblgcgjndaa
open Go.RowKit

/-- two pools -/
def Two (n0 : Nat) (w : World) (P1 d1 m1 : Nat) (D1 : Dsk) (L1 : List Hand) (c1 : Nat) (P2 d2 m2 : Nat) (D2 : Dsk) (L2 : List Hand) (c2 : Nat) (X : Nat → Prop) : Prop :=
  ∃ U1 U2 : Nat → Prop, (∃ S1 T1, PoolOk n0 w P1 d1 m1 D1 L1 c1 S1 T1 ∧ U1 = fun g => S1 g ∨ T1 g) ∧ (∃ S2 T2, PoolOk n0 w P2 d2 m2 D2 L2 c2 S2 T2 ∧ U2 = fun g => S2 g ∨ T2 g) ∧ (∀ g, U1 g → ¬ U2 g) ∧ ∀ g, X g → g < w.heap.size ∧ ¬ U1 g ∧ ¬ U2 g
section
variable {n0 : Nat} {w w' : World} {P1 d1 m1 : Nat} {D1 : Dsk} {L1 : List Hand} {c1 : Nat} {P2 d2 m2 : Nat} {D2 : Dsk} {L2 : List Hand} {c2 : Nat} {X : Nat → Prop}
theorem Two.swap (h : Two n0 w P1 d1 m1 D1 L1 c1 P2 d2 m2 D2 L2 c2 X) : Two n0 w P2 d2 m2 D2 L2 c2 P1 d1 m1 D1 L1 c1 X := by
  obtain ⟨U1, U2, h1, h2, hs, hx⟩ := h
  exact ⟨U2, U1, h2, h1, fun g a b => hs g b a, fun g hg => ⟨(hx g hg).1, (hx g hg).2.2, (hx g hg).2.1⟩⟩
theorem Two.n_le (h : Two n0 w P1 d1 m1 D1 L1 c1 P2 d2 m2 D2 L2 c2 X) : n0 ≤ w.heap.size := by
  obtain ⟨U1, U2, ⟨S1, T1, h1, _⟩, _⟩ := h
  exact h1.disk.new_n
theorem Two.less (h : Two n0 w P1 d1 m1 D1 L1 c1 P2 d2 m2 D2 L2 c2 X) {X' : Nat → Prop} (hX : ∀ g, X' g → X g) : Two n0 w P1 d1 m1 D1 L1 c1 P2 d2 m2 D2 L2 c2 X' := by
  obtain ⟨U1, U2, h1, h2, hs, hx⟩ := h
  exact ⟨U1, U2, h1, h2, hs, fun g hg => hx g (hX g hg)⟩
theorem PoolOk.lt {P d most : Nat} {D : Dsk} {L : List Hand} {c : Nat} {S T : Nat → Prop} (h : PoolOk n0 w P d most D L c S T) (g : Nat) (hg : S g ∨ T g) : n0 ≤ g ∧ g < w.heap.size := by
  rcases hg with hg | hg
  · exact ⟨(h.disk.lt g hg).1, h.disk.top g hg⟩
  · exact h.pool.2 g hg
theorem PoolOk.keep {P d most : Nat} {D : Dsk} {L : List Hand} {c : Nat} {S T G : Nat → Prop} (h : PoolOk n0 w P d most D L c S T) (hc : Chg G w w') (hG : ∀ g, S g ∨ T g → ¬ G g) : PoolOk n0 w' P d most D L c S T :=
  ⟨h.disk.keep hc (fun g hg => hG g (.inl hg)), h.pool.keep hc (fun g hg => hG g (.inr hg)), h.sep⟩
/-- the first of them -/
theorem Two.one (h : Two n0 w P1 d1 m1 D1 L1 c1 P2 d2 m2 D2 L2 c2 X) : ∃ U : Nat → Prop, (∀ g, U g → n0 ≤ g) ∧ PoolX n0 w P1 d1 m1 D1 L1 c1 (fun g => X g ∨ U g) ∧
    ∀ w' D' L' c' (Y : Nat → Prop), PoolX n0 w' P1 d1 m1 D' L' c' (fun g => (X g ∨ U g) ∨ Y g) → Step n0 (fun g => X g ∨ U g) w w' → (∀ g, Y g → w.heap.size ≤ g) → Two n0 w' P1 d1 m1 D' L' c' P2 d2 m2 D2 L2 c2 (fun g => X g ∨ Y g) ∧ Step n0 X w w' := by
  obtain ⟨U1, U2, ⟨S1, T1, h1, rfl⟩, ⟨S2, T2, h2, rfl⟩, hs, hx⟩ := h
  refine ⟨fun g => S2 g ∨ T2 g, fun g hg => (h2.lt g hg).1, ⟨S1, T1, h1, fun g hg => ?_⟩, fun w' D' L' c' Y hp hst hY => ⟨?_, hst.1.mono (fun g _ a b => a (.inl b)), hst.2⟩⟩
  · rcases hg with hg | hg
    · exact ⟨(hx g hg).1, fun e => (hx g hg).2.1 (.inl e), fun e => (hx g hg).2.1 (.inr e)⟩
    · exact ⟨(h2.lt g hg).2, fun e => hs g (.inl e) hg, fun e => hs g (.inr e) hg⟩
  · obtain ⟨S1', T1', h1', hx'⟩ := hp
    refine ⟨_, _, ⟨S1', T1', h1', rfl⟩, ⟨S2, T2, h2.keep hst.1 (fun g hg a => a (.inr hg)), rfl⟩, fun g hg e => ?_, fun g hg => ?_⟩
    · have := hx' g (.inl (.inr e))
      exact hg.elim this.2.1 this.2.2
    · rcases hg with hg | hg
      · have := hx' g (.inl (.inl hg))
        exact ⟨this.1, fun e => e.elim this.2.1 this.2.2, (hx g hg).2.2⟩
      · have := hx' g (.inr hg)
        exact ⟨this.1, fun e => e.elim this.2.1 this.2.2, fun e => by have := (h2.lt g e).2; have := hY g hg; omega⟩
theorem Two.keep (h : Two n0 w P1 d1 m1 D1 L1 c1 P2 d2 m2 D2 L2 c2 X) {G : Nat → Prop} (hc : Chg G w w') (hG : ∀ g, g < w.heap.size → G g → X g) : Two n0 w' P1 d1 m1 D1 L1 c1 P2 d2 m2 D2 L2 c2 X := by
  obtain ⟨U1, U2, ⟨S1, T1, h1, rfl⟩, ⟨S2, T2, h2, rfl⟩, hs, hx⟩ := h
  refine ⟨_, _, ⟨S1, T1, h1.keep hc (fun g hg e => (hx g (hG g (h1.lt g hg).2 e)).2.1 hg), rfl⟩, ⟨S2, T2, h2.keep hc (fun g hg e => (hx g (hG g (h2.lt g hg).2 e)).2.2 hg), rfl⟩, hs, fun g hg => ⟨Nat.lt_of_lt_of_le (hx g hg).1 hc.size, (hx g hg).2⟩⟩
theorem Two.below (h : Two n0 w P1 d1 m1 D1 L1 c1 P2 d2 m2 D2 L2 c2 X) (hb : Below w.heap.size w w') : Two n0 w' P1 d1 m1 D1 L1 c1 P2 d2 m2 D2 L2 c2 X :=
  h.keep (G := fun _ => False) (.of_below hb) (fun _ _ h => h.elim)
theorem Two.also (h : Two n0 w P1 d1 m1 D1 L1 c1 P2 d2 m2 D2 L2 c2 X) (hb : Below w.heap.size w w') {Y : Nat → Prop} (hY : ∀ g, Y g → w.heap.size ≤ g ∧ g < w'.heap.size) : Two n0 w' P1 d1 m1 D1 L1 c1 P2 d2 m2 D2 L2 c2 (fun g => X g ∨ Y g) := by
  have hb' := h.below hb
  obtain ⟨U1, U2, ⟨S1, T1, h1, rfl⟩, ⟨S2, T2, h2, rfl⟩, hs, hx⟩ := h
  have hc : Chg (fun _ => False) w w' := .of_below hb
  refine ⟨_, _, ⟨S1, T1, h1.keep hc (fun _ _ h => h), rfl⟩, ⟨S2, T2, h2.keep hc (fun _ _ h => h), rfl⟩, hs, fun g hg => ?_⟩
  rcases hg with hg | hg
  · exact ⟨Nat.lt_of_lt_of_le (hx g hg).1 hc.size, (hx g hg).2⟩
  · obtain ⟨a, b⟩ := hY g hg
    exact ⟨b, fun e => by have := (h1.lt g e).2; omega, fun e => by have := (h2.lt g e).2; omega⟩
def TwRead (n0 : Nat) (w : World) (P1 d1 m1 c1 P2 d2 m2 : Nat) (D2 : Dsk) (L2 : List Hand) (c2 : Nat) (X : Nat → Prop) (r : Rd) (e : Ending) (w' : World) : Prop :=
  ∃ A cap, e = .returned (.tuple #[.int .u8 (r.kind : Nat), .slice A r.pay.length cap, .int .u16 (r.err : Nat)]) ∧ Buf w.heap.size w' (.slice A r.pay.length cap) r.pay ∧ Two n0 w' P1 d1 m1 r.D r.L (c1 + 1) P2 d2 m2 D2 L2 c2 (fun g => X g ∨ blk (.slice A r.pay.length cap) g) ∧ Step n0 X w w'
theorem two_read (h : Two n0 w P1 d1 m1 D1 L1 c1 P2 d2 m2 D2 L2 c2 X) (n : Nat) (hn : n < 4294967296) {j : Nat} (hs : Small D1 j) (hj : j ≤ 10000000) (hm : m1 ≤ 4611686018427387904) (hcc : c1 ≤ 100000000) :
    Calls Try.prog 81 #[.pointer (some ⟨P1, 0, none⟩), .int .u32 (n : Int)] w (TwRead n0 w P1 d1 m1 c1 P2 d2 m2 D2 L2 c2 X (plRead m1 D1 L1 n)) := by
  obtain ⟨U, hU, hp, hst⟩ := h.one
  refine (plread_any hp n hn (hs.c (by omega)) (hs.m (by omega) 1) hm (by omega)).mono ?_
  rintro e w' ⟨A, cap, rfl, hb, hx, hs'⟩
  obtain ⟨a, b⟩ := hst w' _ _ _ (blk (.slice A (plRead m1 D1 L1 n).pay.length cap)) hx hs' (fun g hg => (row_lt hb hg).1)
  exact ⟨A, cap, rfl, hb, a, b⟩
theorem two_write (h : Two n0 w P1 d1 m1 D1 L1 c1 P2 d2 m2 D2 L2 c2 X) (n k : Nat) (hn : n < 4294967296) (hk : k < 256) (s : Inner) (hok : ∀ w', Below n0 w w' → s.Ok w') {j : Nat} (hs : Small D1 j) (hj : j ≤ 10000000) (hm : m1 ≤ 4611686018427387904) (hcc : c1 ≤ 100000000) :
    Calls Try.prog 80 #[.pointer (some ⟨P1, 0, none⟩), .int .u32 (n : Int), .int .u8 (k : Int), .slice s.A s.l.length s.c] w fun e w' => e = .returned (.int .u16 ((plWrite m1 D1 L1 n k s.l).err : Nat)) ∧ Two n0 w' P1 d1 m1 (plWrite m1 D1 L1 n k s.l).D (plWrite m1 D1 L1 n k s.l).L (c1 + 1) P2 d2 m2 D2 L2 c2 X ∧ Step n0 X w w' := by
  obtain ⟨U, hU, hp, hst⟩ := h.one
  have h0 := hok w (Below.refl _ _)
  refine (plwrite_any hp n k hn hk s.l s.A s.c s.l.length rfl (fun w' hw' => (hok w' hw'.2).lies) h0.nil h0.bytes (hs.c (by omega)) (hs.m (by omega) 2) hm (by omega)).mono ?_
  rintro e w' ⟨rfl, hx, hs'⟩
  obtain ⟨a, b⟩ := hst w' _ _ _ (fun _ => False) (hx.less (fun g hg => hg.elim id (fun e => e.elim))) hs' (fun g hg => hg.elim)
  exact ⟨rfl, a.less (fun g hg => .inl hg), b⟩
theorem two_forget (h : Two n0 w P1 d1 m1 D1 L1 c1 P2 d2 m2 D2 L2 c2 X) (n : Nat) (hn : n < 4294967296) :
    Calls Try.prog 85 #[.pointer (some ⟨P1, 0, none⟩), .int .u32 (n : Int)] w fun e w' => e = .returned (.tuple #[]) ∧ Two n0 w' P1 d1 m1 D1 (forget n L1) c1 P2 d2 m2 D2 L2 c2 X ∧ Step n0 X w w' := by
  obtain ⟨U, hU, hp, hst⟩ := h.one
  refine (plforget_any hp n hn).mono ?_
  rintro e w' ⟨rfl, hx, hs'⟩
  obtain ⟨a, b⟩ := hst w' _ _ _ (fun _ => False) (hx.less (fun g hg => hg.elim id (fun e => e.elim))) hs' (fun g hg => hg.elim)
  exact ⟨rfl, a.less (fun g hg => .inl hg), b⟩
theorem two_len (h : Two n0 w P1 d1 m1 D1 L1 c1 P2 d2 m2 D2 L2 c2 X) : Calls Try.prog 82 #[.pointer (some ⟨P1, 0, none⟩)] w fun x w' => x = .returned (.int .i64 (L1.length : Int)) ∧ w = w' := by
  obtain ⟨U, hU, hp, hst⟩ := h.one
  exact pllen_any hp
theorem two_sync (h : Two n0 w P1 d1 m1 D1 L1 c1 P2 d2 m2 D2 L2 c2 X) {j : Nat} (hs : Small D1 j) (hj : j ≤ 10000000) : Calls Try.prog 86 #[.pointer (some ⟨P1, 0, none⟩)] w fun e w' => e = .returned (.int .u16 (D1.sync.1 : Nat)) ∧ Two n0 w' P1 d1 m1 D1.sync.2 L1 c1 P2 d2 m2 D2 L2 c2 X ∧ Step n0 X w w' := by
  obtain ⟨U, hU, hp, hst⟩ := h.one
  refine (plsync_any hp (hs.c (by omega)) (hs.m (by omega) 3)).mono ?_
  rintro e w' ⟨rfl, hx, hs'⟩
  obtain ⟨a, b⟩ := hst w' _ _ _ (fun _ => False) (hx.less (fun g hg => hg.elim id (fun e => e.elim))) hs' (fun g hg => hg.elim)
  exact ⟨rfl, a.less (fun g hg => .inl hg), b⟩
theorem Two.moreC (h : Two n0 w P1 d1 m1 D1 L1 c1 P2 d2 m2 D2 L2 c2 X) {c1' c2' : Nat} (e1 : c1 ≤ c1') (e2 : c2 ≤ c2') : Two n0 w P1 d1 m1 D1 L1 c1' P2 d2 m2 D2 L2 c2' X := by
  obtain ⟨U1, U2, ⟨S1, T1, h1, rfl⟩, ⟨S2, T2, h2, rfl⟩, hs, hx⟩ := h
  exact ⟨_, _, ⟨S1, T1, ⟨h1.disk, h1.pool.moreC e1, h1.sep⟩, rfl⟩, ⟨S2, T2, ⟨h2.disk, h2.pool.moreC e2, h2.sep⟩, rfl⟩, hs, hx⟩
theorem two_new {S : Nat → Prop} (hp : PoolX n0 w P1 d1 m1 D1 L1 c1 S) (hd : DG n0 w d2 D2 S) (m : Nat) (h1 : 1 ≤ m) (hm : m ≤ 4611686018427387904) :
    Calls Try.prog 79 #[.pointer (some ⟨d2, 0, none⟩), .int .i64 (m : Int)] w fun e w' => ∃ P, e = .returned (.tuple #[.pointer (some ⟨P, 0, none⟩), .int .u16 0]) ∧ Two n0 w' P1 d1 m1 D1 L1 c1 P d2 m D2 [] 0 (fun _ => False) ∧ Below w.heap.size w w' := by
  obtain ⟨S1, T1, ho, hx⟩ := hp
  refine (pnew_ok hd (X := fun g => S1 g ∨ T1 g) (fun g hg => ⟨(ho.lt g hg).2, fun e => hg.elim (hx g e).2.1 (hx g e).2.2⟩) m h1 hm).mono ?_
  rintro e w' ⟨P, rfl, ⟨S2, T2, h2, hx2⟩, hb⟩
  refine ⟨P, rfl, ⟨_, _, ⟨S1, T1, ho.keep (G := fun _ => False) (.of_below hb) (fun _ _ h => h), rfl⟩, ⟨S2, T2, h2, rfl⟩, fun g hg e => ?_, fun g hg => hg.elim⟩, hb⟩
  have := hx2 g hg
  exact e.elim this.2.1 this.2.2
end
end Go.Proofs.Ytfbjjblgcgjndaa

/- Pool, plain laws: calm disks, lit disks, sync. -/
namespace Go.Proofs.Ytfbjjblgcgjndaa

theorem lastSet (l : List (List Nat)) (i x : Nat) (s : List Nat) (hx : x < l.length) : (l.set i s).getD x [] = if i = x then s else l.getD x [] := by
  rw [List.getD_eq_getElem?_getD, List.getD_eq_getElem?_getD, List.getElem?_set]
  by_cases h : i = x
  · subst h
    rw [if_pos rfl, if_pos hx, if_pos rfl]; rfl
  · rw [if_neg h, if_neg h]
theorem snoc_ind {α : Type} {P : List α → Prop} (h0 : P []) (h1 : ∀ c x, P c → P (c ++ [x])) (c : List α) : P c := by
  have : ∀ n (c : List α), c.length = n → P c := by
    intro n
    induction n with
    | zero => intro c hc; rw [List.eq_nil_of_length_eq_zero hc]; exact h0
    | succ n ih =>
      intro c hc
      have hne : c ≠ [] := fun e => by rw [e] at hc; simp at hc
      rw [← List.dropLast_concat_getLast hne]
      exact h1 _ _ (ih _ (by simp [hc]))
  exact this _ c rfl
theorem settled_all (l : List (List Nat)) (x : Nat) (hx : x < l.length) (c : List (Nat × List Nat)) : (settled l c (fun _ => true) c.length).getD x [] = (lastWrite c x).getD (l.getD x []) := by
  induction c using snoc_ind with
  | h0 => rfl
  | h1 c y ih =>
    obtain ⟨a, s⟩ := y
    rw [List.length_append, List.length_singleton, settled_snoc, if_pos rfl, lastSet _ _ _ _ (by rw [settled_length]; exact hx), lastWrite_append, ih]
    simp only
    split <;> rfl
theorem sec_settle (D : Dsk) (x : Nat) (hx : x < D.last.length) : (D.settle fun _ => true).sec x = D.sec x := by
  have h := settled_all D.last x hx D.cache
  have e : (D.settle fun _ => true).sec x = (settled D.last D.cache (fun _ => true) D.cache.length).getD x [] := rfl
  rw [e, h]
  unfold Dsk.sec
  cases lastWrite D.cache x <;> rfl
theorem page_settle (D : Dsk) (n : Nat) (hn : n < D.pages) : pageOf (D.settle fun _ => true) n = pageOf D n := by
  unfold pageOf
  refine secs_congr fun i hi => sec_settle D _ ?_
  unfold Dsk.pages at hn
  omega
/-- the pages are the same -/
structure SameP (D E : Dsk) : Prop where
  pages : E.pages = D.pages
  page : ∀ n, n < D.pages → pageOf E n = pageOf D n
theorem SameD.p {D E : Dsk} (h : SameD D E) : SameP D E := ⟨h.pages, fun n _ => h.page n⟩
theorem SameP.trans {D E F : Dsk} (h : SameP D E) (k : SameP E F) : SameP D F := ⟨k.pages.trans h.pages, fun n hn => (k.page n (by rw [h.pages]; exact hn)).trans (h.page n hn)⟩
theorem coh_pages {most : Nat} {D E : Dsk} {L : List Hand} {C : Nat → Option (Nat × List Nat)} (h : Coh most D L C) (hs : SameP D E) : Coh most E L C :=
  ⟨fun m hm' => by
    rw [hs.pages] at hm'
    exact (h.page m hm').same (hs.page m hm'), fun x hx => by rw [hs.pages]; exact h.hand x hx, h.len⟩
theorem coh_bare {most : Nat} {D : Dsk} {L : List Hand} {C : Nat → Option (Nat × List Nat)} (h : Coh most D L C) (m : Nat) : Coh m D [] C :=
  ⟨h.page, fun x hx => by simp at hx, Nat.zero_le _⟩
theorem same_sync (D : Dsk) : SameP D D.sync.2 := by
  unfold Dsk.sync
  split
  · exact (same_begin D 3).p
  · exact ⟨by simp only; rw [Dsk.settle_pages]; rfl, fun n hn => by
      simp only
      rw [page_settle (D.go 3) n hn]
      exact (show SameD D (D.go 3) from ⟨rfl, rfl⟩).page n⟩
section
variable {most : Nat} {D : Dsk} {L : List Hand} {C : Nat → Option (Nat × List Nat)} {j : Nat}
/-- a pool over a disk that does not fail -/
structure Even (most j N : Nat) (D : Dsk) (L : List Hand) (C : Nat → Option (Nat × List Nat)) : Prop where
  coh : Coh most D L C
  calm : D.Calm
  small : Small D j
  pages : D.pages = N
  one : 1 ≤ most
theorem small_rd {D : Dsk} {j : Nat} (h : Small D j) (most n : Nat) (L : List Hand) : Small (plRead most D L n).D (j + 1) := by
  unfold plRead
  split
  · exact h.mono (by omega)
  · split
    · exact h.mono (by omega)
    · split
      · exact h.read _
      · split <;> exact h.read _
theorem small_wr {D : Dsk} {j : Nat} (h : Small D j) (most n k : Nat) (p : List Nat) (L : List Hand) : Small (plWrite most D L n k p).D (j + 1) := by
  unfold plWrite
  split
  · split
    · exact h.mono (by omega)
    · split <;> exact h.write _ _
  · exact h.mono (by omega)
theorem calm_rd {D : Dsk} (h : D.Calm) (most n : Nat) (L : List Hand) : (plRead most D L n).D.Calm := by
  unfold plRead
  split
  · exact h
  · rename_i hp
    have hc : (D.read (n : Int)).2.2.Calm := by rw [h.read n (by omega)]; exact h.go 1
    split
    · exact h
    · split
      · exact hc
      · split <;> exact hc
theorem calm_wr {D : Dsk} (h : D.Calm) (most n k : Nat) (p : List Nat) (L : List Hand) : (plWrite most D L n k p).D.Calm := by
  unfold plWrite
  split
  · rename_i hs
    split
    · exact h
    · rename_i hp
      have hw := h.write n (by omega) (sealed k n p) (.inl (sealed_length k n p hs.2.2))
      have hc : (D.write (n : Int) (sealed k n p)).2.Calm := by rw [hw]; exact (h.go 2).put _ _ _
      split <;> exact hc
  · exact h
theorem Even.read {N : Nat} (h : Even most j N D L C) (n : Nat) : Even most (j + 1) N (plRead most D L n).D (plRead most D L n).L C ∧ ((plRead most D L n).kind, (plRead most D L n).pay, (plRead most D L n).err) = tells D C n := by
  obtain ⟨a, b, c⟩ := coh_read h.coh h.one n
  refine ⟨⟨a, calm_rd h.calm _ _ _, small_rd h.small _ _ _, b.pages.trans h.pages, h.one⟩, ?_⟩
  rcases c with c | ⟨c1, _, c2, _⟩
  · exact c
  · rw [h.calm.read n c1] at c2
    exact absurd rfl c2
theorem tells_eq {D E : Dsk} (h : D.pages = E.pages) (n : Nat) : tells D C n = tells E C n := by unfold tells; rw [h]
theorem calm_wr_err {D : Dsk} (h : D.Calm) (most n k : Nat) (p : List Nat) (L : List Hand) : (plWrite most D L n k p).err = if SealOk k p then (if D.pages ≤ n then 2 else 0) else 80 := by
  unfold plWrite
  by_cases hs : SealOk k p
  · rw [if_pos hs, if_pos hs]
    by_cases hp : D.pages ≤ n
    · rw [if_pos hp, if_pos hp]
    · rw [if_neg hp, if_neg hp]
      have hw := h.write n (by omega) (sealed k n p) (.inl (sealed_length k n p hs.2.2))
      rw [hw]
      simp
  · rw [if_neg hs, if_neg hs]
theorem Even.write {N : Nat} (h : Even most j N D L C) (n k : Nat) (p : List Nat) : Even most (j + 1) N (plWrite most D L n k p).D (plWrite most D L n k p).L (if (if SealOk k p then (if N ≤ n then 2 else 0) else 80) = 0 then turn C n (some (k, p)) else C) ∧ (plWrite most D L n k p).err = if SealOk k p then (if N ≤ n then 2 else 0) else 80 := by
  obtain ⟨a, b⟩ := coh_write h.coh h.one n k p
  have he := calm_wr_err h.calm most n k p L
  rw [h.pages] at he
  rw [he] at a
  exact ⟨⟨a, calm_wr h.calm _ _ _ _ _, small_wr h.small _ _ _ _ _, b.trans h.pages, h.one⟩, he⟩
theorem Even.forget {N : Nat} (h : Even most j N D L C) (n : Nat) : Even most j N D (forget n L) C := ⟨coh_forget h.coh n, h.calm, h.small, h.pages, h.one⟩
theorem Even.sync {N : Nat} (h : Even most j N D L C) : Even most (j + 1) N D.sync.2 L C ∧ D.sync.1 = 0 := by
  refine ⟨⟨coh_pages h.coh (same_sync D), by rw [h.calm.sync]; exact (h.calm.go 3).settle _, h.small.sync, (same_sync D).pages.trans h.pages, h.one⟩, by rw [h.calm.sync]⟩
theorem Even.mono {N j' : Nat} (h : Even most j N D L C) (hj : j ≤ j') : Even most j' N D L C := ⟨h.coh, h.calm, h.small.mono hj, h.pages, h.one⟩
theorem Even.new (N m : Nat) (h1 : 1 ≤ N) (h2 : N ≤ 16384) (hm : 1 ≤ m) : Even m 0 N (Dsk.new N) [] (fun _ => none) := ⟨coh_new m N h1 h2, Dsk.new_calm N, Small.new N, Dsk.new_pages N, hm⟩
/-- power is on, no trip is set -/
def Lit (D : Dsk) : Prop := D.dark = false ∧ D.trip = -1
theorem Lit.begin (h : Lit D) (k : Nat) : (D.begin k = (6, D.fall k) ∧ D.f k = 0) ∨ (D.begin k = (0, D.go k) ∧ D.f k ≠ 0) := by
  unfold Dsk.begin
  rw [if_neg (by simp [h.1]), if_neg (by have := h.2; omega)]
  by_cases e : D.f k = 0
  · rw [if_pos e]; exact .inl ⟨rfl, e⟩
  · rw [if_neg e]; exact .inr ⟨rfl, e⟩
theorem Lit.fall (h : Lit D) (k : Nat) : Lit (D.fall k) := ⟨h.1, by unfold Dsk.fall; simp only [h.2]; rfl⟩
theorem Lit.go (h : Lit D) (k : Nat) : Lit (D.go k) := ⟨h.1, by unfold Dsk.go; simp only [h.2]; rfl⟩
theorem Lit.beg (h : Lit D) (k : Nat) : Lit (D.begin k).2 := by
  rcases h.begin k with e | e
  · rw [e.1]; exact h.fall k
  · rw [e.1]; exact h.go k
theorem Lit.read (h : Lit D) (n : Int) : Lit (D.read n).2.2 := by
  unfold Dsk.read
  split
  · exact h.beg 1
  · split <;> exact h.go 1
theorem Lit.write (h : Lit D) (n : Int) (b : List Nat) : Lit (D.write n b).2 := by
  unfold Dsk.write
  split
  · exact h.beg 2
  · split
    · exact h.go 2
    · split
      · exact h.go 2
      · exact h.go 2
theorem Lit.sync (h : Lit D) : Lit D.sync.2 := by
  unfold Dsk.sync
  split
  · exact h.beg 3
  · exact h.go 3
theorem Lit.setFail (h : Lit D) (k n : Int) : Lit (D.setFail k n).2 := by
  unfold Dsk.setFail
  split
  · exact h
  · split <;> exact h
theorem same_setFail (D : Dsk) (k n : Int) : SameD D (D.setFail k n).2 := by
  unfold Dsk.setFail
  split
  · exact ⟨rfl, rfl⟩
  · split <;> exact ⟨rfl, rfl⟩
/-- a read that fails, fails once -/
theorem Lit.read_once (h : Lit D) (n : Nat) (hn : n < D.pages) (he : (D.read (n : Int)).1 ≠ 0) : (D.read (n : Int)).1 = 6 ∧ ((D.read (n : Int)).2.2.read (n : Int)).1 = 0 := by
  have hr : D.read (n : Int) = ((D.begin 1).1, [], (D.begin 1).2) ∧ (D.begin 1).1 ≠ 0 := by
    unfold Dsk.read at he ⊢
    split
    · rename_i h1; exact ⟨rfl, h1⟩
    · rename_i h1
      rw [if_neg h1, if_neg (by omega)] at he
      exact absurd rfl he
  rcases h.begin 1 with e | e
  · rw [hr.1, e.1]
    refine ⟨rfl, ?_⟩
    have hl := h.fall 1
    have hf : (D.fall 1).f 1 = -1 := by unfold Dsk.fall; simp only [turn_same]
    have hp : (D.fall 1).pages = D.pages := rfl
    simp only
    unfold Dsk.read
    rcases hl.begin 1 with e' | e'
    · rw [hf] at e'; exact absurd e'.2 (by omega)
    · rw [e'.1, if_neg (by simp), if_neg (by rw [hp]; omega)]
  · rw [e.1] at hr; exact absurd rfl hr.2
/-- a sync that fails, fails once -/
theorem Lit.sync_once (h : Lit D) (he : D.sync.1 ≠ 0) : D.sync.2.sync.1 = 0 := by
  have hs : D.sync = D.begin 3 := by
    unfold Dsk.sync at he ⊢
    split
    · rfl
    · rename_i h1; rw [if_neg h1] at he; exact absurd rfl he
  rcases h.begin 3 with e | e
  · rw [hs, e.1]
    have hl := h.fall 3
    have hf : (D.fall 3).f 3 = -1 := by unfold Dsk.fall; simp only [turn_same]
    simp only
    unfold Dsk.sync
    rcases hl.begin 3 with e' | e'
    · rw [hf] at e'; exact absurd e'.2 (by omega)
    · rw [e'.1]; simp
  · rw [hs, e.1] at he; exact absurd rfl he
theorem sync_bare (h : D.sync.1 = 0) : D.sync.2.cache = [] := by
  unfold Dsk.sync at h ⊢
  split
  · rename_i h1; rw [if_pos h1] at h; exact absurd h h1
  · rfl
/-- a cut of a disk with nothing under way -/
theorem same_cut (D : Dsk) (h : D.cache = []) (bs : List Bool) : SameD D (D.cut bs) := by
  refine ⟨?_, ?_⟩
  · show settled D.last D.cache _ D.cache.length = D.last
    rw [h, settled_none]
  · rw [h]; rfl
theorem cut_calm (D : Dsk) (bs : List Bool) : (D.cut bs).Calm := ⟨rfl, rfl, fun _ => rfl⟩
end
end Go.Proofs.Ytfbjjblgcgjndaa

/- Openings of arguments: the acts of the disk laws. -/
namespace Go.Proofs.Ytfbjjblgcgjndaa
open Go.ChangeShapes Go.WideShapes Go.ChangeAt Go.RowKit Go.Deep

theorem flat_get {α β : Type} (f : α → List β) (n : Nat) (hf : ∀ x, (f x).length = n) : ∀ (l : List α) (i : Nat) (a : α), l[i]? = some a → ∀ j, j < n → (l.flatMap f)[i * n + j]? = (f a)[j]?
  | [], i, a, h, j, hj => by simp at h
  | x :: l, 0, a, h, j, hj => by
    simp at h; subst h
    rw [List.flatMap_cons, List.getElem?_append_left (by rw [hf]; omega)]
    simp
  | x :: l, i + 1, a, h, j, hj => by
    have := flat_get f n hf l i a (by simpa using h) j hj
    rw [List.flatMap_cons, List.getElem?_append_right (by rw [hf, Nat.succ_mul]; omega), hf, show (i + 1) * n + j - n = i * n + j by rw [Nat.succ_mul]; omega]
    exact this
theorem flat_len {α β : Type} (f : α → List β) (n : Nat) (hf : ∀ x, (f x).length = n) : ∀ (l : List α), (l.flatMap f).length = l.length * n
  | [] => by simp
  | x :: l => by rw [List.flatMap_cons, List.length_append, flat_len f n hf l, hf, List.length_cons, Nat.succ_mul]; omega
section
variable {H : Type} {enc : TypeId × Value → H} {W : World} {r : Reach} {b0 : Nat} {v : Value} {d : DataW H} {p : List MemPlace}
theorem addr_add_plain (a : Addr) (h : a = ⟨a.block, a.off, none⟩) (i : Nat) : a.add i = ⟨a.block, a.off + i, none⟩ := by rw [h, Addr.add_mid]
set_option maxRecDepth 100000 in
/-- a slice whose elements are many cells each -/
theorem open_many {α : Type} {t e : TypeId} {k : Nat} (cells : α → List Value) (q : α → Prop) (ht : Try.prog.underlying t = some (.slice e)) (hk : Try.prog.cellsOf e = k) (hk0 : 0 < k) (hb1 : 1 ≤ Try.prog.bytesOf e) (hcl : ∀ a, (cells a).length = k)
    (hR : ∀ n cs (d : DataW H) pl, DataW.trod enc Try.prog W 0 (fun _ => true) true n e cs = some (d, pl) → (∀ x ∈ d.weights Try.prog e, x ≤ reachBytes) → ∃ a, cs = cells a ∧ q a)
    (hv : Value.okWide Try.prog W r b0 t v) (h : DataW.Trod enc Try.prog W 0 (fun _ => true) true t v d p) (hw : ∀ x ∈ d.weights Try.prog t, x ≤ reachBytes) :
    ∃ (A : Option Addr) (l : List α) (c : Nat), v = .slice A l.length c ∧ At W A (l.flatMap cells) ∧ (∀ a ∈ l, q a) ∧ (A = none → c = 0) ∧ l.length ≤ c ∧ l.length ≤ 140737488351232 := by
  obtain ⟨a, n, c, rfl⟩ := okWide_slice ht hv
  obtain ⟨fuel, hf⟩ := h
  rw [show (Value.slice a n c).cells.toList = [.slice a n c] from rfl] at hf
  rcases Deep.open_slice ht hf with ⟨hcs, _⟩ | ⟨ad, len, cap, m, n', D, Pl, hcs, _, hl, hm, hmm, hx, hcell⟩
  · injection hcs with hv'
    injection hv' with e1 e2 e3
    subst e1 e2 e3
    exact ⟨none, [], 0, rfl, At.nil _ _, fun a ha => by simp at ha, fun _ => rfl, Nat.le_refl _, by simp⟩
  · injection hcs with hv'
    injection hv' with e1 e2 e3
    subst e1 e2 e3
    have hmm' : m = c := by simpa using hmm
    subst hmm'
    injection hx with hd _
    rw [hk] at hcell
    have hel : ∀ i, i < n → ∃ x, q x ∧ W.cells? 0 (ad.add (i * k)) k = some (cells x) := fun i hi => by
      obtain ⟨cs, h1, h2⟩ := hcell i (by omega)
      obtain ⟨x, rfl, hq⟩ := hR n' cs (D i) (Pl i) h2 (fun y hy => hw y (by
        rw [hd]
        exact weights_elem ht (.inl (List.mem_map.2 ⟨i, List.mem_range.2 hi, rfl⟩)) y hy))
      exact ⟨x, hq, h1⟩
    have hall : ∀ j, j ≤ n → ∃ l : List α, l.length = j ∧ (∀ a ∈ l, q a) ∧ ∀ i a, l[i]? = some a → W.cells? 0 (ad.add (i * k)) k = some (cells a) := by
      intro j
      induction j with
      | zero => exact fun _ => ⟨[], rfl, fun a ha => by simp at ha, fun i a ha => by simp at ha⟩
      | succ j ih =>
        intro hj
        obtain ⟨l, h1, h2, h3⟩ := ih (by omega)
        obtain ⟨x, hx1, hx2⟩ := hel j (by omega)
        refine ⟨l ++ [x], by simp [h1], fun a ha => ?_, fun i a ha => ?_⟩
        · rcases List.mem_append.1 ha with ha | ha
          · exact h2 a ha
          · rw [List.mem_singleton.1 ha]; exact hx1
        · by_cases hi : i < l.length
          · rw [List.getElem?_append_left hi] at ha
            exact h3 i a ha
          · have hil := (List.getElem?_eq_some_iff.1 ha).1
            simp at hil
            obtain rfl : i = l.length := by omega
            simp at ha
            subst ha
            rw [h1]; exact hx2
    obtain ⟨l, rfl, h2, h3⟩ := hall n (Nat.le_refl _)
    refine ⟨some ad, l, m, rfl, ?_, h2, fun e => (by cases e), hl, ?_⟩
    · intro hne
      have hl0 : 0 < l.length := by
        rcases Nat.eq_zero_or_pos l.length with h | h
        · rw [List.eq_nil_of_length_eq_zero h] at hne; simp at hne
        · exact h
      obtain ⟨_, _, hc0⟩ := World.cells?_some (h3 0 l[0] (List.getElem?_eq_getElem hl0))
      have hc00 := hc0 0 hk0
      have hcc : (cells l[0])[0]? = some ((cells l[0])[0]'(by rw [hcl]; exact hk0)) := List.getElem?_eq_getElem (by rw [hcl]; exact hk0)
      rw [hcc, Nat.zero_mul] at hc00
      have ha : ad = ⟨ad.block, ad.off, none⟩ := by
        refine addr_plain (w := W) (v := (cells l[0])[0]'(by rw [hcl]; exact hk0)) ?_
        have : (ad.add 0).add 0 = ad := by simp [Addr.add]
        rw [this] at hc00; exact hc00
      refine ⟨ad.block, ad.off, by rw [← ha], fun j u hu => ?_⟩
      have hj : j < (l.flatMap cells).length := (List.getElem?_eq_some_iff.1 hu).1
      have hlen : (l.flatMap cells).length = l.length * k := flat_len cells k hcl l
      rw [hlen] at hj
      have hi : j / k < l.length := (Nat.div_lt_iff_lt_mul hk0).2 hj
      have hjk : j % k < k := Nat.mod_lt _ hk0
      have hdm : j / k * k + j % k = j := by rw [Nat.mul_comm]; exact Nat.div_add_mod j k
      obtain ⟨_, _, hce⟩ := World.cells?_some (h3 (j / k) l[j / k] (List.getElem?_eq_getElem hi))
      have := hce (j % k) hjk
      rw [addr_add_plain ad ha, Addr.add_mid, show ad.off + j / k * k + j % k = ad.off + j by omega] at this
      rw [this, ← flat_get cells k hcl l (j / k) _ (List.getElem?_eq_getElem hi) (j % k) hjk, hdm]
      exact hu
    · have := hw (m * Try.prog.bytesOf e) (by
        rw [hd]
        simp only [DataW.weights, ht, List.length_map, List.length_range]
        refine List.mem_cons.2 (.inl ?_)
        rw [show l.length + (m - l.length) = m from by omega])
      rw [reach_num] at this
      exact Nat.le_trans hl (Nat.le_trans (Nat.le_mul_of_pos_right m hb1) this)
end

/-- an act -/
structure ActD where
  kind : Nat
  num : Int
  of_ : Int
  data : Inner
  keep : Lies Bool
def ActD.cells (a : ActD) : List Value := [.int .u8 (a.kind : Int), .int .i64 a.num, .int .i64 a.of_, a.data.val, a.keep.val]
structure ActD.Ok (W : World) (a : ActD) : Prop where
  kind : a.kind < 256
  num : -9223372036854775808 ≤ a.num ∧ a.num ≤ 9223372036854775807
  of_ : -9223372036854775808 ≤ a.of_ ∧ a.of_ ≤ 9223372036854775807
  data : a.data.Ok W
  keep : BoolsOk W a.keep
theorem ActD.Ok.below {w w' : World} {a : ActD} (h : a.Ok w) (hb : Below w.heap.size w w') : a.Ok w' := ⟨h.kind, h.num, h.of_, h.data.below hb, h.keep.below hb⟩
/-- acts that lie in memory -/
structure Acts where
  A : Option Addr
  l : List ActD
  c : Nat
def Acts.val (s : Acts) : Value := .slice s.A s.l.length s.c
structure Acts.Ok (W : World) (s : Acts) : Prop where
  lies : At W s.A (s.l.flatMap ActD.cells)
  all : ∀ a ∈ s.l, a.Ok W
  nil : s.A = none → s.c = 0
  le : s.l.length ≤ s.c
  small : s.l.length ≤ 140737488351232
theorem act_cell {w : World} {A : Option Addr} {l : List ActD} (h : At w A (l.flatMap ActD.cells)) (i : Nat) (a : ActD) (ha : l[i]? = some a) : ∃ b o, A = some ⟨b, o, none⟩ ∧ ∀ j, j < 5 → w.cell? ⟨b, o + i * 5 + j, none⟩ = a.cells[j]? := by
  have hg := flat_get ActD.cells 5 (fun _ => rfl) l i a ha
  obtain ⟨b, o, e, hr⟩ := h (by
    intro e
    have := hg 0 (by omega)
    rw [e] at this; simp [ActD.cells] at this)
  refine ⟨b, o, e, fun j hj => ?_⟩
  have h5 : a.cells[j]? = some (a.cells[j]'hj) := List.getElem?_eq_getElem (show j < a.cells.length from hj)
  rw [Nat.add_assoc, h5]
  exact hr _ _ (by rw [hg j hj]; exact h5)
section
variable {H : Type} {enc : TypeId × Value → H} {W : World} {r : Reach} {b0 : Nat} {v : Value} {d : DataW H} {p : List MemPlace}
theorem Try.cells109 : Try.prog.cellsOf 109 = 5 := by kernel_rfl
theorem Try.bytes109' : Try.prog.bytesOf 109 = 72 := by kernel_rfl
theorem Try.cells5' : Try.prog.cellsOf 5 = 1 := by kernel_rfl
theorem Try.cells3' : Try.prog.cellsOf 3 = 1 := by kernel_rfl
theorem Try.cells23' : Try.prog.cellsOf 23 = 1 := by kernel_rfl
theorem Try.cells73' : Try.prog.cellsOf 73 = 1 := by kernel_rfl
set_option maxRecDepth 100000 in
theorem lies_of {α : Type} {t e : TypeId} (f : α → Value) (q : α → Prop) (ht : Try.prog.underlying t = some (.slice e)) (hc : Try.prog.cellsOf e = 1) (hb1 : 1 ≤ Try.prog.bytesOf e)
    (hR : ∀ n v (d : DataW H) pl, DataW.trod enc Try.prog W 0 (fun _ => true) true n e [v] = some (d, pl) → ∃ a, v = f a ∧ q a)
    {n : Nat} (h : DataW.trod enc Try.prog W 0 (fun _ => true) true n t [v] = some (d, p)) (hw : ∀ x ∈ d.weights Try.prog t, x ≤ reachBytes) :
    ∃ s : Lies α, v = s.val ∧ s.Ok f q W := by
  have hsl : v.cells.toList = [v] := by
    rcases DataW.trod_slice ht h with ⟨hcs, _⟩ | ⟨a, len, cap, elems, rest, n', _, hcs, _⟩
    · injection hcs with h1; rw [h1]; rfl
    · injection hcs with h1; rw [h1]; rfl
  obtain ⟨A, c, vs, hvs, hA, hR', hn, hl, hb⟩ := open_one ht hc ⟨n, by rw [hsl]; exact h⟩ hsl hw (fun v => ∃ a, v = f a ∧ q a) (fun n v d pl h _ => hR n v d pl h)
  obtain ⟨l, rfl, hq⟩ := map_all vs hR'
  subst hvs
  rw [List.length_map] at hl
  refine ⟨⟨A, l, c⟩, by simp [Lies.val], hA, hn, hl, ?_, hq⟩
  have := Nat.le_trans (Nat.le_mul_of_pos_right c hb1) hb
  rw [reach_num] at this
  exact Nat.le_trans hl this
set_option maxRecDepth 100000 in
theorem bools_of {n : Nat} (h : DataW.trod enc Try.prog W 0 (fun _ => true) true n 73 [v] = some (d, p)) (hw : ∀ x ∈ d.weights Try.prog 73, x ≤ reachBytes) : ∃ s : Lies Bool, v = s.val ∧ BoolsOk W s := by
  refine lies_of Value.bool (fun _ => True) Try.underlying73 Try.cells4' (by rw [Try.bytes4']; omega) ?_ h hw
  intro n u y pl hu
  obtain ⟨b, h1, h2⟩ := DataW.trod_bool Try.underlying4 hu
  exact ⟨b, by simpa using h1, trivial⟩
set_option maxRecDepth 100000 in
theorem i64_of {n : Nat} (h : DataW.trod enc Try.prog W 0 (fun _ => true) true n 3 [v] = some (d, p)) : ∃ x : Int, v = .int .i64 x ∧ -9223372036854775808 ≤ x ∧ x ≤ 9223372036854775807 := by
  obtain ⟨a, h1, _, w⟩ := DataW.trod_int Try.underlying3 h
  injection h1 with h1
  exact ⟨a, h1, wf_i64 w⟩
set_option maxRecDepth 100000 in
theorem u8_of {n : Nat} (h : DataW.trod enc Try.prog W 0 (fun _ => true) true n 5 [v] = some (d, p)) : ∃ x : Nat, v = .int .u8 (x : Int) ∧ x < 256 := by
  obtain ⟨a, h1, _, w⟩ := DataW.trod_int Try.underlying5 h
  injection h1 with h1
  obtain ⟨l1, l2⟩ := wf_u8 w
  obtain ⟨m, rfl⟩ := Int.eq_ofNat_of_zero_le l1
  exact ⟨m, h1, by omega⟩
set_option maxRecDepth 100000 in
theorem act_of {n : Nat} {cs : List Value} (h : DataW.trod enc Try.prog W 0 (fun _ => true) true n 109 cs = some (d, p)) (hw : ∀ x ∈ d.weights Try.prog 109, x ≤ reachBytes) : ∃ a : ActD, cs = a.cells ∧ a.Ok W := by
  obtain ⟨xs, n', _, hx, hlen, hsz, hg⟩ := DataW.trod_struct Try.underlying109 h
  rw [Try.cells109] at hlen
  match cs, hlen with
  | [c0, c1, c2, c3, c4], _ =>
    match xs, hsz with
    | [y0, y1, y2, y3, y4], _ =>
      have g0 := hg 0 _ rfl
      have g1 := hg 1 _ rfl
      have g2 := hg 2 _ rfl
      have g3 := hg 3 _ rfl
      have g4 := hg 4 _ rfl
      simp only [Try.cells5', Try.cells3', Try.cells23', Try.cells73', List.drop_succ_cons, List.drop_zero, List.take_succ_cons, List.take_zero, List.getElem?_cons_zero, List.getElem?_cons_succ] at g0 g1 g2 g3 g4
      injection hx with hd _
      have hww : ∀ t (y : DataW H), (t, y) ∈ [(5, y0.1), (3, y1.1), (3, y2.1), (23, y3.1), (73, y4.1)] → ∀ x ∈ y.weights Try.prog t, x ≤ reachBytes := by
        intro t y hy x hx
        refine hw x ?_
        rw [hd]
        simp only [DataW.weights, Try.underlying109, List.map_cons, List.map_nil, DataW.weightsEach, List.mem_append]
        simp only [List.mem_cons, Prod.mk.injEq, List.not_mem_nil, or_false] at hy
        rcases hy with ⟨rfl, rfl⟩ | ⟨rfl, rfl⟩ | ⟨rfl, rfl⟩ | ⟨rfl, rfl⟩ | ⟨rfl, rfl⟩ <;> simp [hx]
      obtain ⟨x0, rfl, b0⟩ := u8_of g0
      obtain ⟨x1, rfl, b1⟩ := i64_of g1
      obtain ⟨x2, rfl, b2⟩ := i64_of g2
      obtain ⟨x3, rfl, b3⟩ := open_inner g3 (hww 23 y3.1 (by simp))
      obtain ⟨x4, rfl, b4⟩ := bools_of g4 (hww 73 y4.1 (by simp))
      exact ⟨⟨x0, x1, x2, x3, x4⟩, rfl, b0, b1, b2, b3, b4⟩
set_option maxRecDepth 100000 in
theorem open_acts {r : Reach} {b0 : Nat} (hv : Value.okWide Try.prog W r b0 96 v) (h : DataW.Trod enc Try.prog W 0 (fun _ => true) true 96 v d p) (hw : ∀ x ∈ d.weights Try.prog 96, x ≤ reachBytes) : ∃ s : Acts, v = s.val ∧ s.Ok W := by
  obtain ⟨A, l, c, rfl, h1, h2, h3, h4, h5⟩ := open_many (k := 5) ActD.cells (ActD.Ok W) Try.underlying96 Try.cells109 (by omega) (by rw [Try.bytes109']; omega) (fun _ => rfl) (fun n cs d pl h hw => act_of h hw) hv h hw
  exact ⟨⟨A, l, c⟩, rfl, h1, h2, h3, h4, h5⟩
end
end Go.Proofs.Ytfbjjblgcgjndaa

/- Openings of arguments: the acts of the pool laws; much of them. -/
namespace Go.Proofs.Ytfbjjblgcgjndaa
open Go.ChangeShapes Go.WideShapes Go.ChangeAt Go.RowKit Go.Deep

/-- an act of the pool laws -/
structure PActD where
  kind : Nat
  num : Nat
  of_ : Nat
  n : Int
  data : Inner
  keep : Lies Bool
def PActD.cells (a : PActD) : List Value := [.int .u8 (a.kind : Int), .int .u32 (a.num : Int), .int .u8 (a.of_ : Int), .int .i64 a.n, a.data.val, a.keep.val]
structure PActD.Ok (W : World) (a : PActD) : Prop where
  kind : a.kind < 256
  num : a.num < 4294967296
  of_ : a.of_ < 256
  n : -9223372036854775808 ≤ a.n ∧ a.n ≤ 9223372036854775807
  data : a.data.Ok W
  keep : BoolsOk W a.keep
theorem PActD.Ok.below {w w' : World} {a : PActD} (h : a.Ok w) (hb : Below w.heap.size w w') : a.Ok w' := ⟨h.kind, h.num, h.of_, h.n, h.data.below hb, h.keep.below hb⟩
structure PActs where
  A : Option Addr
  l : List PActD
  c : Nat
def PActs.val (s : PActs) : Value := .slice s.A s.l.length s.c
structure PActs.Ok (W : World) (s : PActs) : Prop where
  lies : At W s.A (s.l.flatMap PActD.cells)
  all : ∀ a ∈ s.l, a.Ok W
  nil : s.A = none → s.c = 0
  le : s.l.length ≤ s.c
  small : s.l.length ≤ 140737488351232
theorem PActs.Ok.below {w w' : World} {s : PActs} (h : s.Ok w) (hb : Below w.heap.size w w') : s.Ok w' := ⟨h.lies.below hb, fun a ha => (h.all a ha).below hb, h.nil, h.le, h.small⟩
theorem pact_cell {w : World} {A : Option Addr} {l : List PActD} (h : At w A (l.flatMap PActD.cells)) (i : Nat) (a : PActD) (ha : l[i]? = some a) : ∃ b o, A = some ⟨b, o, none⟩ ∧ ∀ j, j < 6 → w.cell? ⟨b, o + i * 6 + j, none⟩ = a.cells[j]? := by
  have hg := flat_get PActD.cells 6 (fun _ => rfl) l i a ha
  obtain ⟨b, o, e, hr⟩ := h (by
    intro e
    have := hg 0 (by omega)
    rw [e] at this; simp [PActD.cells] at this)
  refine ⟨b, o, e, fun j hj => ?_⟩
  have h5 : a.cells[j]? = some (a.cells[j]'hj) := List.getElem?_eq_getElem (show j < a.cells.length from hj)
  rw [Nat.add_assoc, h5]
  exact hr _ _ (by rw [hg j hj]; exact h5)
section
variable {H : Type} {enc : TypeId × Value → H} {W : World} {r : Reach} {b0 : Nat} {v : Value} {d : DataW H} {p : List MemPlace}
theorem Try.cells138 : Try.prog.cellsOf 138 = 6 := by kernel_rfl
theorem Try.bytes138 : 1 ≤ Try.prog.bytesOf 138 := of_decide_eq_true (by kernel_rfl)
set_option maxRecDepth 100000 in
theorem u32_of {n : Nat} (h : DataW.trod enc Try.prog W 0 (fun _ => true) true n 22 [v] = some (d, p)) : ∃ x : Nat, v = .int .u32 (x : Int) ∧ x < 4294967296 := by
  obtain ⟨a, h1, _, w⟩ := DataW.trod_int Try.underlying22 h
  injection h1 with h1
  obtain ⟨l1, l2⟩ := wf_u32 w
  obtain ⟨m, rfl⟩ := Int.eq_ofNat_of_zero_le l1
  exact ⟨m, h1, by omega⟩
set_option maxRecDepth 100000 in
theorem pact_of {n : Nat} {cs : List Value} (h : DataW.trod enc Try.prog W 0 (fun _ => true) true n 138 cs = some (d, p)) (hw : ∀ x ∈ d.weights Try.prog 138, x ≤ reachBytes) : ∃ a : PActD, cs = a.cells ∧ a.Ok W := by
  obtain ⟨xs, n', _, hx, hlen, hsz, hg⟩ := DataW.trod_struct Try.underlying138 h
  rw [Try.cells138] at hlen
  match cs, hlen with
  | [c0, c1, c2, c3, c4, c5], _ =>
    match xs, hsz with
    | [y0, y1, y2, y3, y4, y5], _ =>
      have g0 := hg 0 _ rfl
      have g1 := hg 1 _ rfl
      have g2 := hg 2 _ rfl
      have g3 := hg 3 _ rfl
      have g4 := hg 4 _ rfl
      have g5 := hg 5 _ rfl
      simp only [Try.cells5', Try.cells22', Try.cells3', Try.cells23', Try.cells73', List.drop_succ_cons, List.drop_zero, List.take_succ_cons, List.take_zero, List.getElem?_cons_zero, List.getElem?_cons_succ] at g0 g1 g2 g3 g4 g5
      injection hx with hd _
      have hww : ∀ t (y : DataW H), (t, y) ∈ [(5, y0.1), (22, y1.1), (5, y2.1), (3, y3.1), (23, y4.1), (73, y5.1)] → ∀ x ∈ y.weights Try.prog t, x ≤ reachBytes := by
        intro t y hy x hx
        refine hw x ?_
        rw [hd]
        simp only [DataW.weights, Try.underlying138, List.map_cons, List.map_nil, DataW.weightsEach, List.mem_append]
        simp only [List.mem_cons, Prod.mk.injEq, List.not_mem_nil, or_false] at hy
        rcases hy with ⟨rfl, rfl⟩ | ⟨rfl, rfl⟩ | ⟨rfl, rfl⟩ | ⟨rfl, rfl⟩ | ⟨rfl, rfl⟩ | ⟨rfl, rfl⟩ <;> simp [hx]
      obtain ⟨x0, rfl, b0⟩ := u8_of g0
      obtain ⟨x1, rfl, b1⟩ := u32_of g1
      obtain ⟨x2, rfl, b2⟩ := u8_of g2
      obtain ⟨x3, rfl, b3⟩ := i64_of g3
      obtain ⟨x4, rfl, b4⟩ := open_inner g4 (hww 23 y4.1 (by simp))
      obtain ⟨x5, rfl, b5⟩ := bools_of g5 (hww 73 y5.1 (by simp))
      exact ⟨⟨x0, x1, x2, x3, x4, x5⟩, rfl, b0, b1, b2, b3, b4, b5⟩
set_option maxRecDepth 100000 in
theorem open_pacts {r : Reach} {b0 : Nat} (hv : Value.okWide Try.prog W r b0 135 v) (h : DataW.Trod enc Try.prog W 0 (fun _ => true) true 135 v d p) (hw : ∀ x ∈ d.weights Try.prog 135, x ≤ reachBytes) : ∃ s : PActs, v = s.val ∧ s.Ok W := by
  obtain ⟨A, l, c, rfl, h1, h2, h3, h4, h5⟩ := open_many (k := 6) PActD.cells (PActD.Ok W) Try.underlying135 Try.cells138 (by omega) Try.bytes138 (fun _ => rfl) (fun n cs d pl h hw => pact_of h hw) hv h hw
  exact ⟨⟨A, l, c⟩, rfl, h1, h2, h3, h4, h5⟩
end
/-- where the acts are not many -/
def PSmall (l : List PActD) : Prop := l.length ≤ 200 ∧ ∀ a ∈ l, a.data.l.length ≤ 200000
def PMuch (l : List PActD) (w : World) (e : Ending) (w' : World) : Prop := ∃ b, e = .returned (.bool b) ∧ (b = false → PSmall l) ∧ Below w.heap.size w w'
def PSum (l : List PActD) (k m : Nat) : Prop := ∀ i a, i < k → l[i]? = some a → a.data.l.length ≤ m
theorem PSum.zero (l : List PActD) (m : Nat) : PSum l 0 m := fun i a hi => by omega
theorem PSum.succ {l : List PActD} {k m m' x : Nat} {a : PActD} (h : PSum l k m) (ha : l[k]? = some a) (hx : x = a.data.l.length) (h1 : m ≤ m') (h2 : x ≤ m') : PSum l (k + 1) m' := fun i a' hi ha' => by
  by_cases e : i = k
  · subst e
    rw [ha] at ha'
    cases ha'
    omega
  · have := h i a' (by omega) ha'
    omega
theorem PSum.all {l : List PActD} {m : Nat} (h : PSum l l.length m) (hm : m ≤ 200000) : ∀ a ∈ l, a.data.l.length ≤ 200000 := fun a ha => by
  obtain ⟨i, hi, e⟩ := List.getElem_of_mem ha
  have := h i a hi (by rw [List.getElem?_eq_getElem hi, e])
  omega
theorem pact_mem {l : List PActD} {k : Nat} (h : k < l.length) : ∃ a, l[k]? = some a ∧ a ∈ l := ⟨l[k], List.getElem?_eq_getElem h, List.getElem_mem _⟩
set_option maxRecDepth 100000 in
set_option maxHeartbeats 1000000 in
theorem much10_any (s : PActs) (w : World) (hs : s.Ok w) : Calls Try.prog 84 #[.slice s.A s.l.length s.c] w (PMuch s.l w) := by
  obtain ⟨A, l, c⟩ := s
  have hsm := hs.small
  simp only at hsm ⊢
  have HAT := Lib.hid hs.lies
  have HAL := Lib.hid hs.all
  clear hs
  go_enter Try.func84, Try.ntmps84
  go_wp2_with fail
  go_loopw [3, 4] (fun n i wr => ∃ k : Nat, k ≤ l.length ∧ i = .int .i64 k ∧ (∃ m : Nat, n = .int .i64 (m : Int) ∧ m ≤ 1000000000000000 ∧ PSum l k m) ∧ Below w.heap.size w wr) (fun _ i _ => l.length - (intOf i).toNat)
  case atStart => exact ⟨0, by omega, rfl, ⟨l.length, rfl, by omega, PSum.zero l _⟩, Below.refl _ _⟩
  case round =>
    obtain ⟨k, hk, rfl, ⟨m, rfl, hm, hso⟩, hb⟩ := hrel
    by_cases hlt : k < l.length ∧ m ≤ 200000
    · obtain ⟨h1, h2⟩ := hlt
      obtain ⟨a, ha, hmem⟩ := pact_mem h1
      have hok := HAL.out a hmem
      obtain ⟨b, o, rfl, hcell⟩ := pact_cell (HAT.out.below hb) k a ha
      have c4 : wr.cell? ⟨b, o + k * 6 + 4, none⟩ = some (.slice a.data.A a.data.l.length a.data.c) := hcell 4 (by omega)
      have c5 : wr.cell? ⟨b, o + k * 6 + 5, none⟩ = some (.slice a.keep.A a.keep.l.length a.keep.c) := hcell 5 (by omega)
      have d1 := hok.data.small
      have d2 := hok.keep.small
      obtain ⟨x, hx⟩ : ∃ x, x = a.data.l.length := ⟨_, rfl⟩
      obtain ⟨y, hy⟩ : ∃ y, y = a.keep.l.length := ⟨_, rfl⟩
      have HSO := Lib.hid (fun (m' : Nat) (h1 : m ≤ m') (h2 : x ≤ m') => hso.succ ha hx h1 h2)
      clear hso
      rw [← hx] at c4 d1
      rw [← hy] at c5 d2
      have h3 : (k : Int) < (l.length : Int) := by omega
      have h4 : (m : Int) ≤ 200000 := by omega
      have e1 : IntKind.i64.wrap ((x : Int) + (y : Int)) = (x : Int) + (y : Int) := by rw [IntKind.wrap_i64]; omega
      have e3 : IntKind.i64.wrap ((m : Int) + ((x : Int) + (y : Int))) = (m : Int) + ((x : Int) + (y : Int)) := by rw [IntKind.wrap_i64]; omega
      have HB := Lib.hid hb
      clear hb hcell hok ha hmem hx hy
      go_wp2_with fail
      go_quiet (fail)
      go_wp2_with fail
      case roundEnd => exact ⟨⟨k + 1, by omega, by go_num, ⟨m + (x + y), by push_cast; rfl, by omega, HSO.out _ (by omega) (by omega)⟩, below_drewN HB.out _⟩, by simp only [intOf]; omega⟩
    · have hfin : ¬ (200000 < m) → ∀ a ∈ l, a.data.l.length ≤ 200000 := fun h => by
        obtain rfl : k = l.length := by omega
        exact hso.all (by omega)
      have HF := Lib.hid hfin
      clear hfin hso
      by_cases hm2 : m ≤ 200000
      · have h6 : ¬ (200000 : Int) < (m : Int) := by omega
        have h7 : (m : Int) ≤ 200000 := by omega
        have h8 : ¬ (k : Int) < (l.length : Int) := by omega
        go_wp2_with fail
        go_ret
        exact ⟨_, rfl, fun h => ⟨by have := of_decide_eq_false h; omega, HF.out (by omega)⟩, hb⟩
      · have h6 : (200000 : Int) < (m : Int) := by omega
        have h7 : ¬ (m : Int) ≤ 200000 := by omega
        go_wp2_with fail
        all_goals
          go_ret
          exact ⟨_, rfl, fun h => (by cases h), hb⟩
end Go.Proofs.Ytfbjjblgcgjndaa

/- Two pools of different sizes over calm disks: what each call gives. -/
namespace Go.Proofs.Ytfbjjblgcgjndaa
open Go.RowKit

/-- what a read tells of N pages -/
def told (N : Nat) (C : Nat → Option (Nat × List Nat)) (n : Nat) : Nat × List Nat × Nat :=
  if N ≤ n then (0, [], 2) else match C n with
    | some x => (x.1, x.2, 0)
    | none => (0, [], 100)
theorem told_tells (D : Dsk) (C : Nat → Option (Nat × List Nat)) (n : Nat) : tells D C n = told D.pages C n := rfl
def werr (N n k : Nat) (p : List Nat) : Nat := if SealOk k p then (if N ≤ n then 2 else 0) else 80
def wturn (N : Nat) (C : Nat → Option (Nat × List Nat)) (n k : Nat) (p : List Nat) : Nat → Option (Nat × List Nat) := if werr N n k p = 0 then turn C n (some (k, p)) else C
theorem told_small {m j N : Nat} {D : Dsk} {L : List Hand} {C : Nat → Option (Nat × List Nat)} (h : Even m j N D L C) (n : Nat) : (told N C n).2.1.length ≤ 1008 := by
  unfold told
  split
  · simp
  · rename_i hn
    have := h.coh.page n (by rw [h.pages]; omega)
    cases hc : C n with
    | none => simp
    | some x => rw [hc] at this; exact this.2.2.2
def bcell (a : PActD) : Nat → Value
  | 0 => .int .u8 (a.kind : Int)
  | 1 => .int .u32 (a.num : Int)
  | 2 => .int .u8 (a.of_ : Int)
  | 3 => .int .i64 a.n
  | 4 => .slice a.data.A a.data.l.length a.data.c
  | _ => .slice a.keep.A a.keep.l.length a.keep.c
def PActAt (w : World) (q : Nat) (a : PActD) : Prop := RecAt w q 138 6 (bcell a)
theorem PActAt.chg {w w' : World} {q : Nat} {a : PActD} {G : Nat → Prop} (h : PActAt w q a) (hc : Chg G w w') (hq : ¬ G q) : PActAt w' q a := RecAt.keep h hc hq
theorem PActAt.below {w w' : World} {q : Nat} {a : PActD} (h : PActAt w q a) (hb : Below w.heap.size w w') : PActAt w' q a := RecAt.keep (G := fun _ => False) h (.of_below hb) (fun e => e)
theorem PActAt.step {n0 : Nat} {X : Nat → Prop} {w w' : World} {q : Nat} {a : PActD} (h : PActAt w q a) (hs : Step n0 X w w') (hq : X q) : PActAt w' q a := RecAt.keep h hs.1 (fun e => e hq)
/-- the act is boxed -/
theorem pact_box (w : World) (a : PActD) (w1 : World) (hw : w1 = w.alloc (.cells #[.int .u8 (a.kind : Int), .int .u32 (a.num : Int), .int .u8 (a.of_ : Int), .int .i64 a.n, .slice a.data.A a.data.l.length a.data.c, .slice a.keep.A a.keep.l.length a.keep.c] 138)) :
    PActAt w1 w.heap.size a ∧ Below w.heap.size w w1 ∧ w1.heap.size = w.heap.size + 1 := by
  refine ⟨RecAt.of (by rw [hw]; exact heap_alloc_new w _) (by simp [lst, bcell, List.range_succ]), by rw [hw]; exact below_alloc0 (Below.refl _ _) _, by rw [hw]; simp⟩
section
variable {n0 : Nat} {w : World} {P1 d1 m1 : Nat} {D1 : Dsk} {L1 : List Hand} {c1 : Nat} {P2 d2 m2 : Nat} {D2 : Dsk} {L2 : List Hand} {c2 : Nat} {X : Nat → Prop} {C : Nat → Option (Nat × List Nat)} {N j : Nat}
def EvRead (n0 : Nat) (w : World) (P1 d1 m1 c1 P2 d2 m2 : Nat) (D2 : Dsk) (L2 : List Hand) (c2 : Nat) (X : Nat → Prop) (j N : Nat) (C : Nat → Option (Nat × List Nat)) (tk : Nat) (tp : List Nat) (te : Nat) (e : Ending) (w' : World) : Prop :=
  ∃ A cap D' L', e = .returned (.tuple #[.int .u8 (tk : Nat), .slice A tp.length cap, .int .u16 (te : Nat)]) ∧ Buf w.heap.size w' (.slice A tp.length cap) tp ∧ Even m1 (j + 1) N D' L' C ∧ Two n0 w' P1 d1 m1 D' L' (c1 + 1) P2 d2 m2 D2 L2 c2 (fun g => X g ∨ blk (.slice A tp.length cap) g) ∧ Step n0 X w w'
theorem ev_read (h : Two n0 w P1 d1 m1 D1 L1 c1 P2 d2 m2 D2 L2 c2 X) (he : Even m1 j N D1 L1 C) (n : Nat) (hn : n < 4294967296) (tk : Nat) (tp : List Nat) (te : Nat) (ht : told N C n = (tk, tp, te)) (hj : j ≤ 10000000) (hm : m1 ≤ 256) (hcc : c1 ≤ 100000000) :
    Calls Try.prog 81 #[.pointer (some ⟨P1, 0, none⟩), .int .u32 (n : Int)] w (EvRead n0 w P1 d1 m1 c1 P2 d2 m2 D2 L2 c2 X j N C tk tp te) := by
  refine (two_read h n hn he.small hj (by omega) hcc).mono ?_
  obtain ⟨a, b⟩ := he.read n
  rw [told_tells, he.pages, ht] at b
  generalize plRead m1 D1 L1 n = r at *
  obtain ⟨rk, rp, re, rD, rL⟩ := r
  simp only [Prod.mk.injEq] at b
  obtain ⟨rfl, rfl, rfl⟩ := b
  rintro e w' ⟨A, cap, rfl, hb, hx, hs'⟩
  exact ⟨A, cap, rD, rL, rfl, hb, a, hx, hs'⟩
def EvDo (n0 : Nat) (w : World) (P1 d1 m1 c1 P2 d2 m2 : Nat) (D2 : Dsk) (L2 : List Hand) (c2 : Nat) (X : Nat → Prop) (j N : Nat) (C : Nat → Option (Nat × List Nat)) (r : Value) (e : Ending) (w' : World) : Prop :=
  ∃ D' L', e = .returned r ∧ Even m1 (j + 1) N D' L' C ∧ Two n0 w' P1 d1 m1 D' L' (c1 + 1) P2 d2 m2 D2 L2 c2 X ∧ Step n0 X w w'
theorem ev_write (h : Two n0 w P1 d1 m1 D1 L1 c1 P2 d2 m2 D2 L2 c2 X) (he : Even m1 j N D1 L1 C) (n k : Nat) (hn : n < 4294967296) (hk : k < 256) (s : Inner) (hok : ∀ w', Below n0 w w' → s.Ok w') (hj : j ≤ 10000000) (hm : m1 ≤ 256) (hcc : c1 ≤ 100000000) :
    Calls Try.prog 80 #[.pointer (some ⟨P1, 0, none⟩), .int .u32 (n : Int), .int .u8 (k : Int), .slice s.A s.l.length s.c] w (EvDo n0 w P1 d1 m1 c1 P2 d2 m2 D2 L2 c2 X j N (wturn N C n k s.l) (.int .u16 (werr N n k s.l : Nat))) := by
  refine (two_write h n k hn hk s hok he.small hj (by omega) hcc).mono ?_
  obtain ⟨a, b⟩ := he.write n k s.l
  rw [b]
  rintro e w' ⟨rfl, hx, hs'⟩
  exact ⟨_, _, rfl, a, hx, hs'⟩
theorem ev_forget (h : Two n0 w P1 d1 m1 D1 L1 c1 P2 d2 m2 D2 L2 c2 X) (he : Even m1 j N D1 L1 C) (n : Nat) (hn : n < 4294967296) :
    Calls Try.prog 85 #[.pointer (some ⟨P1, 0, none⟩), .int .u32 (n : Int)] w (EvDo n0 w P1 d1 m1 c1 P2 d2 m2 D2 L2 c2 X j N C (.tuple #[])) := by
  refine (two_forget h n hn).mono ?_
  rintro e w' ⟨rfl, hx, hs'⟩
  exact ⟨_, _, rfl, (he.forget n).mono (by omega), hx.moreC (by omega) (Nat.le_refl _), hs'⟩
theorem ev_sync (h : Two n0 w P1 d1 m1 D1 L1 c1 P2 d2 m2 D2 L2 c2 X) (he : Even m1 j N D1 L1 C) (hj : j ≤ 10000000) :
    Calls Try.prog 86 #[.pointer (some ⟨P1, 0, none⟩)] w (EvDo n0 w P1 d1 m1 c1 P2 d2 m2 D2 L2 c2 X j N C (.int .u16 (0 : Nat))) := by
  obtain ⟨a, b⟩ := he.sync
  refine (two_sync h he.small hj).mono ?_
  rw [b]
  rintro e w' ⟨rfl, hx, hs'⟩
  exact ⟨_, _, rfl, a, hx.moreC (by omega) (Nat.le_refl _), hs'⟩
end
end Go.Proofs.Ytfbjjblgcgjndaa

/- Walk of PoolSizes. -/
namespace Go.Proofs.Ytfbjjblgcgjndaa
open Go.RowKit Go.Maps

/-- behind i acts -/
def SizesAt (n0 : Nat) (w : World) (P1 d1 m1 P2 d2 m2 N i : Nat) (wr : World) : Prop := ∃ D1 L1 D2 L2 C, Even m1 i N D1 L1 C ∧ Even m2 i N D2 L2 C ∧ Two n0 wr P1 d1 m1 D1 L1 i P2 d2 m2 D2 L2 i (fun _ => False) ∧ Below n0 w wr
set_option maxRecDepth 100000 in
set_option maxHeartbeats 16000000 in
theorem poolSizes_any (n : Int) (m1 m2 : Nat) (s : PActs) (w : World) (hn : -9223372036854775808 ≤ n ∧ n ≤ 9223372036854775807) (hm1 : m1 < 256) (hm2 : m2 < 256) (hs : s.Ok w) :
    Calls Try.prog 23 #[.int .i64 n, .int .u8 (m1 : Int), .int .u8 (m2 : Int), s.val] w fun e w' => e = .returned (.bool true) ∧ Below w.heap.size w w' := by
  obtain ⟨A, l, c⟩ := s
  have hsm := hs.small
  simp only at hsm
  unfold PActs.val
  simp only
  have HS := Lib.hid hs
  obtain ⟨hn1, hn2⟩ := hn
  clear hs
  by_cases hr : n < 1 ∨ 60 < n
  · rcases hr with hr | hr
    · have h5 : ¬ 60 < n := by omega
      go_enter Try.func23, Try.ntmps23
      go_wp2_with fail
      refine (known10_any w).mono ?_
      rintro e w1 ⟨rfl, hb1⟩
      go_wp2_with fail
      go_ret
      exact ⟨rfl, hb1⟩
    · go_enter Try.func23, Try.ntmps23
      go_wp2_with fail
      refine (known10_any w).mono ?_
      rintro e w1 ⟨rfl, hb1⟩
      go_wp2_with fail
      go_ret
      exact ⟨rfl, hb1⟩
  · have h5 : ¬ 60 < n := by omega
    have h6 : ¬ n < 1 := by omega
    obtain ⟨N, rfl⟩ := Int.eq_ofNat_of_zero_le (show 0 ≤ n by omega)
    have HN := Lib.hid (show 1 ≤ N ∧ N ≤ 60 by omega)
    clear hr
    go_enter Try.func23, Try.ntmps23
    go_wp2_with fail
    refine (known10_any w).mono ?_
    rintro e w1 ⟨rfl, hb1⟩
    have HB1 := Lib.hid hb1
    have HS1 := Lib.hid (HS.out.below hb1)
    clear hb1
    go_wp2_with fail
    refine (much10_any ⟨A, l, c⟩ w1 HS1.out).mono ?_
    rintro e w2 ⟨b, rfl, hfew, hb2⟩
    have HB2 := Lib.hid (below_next0 HB1.out hb2)
    clear hb2
    cases b with
    | true =>
      go_wp2_with fail
      go_ret
      exact ⟨rfl, HB2.out⟩
    | false =>
      have hfw := hfew rfl
      simp only at hfw
      have hl2 := hfw.1
      have HFW := Lib.hid hfw.2
      clear hfew hfw
      go_wp2_with fail
      refine (dg_newl (n0 := w.heap.size) N w2 HB2.out.size HN.out.1 (by have := HN.out; omega)).mono ?_
      rintro e w3 ⟨d1, Sd, rfl, hd1, _, hb3⟩
      have HD1 := Lib.hid hd1
      have HB3 := Lib.hid (below_next0 HB2.out hb3)
      clear hd1 hb3
      go_wp2_with fail
      refine (dg_newl (n0 := w.heap.size) N w3 HB3.out.size HN.out.1 (by have := HN.out; omega)).mono ?_
      rintro e w4 ⟨d2, Sd2, rfl, hd2, has, hb4⟩
      have HAS := Lib.hid (has Sd HD1.out.top)
      have HD2 := Lib.hid hd2
      have HD1' := Lib.hid (HD1.out.below hb4)
      have HB4 := Lib.hid (below_next0 HB3.out hb4)
      clear hd2 hb4 has HD1
      have hk1 : IntKind.i64.wrap ((m1 : Int) + 1) = ((m1 + 1 : Nat) : Int) := by rw [IntKind.wrap_i64]; omega
      have hk2 : IntKind.i64.wrap ((m2 : Int) + 1) = ((m2 + 1 : Nat) : Int) := by rw [IntKind.wrap_i64]; omega
      have hk3 : ((m1 : Int) + 1) = ((m1 + 1 : Nat) : Int) := by omega
      have hk4 : ((m2 : Int) + 1) = ((m2 + 1 : Nat) : Int) := by omega
      obtain ⟨M1, hM1⟩ : ∃ M, M = m1 + 1 := ⟨_, rfl⟩
      obtain ⟨M2, hM2⟩ : ∃ M, M = m2 + 1 := ⟨_, rfl⟩
      rw [← hM1] at hk1 hk3
      rw [← hM2] at hk2 hk4
      have HM1 := Lib.hid (show 1 ≤ M1 ∧ M1 ≤ 256 by omega)
      have HM2 := Lib.hid (show 1 ≤ M2 ∧ M2 ≤ 256 by omega)
      clear hM1 hM2
      go_wp2_with fail
      refine (pnew_ok HD1'.out (X := Sd2) (fun g hg => ⟨HD2.out.top g hg, fun e => HAS.out.off g e hg⟩) M1 HM1.out.1 (by have := HM1.out; omega)).mono ?_
      rintro e w5 ⟨P1, rfl, hp1, hb5⟩
      have HP1 := Lib.hid hp1
      have HD2' := Lib.hid (HD2.out.below hb5)
      have HB5 := Lib.hid (below_next0 HB4.out hb5)
      clear hp1 hb5 HD2 HD1' HAS
      go_wp2_with fail
      refine (two_new HP1.out HD2'.out M2 HM2.out.1 (by have := HM2.out; omega)).mono ?_
      rintro e w6 ⟨P2, rfl, ht6, hb6⟩
      have HT6 := Lib.hid ht6
      have HB6 := Lib.hid (below_next0 HB5.out hb6)
      clear ht6 hb6 HP1 HD2'
      go_wp2_with fail
      go_loopw [17] (fun i wr => ∃ j : Nat, j ≤ l.length ∧ i = .int .i64 j ∧ SizesAt w.heap.size w P1 d1 M1 P2 d2 M2 N j wr) (fun i _ => l.length - (intOf i).toNat)
      case atStart => exact ⟨0, by omega, rfl, _, _, _, _, _, Even.new N M1 HN.out.1 (by have := HN.out; omega) HM1.out.1, Even.new N M2 HN.out.1 (by have := HN.out; omega) HM2.out.1, HT6.out, HB6.out⟩
      case round =>
        clear HT6 HB6 HB5 HB4 HB3 HB2 HB1 HS1
        obtain ⟨j, hj, rfl, D1, L1, D2, L2, C, he1, he2, ht, hb⟩ := hrel
        by_cases hlt : j < l.length
        · have hji : (j : Int) < (l.length : Int) := by omega
          obtain ⟨a, ha, hmem⟩ := pact_mem hlt
          obtain ⟨gb, go, hA, hcell⟩ := pact_cell (HS.out.lies.below hb) j a ha
          simp only at hA
          subst hA
          have c0 : wr.cell? ⟨gb, go + j * 6, none⟩ = some (.int .u8 (a.kind : Int)) := hcell 0 (by omega)
          have c1 : wr.cell? ⟨gb, go + j * 6 + 1, none⟩ = some (.int .u32 (a.num : Int)) := hcell 1 (by omega)
          have c2 : wr.cell? ⟨gb, go + j * 6 + 2, none⟩ = some (.int .u8 (a.of_ : Int)) := hcell 2 (by omega)
          have c3 : wr.cell? ⟨gb, go + j * 6 + 3, none⟩ = some (.int .i64 a.n) := hcell 3 (by omega)
          have c4 : wr.cell? ⟨gb, go + j * 6 + 4, none⟩ = some (.slice a.data.A a.data.l.length a.data.c) := hcell 4 (by omega)
          have c5 : wr.cell? ⟨gb, go + j * 6 + 5, none⟩ = some (.slice a.keep.A a.keep.l.length a.keep.c) := hcell 5 (by omega)
          have HAO := Lib.hid (HS.out.all a hmem)
          have hAB : ∀ w', Below w.heap.size w w' → a.data.Ok w' := fun w' hw' => HAO.out.data.below hw'
          have HAB := Lib.hid hAB
          have HDL := Lib.hid (HFW.out a hmem)
          have HE1 := Lib.hid he1
          have HE2 := Lib.hid he2
          have HT := Lib.hid ht
          have HB := Lib.hid hb
          clear hcell ha hmem he1 he2 ht hb hAB
          go_upto_region 17 with (fail)
          obtain ⟨w7, hw7⟩ : ∃ w7, w7 = wr.alloc (.cells #[.int .u8 (a.kind : Int), .int .u32 (a.num : Int), .int .u8 (a.of_ : Int), .int .i64 a.n, .slice a.data.A a.data.l.length a.data.c, .slice a.keep.A a.keep.l.length a.keep.c] 138) := ⟨_, rfl⟩
          rw [← hw7]
          obtain ⟨hq7, hb7, hz7⟩ := pact_box wr a w7 hw7
          have HQ := Lib.hid hq7
          have HT7 := Lib.hid ((HT.out.also hb7 (Y := fun g => g = wr.heap.size) (fun g hg => ⟨by omega, by omega⟩)).less (X' := fun g => g = wr.heap.size) (fun g hg => .inr hg))
          have HB7 := Lib.hid (below_next0 HB.out hb7)
          generalize wr.heap.size = gx at *
          have b0 : w7.cell? ⟨gx, 0, none⟩ = some (.int .u8 (a.kind : Int)) := RecAt.cell HQ.out 0 (by omega)
          have b1 : w7.cell? ⟨gx, 1, none⟩ = some (.int .u32 (a.num : Int)) := RecAt.cell HQ.out 1 (by omega)
          have b2 : w7.cell? ⟨gx, 2, none⟩ = some (.int .u8 (a.of_ : Int)) := RecAt.cell HQ.out 2 (by omega)
          have b4 : w7.cell? ⟨gx, 4, none⟩ = some (.slice a.data.A a.data.l.length a.data.c) := RecAt.cell HQ.out 4 (by omega)
          clear hw7 hq7 hb7 hz7 c0 c1 c2 c3 c4 c5 HT HB
          have hki := HAO.out.kind
          have HKN := Lib.hid HAO.out.num
          rcases (show a.kind % 9 = 0 ∨ a.kind % 9 = 1 ∨ a.kind % 9 = 2 ∨ a.kind % 9 = 3 ∨ a.kind % 9 = 4 ∨ a.kind % 9 = 5 ∨ a.kind % 9 = 6 ∨ 7 ≤ a.kind % 9 by omega) with hk | hk | hk | hk | hk | hk | hk | hk
          · have g0 : ((a.kind : Int) % 9 == 0) = true := by simp; omega
            have h0 : (a.kind : Int) % 9 = 0 := by omega
            clear hk
            obtain ⟨tk, tp, te, htl⟩ : ∃ tk tp te, told N C a.num = (tk, tp, te) := ⟨_, _, _, rfl⟩
            have hts := told_small HE1.out a.num
            rw [htl] at hts
            simp only at hts
            have HTL := Lib.hid htl
            clear htl
            go_wp2_with fail
            refine (ev_read HT7.out HE1.out a.num HKN.out tk tp te HTL.out (by omega) HM1.out.2 (by omega)).mono ?_
            rintro e w8 ⟨A8, p8, D1', L1', rfl, hbf8, he8, ht8, hs8⟩
            have HE8 := Lib.hid he8
            have HT8 := Lib.hid ht8
            have HF8 := Lib.hid hbf8
            have HB8 := Lib.hid (HB7.out.trans hs8.2)
            have HQ8 := Lib.hid (HQ.out.step hs8 rfl)
            have b1' : w8.cell? ⟨gx, 1, none⟩ = some (.int .u32 (a.num : Int)) := RecAt.cell HQ8.out 1 (by omega)
            clear he8 ht8 hbf8 hs8 b0 b1 b2 b4
            go_wp2_with fail
            refine (ev_read HT8.out.swap HE2.out a.num HKN.out tk tp te HTL.out (by omega) HM2.out.2 (by omega)).mono ?_
            rintro e w9 ⟨A9, p9, D2', L2', rfl, hbf9, he9, ht9, hs9⟩
            have HE9 := Lib.hid he9
            have HT9 := Lib.hid ht9.swap
            have HB9 := Lib.hid (HB8.out.trans hs9.2)
            have HSE := Lib.hid (same_eq A8 A9 tp.length tp.length p8 p9 tp tp w9 rfl rfl (by omega) rfl ((buf_at (show Buf _ w9 (.slice A8 tp.length p8) tp from own_chg HF8.out hs9.1 (fun g hg e => e (.inr hg)))).2) ((buf_at hbf9).2))
            clear he9 ht9 hbf9 hs9 b1'
            have z1 : ((tk : Int) != (tk : Int)) = false := by simp
            have z2 : ((te : Int) != (te : Int)) = false := by simp
            go_wp2_with fail
            refine HSE.out.mono ?_
            rintro e w10 ⟨rfl, hb10⟩
            have HT10 := Lib.hid ((HT9.out.below hb10).less (X' := fun _ => False) (fun g h => h.elim))
            have HB10 := Lib.hid (HB9.out.trans (Step.of_below (X := fun _ => False) hb10 HT9.out.n_le).2)
            clear hb10
            have hl1 := HE8.out.coh.len
            have hl2' := HE9.out.coh.len
            have hx1 : ¬ (M1 : Int) < (L1'.length : Int) := by omega
            have hx2 : ¬ (M2 : Int) < (L2'.length : Int) := by omega
            go_wp2_with fail
            refine (two_len HT10.out).mono ?_
            rintro e w20 ⟨rfl, rfl⟩
            go_wp2_with fail
            refine (two_len HT10.out.swap).mono ?_
            rintro e w21 ⟨rfl, rfl⟩
            go_wp2_with fail
            case roundEnd => exact ⟨⟨j + 1, by omega, by go_num, _, _, _, _, _, HE8.out, HE9.out, HT10.out.less (fun g h => h.elim), HB10.out⟩, by simp only [intOf]; omega⟩
          · have g0 : ((a.kind : Int) % 9 == 0) = false := by simp; omega
            have h0 : ¬ (a.kind : Int) % 9 = 0 := by omega
            have g1 : ((a.kind : Int) % 9 == 1) = true := by simp; omega
            have h1 : (a.kind : Int) % 9 = 1 := by omega
            clear hk
            obtain ⟨tk, tp, te, htl⟩ : ∃ tk tp te, told N C a.num = (tk, tp, te) := ⟨_, _, _, rfl⟩
            have hts := told_small HE1.out a.num
            rw [htl] at hts
            simp only at hts
            have HTL := Lib.hid htl
            clear htl
            go_wp2_with fail
            refine (ev_read HT7.out HE1.out a.num HKN.out tk tp te HTL.out (by omega) HM1.out.2 (by omega)).mono ?_
            rintro e w8 ⟨A8, p8, D1', L1', rfl, hbf8, he8, ht8, hs8⟩
            have HE8 := Lib.hid he8
            have HT8 := Lib.hid ht8
            have HF8 := Lib.hid hbf8
            have HB8 := Lib.hid (HB7.out.trans hs8.2)
            have HQ8 := Lib.hid (HQ.out.step hs8 rfl)
            have b1' : w8.cell? ⟨gx, 1, none⟩ = some (.int .u32 (a.num : Int)) := RecAt.cell HQ8.out 1 (by omega)
            clear he8 ht8 hbf8 hs8 b0 b1 b2 b4
            go_wp2_with fail
            refine (ev_read HT8.out.swap HE2.out a.num HKN.out tk tp te HTL.out (by omega) HM2.out.2 (by omega)).mono ?_
            rintro e w9 ⟨A9, p9, D2', L2', rfl, hbf9, he9, ht9, hs9⟩
            have HE9 := Lib.hid he9
            have HT9 := Lib.hid ht9.swap
            have HB9 := Lib.hid (HB8.out.trans hs9.2)
            have HSE := Lib.hid (same_eq A8 A9 tp.length tp.length p8 p9 tp tp w9 rfl rfl (by omega) rfl ((buf_at (show Buf _ w9 (.slice A8 tp.length p8) tp from own_chg HF8.out hs9.1 (fun g hg e => e (.inr hg)))).2) ((buf_at hbf9).2))
            clear he9 ht9 hbf9 hs9 b1'
            have z1 : ((tk : Int) != (tk : Int)) = false := by simp
            have z2 : ((te : Int) != (te : Int)) = false := by simp
            go_wp2_with fail
            refine HSE.out.mono ?_
            rintro e w10 ⟨rfl, hb10⟩
            have HT10 := Lib.hid ((HT9.out.below hb10).less (X' := fun _ => False) (fun g h => h.elim))
            have HB10 := Lib.hid (HB9.out.trans (Step.of_below (X := fun _ => False) hb10 HT9.out.n_le).2)
            clear hb10
            have hl1 := HE8.out.coh.len
            have hl2' := HE9.out.coh.len
            have hx1 : ¬ (M1 : Int) < (L1'.length : Int) := by omega
            have hx2 : ¬ (M2 : Int) < (L2'.length : Int) := by omega
            go_wp2_with fail
            refine (two_len HT10.out).mono ?_
            rintro e w20 ⟨rfl, rfl⟩
            go_wp2_with fail
            refine (two_len HT10.out.swap).mono ?_
            rintro e w21 ⟨rfl, rfl⟩
            go_wp2_with fail
            case roundEnd => exact ⟨⟨j + 1, by omega, by go_num, _, _, _, _, _, HE8.out, HE9.out, HT10.out.less (fun g h => h.elim), HB10.out⟩, by simp only [intOf]; omega⟩
          · have g0 : ((a.kind : Int) % 9 == 0) = false := by simp; omega
            have h0 : ¬ (a.kind : Int) % 9 = 0 := by omega
            have g1 : ((a.kind : Int) % 9 == 1) = false := by simp; omega
            have h1 : ¬ (a.kind : Int) % 9 = 1 := by omega
            have g2 : ((a.kind : Int) % 9 == 2) = true := by simp; omega
            have h2 : (a.kind : Int) % 9 = 2 := by omega
            clear hk
            obtain ⟨tk, tp, te, htl⟩ : ∃ tk tp te, told N C a.num = (tk, tp, te) := ⟨_, _, _, rfl⟩
            have hts := told_small HE1.out a.num
            rw [htl] at hts
            simp only at hts
            have HTL := Lib.hid htl
            clear htl
            go_wp2_with fail
            refine (ev_read HT7.out HE1.out a.num HKN.out tk tp te HTL.out (by omega) HM1.out.2 (by omega)).mono ?_
            rintro e w8 ⟨A8, p8, D1', L1', rfl, hbf8, he8, ht8, hs8⟩
            have HE8 := Lib.hid he8
            have HT8 := Lib.hid ht8
            have HF8 := Lib.hid hbf8
            have HB8 := Lib.hid (HB7.out.trans hs8.2)
            have HQ8 := Lib.hid (HQ.out.step hs8 rfl)
            have b1' : w8.cell? ⟨gx, 1, none⟩ = some (.int .u32 (a.num : Int)) := RecAt.cell HQ8.out 1 (by omega)
            clear he8 ht8 hbf8 hs8 b0 b1 b2 b4
            go_wp2_with fail
            refine (ev_read HT8.out.swap HE2.out a.num HKN.out tk tp te HTL.out (by omega) HM2.out.2 (by omega)).mono ?_
            rintro e w9 ⟨A9, p9, D2', L2', rfl, hbf9, he9, ht9, hs9⟩
            have HE9 := Lib.hid he9
            have HT9 := Lib.hid ht9.swap
            have HB9 := Lib.hid (HB8.out.trans hs9.2)
            have HSE := Lib.hid (same_eq A8 A9 tp.length tp.length p8 p9 tp tp w9 rfl rfl (by omega) rfl ((buf_at (show Buf _ w9 (.slice A8 tp.length p8) tp from own_chg HF8.out hs9.1 (fun g hg e => e (.inr hg)))).2) ((buf_at hbf9).2))
            clear he9 ht9 hbf9 hs9 b1'
            have z1 : ((tk : Int) != (tk : Int)) = false := by simp
            have z2 : ((te : Int) != (te : Int)) = false := by simp
            go_wp2_with fail
            refine HSE.out.mono ?_
            rintro e w10 ⟨rfl, hb10⟩
            have HT10 := Lib.hid ((HT9.out.below hb10).less (X' := fun _ => False) (fun g h => h.elim))
            have HB10 := Lib.hid (HB9.out.trans (Step.of_below (X := fun _ => False) hb10 HT9.out.n_le).2)
            clear hb10
            have hl1 := HE8.out.coh.len
            have hl2' := HE9.out.coh.len
            have hx1 : ¬ (M1 : Int) < (L1'.length : Int) := by omega
            have hx2 : ¬ (M2 : Int) < (L2'.length : Int) := by omega
            go_wp2_with fail
            refine (two_len HT10.out).mono ?_
            rintro e w20 ⟨rfl, rfl⟩
            go_wp2_with fail
            refine (two_len HT10.out.swap).mono ?_
            rintro e w21 ⟨rfl, rfl⟩
            go_wp2_with fail
            case roundEnd => exact ⟨⟨j + 1, by omega, by go_num, _, _, _, _, _, HE8.out, HE9.out, HT10.out.less (fun g h => h.elim), HB10.out⟩, by simp only [intOf]; omega⟩
          · have g0 : ((a.kind : Int) % 9 == 0) = false := by simp; omega
            have h0 : ¬ (a.kind : Int) % 9 = 0 := by omega
            have g1 : ((a.kind : Int) % 9 == 1) = false := by simp; omega
            have h1 : ¬ (a.kind : Int) % 9 = 1 := by omega
            have g2 : ((a.kind : Int) % 9 == 2) = false := by simp; omega
            have h2 : ¬ (a.kind : Int) % 9 = 2 := by omega
            have g3 : ((a.kind : Int) % 9 == 3) = true := by simp; omega
            have h3 : (a.kind : Int) % 9 = 3 := by omega
            clear hk
            obtain ⟨we, hwe⟩ : ∃ we, we = werr N a.num a.of_ a.data.l := ⟨_, rfl⟩
            have HKO := Lib.hid HAO.out.of_
            have hwr := ev_write (HT7.out.below (below_drew0 (Below.refl _ w7))) HE1.out a.num a.of_ HKN.out HKO.out a.data (fun w' hw' => HAB.out w' ((below_drewN HB7.out 1).trans hw')) (by omega) HM1.out.2 (by omega)
            rw [← hwe] at hwr
            have HWE := Lib.hid hwe
            have HWR := Lib.hid hwr
            have HQ7 := Lib.hid (HQ.out.below (below_drew0 (Below.refl _ w7)))
            have HB7' := Lib.hid (below_drewN HB7.out 1)
            have z1 : ((we : Int) != (we : Int)) = false := by simp
            clear hwr hwe
            have HFST : True := trivial
            go_upto_region 27 with (fail)
            go_region_held3 (fun W' => W'.cell? ⟨gx, 1, none⟩ = some (.int .u32 (a.num : Int)) ∧ W'.cell? ⟨gx, 2, none⟩ = some (.int .u8 (a.of_ : Int)) ∧ W'.cell? ⟨gx, 4, none⟩ = some (.slice a.data.A a.data.l.length a.data.c)) (first | exact ⟨b1, b2, b4⟩ | exact ⟨RecAt.cell HQ9.out 1 (by omega), RecAt.cell HQ9.out 2 (by omega), RecAt.cell HQ9.out 4 (by omega)⟩ | exact ⟨RecAt.cell HQ8.out 1 (by omega), RecAt.cell HQ8.out 2 (by omega), RecAt.cell HQ8.out 4 (by omega)⟩ | assumption)
              (first | (go_at_call 80; clear HFST; refine HWR.out.mono ?_; rintro e w8 ⟨D1', L1', rfl, he8, ht8, hs8⟩; have HE8 := Lib.hid he8; have HT8 := Lib.hid ht8; have HQ8 := Lib.hid (HQ7.out.step hs8 rfl); have HB8 := Lib.hid (HB7'.out.trans hs8.2); clear he8 ht8 hs8) | (go_at_call 80; refine (ev_write HT8.out.swap HE2.out a.num a.of_ HKN.out HKO.out a.data (fun w' hw' => HAB.out w' (HB8.out.trans hw')) (by omega) HM2.out.2 (by omega)).mono ?_; rw [← HWE.out]; rintro e w9 ⟨D2', L2', rfl, he9, ht9, hs9⟩; have HE9 := Lib.hid he9; have HT9 := Lib.hid (ht9.swap.less (X' := fun _ => False) (fun g h => h.elim)); have HQ9 := Lib.hid (HQ8.out.step hs9 rfl); have HB9 := Lib.hid (HB8.out.trans hs9.2); clear he9 ht9 hs9))
            clear b0 b1 b2 b4
            have hl1 := HE8.out.coh.len
            have hl2' := HE9.out.coh.len
            have hx1 : ¬ (M1 : Int) < (L1'.length : Int) := by omega
            have hx2 : ¬ (M2 : Int) < (L2'.length : Int) := by omega
            go_wp2_with fail
            refine (two_len HT9.out).mono ?_
            rintro e w20 ⟨rfl, rfl⟩
            go_wp2_with fail
            refine (two_len HT9.out.swap).mono ?_
            rintro e w21 ⟨rfl, rfl⟩
            go_wp2_with fail
            case roundEnd => exact ⟨⟨j + 1, by omega, by go_num, _, _, _, _, _, HE8.out, HE9.out, HT9.out.less (fun g h => h.elim), HB9.out⟩, by simp only [intOf]; omega⟩
          · have g0 : ((a.kind : Int) % 9 == 0) = false := by simp; omega
            have h0 : ¬ (a.kind : Int) % 9 = 0 := by omega
            have g1 : ((a.kind : Int) % 9 == 1) = false := by simp; omega
            have h1 : ¬ (a.kind : Int) % 9 = 1 := by omega
            have g2 : ((a.kind : Int) % 9 == 2) = false := by simp; omega
            have h2 : ¬ (a.kind : Int) % 9 = 2 := by omega
            have g3 : ((a.kind : Int) % 9 == 3) = false := by simp; omega
            have h3 : ¬ (a.kind : Int) % 9 = 3 := by omega
            have g4 : ((a.kind : Int) % 9 == 4) = true := by simp; omega
            have h4 : (a.kind : Int) % 9 = 4 := by omega
            clear hk
            obtain ⟨we, hwe⟩ : ∃ we, we = werr N a.num a.of_ a.data.l := ⟨_, rfl⟩
            have HKO := Lib.hid HAO.out.of_
            have hwr := ev_write (HT7.out.below (below_drew0 (Below.refl _ w7))) HE1.out a.num a.of_ HKN.out HKO.out a.data (fun w' hw' => HAB.out w' ((below_drewN HB7.out 1).trans hw')) (by omega) HM1.out.2 (by omega)
            rw [← hwe] at hwr
            have HWE := Lib.hid hwe
            have HWR := Lib.hid hwr
            have HQ7 := Lib.hid (HQ.out.below (below_drew0 (Below.refl _ w7)))
            have HB7' := Lib.hid (below_drewN HB7.out 1)
            have z1 : ((we : Int) != (we : Int)) = false := by simp
            clear hwr hwe
            have HFST : True := trivial
            go_upto_region 27 with (fail)
            go_region_held3 (fun W' => W'.cell? ⟨gx, 1, none⟩ = some (.int .u32 (a.num : Int)) ∧ W'.cell? ⟨gx, 2, none⟩ = some (.int .u8 (a.of_ : Int)) ∧ W'.cell? ⟨gx, 4, none⟩ = some (.slice a.data.A a.data.l.length a.data.c)) (first | exact ⟨b1, b2, b4⟩ | exact ⟨RecAt.cell HQ9.out 1 (by omega), RecAt.cell HQ9.out 2 (by omega), RecAt.cell HQ9.out 4 (by omega)⟩ | exact ⟨RecAt.cell HQ8.out 1 (by omega), RecAt.cell HQ8.out 2 (by omega), RecAt.cell HQ8.out 4 (by omega)⟩ | assumption)
              (first | (go_at_call 80; clear HFST; refine HWR.out.mono ?_; rintro e w8 ⟨D1', L1', rfl, he8, ht8, hs8⟩; have HE8 := Lib.hid he8; have HT8 := Lib.hid ht8; have HQ8 := Lib.hid (HQ7.out.step hs8 rfl); have HB8 := Lib.hid (HB7'.out.trans hs8.2); clear he8 ht8 hs8) | (go_at_call 80; refine (ev_write HT8.out.swap HE2.out a.num a.of_ HKN.out HKO.out a.data (fun w' hw' => HAB.out w' (HB8.out.trans hw')) (by omega) HM2.out.2 (by omega)).mono ?_; rw [← HWE.out]; rintro e w9 ⟨D2', L2', rfl, he9, ht9, hs9⟩; have HE9 := Lib.hid he9; have HT9 := Lib.hid (ht9.swap.less (X' := fun _ => False) (fun g h => h.elim)); have HQ9 := Lib.hid (HQ8.out.step hs9 rfl); have HB9 := Lib.hid (HB8.out.trans hs9.2); clear he9 ht9 hs9))
            clear b0 b1 b2 b4
            have hl1 := HE8.out.coh.len
            have hl2' := HE9.out.coh.len
            have hx1 : ¬ (M1 : Int) < (L1'.length : Int) := by omega
            have hx2 : ¬ (M2 : Int) < (L2'.length : Int) := by omega
            go_wp2_with fail
            refine (two_len HT9.out).mono ?_
            rintro e w20 ⟨rfl, rfl⟩
            go_wp2_with fail
            refine (two_len HT9.out.swap).mono ?_
            rintro e w21 ⟨rfl, rfl⟩
            go_wp2_with fail
            case roundEnd => exact ⟨⟨j + 1, by omega, by go_num, _, _, _, _, _, HE8.out, HE9.out, HT9.out.less (fun g h => h.elim), HB9.out⟩, by simp only [intOf]; omega⟩
          · have g0 : ((a.kind : Int) % 9 == 0) = false := by simp; omega
            have h0 : ¬ (a.kind : Int) % 9 = 0 := by omega
            have g1 : ((a.kind : Int) % 9 == 1) = false := by simp; omega
            have h1 : ¬ (a.kind : Int) % 9 = 1 := by omega
            have g2 : ((a.kind : Int) % 9 == 2) = false := by simp; omega
            have h2 : ¬ (a.kind : Int) % 9 = 2 := by omega
            have g3 : ((a.kind : Int) % 9 == 3) = false := by simp; omega
            have h3 : ¬ (a.kind : Int) % 9 = 3 := by omega
            have g4 : ((a.kind : Int) % 9 == 4) = false := by simp; omega
            have h4 : ¬ (a.kind : Int) % 9 = 4 := by omega
            have g5 : ((a.kind : Int) % 9 == 5) = true := by simp; omega
            have h5 : (a.kind : Int) % 9 = 5 := by omega
            clear hk
            go_wp2_with fail
            refine (ev_forget HT7.out HE1.out a.num HKN.out).mono ?_
            rintro e w8 ⟨D1', L1', rfl, he8, ht8, hs8⟩
            have HE8 := Lib.hid he8
            have HT8 := Lib.hid ((ht8.moreC (Nat.le_refl _) (show j ≤ j + 1 by omega)).less (X' := fun _ => False) (fun g h => h.elim))
            have HB8 := Lib.hid (HB7.out.trans hs8.2)
            have HE9 := Lib.hid (HE2.out.mono (show j ≤ j + 1 by omega))
            obtain ⟨L2', hL2⟩ : ∃ L2', L2' = L2 := ⟨_, rfl⟩
            rw [← hL2] at HE9 HT8
            clear he8 ht8 hs8 b0 b1 b2 b4 hL2
            have hl1 := HE8.out.coh.len
            have hl2' := HE9.out.coh.len
            have hx1 : ¬ (M1 : Int) < (L1'.length : Int) := by omega
            have hx2 : ¬ (M2 : Int) < (L2'.length : Int) := by omega
            go_wp2_with fail
            refine (two_len HT8.out).mono ?_
            rintro e w20 ⟨rfl, rfl⟩
            go_wp2_with fail
            refine (two_len HT8.out.swap).mono ?_
            rintro e w21 ⟨rfl, rfl⟩
            go_wp2_with fail
            case roundEnd => exact ⟨⟨j + 1, by omega, by go_num, _, _, _, _, _, HE8.out, HE9.out, HT8.out.less (fun g h => h.elim), HB8.out⟩, by simp only [intOf]; omega⟩
          · have g0 : ((a.kind : Int) % 9 == 0) = false := by simp; omega
            have h0 : ¬ (a.kind : Int) % 9 = 0 := by omega
            have g1 : ((a.kind : Int) % 9 == 1) = false := by simp; omega
            have h1 : ¬ (a.kind : Int) % 9 = 1 := by omega
            have g2 : ((a.kind : Int) % 9 == 2) = false := by simp; omega
            have h2 : ¬ (a.kind : Int) % 9 = 2 := by omega
            have g3 : ((a.kind : Int) % 9 == 3) = false := by simp; omega
            have h3 : ¬ (a.kind : Int) % 9 = 3 := by omega
            have g4 : ((a.kind : Int) % 9 == 4) = false := by simp; omega
            have h4 : ¬ (a.kind : Int) % 9 = 4 := by omega
            have g5 : ((a.kind : Int) % 9 == 5) = false := by simp; omega
            have h5 : ¬ (a.kind : Int) % 9 = 5 := by omega
            have g6 : ((a.kind : Int) % 9 == 6) = true := by simp; omega
            have h6 : (a.kind : Int) % 9 = 6 := by omega
            clear hk
            go_wp2_with fail
            refine (ev_sync HT7.out HE1.out (by omega)).mono ?_
            rintro e w8 ⟨D1', L1', rfl, he8, ht8, hs8⟩
            have HE8 := Lib.hid he8
            have HT8 := Lib.hid ht8
            have HB8 := Lib.hid (HB7.out.trans hs8.2)
            clear he8 ht8 hs8 b0 b1 b2 b4
            go_wp2_with fail
            refine (ev_sync HT8.out.swap HE2.out (by omega)).mono ?_
            rintro e w9 ⟨D2', L2', rfl, he9, ht9, hs9⟩
            have HE9 := Lib.hid he9
            have HT9 := Lib.hid (ht9.swap.less (X' := fun _ => False) (fun g h => h.elim))
            have HB9 := Lib.hid (HB8.out.trans hs9.2)
            clear he9 ht9 hs9
            have hl1 := HE8.out.coh.len
            have hl2' := HE9.out.coh.len
            have hx1 : ¬ (M1 : Int) < (L1'.length : Int) := by omega
            have hx2 : ¬ (M2 : Int) < (L2'.length : Int) := by omega
            go_wp2_with fail
            refine (two_len HT9.out).mono ?_
            rintro e w20 ⟨rfl, rfl⟩
            go_wp2_with fail
            refine (two_len HT9.out.swap).mono ?_
            rintro e w21 ⟨rfl, rfl⟩
            go_wp2_with fail
            case roundEnd => exact ⟨⟨j + 1, by omega, by go_num, _, _, _, _, _, HE8.out, HE9.out, HT9.out.less (fun g h => h.elim), HB9.out⟩, by simp only [intOf]; omega⟩
          · have g0 : ((a.kind : Int) % 9 == 0) = false := by simp; omega
            have h0 : ¬ (a.kind : Int) % 9 = 0 := by omega
            have g1 : ((a.kind : Int) % 9 == 1) = false := by simp; omega
            have h1 : ¬ (a.kind : Int) % 9 = 1 := by omega
            have g2 : ((a.kind : Int) % 9 == 2) = false := by simp; omega
            have h2 : ¬ (a.kind : Int) % 9 = 2 := by omega
            have g3 : ((a.kind : Int) % 9 == 3) = false := by simp; omega
            have h3 : ¬ (a.kind : Int) % 9 = 3 := by omega
            have g4 : ((a.kind : Int) % 9 == 4) = false := by simp; omega
            have h4 : ¬ (a.kind : Int) % 9 = 4 := by omega
            have g5 : ((a.kind : Int) % 9 == 5) = false := by simp; omega
            have h5 : ¬ (a.kind : Int) % 9 = 5 := by omega
            have g6 : ((a.kind : Int) % 9 == 6) = false := by simp; omega
            have h6 : ¬ (a.kind : Int) % 9 = 6 := by omega
            clear hk
            obtain ⟨L2', hL2⟩ : ∃ L2', L2' = L2 := ⟨_, rfl⟩
            obtain ⟨L1', hL1⟩ : ∃ L1', L1' = L1 := ⟨_, rfl⟩
            have HE8 := Lib.hid (HE1.out.mono (show j ≤ j + 1 by omega))
            have HE9 := Lib.hid (HE2.out.mono (show j ≤ j + 1 by omega))
            have HT8 := Lib.hid ((HT7.out.moreC (show j ≤ j + 1 by omega) (show j ≤ j + 1 by omega)).less (X' := fun _ => False) (fun g h => h.elim))
            rw [← hL1] at HE8 HT8
            rw [← hL2] at HE9 HT8
            clear hL1 hL2
            have hl1 := HE8.out.coh.len
            have hl2' := HE9.out.coh.len
            have hx1 : ¬ (M1 : Int) < (L1'.length : Int) := by omega
            have hx2 : ¬ (M2 : Int) < (L2'.length : Int) := by omega
            go_wp2_with fail
            refine (two_len HT8.out).mono ?_
            rintro e w20 ⟨rfl, rfl⟩
            go_wp2_with fail
            refine (two_len HT8.out.swap).mono ?_
            rintro e w21 ⟨rfl, rfl⟩
            go_wp2_with fail
            case roundEnd => exact ⟨⟨j + 1, by omega, by go_num, _, _, _, _, _, HE8.out, HE9.out, HT8.out.less (fun g h => h.elim), HB7.out⟩, by simp only [intOf]; omega⟩
        · have hji : ¬ (j : Int) < (l.length : Int) := by omega
          go_wp2_with fail
          go_ret
          exact ⟨rfl, hb⟩
end Go.Proofs.Ytfbjjblgcgjndaa
