/- Contracts of the reader: take, number, guard. -/
import Derived.Test.YtfbjjblgcgjndaaPage2
import Derived.Defers
import Derived.Recover
set_option linter.unusedVariables false
set_option linter.unusedSimpArgs false
namespace Go.Proofs.Ytfbjjblgcgjndaa
open Go.RowKit

def Inner.pre (r : Inner) (k : Nat) : Inner := ⟨r.A, r.l.take k, r.c⟩
def Inner.suf (r : Inner) (k : Nat) : Inner := ⟨if r.c = k then r.A else r.A.map (·.add k), r.l.drop k, r.c - k⟩
theorem Inner.Ok.pre {w : World} {r : Inner} (h : r.Ok w) (k : Nat) : (r.pre k).Ok w :=
  ⟨h.lies.takes k, h.nil, by have := h.le; simp [Inner.pre]; omega, by have := h.small; simp [Inner.pre]; omega, h.bytes.take k⟩
theorem Inner.Ok.suf {w : World} {r : Inner} (h : r.Ok w) (k : Nat) (hk : k ≤ r.l.length) : (r.suf k).Ok w := by
  have hle := h.le
  refine ⟨?_, ?_, by show (r.l.drop k).length ≤ r.c - k; rw [List.length_drop]; omega, by have := h.small; show (r.l.drop k).length ≤ 140737488351232; rw [List.length_drop]; omega, h.bytes.drop k⟩
  · intro hn
    have hlt : k < r.l.length := by
      refine Decidable.byContradiction fun hc => hn ?_
      simp [Inner.suf, ns, List.drop_eq_nil_of_le (Nat.le_of_not_lt hc)]
    obtain ⟨b, o, e, hr⟩ := h.lies (by intro he; have := congrArg List.length he; simp [ns] at this; rw [this] at hlt; simp at hlt)
    refine ⟨b, o + k, ?_, ?_⟩
    · simp only [Inner.suf, e, Option.map_some]
      rw [if_neg (by omega), Addr.add_mid]
    · intro j v hv
      rw [Nat.add_assoc]
      refine hr (k + j) v ?_
      simpa [Inner.suf, ns] using hv
  · intro he
    simp only [Inner.suf] at he ⊢
    split at he
    · have := h.nil he; omega
    · have : r.A = none := by cases hA : r.A <;> simp_all
      have := h.nil this; omega

/-- a reader in block b, all that it reads lies in w0 -/
structure Reads (w0 w : World) (b : Nat) (r : Inner) : Prop where
  cell : w.heap[b]? = some (.cells #[r.val] 266 (0, 0))
  ok : r.Ok w0
  below : Below w0.heap.size w0 w
  new : w0.heap.size ≤ b
theorem Reads.set {w0 w : World} {b : Nat} {r : Inner} (h : Reads w0 w b r) (r2 : Inner) (h2 : r2.Ok w0) : Reads w0 (w.setCell ⟨b, 0, none⟩ r2.val) b r2 :=
  ⟨blk_set h.cell 0 r2.val, h2, h.below.setCell h.new _, h.new⟩
theorem grown_setCell (w : World) (b i : Nat) (v : Value) : w.grownBy (w.setCell ⟨b, i, none⟩ v) (some b) :=
  ⟨rfl, rfl, rfl, by simp [World.setCell], fun k hk hne => Below.heap_setCell _ _ _ _ (by intro e; exact hne (by rw [e]))⟩

theorem take_tests (r : Inner) (k : Nat) (A : Option Addr) (n c : Nat) (h : r.val = .slice A n c) : r.A = A ∧ r.l.length = n ∧ r.c = c := by
  unfold Inner.val at h
  injection h with h1 h2 h3
  exact ⟨h1, h2, h3⟩

set_option maxRecDepth 100000 in
set_option maxHeartbeats 1000000 in
theorem take_raw (b : Nat) (A : Option Addr) (n c k : Nat) (w : World) (hb : w.heap[b]? = some (.cells #[.slice A n c] 266 (0, 0))) (hk : k ≤ n) (hc : n ≤ c) :
    Calls Try.prog 164 #[.pointer (some ⟨b, 0, none⟩), .int .i64 (k : Int)] w fun e w' => e = .returned (.slice A k c) ∧ w' = w.setCell ⟨b, 0, none⟩ (.slice (if c = k then A else A.map (·.add k)) (n - k) (c - k)) := by
  have hcell : w.cell? ⟨b, 0, none⟩ = some (.slice A n c) := by rw [cell_of_row w b 0 _ 266 (0, 0) hb]; rfl
  have hfr := frozen_of_row w b 0 _ 266 hb
  clear hb
  by_cases he : c = k
  · subst he
    go_enter Try.func164, Try.ntmps164
    go_wp2
    go_ret
    exact ⟨rfl, by simp⟩
  · go_enter Try.func164, Try.ntmps164
    go_wp2
    go_ret
    exact ⟨rfl, by simp [he]⟩
theorem take_ok {w0 w : World} {b : Nat} {r : Inner} (h : Reads w0 w b r) (k : Nat) (hk : k ≤ r.l.length) :
    Calls Try.prog 164 #[.pointer (some ⟨b, 0, none⟩), .int .i64 (k : Int)] w fun e w' => e = .returned (.slice r.A k r.c) ∧ Reads w0 w' b (r.suf k) ∧ w.grownBy w' (some b) := by
  refine (take_raw b r.A r.l.length r.c k w h.cell hk h.ok.le).mono ?_
  rintro e w' ⟨rfl, rfl⟩
  have e1 : Value.slice (if r.c = k then r.A else r.A.map (·.add k)) (r.l.length - k) (r.c - k) = (r.suf k).val := by simp [Inner.val, Inner.suf]
  rw [e1]
  exact ⟨rfl, h.set _ (h.ok.suf k hk), grown_setCell w b 0 _⟩

def Gave : Ending := .panicked [{ v := .iface 273 (.agg #[]), recovered := false }]
set_option maxRecDepth 100000 in
set_option maxHeartbeats 1000000 in
theorem take_bad {w0 w : World} {b : Nat} {r : Inner} (h : Reads w0 w b r) (k : Nat) (hk : r.l.length < k) (hs : k ≤ 1000000) :
    Calls Try.prog 164 #[.pointer (some ⟨b, 0, none⟩), .int .i64 (k : Int)] w fun e w' => e = Gave ∧ w' = w := by
  have hcell : w.cell? ⟨b, 0, none⟩ = some (.slice r.A r.l.length r.c) := by rw [cell_of_row w b 0 _ 266 (0, 0) h.cell]; rfl
  have hfr := frozen_of_row w b 0 _ 266 h.cell
  clear h
  go_enter Try.func164, Try.ntmps164
  go_wp2
  exact ⟨rfl, rfl, rfl⟩

theorem run_assert273 (w : World) : (Instr.typeAssert (.iface 273 (.agg #[])) 20 273 true).run Try.prog w = .ok (.tuple #[.agg #[], .bool true]) w := by
  simp [Instr.typeAssert, run_underlying Try.underlying273]
/-- the variable of a result, in a block of its own -/
def ErrBox (w : World) (g : Nat) (x : Int) : Prop := w.heap[g]? = some (.cells #[.int .u16 x] 37 (0, 0))
set_option maxRecDepth 100000 in
theorem guard_panicking (g : Nat) (x : Int) (older : List PanicEntry) (w : World) (hg : ErrBox w g x) :
    CallsD Try.prog 163 #[.pointer (some ⟨g, 0, none⟩)] (.panicking ({ v := .iface 273 (.agg #[]), recovered := false } :: older)) w fun e u' w' =>
      e = .returned (.tuple #[]) ∧ u' = .panicking ({ v := .iface 273 (.agg #[]), recovered := true } :: older) ∧ ErrBox w' g 80 ∧ w.grownBy w' (some g) := by
  have hlt : g < w.heap.size := (Array.getElem?_eq_some_iff.1 hg).1
  have hg' : (w.alloc (.cells #[] 273)).heap[g]? = some (.cells #[.int .u16 x] 37 (0, 0)) := by rw [heap_alloc_old w _ hlt]; exact hg
  have hc : (w.alloc (.cells #[] 273)).cell? ⟨g, 0, none⟩ = some (.int .u16 x) := by rw [cell_of_row _ g 0 _ 37 (0, 0) hg']; rfl
  have hz : (w.alloc (.cells #[] 273)).frozen? ⟨g, 0, none⟩ = false := blk_frozen hg' 0
  have hbx0 : (w.setCell ⟨g, 0, none⟩ (.int .u16 80)).heap[g]? = some (.cells #[.int .u16 80] 37 (0, 0)) := blk_set hg 0 _
  have hfin : w.grownBy ((w.setCell ⟨g, 0, none⟩ (.int .u16 80)).alloc (.cells #[] 273)) (some g) := by
    have h0 := grown_setCell w g 0 (.int .u16 80)
    have h1 : (w.setCell ⟨g, 0, none⟩ (.int .u16 80)).grownBy ((w.setCell ⟨g, 0, none⟩ (.int .u16 80)).alloc (.cells #[] 273)) (some g) := ⟨rfl, rfl, rfl, by simp, fun i hi _ => heap_alloc_old _ _ hi⟩
    exact h0.trans h1
  have hbx : ErrBox ((w.setCell ⟨g, 0, none⟩ (.int .u16 80)).alloc (.cells #[] 273)) g 80 := by
    unfold ErrBox
    rw [heap_alloc_old _ _ (Array.getElem?_eq_some_iff.1 hbx0).1]; exact hbx0
  clear hbx0
  have HF := Lib.hid hfin
  have HB := Lib.hid hbx
  clear hg hg' hfin hbx
  refine callsD_of_wpS Try.func163 rfl fun c₀ cs hu => ?_
  apply wpS_seq
  apply wpS_region
  simp [wpOpsS, go_sem, recoverD, hu, Try.ntmps163, Exit.thenS]
  apply wpS_seq
  apply wpS_region
  simp [wpOpsS, go_sem, Exit.thenS]
  refine wpS_cond (t := true) (by simp [Act.eval, Array.replicate]) ?_
  simp only [if_true]
  refine wpS_of_wp ?_
  change Code.wp _ _ _ { tmps := #[.pointer (some ⟨g, 0, none⟩), undef, .iface 273 (.agg #[]), undef, undef, .iface 273 (.agg #[]), .iface 273 (.agg #[]), .bool true, undef, undef, undef, undef, undef, undef, undef, undef, undef, undef], defers := [] } _
  have hta := run_assert273
  go_wp2
  exact ⟨rfl, _, rfl, _, results_none rfl _ _ _, rfl, rfl, HB.out, HF.out⟩
theorem guard_idle (p : Addr) (w : World) :
    CallsD Try.prog 163 #[.pointer (some p)] .returning w fun e u' w' => e = .returned (.tuple #[]) ∧ u' = .returning ∧ w' = w := by
  refine callsD_of_wpS Try.func163 rfl fun c₀ cs hu => ?_
  apply wpS_seq
  apply wpS_region
  simp [wpOpsS, go_sem, recoverD, hu, Try.ntmps163, Exit.thenS]
  apply wpS_seq
  apply wpS_region
  simp [wpOpsS, go_sem, Exit.thenS]
  refine wpS_cond (t := false) (by simp [Act.eval, Array.replicate]) ?_
  simp only [Bool.false_eq_true, if_false]
  refine wpS_of_wp (wp_skip ?_)
  cases c₀
  simp_all [bodyPostS, results, Try.results163]
end Go.Proofs.Ytfbjjblgcgjndaa
