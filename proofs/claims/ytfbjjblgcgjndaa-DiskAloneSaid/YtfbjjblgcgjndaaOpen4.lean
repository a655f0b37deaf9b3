/- Openings of arguments: lists of bools, of words, of shorts. -/
import Derived.Test.YtfbjjblgcgjndaaOpenA
set_option linter.unusedVariables false
set_option linter.unusedSimpArgs false
namespace Go.Proofs.Ytfbjjblgcgjndaa
open Go.ChangeShapes Go.WideShapes Go.ChangeAt Go.RowKit Go.Deep

/-- a list that lies in memory, one cell an element -/
structure Lies (α : Type) where
  A : Option Addr
  l : List α
  c : Nat
def Lies.val {α : Type} (r : Lies α) : Value := .slice r.A r.l.length r.c
structure Lies.Ok {α : Type} (f : α → Value) (p : α → Prop) (W : World) (r : Lies α) : Prop where
  lies : At W r.A (r.l.map f)
  nil : r.A = none → r.c = 0
  le : r.l.length ≤ r.c
  small : r.l.length ≤ 140737488351232
  all : ∀ x ∈ r.l, p x
theorem Lies.Ok.below {α : Type} {f : α → Value} {p : α → Prop} {w w' : World} {r : Lies α} (h : r.Ok f p w) (hb : Below w.heap.size w w') : r.Ok f p w' := ⟨h.lies.below hb, h.nil, h.le, h.small, h.all⟩
theorem map_all {α : Type} {f : α → Value} {p : α → Prop} : ∀ (vs : List Value), (∀ u ∈ vs, ∃ a, u = f a ∧ p a) → ∃ l : List α, vs = l.map f ∧ ∀ x ∈ l, p x
  | [], _ => ⟨[], rfl, fun x hx => by simp at hx⟩
  | v :: vs, h => by
    obtain ⟨a, rfl, ha⟩ := h v (by simp)
    obtain ⟨l, rfl, hl⟩ := map_all vs (fun u hu => h u (by simp [hu]))
    exact ⟨a :: l, rfl, fun x hx => by
      rcases List.mem_cons.1 hx with rfl | hx
      · exact ha
      · exact hl x hx⟩
section
variable {H : Type} {enc : TypeId × Value → H} {W : World} {r : Reach} {b0 : Nat} {v : Value} {d : DataW H} {p : List MemPlace}
set_option maxRecDepth 100000 in
theorem open_lies {α : Type} {t e : TypeId} (f : α → Value) (q : α → Prop) (ht : Try.prog.underlying t = some (.slice e)) (hc : Try.prog.cellsOf e = 1) (hb1 : 1 ≤ Try.prog.bytesOf e)
    (hR : ∀ n v (d : DataW H) pl, DataW.trod enc Try.prog W 0 (fun _ => true) true n e [v] = some (d, pl) → ∃ a, v = f a ∧ q a)
    (hv : Value.okWide Try.prog W r b0 t v) (h : DataW.Trod enc Try.prog W 0 (fun _ => true) true t v d p) (hw : ∀ x ∈ d.weights Try.prog t, x ≤ reachBytes) :
    ∃ s : Lies α, v = s.val ∧ s.Ok f q W := by
  obtain ⟨a, n, c, rfl⟩ := okWide_slice ht hv
  obtain ⟨A, c, vs, hvs, hA, hR', hn, hl, hb⟩ := open_one ht hc h rfl hw (fun v => ∃ a, v = f a ∧ q a) (fun n v d pl h _ => hR n v d pl h)
  obtain ⟨l, rfl, hq⟩ := map_all vs hR'
  injection hvs with e1 e2 e3
  subst e1 e2 e3
  rw [List.length_map] at hl
  refine ⟨⟨a, l, c⟩, by simp [Lies.val], hA, hn, hl, ?_, hq⟩
  have := Nat.le_trans (Nat.le_mul_of_pos_right c hb1) hb
  rw [reach_num] at this
  exact Nat.le_trans hl this
theorem Try.cells4' : Try.prog.cellsOf 4 = 1 := by kernel_rfl
theorem Try.cells36' : Try.prog.cellsOf 36 = 1 := by kernel_rfl
theorem Try.cells22' : Try.prog.cellsOf 22 = 1 := by kernel_rfl
theorem Try.bytes4' : Try.prog.bytesOf 4 = 1 := by kernel_rfl
theorem Try.bytes36' : Try.prog.bytesOf 36 = 2 := by kernel_rfl
theorem Try.bytes22' : Try.prog.bytesOf 22 = 4 := by kernel_rfl
abbrev BoolsOk (W : World) (s : Lies Bool) : Prop := s.Ok Value.bool (fun _ => True) W
abbrev ShortsOk (W : World) (s : Lies Nat) : Prop := s.Ok (fun n : Nat => .int .u16 (n : Int)) (fun n : Nat => n < 65536) W
abbrev WordsOk (W : World) (s : Lies Nat) : Prop := s.Ok (fun n : Nat => .int .u32 (n : Int)) (fun n : Nat => n < 4294967296) W
set_option maxRecDepth 100000 in
theorem open_bools (hv : Value.okWide Try.prog W r b0 73 v) (h : DataW.Trod enc Try.prog W 0 (fun _ => true) true 73 v d p) (hw : ∀ x ∈ d.weights Try.prog 73, x ≤ reachBytes) : ∃ s : Lies Bool, v = s.val ∧ BoolsOk W s := by
  refine open_lies Value.bool (fun _ => True) Try.underlying73 Try.cells4' (by rw [Try.bytes4']; omega) ?_ hv h hw
  intro n u y pl hu
  obtain ⟨b, h1, h2⟩ := DataW.trod_bool Try.underlying4 hu
  exact ⟨b, by simpa using h1, trivial⟩
set_option maxRecDepth 100000 in
theorem open_shorts (hv : Value.okWide Try.prog W r b0 84 v) (h : DataW.Trod enc Try.prog W 0 (fun _ => true) true 84 v d p) (hw : ∀ x ∈ d.weights Try.prog 84, x ≤ reachBytes) : ∃ s : Lies Nat, v = s.val ∧ ShortsOk W s := by
  refine open_lies (fun n : Nat => .int .u16 (n : Int)) (fun n => n < 65536) Try.underlying84 Try.cells36' (by rw [Try.bytes36']; omega) ?_ hv h hw
  intro n u y pl hu
  obtain ⟨a, h1, _, w⟩ := DataW.trod_int Try.underlying36 hu
  injection h1 with h1
  obtain ⟨l1, l2⟩ := wf_u16 w
  obtain ⟨m, rfl⟩ := Int.eq_ofNat_of_zero_le l1
  exact ⟨m, h1, by omega⟩
set_option maxRecDepth 100000 in
theorem open_words (hv : Value.okWide Try.prog W r b0 34 v) (h : DataW.Trod enc Try.prog W 0 (fun _ => true) true 34 v d p) (hw : ∀ x ∈ d.weights Try.prog 34, x ≤ reachBytes) : ∃ s : Lies Nat, v = s.val ∧ WordsOk W s := by
  refine open_lies (fun n : Nat => .int .u32 (n : Int)) (fun n => n < 4294967296) Try.underlying34 Try.cells22' (by rw [Try.bytes22']; omega) ?_ hv h hw
  intro n u y pl hu
  obtain ⟨a, h1, _, w⟩ := DataW.trod_int Try.underlying22 hu
  injection h1 with h1
  obtain ⟨l1, l2⟩ := wf_u32 w
  obtain ⟨m, rfl⟩ := Int.eq_ofNat_of_zero_le l1
  exact ⟨m, h1, by omega⟩
end
end Go.Proofs.Ytfbjjblgcgjndaa
