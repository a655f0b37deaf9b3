/- Joined texts: Open4, Facts. -/
import Derived.Test.YtfbjjblgcgjndaaRows
import Derived.JoinedOf
import Derived.KernelRfl
import Derived.Test.YtfbjjblgcgjndaaPk8
set_option linter.unusedVariables false
set_option linter.unusedSimpArgs false

/- Openings of arguments: lists of bools, of words, of shorts. -/
namespace Go.Proofs.Ytfbjjblgcgjndaa
open Go.ChangeShapes Go.WideShapes Go.ChangeAt Go.RowKit Go.Deep

/-- a list that lies in memory, one cell an element -/
structure Lies (α : Type) where
  A : Option Addr
  l : List α
  c : Nat
def Lies.val {α : Type} (r : Lies α) : Value := .slice r.A r.l.length r.c
structure Lies.Ok {α : Type} (f : α → Value) (p : α → Prop) (W : World) (r : Lies α) : Prop where
  lies : At W r.A (r.l.map f)
  nil : r.A = none → r.c = 0
  le : r.l.length ≤ r.c
  small : r.l.length ≤ 140737488351232
  all : ∀ x ∈ r.l, p x
theorem Lies.Ok.below {α : Type} {f : α → Value} {p : α → Prop} {w w' : World} {r : Lies α} (h : r.Ok f p w) (hb : Below w.heap.size w w') : r.Ok f p w' := ⟨h.lies.below hb, h.nil, h.le, h.small, h.all⟩
theorem map_all {α : Type} {f : α → Value} {p : α → Prop} : ∀ (vs : List Value), (∀ u ∈ vs, ∃ a, u = f a ∧ p a) → ∃ l : List α, vs = l.map f ∧ ∀ x ∈ l, p x
  | [], _ => ⟨[], rfl, fun x hx => by simp at hx⟩
  | v :: vs, h => by
    obtain ⟨a, rfl, ha⟩ := h v (by simp)
    obtain ⟨l, rfl, hl⟩ := map_all vs (fun u hu => h u (by simp [hu]))
    exact ⟨a :: l, rfl, fun x hx => by
      rcases List.mem_cons.1 hx with rfl | hx
      · exact ha
      · exact hl x hx⟩
section
variable {H : Type} {enc : TypeId × Value → H} {W : World} {r : Reach} {b0 : Nat} {v : Value} {d : DataW H} {p : List MemPlace}
set_option maxRecDepth 100000 in
theorem open_lies {α : Type} {t e : TypeId} (f : α → Value) (q : α → Prop) (ht : Try.prog.underlying t = some (.slice e)) (hc : Try.prog.cellsOf e = 1) (hb1 : 1 ≤ Try.prog.bytesOf e)
    (hR : ∀ n v (d : DataW H) pl, DataW.trod enc Try.prog W 0 (fun _ => true) true n e [v] = some (d, pl) → ∃ a, v = f a ∧ q a)
    (hv : Value.okWide Try.prog W r b0 t v) (h : DataW.Trod enc Try.prog W 0 (fun _ => true) true t v d p) (hw : ∀ x ∈ d.weights Try.prog t, x ≤ reachBytes) :
    ∃ s : Lies α, v = s.val ∧ s.Ok f q W := by
  obtain ⟨a, n, c, rfl⟩ := okWide_slice ht hv
  obtain ⟨A, c, vs, hvs, hA, hR', hn, hl, hb⟩ := open_one ht hc h rfl hw (fun v => ∃ a, v = f a ∧ q a) (fun n v d pl h _ => hR n v d pl h)
  obtain ⟨l, rfl, hq⟩ := map_all vs hR'
  injection hvs with e1 e2 e3
  subst e1 e2 e3
  rw [List.length_map] at hl
  refine ⟨⟨a, l, c⟩, by simp [Lies.val], hA, hn, hl, ?_, hq⟩
  have := Nat.le_trans (Nat.le_mul_of_pos_right c hb1) hb
  rw [reach_num] at this
  exact Nat.le_trans hl this
theorem Try.cells4' : Try.prog.cellsOf 4 = 1 := by kernel_rfl
theorem Try.cells36' : Try.prog.cellsOf 36 = 1 := by kernel_rfl
theorem Try.cells22' : Try.prog.cellsOf 22 = 1 := by kernel_rfl
theorem Try.bytes4' : Try.prog.bytesOf 4 = 1 := by kernel_rfl
theorem Try.bytes36' : Try.prog.bytesOf 36 = 2 := by kernel_rfl
theorem Try.bytes22' : Try.prog.bytesOf 22 = 4 := by kernel_rfl
abbrev BoolsOk (W : World) (s : Lies Bool) : Prop := s.Ok Value.bool (fun _ => True) W
abbrev ShortsOk (W : World) (s : Lies Nat) : Prop := s.Ok (fun n : Nat => .int .u16 (n : Int)) (fun n : Nat => n < 65536) W
abbrev WordsOk (W : World) (s : Lies Nat) : Prop := s.Ok (fun n : Nat => .int .u32 (n : Int)) (fun n : Nat => n < 4294967296) W
set_option maxRecDepth 100000 in
theorem open_bools (hv : Value.okWide Try.prog W r b0 73 v) (h : DataW.Trod enc Try.prog W 0 (fun _ => true) true 73 v d p) (hw : ∀ x ∈ d.weights Try.prog 73, x ≤ reachBytes) : ∃ s : Lies Bool, v = s.val ∧ BoolsOk W s := by
  refine open_lies Value.bool (fun _ => True) Try.underlying73 Try.cells4' (by rw [Try.bytes4']; omega) ?_ hv h hw
  intro n u y pl hu
  obtain ⟨b, h1, h2⟩ := DataW.trod_bool Try.underlying4 hu
  exact ⟨b, by simpa using h1, trivial⟩
set_option maxRecDepth 100000 in
theorem open_shorts (hv : Value.okWide Try.prog W r b0 84 v) (h : DataW.Trod enc Try.prog W 0 (fun _ => true) true 84 v d p) (hw : ∀ x ∈ d.weights Try.prog 84, x ≤ reachBytes) : ∃ s : Lies Nat, v = s.val ∧ ShortsOk W s := by
  refine open_lies (fun n : Nat => .int .u16 (n : Int)) (fun n => n < 65536) Try.underlying84 Try.cells36' (by rw [Try.bytes36']; omega) ?_ hv h hw
  intro n u y pl hu
  obtain ⟨a, h1, _, w⟩ := DataW.trod_int Try.underlying36 hu
  injection h1 with h1
  obtain ⟨l1, l2⟩ := wf_u16 w
  obtain ⟨m, rfl⟩ := Int.eq_ofNat_of_zero_le l1
  exact ⟨m, h1, by omega⟩
set_option maxRecDepth 100000 in
theorem open_words (hv : Value.okWide Try.prog W r b0 34 v) (h : DataW.Trod enc Try.prog W 0 (fun _ => true) true 34 v d p) (hw : ∀ x ∈ d.weights Try.prog 34, x ≤ reachBytes) : ∃ s : Lies Nat, v = s.val ∧ WordsOk W s := by
  refine open_lies (fun n : Nat => .int .u32 (n : Int)) (fun n => n < 4294967296) Try.underlying34 Try.cells22' (by rw [Try.bytes22']; omega) ?_ hv h hw
  intro n u y pl hu
  obtain ⟨a, h1, _, w⟩ := DataW.trod_int Try.underlying22 hu
  injection h1 with h1
  obtain ⟨l1, l2⟩ := wf_u32 w
  obtain ⟨m, rfl⟩ := Int.eq_ofNat_of_zero_le l1
  exact ⟨m, h1, by omega⟩
end
end Go.Proofs.Ytfbjjblgcgjndaa

/- Closed facts on the program: its head's words out of their numbers (cheaply), and what all rows ask of it. -/
namespace Go.Proofs.Ytfbjjblgcgjndaa
open Go

def joinW : List (List Char) → List Char
  | [] => []
  | [w] => w
  | w :: v :: r => w ++ Char.ofNat 32 :: joinW (v :: r)

theorem words_none (w : List Char) (h : w.all (fun c => c != Char.ofNat 32) = true) : wordsSigns w = [w] := by
  induction w with
  | nil => rfl
  | cons c w ih =>
    simp only [List.all_cons, Bool.and_eq_true] at h
    have ih' := ih h.2
    have hc : c ≠ Char.ofNat 32 := by simpa using h.1
    unfold wordsSigns
    split
    · contradiction
    · rename_i heq; injection heq with h1 h2; exact absurd h1 hc
    · rename_i heq; injection heq with h1 h2; subst h1 h2; rw [ih']
theorem words_one (w r : List Char) (h : w.all (fun c => c != Char.ofNat 32) = true) : wordsSigns (w ++ Char.ofNat 32 :: r) = w :: wordsSigns r := by
  induction w with
  | nil => rfl
  | cons c w ih =>
    simp only [List.all_cons, Bool.and_eq_true] at h
    have ih' := ih h.2
    have hc : c ≠ Char.ofNat 32 := by simpa using h.1
    rw [List.cons_append]
    conv => lhs; unfold wordsSigns
    split
    · contradiction
    · rename_i heq; injection heq with h1 h2; exact absurd h1 hc
    · rename_i heq; injection heq with h1 h2; subst h1 h2; rw [ih']
theorem words_join (l : List (List Char)) (hne : l ≠ []) (h : l.all (fun w => w.all (fun c => c != Char.ofNat 32)) = true) : wordsSigns (joinW l) = l := by
  induction l with
  | nil => contradiction
  | cons w l ih =>
    simp only [List.all_cons, Bool.and_eq_true] at h
    cases l with
    | nil => exact words_none w h.1
    | cons v r =>
      show wordsSigns (w ++ Char.ofNat 32 :: joinW (v :: r)) = _
      rw [words_one w _ h.1, ih (by simp) h.2]

def headN : List (List Nat) := [
  [104, 97, 114, 110, 101, 115, 115],
  [56, 53, 100, 48, 97, 57, 102, 57, 101, 52, 51, 55, 53, 97, 100, 51, 97, 53, 99, 97, 101, 101, 48, 97, 57, 102, 57, 50, 99, 52, 48, 48, 100, 97, 57, 51, 97, 50, 50, 55, 97, 100, 100, 51, 48, 100, 53, 56, 99, 101, 99, 56, 99, 52, 57, 101, 101, 100, 48, 97, 99, 99, 97, 57],
  [99, 117, 116],
  [97, 116],
  [99, 111, 100, 105, 99, 105, 108, 47, 99, 111, 100, 105, 99, 105, 108, 108, 97, 119, 48, 49, 46, 67, 114, 99, 83, 117, 109, 115],
  [99, 111, 100, 105, 99, 105, 108, 47, 99, 111, 100, 105, 99, 105, 108, 108, 97, 119, 48, 49, 46, 67, 114, 99, 80, 105, 101, 99, 101, 115],
  [99, 111, 100, 105, 99, 105, 108, 47, 99, 111, 100, 105, 99, 105, 108, 108, 97, 119, 48, 49, 46, 67, 114, 99, 76, 105, 110, 101, 97, 114],
  [99, 111, 100, 105, 99, 105, 108, 47, 99, 111, 100, 105, 99, 105, 108, 108, 97, 119, 48, 49, 46, 67, 114, 99, 66, 117, 114, 115, 116, 115],
  [99, 111, 100, 105, 99, 105, 108, 47, 99, 111, 100, 105, 99, 105, 108, 108, 97, 119, 49, 50, 46, 79, 118, 101, 114, 87, 114, 105, 116, 101, 115],
  [99, 111, 100, 105, 99, 105, 108, 47, 99, 111, 100, 105, 99, 105, 108, 108, 97, 119, 49, 50, 46, 79, 118, 101, 114, 80, 97, 114, 116, 115],
  [99, 111, 100, 105, 99, 105, 108, 47, 99, 111, 100, 105, 99, 105, 108, 108, 97, 119, 48, 55, 46, 68, 105, 115, 107, 84, 111, 114, 110],
  [99, 111, 100, 105, 99, 105, 108, 47, 99, 111, 100, 105, 99, 105, 108, 108, 97, 119, 48, 55, 46, 68, 105, 115, 107, 84, 114, 105, 112, 115],
  [99, 111, 100, 105, 99, 105, 108, 47, 99, 111, 100, 105, 99, 105, 108, 108, 97, 119, 48, 55, 46, 68, 105, 115, 107, 75, 101, 101, 112, 115],
  [99, 111, 100, 105, 99, 105, 108, 47, 99, 111, 100, 105, 99, 105, 108, 108, 97, 119, 48, 55, 46, 68, 105, 115, 107, 70, 97, 105, 108, 115],
  [99, 111, 100, 105, 99, 105, 108, 47, 99, 111, 100, 105, 99, 105, 108, 108, 97, 119, 48, 55, 46, 68, 105, 115, 107, 68, 111, 101, 115],
  [99, 111, 100, 105, 99, 105, 108, 47, 99, 111, 100, 105, 99, 105, 108, 108, 97, 119, 48, 55, 46, 68, 105, 115, 107, 76, 111, 97, 100, 115],
  [99, 111, 100, 105, 99, 105, 108, 47, 99, 111, 100, 105, 99, 105, 108, 108, 97, 119, 48, 55, 46, 68, 105, 115, 107, 65, 108, 111, 110, 101],
  [99, 111, 100, 105, 99, 105, 108, 47, 99, 111, 100, 105, 99, 105, 108, 108, 97, 119, 48, 56, 46, 80, 97, 103, 101, 83, 101, 97, 108, 115],
  [99, 111, 100, 105, 99, 105, 108, 47, 99, 111, 100, 105, 99, 105, 108, 108, 97, 119, 48, 56, 46, 80, 97, 103, 101, 79, 112, 101, 110, 115],
  [99, 111, 100, 105, 99, 105, 108, 47, 99, 111, 100, 105, 99, 105, 108, 108, 97, 119, 48, 56, 46, 80, 97, 103, 101, 83, 116, 97, 116, 101, 115],
  [99, 111, 100, 105, 99, 105, 108, 47, 99, 111, 100, 105, 99, 105, 108, 108, 97, 119, 48, 56, 46, 80, 97, 103, 101, 84, 117, 114, 110, 101, 100],
  [99, 111, 100, 105, 99, 105, 108, 47, 99, 111, 100, 105, 99, 105, 108, 108, 97, 119, 48, 56, 46, 80, 97, 103, 101, 78, 101, 119, 101, 115, 116],
  [99, 111, 100, 105, 99, 105, 108, 47, 99, 111, 100, 105, 99, 105, 108, 108, 97, 119, 48, 56, 46, 80, 97, 103, 101, 78, 117, 109, 98, 101, 114, 115],
  [99, 111, 100, 105, 99, 105, 108, 47, 99, 111, 100, 105, 99, 105, 108, 108, 97, 119, 49, 48, 46, 80, 111, 111, 108, 75, 101, 101, 112, 115],
  [99, 111, 100, 105, 99, 105, 108, 47, 99, 111, 100, 105, 99, 105, 108, 108, 97, 119, 49, 48, 46, 80, 111, 111, 108, 83, 105, 122, 101, 115],
  [99, 111, 100, 105, 99, 105, 108, 47, 99, 111, 100, 105, 99, 105, 108, 108, 97, 119, 49, 48, 46, 80, 111, 111, 108, 76, 97, 115, 116],
  [99, 111, 100, 105, 99, 105, 108, 47, 99, 111, 100, 105, 99, 105, 108, 108, 97, 119, 49, 50, 46, 79, 118, 101, 114, 66, 97, 99, 107]]
def headW : List (List Char) := headN.map fun w => w.map Char.ofNat
theorem head_eq : Try.prog.initOrder = String.ofList (joinW headW) := by kernel_rfl
theorem head_list : Try.prog.initOrder.toList = joinW headW := by rw [head_eq, String.toList_ofList]
theorem head_clean : headW.all (fun w => w.all (fun c => c != Char.ofNat 32)) = true := by kernel_rfl
theorem head_words : wordsSigns Try.prog.initOrder.toList = headW := by
  rw [head_list]
  exact words_join headW (by simp [headW, headN]) head_clean
theorem t_harness : "harness".toList = [Char.ofNat 104, Char.ofNat 97, Char.ofNat 114, Char.ofNat 110, Char.ofNat 101, Char.ofNat 115, Char.ofNat 115] := by
  rw [show "harness" = String.ofList [Char.ofNat 104, Char.ofNat 97, Char.ofNat 114, Char.ofNat 110, Char.ofNat 101, Char.ofNat 115, Char.ofNat 115] from by kernel_rfl, String.toList_ofList]
theorem t_ownmain : "ownmain".toList = [Char.ofNat 111, Char.ofNat 119, Char.ofNat 110, Char.ofNat 109, Char.ofNat 97, Char.ofNat 105, Char.ofNat 110] := by
  rw [show "ownmain" = String.ofList [Char.ofNat 111, Char.ofNat 119, Char.ofNat 110, Char.ofNat 109, Char.ofNat 97, Char.ofNat 105, Char.ofNat 110] from by kernel_rfl, String.toList_ofList]
theorem t_gc : "gc".toList = [Char.ofNat 103, Char.ofNat 99] := by
  rw [show "gc" = String.ofList [Char.ofNat 103, Char.ofNat 99] from by kernel_rfl, String.toList_ofList]
theorem t_spec : "spec".toList = [Char.ofNat 115, Char.ofNat 112, Char.ofNat 101, Char.ofNat 99] := by
  rw [show "spec" = String.ofList [Char.ofNat 115, Char.ofNat 112, Char.ofNat 101, Char.ofNat 99] from by kernel_rfl, String.toList_ofList]
theorem t_stop : "stop".toList = [Char.ofNat 115, Char.ofNat 116, Char.ofNat 111, Char.ofNat 112] := by
  rw [show "stop" = String.ofList [Char.ofNat 115, Char.ofNat 116, Char.ofNat 111, Char.ofNat 112] from by kernel_rfl, String.toList_ofList]
theorem t_carried : "carried".toList = [Char.ofNat 99, Char.ofNat 97, Char.ofNat 114, Char.ofNat 114, Char.ofNat 105, Char.ofNat 101, Char.ofNat 100] := by
  rw [show "carried" = String.ofList [Char.ofNat 99, Char.ofNat 97, Char.ofNat 114, Char.ofNat 114, Char.ofNat 105, Char.ofNat 101, Char.ofNat 100] from by kernel_rfl, String.toList_ofList]
theorem t_cut : "cut".toList = [Char.ofNat 99, Char.ofNat 117, Char.ofNat 116] := by
  rw [show "cut" = String.ofList [Char.ofNat 99, Char.ofNat 117, Char.ofNat 116] from by kernel_rfl, String.toList_ofList]
theorem t_finals : "finals".toList = [Char.ofNat 102, Char.ofNat 105, Char.ofNat 110, Char.ofNat 97, Char.ofNat 108, Char.ofNat 115] := by
  rw [show "finals" = String.ofList [Char.ofNat 102, Char.ofNat 105, Char.ofNat 110, Char.ofNat 97, Char.ofNat 108, Char.ofNat 115] from by kernel_rfl, String.toList_ofList]
theorem t_reflectrows : "reflectrows".toList = [Char.ofNat 114, Char.ofNat 101, Char.ofNat 102, Char.ofNat 108, Char.ofNat 101, Char.ofNat 99, Char.ofNat 116, Char.ofNat 114, Char.ofNat 111, Char.ofNat 119, Char.ofNat 115] := by
  rw [show "reflectrows" = String.ofList [Char.ofNat 114, Char.ofNat 101, Char.ofNat 102, Char.ofNat 108, Char.ofNat 101, Char.ofNat 99, Char.ofNat 116, Char.ofNat 114, Char.ofNat 111, Char.ofNat 119, Char.ofNat 115] from by kernel_rfl, String.toList_ofList]
theorem t_leanrows : "leanrows".toList = [Char.ofNat 108, Char.ofNat 101, Char.ofNat 97, Char.ofNat 110, Char.ofNat 114, Char.ofNat 111, Char.ofNat 119, Char.ofNat 115] := by
  rw [show "leanrows" = String.ofList [Char.ofNat 108, Char.ofNat 101, Char.ofNat 97, Char.ofNat 110, Char.ofNat 114, Char.ofNat 111, Char.ofNat 119, Char.ofNat 115] from by kernel_rfl, String.toList_ofList]
theorem t_onebuild : "onebuild".toList = [Char.ofNat 111, Char.ofNat 110, Char.ofNat 101, Char.ofNat 98, Char.ofNat 117, Char.ofNat 105, Char.ofNat 108, Char.ofNat 100] := by
  rw [show "onebuild" = String.ofList [Char.ofNat 111, Char.ofNat 110, Char.ofNat 101, Char.ofNat 98, Char.ofNat 117, Char.ofNat 105, Char.ofNat 108, Char.ofNat 100] from by kernel_rfl, String.toList_ofList]
theorem t_publicsums : "publicsums".toList = [Char.ofNat 112, Char.ofNat 117, Char.ofNat 98, Char.ofNat 108, Char.ofNat 105, Char.ofNat 99, Char.ofNat 115, Char.ofNat 117, Char.ofNat 109, Char.ofNat 115] := by
  rw [show "publicsums" = String.ofList [Char.ofNat 112, Char.ofNat 117, Char.ofNat 98, Char.ofNat 108, Char.ofNat 105, Char.ofNat 99, Char.ofNat 115, Char.ofNat 117, Char.ofNat 109, Char.ofNat 115] from by kernel_rfl, String.toList_ofList]
theorem t_eqguard : "eqguard".toList = [Char.ofNat 101, Char.ofNat 113, Char.ofNat 103, Char.ofNat 117, Char.ofNat 97, Char.ofNat 114, Char.ofNat 100] := by
  rw [show "eqguard" = String.ofList [Char.ofNat 101, Char.ofNat 113, Char.ofNat 103, Char.ofNat 117, Char.ofNat 97, Char.ofNat 114, Char.ofNat 100] from by kernel_rfl, String.toList_ofList]
theorem t_ownunsafe : "ownunsafe".toList = [Char.ofNat 111, Char.ofNat 119, Char.ofNat 110, Char.ofNat 117, Char.ofNat 110, Char.ofNat 115, Char.ofNat 97, Char.ofNat 102, Char.ofNat 101] := by
  rw [show "ownunsafe" = String.ofList [Char.ofNat 111, Char.ofNat 119, Char.ofNat 110, Char.ofNat 117, Char.ofNat 110, Char.ofNat 115, Char.ofNat 97, Char.ofNat 102, Char.ofNat 101] from by kernel_rfl, String.toList_ofList]
theorem t_libbeside : "libbeside".toList = [Char.ofNat 108, Char.ofNat 105, Char.ofNat 98, Char.ofNat 98, Char.ofNat 101, Char.ofNat 115, Char.ofNat 105, Char.ofNat 100, Char.ofNat 101] := by
  rw [show "libbeside" = String.ofList [Char.ofNat 108, Char.ofNat 105, Char.ofNat 98, Char.ofNat 98, Char.ofNat 101, Char.ofNat 115, Char.ofNat 105, Char.ofNat 100, Char.ofNat 101] from by kernel_rfl, String.toList_ofList]
theorem t_ownbeside : "ownbeside".toList = [Char.ofNat 111, Char.ofNat 119, Char.ofNat 110, Char.ofNat 98, Char.ofNat 101, Char.ofNat 115, Char.ofNat 105, Char.ofNat 100, Char.ofNat 101] := by
  rw [show "ownbeside" = String.ofList [Char.ofNat 111, Char.ofNat 119, Char.ofNat 110, Char.ofNat 98, Char.ofNat 101, Char.ofNat 115, Char.ofNat 105, Char.ofNat 100, Char.ofNat 101] from by kernel_rfl, String.toList_ofList]
theorem t_reflbeside : "reflbeside".toList = [Char.ofNat 114, Char.ofNat 101, Char.ofNat 102, Char.ofNat 108, Char.ofNat 98, Char.ofNat 101, Char.ofNat 115, Char.ofNat 105, Char.ofNat 100, Char.ofNat 101] := by
  rw [show "reflbeside" = String.ofList [Char.ofNat 114, Char.ofNat 101, Char.ofNat 102, Char.ofNat 108, Char.ofNat 98, Char.ofNat 101, Char.ofNat 115, Char.ofNat 105, Char.ofNat 100, Char.ofNat 101] from by kernel_rfl, String.toList_ofList]
theorem t_aliases : "aliases".toList = [Char.ofNat 97, Char.ofNat 108, Char.ofNat 105, Char.ofNat 97, Char.ofNat 115, Char.ofNat 101, Char.ofNat 115] := by
  rw [show "aliases" = String.ofList [Char.ofNat 97, Char.ofNat 108, Char.ofNat 105, Char.ofNat 97, Char.ofNat 115, Char.ofNat 101, Char.ofNat 115] from by kernel_rfl, String.toList_ofList]
theorem t_afterinit : "afterinit".toList = [Char.ofNat 97, Char.ofNat 102, Char.ofNat 116, Char.ofNat 101, Char.ofNat 114, Char.ofNat 105, Char.ofNat 110, Char.ofNat 105, Char.ofNat 116] := by
  rw [show "afterinit" = String.ofList [Char.ofNat 97, Char.ofNat 102, Char.ofNat 116, Char.ofNat 101, Char.ofNat 114, Char.ofNat 105, Char.ofNat 110, Char.ofNat 105, Char.ofNat 116] from by kernel_rfl, String.toList_ofList]
theorem t_crcplain : "crcplain".toList = [Char.ofNat 99, Char.ofNat 114, Char.ofNat 99, Char.ofNat 112, Char.ofNat 108, Char.ofNat 97, Char.ofNat 105, Char.ofNat 110] := by
  rw [show "crcplain" = String.ofList [Char.ofNat 99, Char.ofNat 114, Char.ofNat 99, Char.ofNat 112, Char.ofNat 108, Char.ofNat 97, Char.ofNat 105, Char.ofNat 110] from by kernel_rfl, String.toList_ofList]
theorem t_roadunsafe : "roadunsafe".toList = [Char.ofNat 114, Char.ofNat 111, Char.ofNat 97, Char.ofNat 100, Char.ofNat 117, Char.ofNat 110, Char.ofNat 115, Char.ofNat 97, Char.ofNat 102, Char.ofNat 101] := by
  rw [show "roadunsafe" = String.ofList [Char.ofNat 114, Char.ofNat 111, Char.ofNat 97, Char.ofNat 100, Char.ofNat 117, Char.ofNat 110, Char.ofNat 115, Char.ofNat 97, Char.ofNat 102, Char.ofNat 101] from by kernel_rfl, String.toList_ofList]
theorem t_fmthandon : "fmthandon".toList = [Char.ofNat 102, Char.ofNat 109, Char.ofNat 116, Char.ofNat 104, Char.ofNat 97, Char.ofNat 110, Char.ofNat 100, Char.ofNat 111, Char.ofNat 110] := by
  rw [show "fmthandon" = String.ofList [Char.ofNat 102, Char.ofNat 109, Char.ofNat 116, Char.ofNat 104, Char.ofNat 97, Char.ofNat 110, Char.ofNat 100, Char.ofNat 111, Char.ofNat 110] from by kernel_rfl, String.toList_ofList]
theorem main_word (h s : List Char) (r : List (List Char)) (h1 : (h == [Char.ofNat 104, Char.ofNat 97, Char.ofNat 114, Char.ofNat 110, Char.ofNat 101, Char.ofNat 115, Char.ofNat 115]) = true) (h2 : isSumSigns s = true) :
    behindMainWord (h :: s :: r) = r := by
  unfold behindMainWord
  simp only [t_harness, h1, h2, Bool.true_or, Bool.and_self, if_true]
def restW : List (List Char) := headW.drop 2
theorem rest_words : behindMainWord headW = restW := main_word _ _ _ (by kernel_rfl) (by kernel_rfl)
def restT : List (List Char) := headW.drop 3
theorem restW_eq : restW = [Char.ofNat 99, Char.ofNat 117, Char.ofNat 116] :: restT := by kernel_rfl
theorem cut_words : behindMainWord (wordsSigns Try.prog.initOrder.toList) = [Char.ofNat 99, Char.ofNat 117, Char.ofNat 116] :: restT := by
  rw [head_words, rest_words, restW_eq]
theorem not_gc : (([Char.ofNat 99, Char.ofNat 117, Char.ofNat 116] : List Char) == "gc".toList) = false := by rw [t_gc]; kernel_rfl
theorem not_spec : (([Char.ofNat 99, Char.ofNat 117, Char.ofNat 116] : List Char) == "spec".toList) = false := by rw [t_spec]; kernel_rfl
theorem not_carried : (([Char.ofNat 99, Char.ofNat 117, Char.ofNat 116] : List Char) == "carried".toList) = false := by rw [t_carried]; kernel_rfl
theorem is_cut : (([Char.ofNat 99, Char.ofNat 117, Char.ofNat 116] : List Char) == "cut".toList) = true := by rw [t_cut]; kernel_rfl
theorem not_lift : ∀ o ∈ liftWords, (([Char.ofNat 99, Char.ofNat 117, Char.ofNat 116] : List Char) == o.toList) = false := by
  simp only [liftWords, List.forall_mem_cons, t_finals, t_reflectrows, t_leanrows, t_onebuild, t_publicsums, t_eqguard, t_ownunsafe, t_libbeside, t_ownbeside, t_reflbeside, t_aliases, t_afterinit, t_crcplain, t_roadunsafe, t_fmthandon]
  refine ⟨?_, ?_, ?_, ?_, ?_, ?_, ?_, ?_, ?_, ?_, ?_, ?_, ?_, ?_, ?_, ?_⟩ <;> first | (kernel_rfl; done) | (intro o ho; cases ho)
theorem strip_nothing (w : List Char) (ws : List (List Char)) : ∀ os : List String, (∀ o ∈ os, (w == o.toList) = false) → stripLifts os (w :: ws) = ([], w :: ws)
  | [], _ => rfl
  | o :: os, h => by
    unfold stripLifts
    rw [h o (by simp)]
    exact strip_nothing w ws os (fun o ho => h o (by simp [ho]))
theorem make_of (P : Program) (c : List Char) (r : List (List Char)) (h : behindMainWord (wordsSigns P.initOrder.toList) = c :: r) (h1 : (c == "gc".toList) = false) (h2 : (c == "spec".toList) = false) (h3 : (c == "cut".toList) = true) : P.make = some .cut := by
  unfold Program.make
  rw [h]
  simp only [h1, h2, h3, Bool.or_self, Bool.true_or, Bool.false_eq_true, if_true, if_false]
theorem lifts_of (P : Program) (c : List Char) (r : List (List Char)) (h : behindMainWord (wordsSigns P.initOrder.toList) = c :: r) (h1 : (c == "carried".toList) = false) (h2 : stripLifts liftWords (c :: r) = ([], c :: r)) : P.liftsFinal = false := by
  unfold Program.liftsFinal Program.headLifts
  rw [h, h2]
  have e : (List.head? (c :: r) == some "carried".toList) = false := h1
  simp only [e, Bool.false_and, Bool.false_or, ite_self, List.contains_nil]
theorem enter_of (P : Program) (c : List Char) (r : List (List Char)) (h : behindMainWord (wordsSigns P.initOrder.toList) = c :: r) (h3 : (c == "cut".toList) = true) (h2 : stripLifts liftWords (c :: r) = ([], c :: r))
    (h4 : P.laysLater = false) (h5 : P.bearsReflect = false) (h6 : P.doorFits [] = true) : P.mayEnter = true := by
  unfold Program.mayEnter
  rw [h]
  simp only []
  rw [h2]
  have e : (List.head? (c :: r) == some "cut".toList) = true := h3
  simp only [e, h4, h5, h6, List.contains_nil, Bool.not_false, Bool.and_true, Bool.or_true, Bool.true_and, Bool.false_or]
theorem P_later : Try.prog.laysLater = false := by kernel_rfl
theorem P_reflect : Try.prog.bearsReflect = false := by kernel_rfl
theorem P_door : Try.prog.doorFits [] = true := by kernel_rfl
theorem P_make : Try.prog.make = some .cut := make_of Try.prog _ _ cut_words not_gc not_spec is_cut
theorem P_lifts : Try.prog.liftsFinal = false := lifts_of Try.prog _ _ cut_words not_carried (strip_nothing _ _ _ not_lift)
theorem P_enter : Try.prog.mayEnter = true := enter_of Try.prog _ _ cut_words is_cut (strip_nothing _ _ _ not_lift) P_later P_reflect P_door

theorem P_laid : laidOutB Try.prog = true := by kernel_rfl
theorem P_rowed : mapsRowed Try.prog = true := by kernel_rfl
theorem P_stops : (Try.prog.stops == []) = true := by kernel_rfl
theorem P_knobs : (Try.prog.stopKnobs == []) = true := by kernel_rfl
theorem P_plain : Try.prog.plainKeys = true := by kernel_rfl
theorem P_heard : Try.prog.stopsHeard = true := by kernel_rfl

theorem joined_of (P : Program) (f : FuncId) (fn : Func) (s : ChangeSpec) (c : OpenClaim)
    (k1 : (c.wf (OpenSpec.ofChange s)) = true)
    (k2 : (laidOutB P) = true)
    (k3 : (mapsRowed P) = true)
    (k4 : (fn.params.all (P.readableRec ·)) = true)
    (k5 : (namedTie P c.named s.vars) = true)
    (k6 : (c.stops == []) = true)
    (k7 : (P.stops == []) = true)
    (k8 : (c.knobs == []) = true)
    (k9 : (P.stopKnobs == []) = true)
    (k10 : (c.inPlace == P.inPlace f) = true)
    (k11 : (c.unfollowed == P.unfollowed f) = true)
    (k12 : (c.recurses == P.recurses f) = true)
    (k13 : (c.named == P.varsNamed f) = true)
    (k14 : (c.maps == (fn.params.toList ++ s.plain.varTypes P).any (P.mapsRec ·)) = true)
    (k15 : (c.ifaces == (fn.params.toList ++ s.plain.varTypes P).any (P.ifacesRec ·)) = true)
    (k16 : (c.mapsOut == P.mapsAmong fn.resultTypes.toList) = true)
    (k17 : (c.loops == (fn.params.toList ++ s.plain.varTypes P).any (P.loopsFrom ·)) = true)
    (k18 : (c.wideKeys == (fn.params.toList ++ s.plain.varTypes P ++ fn.resultTypes.toList).any (P.wideKeysFrom ·)) = true)
    (k19 : (s.vars.all (P.varReadable ·)) = true)
    (k20 : (fn.resultTypes.all (fun t => P.readableRec t && decide (t < P.types.size))) = true)
    (k21 : (c.ifacesOut == fn.resultTypes.toList.any (P.ifacesRec ·)) = true)
    (k22 : (c.loopsOut == fn.resultTypes.toList.any (P.loopsFrom ·)) = true)
    (k23 : (c.plainKeys == P.plainKeys) = true)
    (k24 : (c.shortTexts.isNone) = true)
    (k25 : (P.stopsHeard) = true)
    (k26 : (P.mayEnter) = true)
    (k27 : (c.lifted == P.liftsFinal) = true)
    (k28 : (P.make == some c.make) = true)
    (k29 : (c.kinds == (if c.domain.isEmpty then [] else fn.params.toList.map fun t => match P.underlying t with | some (.int k) => some k | _ => none)) = true)
    (k30 : (c.pinned == c.pinnedBy) = true)
    (k31 : (c.veiled == (fn.params.toList ++ s.plain.varTypes P ++ fn.resultTypes.toList).any (P.veiledRec ·)) = true)
    (k32 : (c.veiledFits P fn.params.toList (fn.params.toList ++ s.plain.varTypes P ++ fn.resultTypes.toList)) = true) : joinedFacts P f fn s c = true := by
  unfold joinedFacts
  rw [k1, k2, k3, k4, k5, k6, k7, k8, k9, k10, k11, k12, k13, k14, k15, k16, k17, k18, k19, k20, k21, k22, k23, k24, k25, k26, k27, k28]
  exact Bool.and_eq_true_iff.2 ⟨Bool.and_eq_true_iff.2 ⟨Bool.and_eq_true_iff.2 ⟨Bool.and_eq_true_iff.2 ⟨rfl, k29⟩, k30⟩, k31⟩, k32⟩

/-- The closed facts of a row: those that go by the program alone are laid already. -/
theorem joined_try (f : FuncId) (fn : Func) (s : ChangeSpec) (c : OpenClaim)
    (k1 : c.wf (OpenSpec.ofChange s) = true) (k4 : fn.params.all (Try.prog.readableRec ·) = true) (k5 : namedTie Try.prog c.named s.vars = true) (k6 : (c.stops == []) = true) (k8 : (c.knobs == []) = true)
    (k10 : (c.inPlace == Try.prog.inPlace f) = true) (k11 : (c.unfollowed == Try.prog.unfollowed f) = true) (k12 : (c.recurses == Try.prog.recurses f) = true) (k13 : (c.named == Try.prog.varsNamed f) = true)
    (k14 : (c.maps == (fn.params.toList ++ s.plain.varTypes Try.prog).any (Try.prog.mapsRec ·)) = true) (k15 : (c.ifaces == (fn.params.toList ++ s.plain.varTypes Try.prog).any (Try.prog.ifacesRec ·)) = true) (k16 : (c.mapsOut == Try.prog.mapsAmong fn.resultTypes.toList) = true)
    (k17 : (c.loops == (fn.params.toList ++ s.plain.varTypes Try.prog).any (Try.prog.loopsFrom ·)) = true) (k18 : (c.wideKeys == (fn.params.toList ++ s.plain.varTypes Try.prog ++ fn.resultTypes.toList).any (Try.prog.wideKeysFrom ·)) = true)
    (k19 : s.vars.all (Try.prog.varReadable ·) = true) (k20 : fn.resultTypes.all (fun t => Try.prog.readableRec t && decide (t < Try.prog.types.size)) = true) (k21 : (c.ifacesOut == fn.resultTypes.toList.any (Try.prog.ifacesRec ·)) = true) (k22 : (c.loopsOut == fn.resultTypes.toList.any (Try.prog.loopsFrom ·)) = true)
    (k23 : c.plainKeys = true) (k24 : c.shortTexts.isNone = true) (k27 : c.lifted = false) (k28 : c.make = .cut)
    (k29 : (c.kinds == (if c.domain.isEmpty then [] else fn.params.toList.map fun t => match Try.prog.underlying t with | some (.int k) => some k | _ => none)) = true) (k30 : (c.pinned == c.pinnedBy) = true)
    (k31 : (c.veiled == (fn.params.toList ++ s.plain.varTypes Try.prog ++ fn.resultTypes.toList).any (Try.prog.veiledRec ·)) = true) (k32 : c.veiledFits Try.prog fn.params.toList (fn.params.toList ++ s.plain.varTypes Try.prog ++ fn.resultTypes.toList) = true) :
    joinedFacts Try.prog f fn s c = true :=
  joined_of Try.prog f fn s c k1 P_laid P_rowed k4 k5 k6 P_stops k8 P_knobs k10 k11 k12 k13 k14 k15 k16 k17 k18 k19 k20 k21 k22 (by rw [k23, P_plain]; rfl) k24 P_heard P_enter (by rw [k27, P_lifts]; rfl) (by rw [k28, P_make]; rfl) k29 k30 k31 k32
end Go.Proofs.Ytfbjjblgcgjndaa
