/- Bytes made strings; bytes.Equal; slices.Clone of bytes. -/
import Derived.Test.YtfbjjblgcgjndaaBuf
import Derived.Laws.BytesArg
import Derived.Lib.LazyBuf
set_option linter.unusedVariables false
set_option linter.unusedSimpArgs false
namespace Go.Proofs.Ytfbjjblgcgjndaa
open Go.RowKit

def str (l : List Nat) : ByteArray := ⟨(l.map UInt8.ofNat).toArray⟩
theorem str_nums (l : List Nat) : strOfNums (l.map fun (n : Nat) => (n : Int)) = str l := by
  simp [strOfNums, str, Function.comp_def]
theorem str_inj (l m : List Nat) (hl : Bytes l) (hm : Bytes m) (h : str l = str m) : l = m := by
  unfold str at h
  injection h with h
  have h' : l.map UInt8.ofNat = m.map UInt8.ofNat := by simpa using h
  have h2 := congrArg (List.map UInt8.toNat) h'
  rw [List.map_map, List.map_map] at h2
  have e : ∀ x : List Nat, Bytes x → x.map (UInt8.toNat ∘ UInt8.ofNat) = x := by
    intro x hx
    conv => rhs; rw [← List.map_id x]
    apply List.map_congr_left
    intro a ha
    have := hx a ha
    simp [UInt8.toNat_ofNat']
    omega
  rwa [e l hl, e m hm] at h2
theorem str_list (l : List Nat) : (str l).toList = l.map UInt8.ofNat := by rw [ByteArray.toList_eq]; simp [str]
theorem str_beq (l m : List Nat) (hl : Bytes l) (hm : Bytes m) : ((str l).toList == (str m).toList) = decide (l = m) := by
  by_cases h : l = m
  · subst h; simp
  · have : (str l).toList ≠ (str m).toList := fun e => h (str_inj l m hl hm (by
      rw [str_list, str_list] at e
      unfold str; rw [e]))
    rw [decide_eq_false h]
    exact beq_eq_false_iff_ne.2 this
theorem conv_str {P : Program} (w : World) (A : Option Addr) (c : Nat) (l : List Nat) (n : Nat) (hn : n = l.length) (hA : At w A (ns .u8 l)) (hs : P.underlying 23 = some (.slice 5)) (he : P.underlying 5 = some (.int .u8)) (hd : P.underlying 9 = some .string) :
    (convert 23 9 (.slice A n c)).run P w = .ok (.string (str l)) w := by
  subst hn
  cases l with
  | nil =>
    rw [List.length_nil]
    cases A with
    | none => exact run_convert_bytes_nil (P := P) w 23 5 hs he 0 c 9 hd
    | some a =>
      rw [run_convert_bytes_string w 23 9 5 (some a) 0 c hs he hd]
      simp [Conv.bytesToString, loadCells, loadCellsFrom, str]
      rfl
  | cons x l =>
    obtain ⟨b, o, rfl, hr⟩ := hA (by simp [ns])
    have := run_convert_bytes_arg (P := P) w 23 5 hs he b o (x :: l).length c ((x :: l).map fun (n : Nat) => (n : Int)) (by simp) (fun i hi => by
      have h1 := hr i _ (ns_get .u8 (x :: l) i hi)
      rw [h1]
      have h2 := nth_eq (x :: l) i hi
      simp only [List.getD_eq_getElem?_getD, List.getElem?_map, h2, Option.map_some, Option.getD_some]) 9 hd
    rw [this, str_nums]

set_option maxRecDepth 100000 in
theorem equal_any (A B : Option Addr) (c d n k : Nat) (l m : List Nat) (w : World) (hn : n = l.length) (hk : k = m.length) (hA : At w A (ns .u8 l)) (hB : At w B (ns .u8 m)) (hl : Bytes l) (hm : Bytes m) :
    Calls Try.prog 136 #[.slice A n c, .slice B k d] w fun e w' => e = .returned (.bool (decide (l = m))) ∧ w = w' := by
  have h1 := conv_str (P := Try.prog) w A c l n hn hA Try.underlying23 Try.underlying5 Try.underlying9
  have h2 := conv_str (P := Try.prog) w B d m k hk hB Try.underlying23 Try.underlying5 Try.underlying9
  have h3 := str_beq l m hl hm
  have H3 := Lib.hid h3
  clear h3 hA hB hn hk hl hm
  go_enter Try.func136, Try.ntmps136
  go_wp2
  go_ret
  exact ⟨by rw [← H3.out]; rfl, rfl⟩

set_option maxRecDepth 100000 in
theorem clone_any (A : Option Addr) (c n : Nat) (l : List Nat) (w : World) (hn : n = l.length) (hs : l.length ≤ 1000000000) (hA : At w A (ns .u8 l)) (hnil : A = none → c = 0) :
    Calls Try.prog 137 #[.slice A n c] w fun e w' => ∃ v, e = .returned v ∧ Buf w.heap.size w' v l ∧ Below w.heap.size w w' ∧ w.heap.size ≤ w'.heap.size := by
  subst hn
  cases A with
  | none =>
    have hl0 : l = [] := Classical.byContradiction fun h => by
      obtain ⟨b, o, e, _⟩ := hA (by intro he; apply h; have := congrArg List.length he; simpa [ns] using this)
      cases e
    subst hl0
    obtain rfl := hnil rfl
    have hne : ∀ w, (binOp .eql 23 (.slice none 0 0) (.slice none 0 0)).run Try.prog w = .ok (.bool true) w := fun w => by
      have := Lib.run_eql_slice_nil (P := Try.prog) w 23 5 none 0 0 0 0 Try.underlying23
      simpa using this
    rw [List.length_nil]
    go_enter Try.func137, Try.ntmps137
    go_wp2
    go_ret
    exact ⟨_, rfl, Buf.nil _ _, Below.refl _ _, Nat.le_refl _⟩
  | some a =>
    have hne : ∀ w, (binOp .eql 23 (.slice (some a) l.length c) (.slice none 0 0)).run Try.prog w = .ok (.bool false) w := fun w => by
      have := Lib.run_eql_slice_nil (P := Try.prog) w 23 5 (some a) l.length c 0 0 Try.underlying23
      simpa using this
    go_enter Try.func137, Try.ntmps137
    go_wp2_with (at_builtin; go_loud (refine buf_append (w0 := w) rfl (.tmp 5) (.tmp 6) rfl Try.underlying23 Try.info5 w.heap.size (.slice (some ⟨w.heap.size, 0, none⟩) 0 0) [] rfl (Buf.new w [] (Nat.le_refl _) (by simp) _ _ rfl rfl) (some a) l.length c l rfl rfl (hA.below (below_alloc0 (Below.refl _ _) _)) hnil (by simp; omega) (by simp) (below_alloc0 (Below.refl _ _) _) ?_); intro v1 w1 hv1 hb1 hs1)
    go_ret
    exact ⟨_, rfl, hv1, hb1, hs1⟩
end Go.Proofs.Ytfbjjblgcgjndaa
