/- Contract of the disk's Image. -/
import Derived.Test.YtfbjjblgcgjndaaDiskLook
import Derived.Test.YtfbjjblgcgjndaaDisk10
set_option linter.unusedVariables false
set_option linter.unusedSimpArgs false
namespace Go.Proofs.Ytfbjjblgcgjndaa
open Go.RowKit Go.Maps

/-- the sectors so far -/
theorem flat_snoc (l : List (List Nat)) (j : Nat) (h : j < l.length) : (l.take (j + 1)).flatten = (l.take j).flatten ++ l.getD j [] := by
  rw [take_snoc l j l[j] (List.getElem?_eq_getElem h), List.flatten_append]
  simp [List.getD_eq_getElem?_getD, List.getElem?_eq_getElem h]
theorem flat_take {l : List (List Nat)} (h : ∀ s ∈ l, s.length = 128) (j : Nat) (hj : j ≤ l.length) : (l.take j).flatten.length = 128 * j := by
  induction j with
  | zero => simp
  | succ j ih =>
    rw [flat_snoc l j hj, List.length_append, ih (by omega)]
    have : (l.getD j []).length = 128 := by
      rw [List.getD_eq_getElem?_getD, List.getElem?_eq_getElem hj]; exact h _ (List.getElem_mem _)
    omega
set_option maxRecDepth 100000 in
set_option maxHeartbeats 1000000 in
theorem image_any (n0 : Nat) (w : World) (p : Nat) (D : Dsk) (S : Nat → Prop) (h : DiskAt n0 w p D S) :
    Calls Try.prog 57 #[.pointer (some ⟨p, 0, none⟩)] w (GivesFill D.last.flatten w) := by
  obtain ⟨ok, q, M, hin, hft⟩ := h
  have hlen : D.last.length ≤ 131072 := by obtain ⟨k, a, b, c⟩ := ok.pages; omega
  have h128 : ∀ s ∈ D.last, s.length = 128 := fun s hs => (ok.last s hs).1
  have c0 : w.cell? ⟨p, 0, none⟩ = some (.slice (some ⟨q.b, 0, none⟩) D.last.length D.last.length) := hin.rcd.cell 0 (by omega)
  have hwr : IntKind.i64.wrap ((D.last.length : Int) * 128) = ((D.last.length * 128 : Nat) : Int) := by rw [IntKind.wrap_i64]; omega
  have hlp := hin.rcd.lt
  have HL := Lib.hid hlen
  have HIN := Lib.hid hin
  have HFT := Lib.hid hft
  have H128 := Lib.hid h128
  have HC0 := Lib.hid c0
  clear hin hft ok h128
  go_enter Try.func57, Try.ntmps57
  go_wp2_with (with_reducible refine wp_make0 rfl _ _ 23 5 (.int .u8 0) 1 1 rfl Try.underlying23 Try.info5 w.heap.size .i64 .i64 _ (D.last.length * 128) rfl rfl (by push_cast; rfl) (by omega) (by omega) (Nat.le_refl _) ?_; intro w1 ho1 hg1; have c0 : w1.cell? ⟨p, 0, none⟩ = some (.slice (some ⟨q.b, 0, none⟩) D.last.length D.last.length) := ((below_of_grown hg1).cell (p := ⟨p, 0, none⟩) hlp).trans HC0.out)
  have hB0 : Buf w.heap.size w1 (.slice (some ⟨w.heap.size, 0, none⟩) 0 (D.last.length * 128)) [] := ho1
  have hb1 : Below w.heap.size w w1 := below_of_grown hg1
  have HB0 := Lib.hid hB0
  have HB1 := Lib.hid hb1
  clear hB0 hb1 ho1 hg1 hwr c0
  go_loopw [3, 17] (fun v i wr => ∃ j : Nat, j ≤ D.last.length ∧ i = .int .i64 j ∧ Buf w.heap.size wr v (D.last.take j).flatten ∧ Below w.heap.size w wr) (fun _ i _ => D.last.length - (intOf i).toNat)
  case atStart => exact ⟨0, by omega, rfl, HB0.out, HB1.out⟩
  case round =>
    obtain ⟨j, hj, rfl, hv, hb⟩ := hrel
    obtain ⟨A0, c0, rfl⟩ := own_slice hv
    have hfl := flat_take H128.out j hj
    rw [hfl] at hv ⊢
    by_cases hlt : j < D.last.length
    · have c1 : wr.cell? ⟨p, 0, none⟩ = some (.slice (some ⟨q.b, 0, none⟩) D.last.length D.last.length) := (hb.cell (p := ⟨p, 0, none⟩) hlp).trans HC0.out
      have hin := HIN.out.keep (G := fun _ => False) (.of_below hb) (fun _ _ h => h)
      have hrg : At wr (some ⟨q.b, j * 128, none⟩) (ns .u8 (D.last.getD j [])) := fun _ => ⟨_, _, rfl, hin.last.at j hlt⟩
      have h128 : (D.last.getD j []).length = 128 := by rw [List.getD_eq_getElem?_getD, List.getElem?_eq_getElem hlt]; exact H128.out _ (List.getElem_mem _)
      have a1 : (j : Int) < (D.last.length : Int) := by omega
      have HV := Lib.hid hv
      have HB := Lib.hid hb
      have HRG := Lib.hid hrg
      have HJ := Lib.hid h128
      have HFL := Lib.hid hfl
      have HIN2 := Lib.hid hin
      have hbd : (D.last.take j).flatten.length + (D.last.getD j []).length ≤ 140737488355328 := by have := HL.out; omega
      have HBD := Lib.hid hbd
      have hbs := Lib.hid hb.size
      clear hv hb hrg h128 hfl hin hbd
      go_wp2_with (at_builtin; go_loud (refine buf_append rfl (.tmp 20) (.tmp 27) rfl Try.underlying23 Try.info5 w.heap.size (.slice A0 (128 * j) c0) (D.last.take j).flatten rfl HV.out (some ⟨q.b, j * 128, none⟩) 128 128 (D.last.getD j []) rfl HJ.out.symm HRG.out (by simp) HBD.out hbs.out HB.out ?_); intro v1 w1 hv1 hb1 hn1)
      have HV1 := Lib.hid hv1
      clear hv1
      go_wp2
      case roundEnd =>
        have t1 := HL.out
        refine ⟨⟨j + 1, by omega, by push_cast; rfl, ?_, hb1⟩, by simp only [intOf]; omega⟩
        rw [flat_snoc _ _ hlt]; exact HV1.out
    · obtain rfl : j = D.last.length := by omega
      rw [List.take_length] at hv hfl
      have HV := Lib.hid hv
      have HFL := Lib.hid hfl
      clear hv hfl
      go_wp2
      go_ret
      refine ⟨A0, c0, ?_, ?_, hb⟩
      · rw [HFL.out]; rfl
      · rw [HFL.out]; exact HV.out
end Go.Proofs.Ytfbjjblgcgjndaa
