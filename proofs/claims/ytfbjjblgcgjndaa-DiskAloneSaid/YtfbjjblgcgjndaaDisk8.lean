/- Contracts of the disk's Sync and Cut. -/
import Derived.Test.YtfbjjblgcgjndaaSettle
set_option linter.unusedVariables false
set_option linter.unusedSimpArgs false
namespace Go.Proofs.Ytfbjjblgcgjndaa
open Go.RowKit Go.Maps

def Dsk.sync (D : Dsk) : Nat × Dsk := if (D.begin 3).1 ≠ 0 then D.begin 3 else (0, (D.go 3).settle fun _ => true)
set_option maxRecDepth 100000 in
theorem all_any (i : Int) (w : World) : Calls Try.prog 124 #[.int .i64 i] w fun e w' => e = .returned (.bool true) ∧ w' = w := by
  go_enter Try.func124, Try.ntmps124
  go_wp2
  go_ret
  exact ⟨rfl, rfl⟩
theorem all_kept (i : Int) (w : World) : Calls Try.prog 124 (#[.int .i64 i] ++ #[]) w fun e w'' => e = .returned (.bool true) ∧ ∃ k, w'' = w.drewN k := by
  rw [Array.append_empty]
  refine (all_any i w).mono ?_
  rintro e w'' ⟨rfl, rfl⟩
  exact ⟨rfl, 0, rfl⟩
set_option maxRecDepth 100000 in
theorem sync_do (n0 : Nat) (w : World) (p bd : Nat) (D : Dsk) (S : Nat → Prop) (h : DiskAt n0 w p D S) (hb : Box w bd (.pointer (some ⟨p, 0, none⟩)) 74) (hc : D.cache.length ≤ 1000000000000) :
    Calls Try.prog 122 #[.pointer (some ⟨bd, 0, none⟩)] w fun e w' => e = .returned (.int .u16 ((0 : Nat) : Int)) ∧ DiskAt n0 w' p (D.settle fun _ => true) S ∧ Chg S w w' := by
  have c1 := hb.cell
  have hs := Lib.hid (settle_any n0 w p D S 124 #[] (fun _ => true) h hc (fun _ _ => rfl) (fun i w' _ _ => all_kept i w'))
  clear h hb hc
  go_enter Try.func122, Try.ntmps122
  go_wp2_with fail
  refine hs.out.mono ?_
  rintro e w9 ⟨rfl, hd, hch⟩
  have HD := Lib.hid hd
  have HC := Lib.hid hch
  clear hd hch
  go_wp2
  go_ret
  exact ⟨rfl, HD.out, HC.out⟩
set_option maxRecDepth 100000 in
set_option maxHeartbeats 1000000 in
theorem disk_sync (n0 : Nat) (w : World) (p : Nat) (D : Dsk) (S : Nat → Prop) (h : DiskAt n0 w p D S) (hc : D.cache.length ≤ 1000000000000) (hn : D.n 3 ≤ 4611686018427387904)
    (hSp : ∀ g, S g → g < w.heap.size) (hp : S p) :
    Calls Try.prog 50 #[.pointer (some ⟨p, 0, none⟩)] w (DiskGives n0 w p S D.sync.1 D.sync.2) := by
  obtain ⟨w1, hw1⟩ : ∃ w1, w1 = w.alloc (.cells #[.pointer (some ⟨p, 0, none⟩)] 74) := ⟨_, rfl⟩
  have hb1 : Below w.heap.size w w1 := by rw [hw1]; exact below_alloc0 (Below.refl _ _) _
  have B1 : Box w1 w.heap.size (.pointer (some ⟨p, 0, none⟩)) 74 := by unfold Box; rw [hw1]; exact heap_alloc_new w _
  have hd1 := h.below hb1
  obtain ⟨ok, q, M, hin, hft⟩ := hd1
  have hcf : ∀ args w, (callFunc 122 args).run Try.prog w = .ok (.enter 122 args) w := fun args w => rfl
  have c1 := B1.cell
  have hop : Calls Try.prog 119 #[.pointer (some ⟨p, 0, none⟩), .int .i64 3, .func (.func 122) #[] #[.pointer (some ⟨w.heap.size, 0, none⟩)]] w1 (DiskGives n0 w p S D.sync.1 D.sync.2) := by
    have hw01 : Chg S w w1 := .of_below hb1
    by_cases hb : (D.begin 3).1 = 0
    · have hwr : D.sync = (0, (D.go 3).settle fun _ => true) := by unfold Dsk.sync; rw [if_neg (by simpa using hb)]
      rw [hwr]
      have key : Calls Try.prog 119 #[.pointer (some ⟨p, 0, none⟩), .int .i64 3, .func (.func 122) #[] #[.pointer (some ⟨w.heap.size, 0, none⟩)]] w1
          (fun e w'' => ∃ x : Nat, e = .returned (.int .u16 (x : Nat)) ∧ (x = 0 ∧ DiskAt n0 w'' p ((D.go 3).settle fun _ => true) S ∧ Chg S w w'')) := by
        refine op_go3 _ _ _ p D 122 _ (fun x w'' => x = 0 ∧ DiskAt n0 w'' p ((D.go 3).settle fun _ => true) S ∧ Chg S w w'') w1 hin.rcd ok hn hb hcf ?_
        intro w2 hrec hch
        have hin2 := hin.turned hrec hch rfl rfl
        have hpw := hSp p hp
        have b1 := B1.keep hch (fun e => by have := (show w.heap.size = p from e); omega)
        refine (sync_do n0 w2 p _ (D.go 3) S ⟨D.go_ok ok 3, q, M, hin2, hft⟩ b1 hc).mono ?_
        rintro e w3 ⟨rfl, hd3, hc3⟩
        exact ⟨0, rfl, rfl, hd3, (hw01.trans hch (fun g _ e => by rw [show g = p from e]; exact hp)).trans hc3 (fun _ _ h => h)⟩
      refine key.mono ?_
      rintro e w3 ⟨x, rfl, rfl, h2, h3⟩
      exact ⟨rfl, h2.mono (fun _ _ _ h => .inl h), h3⟩
    · have hwr : D.sync = D.begin 3 := by unfold Dsk.sync; rw [if_pos hb]
      rw [hwr]
      refine (op_fails3 _ _ _ p D _ w1 hin.rcd ok hn hb).mono ?_
      rintro e w2 ⟨rfl, hrec, hch⟩
      have hin2 := hin.turned hrec hch (D.begin_last 3).1 (D.begin_last 3).2
      exact ⟨rfl, ⟨D.begin_ok ok 3, q, M, hin2, fun g hg => .inl (hft g hg)⟩, hw01.trans hch (fun g _ e => by rw [show g = p from e]; exact hp)⟩
  have HOP := Lib.hid hop
  clear hop
  go_enter Try.func50, Try.ntmps50
  go_wp2_with fail
  rw [← hw1]
  have HW1 := Lib.hid hw1
  clear hw1
  go_wp2_with fail
  refine HOP.out.mono ?_
  rintro e w9 ⟨rfl, hd9, hc9⟩
  have HD9 := Lib.hid hd9
  have HC9 := Lib.hid hc9
  clear hd9 hc9
  go_wp2
  go_ret
  exact ⟨rfl, HD9.out, HC9.out⟩
end Go.Proofs.Ytfbjjblgcgjndaa
