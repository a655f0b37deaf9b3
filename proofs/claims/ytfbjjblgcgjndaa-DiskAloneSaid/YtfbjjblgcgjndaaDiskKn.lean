/- The disk's first examples, as plain data. -/
import Derived.Test.YtfbjjblgcgjndaaDiskG
set_option linter.unusedVariables false
set_option linter.unusedSimpArgs false
namespace Go.Proofs.Ytfbjjblgcgjndaa
open Go.RowKit

def kn1 : Dsk := ((Dsk.new 2).write 0 (List.replicate 1024 97)).2
def kn2 : Dsk := (kn1.write 1 (List.replicate 1024 98)).2
def kn3 : Dsk := kn2.cut [true]
def kn4 : Dsk := (kn3.read 0).2.2
def kn5 : Dsk := (kn4.setFail 2 0).2
def kn6 : Dsk := (kn5.write 0 (List.replicate 128 99)).2
def kn7 : Dsk := (kn6.write 0 (List.replicate 128 100)).2
def kn8 : Dsk := (kn7.read 0).2.2
theorem kn_p : kn2.cache.map (·.1) = List.range 16 := by kernel_rfl
theorem kn_f : (kn3.read 0).1 = 0 := by kernel_rfl
theorem kn_x : (kn3.read 0).2.1 = List.replicate 128 97 ++ List.replicate 896 0 := by kernel_rfl
theorem kn_g : (kn5.write 0 (List.replicate 128 99)).1 = 6 := by kernel_rfl
theorem kn_h : (kn6.write 0 (List.replicate 128 100)).1 = 0 := by kernel_rfl
theorem kn_i : (kn7.read 0).1 = 0 := by kernel_rfl
theorem kn_y : (kn7.read 0).2.1 = List.replicate 128 100 ++ List.replicate 896 0 := by kernel_rfl
theorem kn_n : kn8.n 1 = 2 ∧ kn8.n 2 = 4 ∧ kn8.n 3 = 0 := ⟨by kernel_rfl, by kernel_rfl, by kernel_rfl⟩
theorem kn_c : kn1.cache.length = 8 ∧ kn2.cache.length = 16 ∧ kn3.cache.length = 0 ∧ kn5.cache.length = 0 ∧ kn6.cache.length = 0 ∧ kn7.cache.length = 1 := ⟨by kernel_rfl, by kernel_rfl, by kernel_rfl, by kernel_rfl, by kernel_rfl, by kernel_rfl⟩
theorem kn_m : kn1.n 2 = 1 ∧ kn3.n 1 = 0 ∧ kn5.n 2 = 2 ∧ kn6.n 2 = 3 ∧ kn7.n 1 = 1 := ⟨by kernel_rfl, by kernel_rfl, by kernel_rfl, by kernel_rfl, by kernel_rfl⟩
end Go.Proofs.Ytfbjjblgcgjndaa
