/- ownBools at a list that is nil. -/
import Derived.Test.YtfbjjblgcgjndaaLib
set_option linter.unusedVariables false
set_option linter.unusedSimpArgs false
namespace Go.Proofs.Ytfbjjblgcgjndaa
open Go.RowKit

theorem Try.info73 : (Try.prog.info? 73).map (fun i => (i.zero, i.size, i.bytes)) = some (some (.slice none 0 0), 1, 24) := by kernel_rfl
set_option maxRecDepth 100000 in
theorem own_nil_112 (w : World) : Calls Try.prog 112 #[.slice none 0 0] w fun e w' => e = .returned (.bool true) ∧ Below w.heap.size w w' := by
  go_enter Try.func112, Try.ntmps112
  go_wp2_with (with_reducible refine wp_make rfl _ _ 60 73 (.slice none 0 0) 1 24 rfl Try.underlying60 Try.info73 w.heap.size .i64 .i64 _ _ 0 rfl rfl rfl rfl (by omega) (by omega) (Nat.le_refl _) ?_; intro w5 ho5 hg5)
  have hb5 := below_of_grown hg5
  go_loopw [4] (fun i wr => i = .int .i64 0 ∧ Below w.heap.size w wr) (fun _ _ => 0)
  case atStart => exact ⟨rfl, hb5⟩
  case round =>
    clear hb5
    obtain ⟨rfl, hb5⟩ := hrel
    go_wp2
    go_ret
    exact ⟨rfl, hb5⟩
end Go.Proofs.Ytfbjjblgcgjndaa
