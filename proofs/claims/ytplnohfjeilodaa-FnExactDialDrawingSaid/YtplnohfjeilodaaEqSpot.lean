/- Contracts of the laws' comparison of spots. -/
import Derived.Test.YtplnohfjeilodaaRound
namespace Go.Proofs.Ytplnohfjeilodaa
open Go.RowKit
set_option linter.unusedVariables false
set_option maxRecDepth 100000
set_option maxHeartbeats 400000 in
theorem eqSpot_t (x y : Int) (w : World) :
    Calls Try.prog 27 #[spotV x y, spotV x y] w fun e w' => e = .returned (.bool true) ∧ Below w.heap.size w w' := by
  go_enter Try.func27, Try.ntmps27
  go_wp2
  go_ret
  exact ⟨rfl, (((Below.refl _ _).alloc (Nat.le_refl _) _).alloc (by simp) _)⟩
end Go.Proofs.Ytplnohfjeilodaa
