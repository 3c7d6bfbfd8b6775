/- Contracts of the laws' comparison of spots. -/
import Derived.Test.YtacnijnilopckaaRound
namespace Go.Proofs.Ytacnijnilopckaa
open Go.RowKit
set_option linter.unusedVariables false
set_option maxHeartbeats 400000 in
theorem eqSpot_t (x y : Int) (w : World) :
    Calls Try.prog 20 #[spotV x y, spotV x y] w fun e w' => e = .returned (.bool true) ∧ Below w.heap.size w w' := by
  go_enter Try.func20, Try.ntmps20
  go_wp2
  go_ret
  exact ⟨rfl, (((Below.refl _ _).alloc (Nat.le_refl _) _).alloc (by simp) _)⟩
end Go.Proofs.Ytacnijnilopckaa
