/- sizes -/
import Derived.Test.YtkgeenglafchhaaDoorXM
import Derived.Test.YtkgeenglafchhaaDoorAmV
namespace Go.Proofs.YtkgeenglafchhaaDoor
open Go.RowKit
set_option linter.unusedVariables false
set_option maxRecDepth 100000
set_option maxHeartbeats 2000000
def okDivider_ (x : Divider_) : Prop := osI x.Worm ∧ (osL osI) x.Circles
def okIndex_ (x : Index_) : Prop := osI x.Turns ∧ osI x.Holes ∧ osI x.Circle
end Go.Proofs.YtkgeenglafchhaaDoor
