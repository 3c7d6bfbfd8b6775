/- Plain laws, T: texts of marks. No program. -/
import Derived.Test.YtkgeenglafchhaaDoorPA
import Derived.Test.YtkgeenglafchhaaDoorXM
import Derived.Test.YtkgeenglafchhaaDoorXOK
namespace Go.Proofs.YtkgeenglafchhaaDoor
set_option linter.unusedVariables false
def smS (x : ByteArray) : Prop := x.size ≤ 1048576
def smL {α : Type} (sm : α → Prop) (xs : List α) : Prop := xs.length ≤ 1048576 ∧ ∀ m ∈ xs, sm m
end Go.Proofs.YtkgeenglafchhaaDoor
