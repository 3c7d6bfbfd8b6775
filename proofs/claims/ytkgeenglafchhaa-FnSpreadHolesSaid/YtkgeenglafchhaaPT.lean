/- Plain laws, T: texts of marks. No program. -/
import Derived.Test.YtkgeenglafchhaaPA
import Derived.Test.YtkgeenglafchhaaXM
import Derived.Test.YtkgeenglafchhaaXOK
namespace Go.Proofs.Ytkgeenglafchhaa
set_option linter.unusedVariables false
def smS (x : ByteArray) : Prop := x.size ≤ 1048576
def smL {α : Type} (sm : α → Prop) (xs : List α) : Prop := xs.length ≤ 1048576 ∧ ∀ m ∈ xs, sm m
end Go.Proofs.Ytkgeenglafchhaa
