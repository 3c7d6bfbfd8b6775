/- Package-level variables that stay: those that the rows lay. -/
import Derived.Test.YtjhadibjjldpdaaGreatBase
import Derived.Lib.ItoaNum
namespace Go.Proofs.YtjhadibjjldpdaaGreat
/-- a variable's block, what is known of it, and that this hangs on the block alone -/
structure GlobT where
  g : Nat
  p : World → Prop
  stay : ∀ w w' : World, w'.heap[g]? = w.heap[g]? → p w → p w'
/-- a table -/
def tabG (g : Nat) (l : List Value) : GlobT := ⟨g, fun w => ∃ t f, w.heap[g]? = some (.cells l.toArray t f), fun w w' h ⟨t, f, e⟩ => ⟨t, f, h.trans e⟩⟩
/-- an error -/
def errG (g : Nat) : GlobT := ⟨g, fun w => ∃ tp p t f, w.heap[g]? = some (.cells #[.iface tp p] t f), fun w w' h ⟨tp, p, t, f, e⟩ => ⟨tp, p, t, f, h.trans e⟩⟩
def globs : List GlobT := []
end Go.Proofs.YtjhadibjjldpdaaGreat
