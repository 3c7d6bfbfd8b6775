/- Contracts of library functions, laid at this program by the shelf's command. -/
import Derived.Test.YtdchemiillekjaaGreatDoorAmO
import Derived.Test.YtdchemiillekjaaGreatDoorProg
import Derived.Shelf.Strconv.Itoa4
import Derived.Lib.AppendIntMem
import Derived.Test.YtdchemiillekjaaGreatDoorShL
namespace Go.Proofs.YtdchemiillekjaaGreatDoor
open Go.Shelf Go.RowKit
set_option linter.unusedVariables false
set_option maxRecDepth 100000
theorem tabNamed : Tryz.prog.globalNamed "internal/strconv.uint64pow10" = some 1 := by kernel_rfl
theorem tab_here {W : World} {F : Nat → Prop} (gl : Glob F W) : Lib.TabIs Tryz.prog W "internal/strconv.uint64pow10" .u64 Lib.pow10Tab := by
  obtain ⟨-, t, f, e⟩ := gl (tabG 1 (Lib.pow10Tab.map fun z => Value.int .u64 z)) (by simp [globs])
  unfold Lib.TabIs World.var?
  rw [tabNamed]
  simp [e]
theorem sh_fmt {n : Int} (h0 : -9223372036854775808 ≤ n) (h1 : n ≤ 9223372036854775807) : FnC Tryz.prog 66 [] [.d (.v (.int .i64 n)), .d (.v (.int .i64 10))] [] (.d (.v (.string ⟨(Lib.itoa n).toArray⟩))) :=
  fnc_ofG (v := .string ⟨(Lib.itoa n).toArray⟩) (by kernel_rfl) rfl fun W F gl => (Any.strconv_FormatInt_10 Tryz.layLaysMn173 n h0 h1 W (tab_here gl)).mono (by rintro e w' ⟨rfl, k, os, rfl⟩; exact ⟨rfl, Lib.below_grow _ _ (Nat.le_refl _) _ _⟩)
end Go.Proofs.YtdchemiillekjaaGreatDoor
