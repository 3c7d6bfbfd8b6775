/- What the rows lay, and a world in which it lies so. -/
import Derived.Test.YtdchemiillekjaaGreatDoorOpen
import Derived.Test.YtdchemiillekjaaGreatDoorAmA
import Derived.Test.YtdchemiillekjaaGreatDoorTie
import Derived.Lib.LaidTab
import Derived.Stop.LaidErr
import Derived.SevenTiedAt
namespace Go.Proofs.YtdchemiillekjaaGreatDoor
open Go.ChangeShapes Go.WideShapes Go.ChangeAt Go.RowKit
set_option linter.unusedVariables false
set_option maxRecDepth 100000
theorem var_block {W : World} {n : String} {g : Nat} {cs : Array Value} (hg : Tryz.prog.globalNamed n = some g) (h : W.var? Tryz.prog n = some cs) : ∃ t f, W.heap[g]? = some (.cells cs t f) ∧ g < W.heap.size := by
  unfold World.var? at h
  rw [hg] at h
  simp only [Option.bind_some] at h
  split at h
  · rename_i cs' t f hh
    cases h
    exact ⟨t, f, hh, (Array.getElem?_eq_some_iff.1 hh).1⟩
  · cases h
def litV : DataW Unit → Value
  | .lit (.int k z) => .int k z
  | _ => .bool false
def valsOf : DataW Unit → Array Value
  | .agg l => (l.map litV).toArray
  | _ => #[]
def putV (cs : Array Value) : Obj → Obj
  | .cells _ t f => .cells cs t f
  | o => o
theorem pow_tab : (Rows.laid_internal_strconv_uint64pow10 : DataW Unit) = Lib.tabData .u64 Lib.pow10Tab := by kernel_rfl
def laidList : List (String × DataW Unit) := [("math/bits.deBruijn32tab", Rows.laid_math_bits_deBruijn32tab), ("math/bits.deBruijn64tab", Rows.laid_math_bits_deBruijn64tab), ("internal/strconv.uint64pow10", Rows.laid_internal_strconv_uint64pow10)]
theorem tab_named : Tryz.prog.globalNamed "internal/strconv.uint64pow10" = some 1 := by kernel_rfl
theorem glob_tab {W : World} {rest : List (String × DataW Unit)} (h : laidMet Tryz.prog (("internal/strconv.uint64pow10", Rows.laid_internal_strconv_uint64pow10) :: rest) W) :
    (fun b => b < W.heap.size) 1 ∧ (tabG 1 (Lib.pow10Tab.map fun z => Value.int .u64 z)).p W := by
  rw [pow_tab] at h
  have := Lib.tabIs_of_head (t := 190) (e := 172) (n := 20) tab_named (by kernel_rfl) Tryz.underlying190 Tryz.underlying172 (by kernel_rfl) (by kernel_rfl) h
  obtain ⟨t, f, h1, h2⟩ := var_block tab_named this
  exact ⟨h2, t, f, h1⟩
theorem glob_of_laid {W : World} (h : laidMet Tryz.prog laidList W) : Glob (fun b => b < W.heap.size) W := by
  intro x hx
  simp only [globs, List.mem_cons, List.not_mem_nil, or_false] at hx
  subst hx
  exact glob_tab h.tail.tail
noncomputable def laidWorld (os : Os) : World :=
  let w0 := World.holding Tryz.prog os ⟨#[], #[], []⟩
  { w0 with heap := ((w0.heap.modify 2 (putV (valsOf Rows.laid_math_bits_deBruijn32tab))).modify 3 (putV (valsOf Rows.laid_math_bits_deBruijn64tab))).modify 1 (putV (valsOf Rows.laid_internal_strconv_uint64pow10)) }
theorem laidWorld_met (os : Os) (args : Array Value) : laidMet Tryz.prog laidList ((laidWorld os).forCall (fun _ _ => 0) ⟨#[], args, []⟩).memory :=
  laidMet_of_run' 8 (by kernel_rfl) (by kernel_rfl)
end Go.Proofs.YtdchemiillekjaaGreatDoor
