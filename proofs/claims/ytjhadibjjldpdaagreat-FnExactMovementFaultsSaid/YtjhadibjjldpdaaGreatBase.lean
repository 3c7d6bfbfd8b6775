/- Small lemmas on integers, endings and worlds, without the program. -/
import Derived.WalkKit
import Derived.WalkSpells
import Derived.WalkLawsBesides
import Derived.Lib.Hide
namespace Go.Proofs.YtjhadibjjldpdaaGreat
open Go.RowKit
set_option linter.unusedVariables false
set_option maxRecDepth 100000

theorem ret_int {k : IntKind} {a b : Int} (h : a = b) : Ending.returned (.int k a) = .returned (.int k b) := by rw [h]
theorem ret_bool {a b : Bool} (h : a = b) : Ending.returned (.bool a) = .returned (.bool b) := by rw [h]
theorem wr64 {x : Int} (h0 : -9223372036854775808 ≤ x) (h1 : x ≤ 9223372036854775807) : wrap64 x = x := IntWalk.wrap64_in x ⟨h0, h1⟩
theorem td_nn {x d : Int} (h0 : 0 ≤ x) : x.tdiv d = x / d := Int.tdiv_eq_ediv_of_nonneg h0
theorem tm_nn {x d : Int} (h0 : 0 ≤ x) : x.tmod d = x % d := Int.tmod_eq_emod_of_nonneg h0
theorem mul_bd {a b A B : Int} (a0 : 0 ≤ a) (a1 : a ≤ A) (b0 : 0 ≤ b) (b1 : b ≤ B) : 0 ≤ a * b ∧ a * b ≤ A * B :=
  ⟨Int.mul_nonneg a0 b0, Int.mul_le_mul a1 b1 b0 (Int.le_trans a0 a1)⟩
theorem bcell {W w1 : World} (hb : Below W.heap.size W w1) : (∀ b o, b < W.heap.size → w1.cell? ⟨b, o, none⟩ = W.cell? ⟨b, o, none⟩) ∧ (∀ b o, b < W.heap.size → w1.frozen? ⟨b, o, none⟩ = W.frozen? ⟨b, o, none⟩) :=
  ⟨fun b o h => hb.cell (p := ⟨b, o, none⟩) h, fun b o h => hb.frozen (p := ⟨b, o, none⟩) h⟩

/-- a number lies between two bounds -/
def inB (n l h : Int) : Bool := decide (l ≤ n) && decide (n ≤ h)
theorem inB_t {n l h : Int} (a : l ≤ n) (b : n ≤ h) : inB n l h = true := by simp [inB, a, b]
theorem inB_f {n l h : Int} (a : n < l ∨ h < n) : inB n l h = false := by
  unfold inB; rcases a with a | a
  · rw [decide_eq_false (by omega)]; rfl
  · rw [decide_eq_false (p := n ≤ h) (by omega), Bool.and_false]
theorem inB_iff {n l h : Int} : inB n l h = true ↔ l ≤ n ∧ n ≤ h := by simp [inB]
theorem inB_iff_f {n l h : Int} : inB n l h = false ↔ n < l ∨ h < n := by
  rw [← Bool.not_eq_true, inB_iff]; omega
theorem mod_le {x n : Int} (h0 : 0 ≤ x) (h1 : 0 < n) : x % n ≤ x := by
  have h := Int.mul_ediv_add_emod x n
  have := Int.mul_nonneg (show 0 ≤ n by omega) (Int.ediv_nonneg h0 (show 0 ≤ n by omega))
  omega
end Go.Proofs.YtjhadibjjldpdaaGreat
