/- Contracts of functions that only compute with integers. -/
import Derived.Test.YtplnohfjeilodaaRows
import Derived.Test.YtplnohfjeilodaaBase
namespace Go.Proofs.Ytplnohfjeilodaa
open Go.RowKit
set_option linter.unusedVariables false
set_option maxRecDepth 100000

set_option maxHeartbeats 400000 in
theorem within_t (n l h : Int) (w : World) (a : l ≤ n) (b : n ≤ h) :
    Calls Try.prog 55 #[.int .i64 n, .int .i64 l, .int .i64 h] w fun e w' => e = .returned (.bool true) ∧ w = w' := by
  go_enter Try.func55, Try.ntmps55
  go_wp2
  go_ret
  exact ⟨rfl, rfl⟩
set_option maxHeartbeats 400000 in
theorem within_f (n l h : Int) (w : World) (a : n < l ∨ h < n) :
    Calls Try.prog 55 #[.int .i64 n, .int .i64 l, .int .i64 h] w fun e w' => e = .returned (.bool false) ∧ w = w' := by
  by_cases c : l ≤ n
  · have c2 : ¬ n ≤ h := by omega
    clear a
    go_enter Try.func55, Try.ntmps55
    go_wp2
    go_ret
    exact ⟨rfl, rfl⟩
  · clear a
    go_enter Try.func55, Try.ntmps55
    go_wp2
    go_ret
    exact ⟨rfl, rfl⟩
theorem within_c (n l h : Int) (w : World) :
    Calls Try.prog 55 #[.int .i64 n, .int .i64 l, .int .i64 h] w fun e w' => e = .returned (.bool (inB n l h)) ∧ w = w' := by
  by_cases c : l ≤ n ∧ n ≤ h
  · rw [inB_t c.1 c.2]; exact within_t n l h w c.1 c.2
  · have c' : n < l ∨ h < n := by omega
    rw [inB_f c']; exact within_f n l h w c'

set_option maxHeartbeats 400000 in
theorem l00In_t (n l h : Int) (w : World) (a : l ≤ n) (b : n ≤ h) :
    Calls Try.prog 53 #[.int .i64 n, .int .i64 l, .int .i64 h] w fun e w' => e = .returned (.bool true) ∧ w = w' := by
  go_enter Try.func53, Try.ntmps53
  go_wp2
  go_ret
  exact ⟨rfl, rfl⟩
set_option maxHeartbeats 400000 in
theorem l00In_f (n l h : Int) (w : World) (a : n < l ∨ h < n) :
    Calls Try.prog 53 #[.int .i64 n, .int .i64 l, .int .i64 h] w fun e w' => e = .returned (.bool false) ∧ w = w' := by
  by_cases c : l ≤ n
  · have c2 : ¬ n ≤ h := by omega
    clear a
    go_enter Try.func53, Try.ntmps53
    go_wp2
    go_ret
    exact ⟨rfl, rfl⟩
  · clear a
    go_enter Try.func53, Try.ntmps53
    go_wp2
    go_ret
    exact ⟨rfl, rfl⟩
theorem l00In_c (n l h : Int) (w : World) :
    Calls Try.prog 53 #[.int .i64 n, .int .i64 l, .int .i64 h] w fun e w' => e = .returned (.bool (inB n l h)) ∧ w = w' := by
  by_cases c : l ≤ n ∧ n ≤ h
  · rw [inB_t c.1 c.2]; exact l00In_t n l h w c.1 c.2
  · have c' : n < l ∨ h < n := by omega
    rw [inB_f c']; exact l00In_f n l h w c'

def blows (n : Int) : Int := n / 12 * 78 + n % 12 * (n % 12 + 1) / 2
theorem blows_eq (n : Int) (h0 : 0 ≤ n) (h1 : n ≤ 100000000000) : wrap64 (n / 12 * 78 + wrap64 ((wrap64 (n % 12 * (n % 12 + 1))).tdiv 2)) = blows n := by
  have hb := mul_bd (a := n % 12) (b := n % 12 + 1) (A := 11) (B := 12) (by omega) (by omega) (by omega) (by omega)
  unfold blows
  generalize n % 12 * (n % 12 + 1) = p at *
  rw [wr64 (x := p) (by omega) (by omega), td_nn (by omega), wr64 (x := p / 2) (by omega) (by omega), wr64 (by omega) (by omega)]
theorem blows_bd (n : Int) (h0 : 0 ≤ n) (h1 : n ≤ 100000000000) : 0 ≤ blows n ∧ blows n ≤ n / 12 * 78 + 66 := by
  have hb := mul_bd (a := n % 12) (b := n % 12 + 1) (A := 11) (B := 12) (by omega) (by omega) (by omega) (by omega)
  unfold blows
  generalize n % 12 * (n % 12 + 1) = p at *
  omega
end Go.Proofs.Ytplnohfjeilodaa
