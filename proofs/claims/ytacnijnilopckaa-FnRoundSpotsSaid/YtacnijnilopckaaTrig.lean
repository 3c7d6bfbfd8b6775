/- Plain laws of the rounded sine. -/
import Derived.Test.YtacnijnilopckaaRound
namespace Go.Proofs.Ytacnijnilopckaa
open Go.RowKit
set_option linter.unusedVariables false

theorem near_scale (n d m : Int) (hm : 0 < m) : near (m * n) (m * d) = near n d := by
  unfold near
  have e1 : 2 * (m * n) + m * d = m * (2 * n + d) := by grind
  have e2 : 2 * (m * d) = m * (2 * d) := by grind
  rw [e1, e2, Int.mul_ediv_mul_of_pos _ _ hm]
theorem near_zero {d : Int} (hd : 1 ≤ d) : near 0 d = 0 := by
  unfold near
  exact Int.ediv_eq_zero_of_lt (by omega) (by omega)
theorem near_bd {n d : Int} (hd : 1 ≤ d) : 2 * n - d ≤ 2 * (d * near n d) ∧ 2 * (d * near n d) ≤ 2 * n + d := by
  unfold near
  have h := Int.mul_ediv_add_emod (2 * n + d) (2 * d)
  have h1 := Int.emod_nonneg (2 * n + d) (show 2 * d ≠ 0 by omega)
  have h2 := Int.emod_lt_of_pos (2 * n + d) (show 0 < 2 * d by omega)
  have e : 2 * d * ((2 * n + d) / (2 * d)) = 2 * (d * ((2 * n + d) / (2 * d))) := Int.mul_assoc ..
  omega
/-- equal fractions of a turn -/
theorem sinB_scale (r k n m : Int) (hm : 0 < m) : sinB r (m * k) (m * n) = sinB r k n := by
  unfold sinB
  have e1 : r * 16 * (2 * (m * k) * (m * n - 2 * (m * k))) = m * m * (r * 16 * (2 * k * (n - 2 * k))) := by grind
  have e2 : 5 * (m * n) * (m * n) - 4 * (2 * (m * k) * (m * n - 2 * (m * k))) = m * m * (5 * n * n - 4 * (2 * k * (n - 2 * k))) := by grind
  rw [e1, e2, near_scale _ _ _ (Int.mul_pos hm hm)]
theorem sinB_flip (r a b n : Int) (h : 2 * (a + b) = n) : sinB r a n = sinB r b n := by
  unfold sinB
  have e : 2 * a * (n - 2 * a) = 2 * b * (n - 2 * b) := by subst h; grind
  rw [e]
theorem sinB_zero (r n : Int) (hn : 1 ≤ n) : sinB r 0 n = 0 := by
  unfold sinB
  have e : 2 * 0 * (n - 2 * 0) = (0 : Int) := by omega
  rw [e]
  have h : 1 ≤ 5 * n * n - 4 * 0 := by
    have : 1 * 1 ≤ n * n := Int.mul_le_mul hn hn (by omega) (by omega)
    grind
  have e2 : r * 16 * 0 = 0 := Int.mul_zero _
  rw [e2]
  exact near_zero h
theorem sinV_scale (r k n m : Int) (hm : 0 < m) : sinV r (m * k) (m * n) = sinV r k n := by
  unfold sinV
  have c : m * n < 2 * (m * k) ↔ n < 2 * k := by
    rw [show 2 * (m * k) = m * (2 * k) by grind]
    exact Int.mul_lt_mul_left hm
  by_cases h : n < 2 * k
  · rw [if_pos h, if_pos (c.2 h), show 2 * (m * k) - m * n = m * (2 * k - n) by grind, show 2 * (m * n) = m * (2 * n) by grind, sinB_scale _ _ _ _ hm]
  · rw [if_neg h, if_neg (fun h' => h (c.1 h')), sinB_scale _ _ _ _ hm]
/-- half a turn on -/
theorem sinV_half (r a m : Int) (hm : 1 ≤ m) (h0 : 0 ≤ a) (h1 : a < 2 * m) : sinV r ((a + m) % (2 * m)) (2 * m) = - sinV r a (2 * m) := by
  by_cases c : a < m
  · rw [Int.emod_eq_of_lt (by omega) (by omega)]
    have ha : sinV r a (2 * m) = sinB r a (2 * m) := if_neg (by omega)
    rw [ha]
    by_cases c0 : a = 0
    · subst c0
      have e : sinV r (0 + m) (2 * m) = sinB r (0 + m) (2 * m) := if_neg (by omega)
      rw [e, Int.zero_add, sinB_flip r m 0 (2 * m) (by omega), sinB_zero _ _ (by omega)]; rfl
    · have e : sinV r (a + m) (2 * m) = - sinB r (2 * (a + m) - 2 * m) (2 * (2 * m)) := if_pos (by omega)
      rw [e, show 2 * (a + m) - 2 * m = 2 * a by omega, sinB_scale _ _ _ 2 (by omega)]
  · have e1 : (a + m) % (2 * m) = a - m := by
      rw [show a + m = (a - m) + 2 * m by omega, Int.add_emod_right, Int.emod_eq_of_lt (by omega) (by omega)]
    rw [e1]
    have e : sinV r (a - m) (2 * m) = sinB r (a - m) (2 * m) := if_neg (by omega)
    rw [e]
    by_cases c0 : a = m
    · subst c0
      have e : sinV r a (2 * a) = sinB r a (2 * a) := if_neg (by omega)
      rw [e, Int.sub_self, sinB_flip r a 0 (2 * a) (by omega), sinB_zero _ _ (by omega)]; rfl
    · have e : sinV r a (2 * m) = - sinB r (2 * a - 2 * m) (2 * (2 * m)) := if_pos (by omega)
      rw [e, show 2 * a - 2 * m = 2 * (a - m) by omega, sinB_scale _ _ _ 2 (by omega)]; omega
/-- the supplement of an angle -/
theorem sinV_supp (r a b m : Int) (hm : 1 ≤ m) (h0 : 0 ≤ a) (h1 : a < 2 * m) (g0 : 0 ≤ b) (g1 : b < 2 * m) (h : a + b = m ∨ a + b = 3 * m) : sinV r a (2 * m) = sinV r b (2 * m) := by
  rcases h with h | h
  · have e : sinV r a (2 * m) = sinB r a (2 * m) := if_neg (by omega)
    have e' : sinV r b (2 * m) = sinB r b (2 * m) := if_neg (by omega)
    rw [e, e']; exact sinB_flip r a b _ (by omega)
  · have e : sinV r a (2 * m) = - sinB r (2 * a - 2 * m) (2 * (2 * m)) := if_pos (by omega)
    have e' : sinV r b (2 * m) = - sinB r (2 * b - 2 * m) (2 * (2 * m)) := if_pos (by omega)
    rw [e, e', sinB_flip r (2 * a - 2 * m) (2 * b - 2 * m) _ (by omega)]
/-- the mirror image -/
theorem sinV_neg (r k n : Int) (hn : 1 ≤ n) (h0 : 0 ≤ k) (h1 : k < n) : sinV r ((n - k) % n) n = - sinV r k n := by
  rw [← sinV_scale r ((n - k) % n) n 4 (by omega), ← sinV_scale r k n 4 (by omega)]
  by_cases c0 : k = 0
  · subst c0
    rw [Int.sub_zero, Int.emod_self]
    have e : sinV r (4 * 0) (4 * n) = sinB r (4 * 0) (4 * n) := if_neg (by omega)
    rw [e, show (4 * 0 : Int) = 0 by omega, sinB_zero _ _ (by omega)]; rfl
  · rw [Int.emod_eq_of_lt (by omega) (by omega)]
    have h := sinV_half r (4 * k) (2 * n) (by omega) (by omega) (by omega)
    rw [show 2 * (2 * n) = 4 * n by omega] at h
    rw [← h]
    have s := sinV_supp r (4 * (n - k)) ((4 * k + 2 * n) % (4 * n)) (2 * n) (by omega) (by omega) (by omega) (Int.emod_nonneg _ (by omega)) (by have := Int.emod_lt_of_pos (4 * k + 2 * n) (show 0 < 4 * n by omega); omega)
    rw [show 2 * (2 * n) = 4 * n by omega] at s
    refine s ?_
    by_cases c : 2 * k < n
    · rw [Int.emod_eq_of_lt (by omega) (by omega)]; omega
    · have e1 : (4 * k + 2 * n) % (4 * n) = 4 * k - 2 * n := by
        rw [show 4 * k + 2 * n = (4 * k - 2 * n) + 4 * n by omega, Int.add_emod_right, Int.emod_eq_of_lt (by omega) (by omega)]
      rw [e1]; omega
end Go.Proofs.Ytacnijnilopckaa
