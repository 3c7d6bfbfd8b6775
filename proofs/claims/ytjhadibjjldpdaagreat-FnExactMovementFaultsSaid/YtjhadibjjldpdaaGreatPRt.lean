/- Plain laws, Rt: arithmetic of ratios. No program. -/
import Derived.Test.YtjhadibjjldpdaaGreatPU
namespace Go.Proofs.YtjhadibjjldpdaaGreat
set_option linter.unusedVariables false
theorem mulS_bd {a b A B : Int} (h1 : -A ≤ a) (h2 : a ≤ A) (h3 : -B ≤ b) (h4 : b ≤ B) : -(A * B) ≤ a * b ∧ a * b ≤ A * B := by
  have h : (a * b).natAbs ≤ (A * B).natAbs := by
    rw [Int.natAbs_mul, Int.natAbs_mul]
    exact Nat.mul_le_mul (by omega) (by omega)
  have hp : 0 ≤ A * B := Int.mul_nonneg (by omega) (by omega)
  generalize a * b = x at *
  generalize A * B = y at *
  omega
theorem mkR_val {n d : Int} (hd : d ≠ 0) (h : (mkR n d).2 = true) : ratB (mkR n d).1 = true ∧ ((mkR n d).1.Num = 0 ↔ n = 0) := by
  unfold mkR at h ⊢
  split at h
  · cases h
  · rename_i hc
    rw [if_neg hc]
    have hg : 0 < Int.gcd n d := gcd_pos hd
    have ea : absI n / (Int.gcd n d : Int) = ((n.natAbs / Int.gcd n d : Nat) : Int) := rfl
    have eb : absI d / (Int.gcd n d : Int) = ((d.natAbs / Int.gcd n d : Nat) : Int) := rfl
    have hco : Nat.Coprime (n.natAbs / Int.gcd n d) (d.natAbs / Int.gcd n d) := Nat.coprime_div_gcd_div_gcd hg
    have hb0 : 0 < d.natAbs / Int.gcd n d := Nat.div_pos (Nat.le_of_dvd (by omega) (Nat.gcd_dvd_right ..)) hg
    have ha0 : n.natAbs / Int.gcd n d = 0 ↔ n = 0 := by
      constructor
      · intro h0
        have := Nat.eq_mul_of_div_eq_right (Nat.gcd_dvd_left n.natAbs d.natAbs) h0
        omega
      · rintro rfl; simp
    rw [ea, eb] at hc ⊢
    generalize n.natAbs / Int.gcd n d = a at *
    generalize d.natAbs / Int.gcd n d = b at *
    refine ⟨ratB_iff.2 ⟨⟨by show 1 ≤ (b : Int); omega, by show (b : Int) ≤ _; omega⟩, ?_, ?_⟩, ?_⟩
    · dsimp only; split <;> omega
    · dsimp only
      unfold Int.gcd
      split
      · rw [Int.natAbs_neg, Int.natAbs_natCast, Int.natAbs_natCast]; exact hco
      · rw [Int.natAbs_natCast, Int.natAbs_natCast]; exact hco
    · dsimp only
      rw [← ha0]
      split <;> omega
theorem mkR_small {n d : Int} (hd : d ≠ 0) (n0 : -1000000000 ≤ n) (n1 : n ≤ 1000000000) (d0 : -1000000000 ≤ d) (d1 : d ≤ 1000000000) : (mkR n d).2 = true := by
  unfold mkR
  have hg := gcd_pos (n := n) hd
  have h1 := (quo_bd (a := absI n) (g := (Int.gcd n d : Int)) (absI_nn n) (by omega)).2
  have h2 := (quo_bd (a := absI d) (g := (Int.gcd n d : Int)) (absI_nn d) (by omega)).2
  have h3 : absI n ≤ 1000000000 := by unfold absI; omega
  have h4 : absI d ≤ 1000000000 := by unfold absI; omega
  rw [if_neg (by omega)]
theorem mkR_self {r : Ratio_} (h : ratB r = true) : mkR r.Num r.Den = (r, true) := by
  obtain ⟨⟨d0, d1⟩, ⟨n0, n1⟩, hg⟩ := ratB_iff.1 h
  obtain ⟨n, d⟩ := r
  unfold mkR
  dsimp only at *
  rw [hg]
  have e1 : absI n / ((1 : Nat) : Int) = absI n := by simp
  have e2 : absI d / ((1 : Nat) : Int) = absI d := by simp
  rw [e1, e2, if_neg (by unfold absI; omega)]
  congr 2
  · unfold absI
    by_cases hn : n < 0
    · rw [decide_eq_true hn, decide_eq_false (show ¬ d < 0 by omega)]; simp; omega
    · rw [decide_eq_false hn, decide_eq_false (show ¬ d < 0 by omega)]; simp; omega
  · unfold absI; omega
/-- the product of two ratios, and whether it is small enough -/
def mulR (a b : Ratio_) : Ratio_ × Bool := mkR (a.Num * b.Num) (a.Den * b.Den)
theorem ratB_d {r : Ratio_} (h : ratB r = true) : 1 ≤ r.Den ∧ r.Den ≤ 1000000000 ∧ -1000000000 ≤ r.Num ∧ r.Num ≤ 1000000000 := by
  obtain ⟨⟨d0, d1⟩, ⟨n0, n1⟩, _⟩ := ratB_iff.1 h; exact ⟨d0, d1, n0, n1⟩
theorem mul_in {a b : Ratio_} (ha : ratB a = true) (hb : ratB b = true) : osI (a.Num * b.Num) ∧ osI (a.Den * b.Den) ∧ a.Den * b.Den ≠ 0 := by
  obtain ⟨d0, d1, n0, n1⟩ := ratB_d ha
  obtain ⟨e0, e1, m0, m1⟩ := ratB_d hb
  have h1 := mulS_bd n0 n1 m0 m1
  have h2 := mulS_bd (a := a.Den) (b := b.Den) (A := 1000000000) (B := 1000000000) (by omega) d1 (by omega) e1
  have h3 : a.Den * b.Den ≠ 0 := Int.mul_ne_zero (by omega) (by omega)
  refine ⟨⟨by omega, by omega⟩, ⟨by omega, by omega⟩, h3⟩
theorem mulR_val {a b : Ratio_} (ha : ratB a = true) (hb : ratB b = true) (h : (mulR a b).2 = true) : ratB (mulR a b).1 = true ∧ ((mulR a b).1.Num = 0 ↔ a.Num * b.Num = 0) := mkR_val (mul_in ha hb).2.2 h
theorem i_MulRatio_eq {a b : Ratio_} (ha : ratB a = true) (hb : ratB b = true) : i_MulRatio_m a b = some (codeR (mulR a b)) := by
  unfold i_MulRatio_m
  obtain ⟨h1, h2, h3⟩ := mul_in ha hb
  simp only [i_ValidRatio_eq, ha, hb, Option.bind_some, Bool.not_true, Bool.false_eq_true, if_false]
  rw [w64_in h1.1 h1.2, w64_in h2.1 h2.2, i_MakeRatio_eq h1 h2, Option.bind_some]
  unfold makeR mulR
  rw [if_neg h3]
theorem s_l02Mul_eq {a b : Ratio_} (ha : ratB a = true) (hb : ratB b = true) : s_l02Mul_m a b = some (mulR a b) := by
  unfold s_l02Mul_m
  obtain ⟨h1, h2, h3⟩ := mul_in ha hb
  rw [w64_in h1.1 h1.2, w64_in h2.1 h2.2, s_l02Make_eq h1 h2 h3, Option.bind_some]; rfl
theorem codeR_2 {x : Ratio_ × Bool} : (codeR x).2 = 0 ↔ x.2 = true := by
  unfold codeR; split <;> simp_all
end Go.Proofs.YtjhadibjjldpdaaGreat
