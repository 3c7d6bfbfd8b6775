/- Plain laws, R: quotients, sines, spots on a circle, as models. No program. -/
import Derived.Test.YtjhadibjjldpdaaGreatPA
import Derived.Test.YtjhadibjjldpdaaGreatXM
namespace Go.Proofs.YtjhadibjjldpdaaGreat
set_option linter.unusedVariables false
def btw (x a b : Int) : Bool := decide (a ≤ x ∧ x ≤ b)
theorem i_within_eq (x a b : Int) : i_within_m x a b = some (btw x a b) := by unfold i_within_m btw; split <;> simp_all <;> omega
theorem s_l00In_eq (x a b : Int) : s_l00In_m x a b = some (btw x a b) := by unfold s_l00In_m btw; split <;> simp_all <;> omega
theorem td_neg {n d : Int} (hd : 1 ≤ d) (h : n.tmod d < 0) : n.tdiv d - 1 = n / d := by
  have h1 := Int.mul_tdiv_add_tmod n d
  have h2 : -d < n.tmod d := by
    have := Int.lt_tmod_of_pos n (show 0 < d by omega); omega
  have e : n = d * (n.tdiv d - 1) + (n.tmod d + d) := by rw [Int.mul_sub]; omega
  have := Int.ediv_emod_unique (a := n) (b := d) (r := n.tmod d + d) (q := n.tdiv d - 1) (by omega)
  exact (this.2 ⟨by omega, by omega, by omega⟩).1.symm
theorem td_pos {n d : Int} (hd : 1 ≤ d) (h : ¬ n.tmod d < 0) : n.tdiv d = n / d := by
  have h1 := Int.mul_tdiv_add_tmod n d
  have h2 : n.tmod d < d := Int.tmod_lt_of_pos n (by omega)
  have := Int.ediv_emod_unique (a := n) (b := d) (r := n.tmod d) (q := n.tdiv d) (by omega)
  exact (this.2 ⟨by omega, by omega, by omega⟩).1.symm
theorem ediv_bd {n d : Int} (hd : 1 ≤ d) {L : Int} (hL : 0 ≤ L) (h0 : -L ≤ n) (h1 : n ≤ L) : -L ≤ n / d ∧ n / d ≤ L := by
  constructor
  · rw [Int.le_ediv_iff_mul_le (by omega)]
    have : L * 1 ≤ L * d := Int.mul_le_mul_of_nonneg_left hd hL
    rw [Int.neg_mul]; omega
  · refine Int.le_trans (Int.ediv_le_ediv (by omega) h1) ?_
    exact Int.ediv_le_self _ hL
theorem tdiv_bd {n d : Int} (hd : 1 ≤ d) {L : Int} (hL : 0 ≤ L) (h0 : -L ≤ n) (h1 : n ≤ L) : -L ≤ n.tdiv d ∧ n.tdiv d ≤ L := by
  rcases Int.le_total 0 n with h | h
  · rw [td_nn h]; exact ediv_bd hd hL h0 h1
  · have := ediv_bd (n := -n) hd hL (by omega) (by omega)
    have e : n.tdiv d = -((-n) / d) := by rw [← td_nn (by omega), Int.neg_tdiv, Int.neg_neg]
    rw [e]; omega

/-- the integer nearest to n / d, halves up -/
def near (n d : Int) : Int := (2 * n + d) / (2 * d)
theorem near_up {n d : Int} (hd : 1 ≤ d) (h : d - (n - n / d * d) ≤ n - n / d * d) : n / d + 1 = near n d := by
  have h1 := Int.mul_ediv_add_emod n d
  have h2 := Int.emod_lt_of_pos n (show 0 < d by omega)
  have h3 := Int.emod_nonneg n (show d ≠ 0 by omega)
  have hc := Int.mul_comm (n / d) d
  unfold near
  have := Int.ediv_emod_unique (a := 2 * n + d) (b := 2 * d) (r := 2 * (n % d) - d) (q := n / d + 1) (by omega)
  refine (this.2 ⟨?_, by omega, by omega⟩).1.symm
  rw [Int.mul_add, Int.mul_assoc]; omega
theorem near_down {n d : Int} (hd : 1 ≤ d) (h : ¬ d - (n - n / d * d) ≤ n - n / d * d) : n / d = near n d := by
  have h1 := Int.mul_ediv_add_emod n d
  have h2 := Int.emod_lt_of_pos n (show 0 < d by omega)
  have h3 := Int.emod_nonneg n (show d ≠ 0 by omega)
  have hc := Int.mul_comm (n / d) d
  unfold near
  have := Int.ediv_emod_unique (a := 2 * n + d) (b := 2 * d) (r := 2 * (n % d) + d) (q := n / d) (by omega)
  refine (this.2 ⟨?_, by omega, by omega⟩).1.symm
  rw [Int.mul_assoc]; omega
set_option maxHeartbeats 400000 in
def sinB (r k n : Int) : Int := near (r * 16 * (2 * k * (n - 2 * k))) (5 * n * n - 4 * (2 * k * (n - 2 * k)))
def sinV (r k n : Int) : Int := if n < 2 * k then - sinB r (2 * k - n) (2 * n) else sinB r k n
structure SinOk (r k n : Int) : Prop where
  p0 : 0 ≤ 2 * k * (n - 2 * k)
  p1 : 2 * k * (n - 2 * k) ≤ 64000000
  r0 : 0 ≤ r * 16 * (2 * k * (n - 2 * k))
  r1 : r * 16 * (2 * k * (n - 2 * k)) ≤ 102400000000000
  n0 : 1 ≤ 5 * n * n - 4 * (2 * k * (n - 2 * k))
  n1 : 5 * n * n ≤ 1280000000
theorem sin_ok {r k n : Int} (r0 : 0 ≤ r) (r1 : r ≤ 100000) (n0 : 1 ≤ n) (n1 : n ≤ 16000) (k0 : 0 ≤ k) (k1 : 2 * k ≤ n) : SinOk r k n := by
  have hp : 0 ≤ 2 * k * (n - 2 * k) := Int.mul_nonneg (by omega) (by omega)
  have hn : n * n ≤ 16000 * 16000 := Int.mul_le_mul n1 n1 (by omega) (by omega)
  have hn1 : 1 * 1 ≤ n * n := Int.mul_le_mul n0 n0 (by omega) (by omega)
  -- 4 p = n^2 - (n - 4k)^2
  have hsq : 0 ≤ (n - 4 * k) * (n - 4 * k) := by
    rcases Int.le_total 0 (n - 4 * k) with h | h
    · exact Int.mul_nonneg h h
    · exact Int.mul_nonneg_of_nonpos_of_nonpos h h
  have he : 4 * (2 * k * (n - 2 * k)) = n * n - (n - 4 * k) * (n - 4 * k) := by
    have e1 : (n - 4 * k) * (n - 4 * k) = n * n - 8 * (k * n) + 16 * (k * k) := by
      rw [Int.sub_mul, Int.mul_sub, Int.mul_sub]
      have a1 : 4 * k * n = 4 * (k * n) := Int.mul_assoc ..
      have a2 : n * (4 * k) = 4 * (k * n) := by rw [Int.mul_left_comm, Int.mul_comm n k]
      have a3 : 4 * k * (4 * k) = 16 * (k * k) := by rw [Int.mul_assoc, Int.mul_left_comm k 4 k]; omega
      omega
    have e2 : 2 * k * (n - 2 * k) = 2 * (k * n) - 4 * (k * k) := by
      rw [Int.mul_sub]
      have a1 : 2 * k * n = 2 * (k * n) := Int.mul_assoc ..
      have a3 : 2 * k * (2 * k) = 4 * (k * k) := by rw [Int.mul_assoc, Int.mul_left_comm k 2 k]; omega
      omega
    omega
  have hp1 : 2 * k * (n - 2 * k) ≤ 64000000 := by omega
  have hm := mul_bd (a := r * 16) (b := 2 * k * (n - 2 * k)) (A := 1600000) (B := 64000000) (by omega) (by omega) hp hp1
  have h5 : 5 * n * n = 5 * (n * n) := Int.mul_assoc ..
  exact ⟨hp, hp1, hm.1, by omega, by omega, by omega⟩
end Go.Proofs.YtjhadibjjldpdaaGreat
