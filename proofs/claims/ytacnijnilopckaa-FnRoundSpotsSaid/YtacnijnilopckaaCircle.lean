/- Plain law: the spots of a circle lie near it. -/
import Derived.Test.YtacnijnilopckaaTrig
namespace Go.Proofs.Ytacnijnilopckaa
open Go.RowKit
set_option linter.unusedVariables false

theorem mul_between {x A y : Int} (h0 : -A ≤ x) (h1 : x ≤ A) (hy : 0 ≤ y) : -(A * y) ≤ x * y ∧ x * y ≤ A * y := by
  have a := Int.mul_le_mul_of_nonneg_right h0 hy
  have b := Int.mul_le_mul_of_nonneg_right h1 hy
  rw [Int.neg_mul] at a
  exact ⟨a, b⟩
theorem e_bound (q v : Int) (h0 : 0 ≤ v) (h1 : 4 * v ≤ q) :
    -((20 * (q * q) - 8 * (v * q) + v * v) * (20 * (q * q) - 8 * (v * q) + v * v)) ≤ 100 * ((v * v) * (24 * (q * q) - 176 * (v * q) + 31 * (v * v))) ∧
    100 * ((v * v) * (24 * (q * q) - 176 * (v * q) + 31 * (v * v))) ≤ (20 * (q * q) - 8 * (v * q) + v * v) * (20 * (q * q) - 8 * (v * q) + v * v) := by
  have a1 : 0 ≤ v * v := Int.mul_nonneg h0 h0
  have a2 : v * v ≤ v * q := Int.mul_le_mul_of_nonneg_left (by omega) h0
  have a3 : 4 * v * q ≤ q * q := Int.mul_le_mul_of_nonneg_right h1 (by omega)
  rw [Int.mul_assoc] at a3
  have a4 : 0 ≤ q * q := Int.mul_nonneg (by omega) (by omega)
  have a5 : 4 * v * (4 * v) ≤ q * q := Int.mul_le_mul h1 h1 (by omega) (by omega)
  have a6 : 4 * v * (4 * v) = 16 * (v * v) := by grind
  rw [a6] at a5
  generalize hvv : v * v = vv at *
  generalize hvq : v * q = vq at *
  generalize hqq : q * q = qq at *
  have b1 : 18 * qq ≤ 20 * qq - 8 * vq + vv := by omega
  have b2 : (18 * qq) * (18 * qq) ≤ (20 * qq - 8 * vq + vv) * (20 * qq - 8 * vq + vv) := Int.mul_le_mul b1 b1 (by omega) (by omega)
  have b3 := mul_between (x := 24 * qq - 176 * vq + 31 * vv) (A := 24 * qq) (y := vv) (by omega) (by omega) a1
  rw [Int.mul_comm (24 * qq - 176 * vq + 31 * vv) vv] at b3
  have b4 : 16 * vv ≤ qq := by omega
  have b5 : 16 * (qq * vv) ≤ qq * qq := by
    have := Int.mul_le_mul_of_nonneg_left b4 a4
    have e : qq * (16 * vv) = 16 * (qq * vv) := by grind
    omega
  have e1 : 24 * qq * vv = 24 * (qq * vv) := Int.mul_assoc ..
  have e2 : 18 * qq * (18 * qq) = 324 * (qq * qq) := by grind
  have b6 : 0 ≤ qq * qq := Int.mul_nonneg a4 a4
  omega

/-- the first quarter of the circle -/
theorem quarter (r a n X Y : Int) (hr : 0 ≤ r) (hn : 1 ≤ n) (ha : 0 ≤ a) (han : a < n) (hX : X = sinB r a (4 * n)) (hY : Y = sinB r (a + n) (4 * n)) :
    -(r * r + 200 * r + 100) ≤ 100 * (X * X + Y * Y - r * r) ∧ 100 * (X * X + Y * Y - r * r) ≤ r * r + 200 * r + 100 := by
  obtain ⟨A1, hA1⟩ : ∃ A1, A1 = 4 * a * (2 * n - a) := ⟨_, rfl⟩
  obtain ⟨D1, hD1⟩ : ∃ D1, D1 = 5 * (n * n) - 2 * (n * a) + a * a := ⟨_, rfl⟩
  obtain ⟨A2, hA2⟩ : ∃ A2, A2 = 4 * (n * n - a * a) := ⟨_, rfl⟩
  obtain ⟨D2, hD2⟩ : ∃ D2, D2 = 4 * (n * n) + a * a := ⟨_, rfl⟩
  have x1 : X = near (r * A1) D1 := by
    rw [hX, ← near_scale (r * A1) D1 16 (by omega)]
    unfold sinB
    rw [show r * 16 * (2 * a * (4 * n - 2 * a)) = 16 * (r * A1) by subst hA1; grind, show 5 * (4 * n) * (4 * n) - 4 * (2 * a * (4 * n - 2 * a)) = 16 * D1 by subst hD1; grind]
  have y1 : Y = near (r * A2) D2 := by
    rw [hY, ← near_scale (r * A2) D2 16 (by omega)]
    unfold sinB
    rw [show r * 16 * (2 * (a + n) * (4 * n - 2 * (a + n))) = 16 * (r * A2) by subst hA2; grind, show 5 * (4 * n) * (4 * n) - 4 * (2 * (a + n) * (4 * n - 2 * (a + n))) = 16 * D2 by subst hD2; grind]
  have nn : 1 * 1 ≤ n * n := Int.mul_le_mul hn hn (by omega) (by omega)
  have aa : 0 ≤ a * a := Int.mul_nonneg ha ha
  have na : 0 ≤ n * a := Int.mul_nonneg (by omega) ha
  have na2 : n * a ≤ n * n := Int.mul_le_mul_of_nonneg_left (by omega) (by omega)
  have aa2 : a * a ≤ n * a := Int.mul_le_mul_of_nonneg_right (by omega) ha
  have d1 : 1 ≤ D1 := by omega
  have d2 : 1 ≤ D2 := by omega
  have A10 : 0 ≤ A1 := by rw [hA1]; exact Int.mul_nonneg (by omega) (by omega)
  have A20 : 0 ≤ A2 := by omega
  have sq : 0 ≤ (n - a) * (n - a) := Int.mul_nonneg (by omega) (by omega)
  have AD1 : A1 ≤ D1 := by
    have : D1 - A1 = 5 * ((n - a) * (n - a)) := by subst hA1 hD1; grind
    omega
  have AD2 : A2 ≤ D2 := by omega
  -- the error of both
  have v0 : 0 ≤ a * (n - a) := Int.mul_nonneg ha (by omega)
  have v1 : 4 * (a * (n - a)) ≤ n * n := by
    have h : n * n - 4 * (a * (n - a)) = (n - 2 * a) * (n - 2 * a) := by grind
    have h2 : 0 ≤ (n - 2 * a) * (n - 2 * a) := by
      rcases Int.le_total 0 (n - 2 * a) with h | h
      · exact Int.mul_nonneg h h
      · exact Int.mul_nonneg_of_nonpos_of_nonpos h h
    omega
  have eb := e_bound (n * n) (a * (n - a)) v0 v1
  have eE : A1 * A1 * (D2 * D2) + A2 * A2 * (D1 * D1) - D1 * D1 * (D2 * D2) = (a * (n - a) * (a * (n - a))) * (24 * (n * n * (n * n)) - 176 * (a * (n - a) * (n * n)) + 31 * (a * (n - a) * (a * (n - a)))) := by
    subst hA1 hA2 hD1 hD2; grind
  have eM : D1 * D1 * (D2 * D2) = (20 * (n * n * (n * n)) - 8 * (a * (n - a) * (n * n)) + a * (n - a) * (a * (n - a))) * (20 * (n * n * (n * n)) - 8 * (a * (n - a) * (n * n)) + a * (n - a) * (a * (n - a))) := by
    subst hD1 hD2; grind
  rw [← eE, ← eM] at eb
  obtain ⟨bX0, bX1⟩ := near_bd (n := r * A1) (d := D1) d1
  obtain ⟨bY0, bY1⟩ := near_bd (n := r * A2) (d := D2) d2
  rw [← x1] at bX0 bX1
  rw [← y1] at bY0 bY1
  clear x1 y1 hX hY eE eM v0 v1 sq na na2 aa2 nn aa hA1 hA2 hD1 hD2
  obtain ⟨e1, he1⟩ : ∃ e1, e1 = D1 * X - r * A1 := ⟨_, rfl⟩
  obtain ⟨e2, he2⟩ : ∃ e2, e2 = D2 * Y - r * A2 := ⟨_, rfl⟩
  have c1 := mul_between (x := 2 * e1) (A := D1) (y := A1) (by omega) (by omega) A10
  have c2 := mul_between (x := 2 * e2) (A := D2) (y := A2) (by omega) (by omega) A20
  have c1' : D1 * A1 ≤ D1 * D1 := Int.mul_le_mul_of_nonneg_left AD1 (by omega)
  have c2' : D2 * A2 ≤ D2 * D2 := Int.mul_le_mul_of_nonneg_left AD2 (by omega)
  have D11 : 0 ≤ D1 * D1 := Int.mul_nonneg (by omega) (by omega)
  have D22 : 0 ≤ D2 * D2 := Int.mul_nonneg (by omega) (by omega)
  obtain ⟨M, hM⟩ : ∃ M, M = D1 * D1 * (D2 * D2) := ⟨_, rfl⟩
  have f1 := mul_between (x := 2 * e1 * A1) (A := D1 * D1) (y := D2 * D2) (by omega) (by omega) D22
  have f2 := mul_between (x := 2 * e2 * A2) (A := D2 * D2) (y := D1 * D1) (by omega) (by omega) D11
  have hM2 : D2 * D2 * (D1 * D1) = M := by rw [hM, Int.mul_comm]
  rw [hM2] at f2
  rw [← hM] at f1 eb
  have g1 := mul_between f1.1 f1.2 hr
  have g2 := mul_between f2.1 f2.2 hr
  have rr : 0 ≤ r * r := Int.mul_nonneg hr hr
  have g3 := mul_between eb.1 eb.2 rr
  have s1 : 4 * (e1 * e1) ≤ D1 * D1 := by
    have h := mul_between (x := 2 * e1) (A := D1) (y := D1) (by omega) (by omega) (by omega)
    rcases Int.le_total 0 e1 with h0 | h0
    · have := Int.mul_le_mul (show 2 * e1 ≤ D1 by omega) (show 2 * e1 ≤ D1 by omega) (by omega) (by omega)
      have e : 2 * e1 * (2 * e1) = 4 * (e1 * e1) := by grind
      omega
    · have := Int.mul_le_mul (show -(2 * e1) ≤ D1 by omega) (show -(2 * e1) ≤ D1 by omega) (by omega) (by omega)
      have e : -(2 * e1) * -(2 * e1) = 4 * (e1 * e1) := by grind
      omega
  have s2 : 4 * (e2 * e2) ≤ D2 * D2 := by
    rcases Int.le_total 0 e2 with h0 | h0
    · have := Int.mul_le_mul (show 2 * e2 ≤ D2 by omega) (show 2 * e2 ≤ D2 by omega) (by omega) (by omega)
      have e : 2 * e2 * (2 * e2) = 4 * (e2 * e2) := by grind
      omega
    · have := Int.mul_le_mul (show -(2 * e2) ≤ D2 by omega) (show -(2 * e2) ≤ D2 by omega) (by omega) (by omega)
      have e : -(2 * e2) * -(2 * e2) = 4 * (e2 * e2) := by grind
      omega
  have q1 : 0 ≤ e1 * e1 := by
    rcases Int.le_total 0 e1 with h | h
    · exact Int.mul_nonneg h h
    · exact Int.mul_nonneg_of_nonpos_of_nonpos h h
  have q2 : 0 ≤ e2 * e2 := by
    rcases Int.le_total 0 e2 with h | h
    · exact Int.mul_nonneg h h
    · exact Int.mul_nonneg_of_nonpos_of_nonpos h h
  have t1 := Int.mul_le_mul_of_nonneg_right s1 D22
  have t2 := Int.mul_le_mul_of_nonneg_right s2 D11
  rw [hM2] at t2
  rw [← hM] at t1
  have u1 := Int.mul_nonneg q1 D22
  have u2 := Int.mul_nonneg q2 D11
  have key : M * (X * X + Y * Y - r * r) = (A1 * A1 * (D2 * D2) + A2 * A2 * (D1 * D1) - M) * (r * r) + 2 * e1 * A1 * (D2 * D2) * r + 2 * e2 * A2 * (D1 * D1) * r + e1 * e1 * (D2 * D2) + e2 * e2 * (D1 * D1) := by
    subst hM he1 he2; grind
  have Mp : 0 < M := by rw [hM]; exact Int.mul_pos (Int.mul_pos (by omega) (by omega)) (Int.mul_pos (by omega) (by omega))
  obtain ⟨Z, hZ⟩ : ∃ Z, Z = X * X + Y * Y - r * r := ⟨_, rfl⟩
  rw [← hZ] at key ⊢
  have r1 : 100 * (M * Z) ≤ M * (r * r) + 200 * (M * r) + 50 * M := by
    have z1 : 100 * (A1 * A1 * (D2 * D2) + A2 * A2 * (D1 * D1) - M) * (r * r) = 100 * ((A1 * A1 * (D2 * D2) + A2 * A2 * (D1 * D1) - M) * (r * r)) := Int.mul_assoc ..
    have z2 : 4 * (e1 * e1) * (D2 * D2) = 4 * (e1 * e1 * (D2 * D2)) := Int.mul_assoc ..
    have z3 : 4 * (e2 * e2) * (D1 * D1) = 4 * (e2 * e2 * (D1 * D1)) := Int.mul_assoc ..
    omega
  have r2 : -(M * (r * r) + 200 * (M * r)) ≤ 100 * (M * Z) := by
    have z1 : 100 * (A1 * A1 * (D2 * D2) + A2 * A2 * (D1 * D1) - M) * (r * r) = 100 * ((A1 * A1 * (D2 * D2) + A2 * A2 * (D1 * D1) - M) * (r * r)) := Int.mul_assoc ..
    omega
  constructor
  · refine Int.le_of_mul_le_mul_left (a := M) ?_ Mp
    have z1 : M * (100 * Z) = 100 * (M * Z) := by grind
    have z2 : M * -(r * r + 200 * r + 100) = -(M * (r * r) + 200 * (M * r)) - 100 * M := by grind
    omega
  · refine Int.le_of_mul_le_mul_left (a := M) ?_ Mp
    have z1 : M * (100 * Z) = 100 * (M * Z) := by grind
    have z2 : M * (r * r + 200 * r + 100) = M * (r * r) + 200 * (M * r) + 100 * M := by grind
    omega

def near_circle (r X Y : Int) : Prop := -(r * r + 200 * r + 100) ≤ 100 * (X * X + Y * Y - r * r) ∧ 100 * (X * X + Y * Y - r * r) ≤ r * r + 200 * r + 100
theorem nc_turn {r X Y : Int} (h : near_circle r X Y) : near_circle r Y (-X) := by
  unfold near_circle at *
  rw [Int.neg_mul_neg, Int.add_comm (Y * Y)]; exact h
/-- in every quarter -/
theorem circle_all (r n : Int) (hr : 0 ≤ r) (hn : 1 ≤ n) : ∀ (q : Nat) (a : Int), 0 ≤ a → a < n → near_circle r (sinV r ((a + q * n) % (4 * n)) (4 * n)) (sinV r ((a + q * n + n) % (4 * n)) (4 * n)) := by
  intro q
  induction q with
  | zero =>
    intro a h0 h1
    have e1 : (a + ((0 : Nat) : Int) * n) = a := by simp
    rw [e1, Int.emod_eq_of_lt h0 (by omega), Int.emod_eq_of_lt (by omega) (by omega)]
    have s1 : sinV r a (4 * n) = sinB r a (4 * n) := if_neg (by omega)
    have s2 : sinV r (a + n) (4 * n) = sinB r (a + n) (4 * n) := if_neg (by omega)
    rw [s1, s2]
    exact quarter r a n _ _ hr hn h0 h1 rfl rfl
  | succ q ih =>
    intro a h0 h1
    have h := nc_turn (ih a h0 h1)
    have e1 : a + ((q + 1 : Nat) : Int) * n = a + q * n + n := by
      rw [Int.natCast_add, Int.add_mul]; simp; omega
    rw [e1]
    have s := sinV_half r ((a + q * n) % (4 * n)) (2 * n) (by omega) (Int.emod_nonneg _ (by omega)) (by have := Int.emod_lt_of_pos (a + q * n) (show 0 < 4 * n by omega); omega)
    rw [show 2 * (2 * n) = 4 * n by omega, Int.emod_add_emod, show a + q * n + 2 * n = a + q * n + n + n by omega] at s
    rw [s]
    exact h
theorem circle (r k n : Int) (hr : 0 ≤ r) (hn : 1 ≤ n) (h0 : 0 ≤ k) (h1 : k < n) : near_circle r (spotX r k n) (spotY r k n) := by
  have hq0 := Int.mul_ediv_add_emod (4 * k) n
  have hq1 := Int.emod_nonneg (4 * k) (show n ≠ 0 by omega)
  have hq2 := Int.emod_lt_of_pos (4 * k) (show 0 < n by omega)
  have hq3 : 0 ≤ 4 * k / n := Int.ediv_nonneg (by omega) (by omega)
  have h := circle_all r n hr hn (4 * k / n).toNat (4 * k % n) hq1 hq2
  have e : 4 * k % n + ((4 * k / n).toNat : Int) * n = 4 * k := by
    rw [Int.toNat_of_nonneg hq3, Int.mul_comm (4 * k / n) n]; omega
  rw [e, Int.emod_eq_of_lt (a := 4 * k) (by omega) (by omega), sinV_scale _ _ _ _ (by omega)] at h
  exact h
end Go.Proofs.Ytacnijnilopckaa
