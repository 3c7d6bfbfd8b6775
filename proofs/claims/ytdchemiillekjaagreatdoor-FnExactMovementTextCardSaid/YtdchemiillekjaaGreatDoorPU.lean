/- Plain laws, U: ratios. No program. -/
import Derived.Test.YtdchemiillekjaaGreatDoorPR
import Derived.Test.YtdchemiillekjaaGreatDoorXOK
namespace Go.Proofs.YtdchemiillekjaaGreatDoor
set_option linter.unusedVariables false
theorem u64_eq (x : Int) : IntKind.u64.wrap x = x % 18446744073709551616 := by
  unfold IntKind.wrap
  simp [IntKind.signed, IntKind.bits]
theorem u64_in {x : Int} (h0 : 0 ≤ x) (h1 : x < 18446744073709551616) : IntKind.u64.wrap x = x := by rw [u64_eq]; omega
theorem u64_neg {x : Int} (h0 : -18446744073709551616 < x) (h1 : x < 0) : IntKind.u64.wrap (-(IntKind.u64.wrap x)) = -x := by rw [u64_eq, u64_eq]; omega
def absI (x : Int) : Int := (x.natAbs : Int)
theorem absI_nn (x : Int) : 0 ≤ absI x := by unfold absI; omega
theorem gcd_step {a b : Int} : Int.gcd b (a.tmod b) = Int.gcd a b := by
  unfold Int.gcd
  rw [Int.natAbs_tmod, Nat.gcd_comm a.natAbs b.natAbs, Nat.gcd_comm, ← Nat.gcd_rec]
theorem gcd_loop {step : Int × Int → Option ((Int × Int) ⊕ Int)} (hS : ∀ a b, b ≠ 0 → step (a, b) = some (.inl (b, a.tmod b))) (hE : ∀ a, step (a, 0) = some (.inr a)) (a b : Int) (hb : b.natAbs ≤ 9223372036854775808) :
    ∃ g, loopM step (a, b) = some g ∧ g.natAbs = Int.gcd a b ∧ (g = a ∨ g.natAbs ≤ b.natAbs) := by
  refine loopM_of (fun (s : Int × Int) => Int.gcd s.1 s.2 = Int.gcd a b ∧ s.2.natAbs ≤ b.natAbs ∧ (s.1 = a ∨ s.1.natAbs ≤ b.natAbs)) (fun (s : Int × Int) => s.2.natAbs) (fun g => g.natAbs = Int.gcd a b ∧ (g = a ∨ g.natAbs ≤ b.natAbs)) (fun s hI => ?_) (a, b) ⟨rfl, Nat.le_refl _, .inl rfl⟩ (by dsimp only; omega)
  obtain ⟨x, y⟩ := s
  obtain ⟨h1, h2, h3⟩ := hI
  dsimp only at h1 h2 h3 ⊢
  by_cases hy : y = 0
  · right
    subst hy
    exact ⟨x, hE x, by rw [← h1]; simp, h3⟩
  · left
    have hlt : (x.tmod y).natAbs < y.natAbs := by rw [Int.natAbs_tmod]; exact Nat.mod_lt _ (by omega)
    exact ⟨_, hS x y hy, ⟨by rw [gcd_step]; exact h1, by dsimp only; omega, .inr h2⟩, hlt⟩
theorem gcd_loopP {step : Int × Int → Option ((Int × Int) ⊕ Int)} (hS : ∀ a b, 0 ≤ a → 0 < b → step (a, b) = some (.inl (b, a.tmod b))) (hE : ∀ a, step (a, 0) = some (.inr a)) {a b : Int} (ha : 0 ≤ a) (hb0 : 0 ≤ b) (hb : b ≤ 18446744073709551616) :
    loopM step (a, b) = some (Int.gcd a b : Int) := by
  obtain ⟨g, h, h1, h2⟩ := loopM_of (step := step) (fun (s : Int × Int) => Int.gcd s.1 s.2 = Int.gcd a b ∧ 0 ≤ s.1 ∧ 0 ≤ s.2) (fun (s : Int × Int) => s.2.natAbs) (fun g => g.natAbs = Int.gcd a b ∧ 0 ≤ g) (fun s hI => by
    obtain ⟨x, y⟩ := s
    obtain ⟨h1, h2, h3⟩ := hI
    dsimp only at h1 h2 h3 ⊢
    by_cases hy : y = 0
    · right
      subst hy
      exact ⟨x, hE x, by rw [← h1]; simp, h2⟩
    · left
      have hlt : (x.tmod y).natAbs < y.natAbs := by rw [Int.natAbs_tmod]; exact Nat.mod_lt _ (by omega)
      exact ⟨_, hS x y h2 (by omega), ⟨by rw [gcd_step]; exact h1, h3, Int.tmod_nonneg _ h2⟩, hlt⟩) (a, b) ⟨rfl, ha, hb0⟩ (by dsimp only; omega)
  rw [h]; congr 1; omega
theorem gcd_pos {n d : Int} (h : d ≠ 0) : 0 < Int.gcd n d := Int.gcd_pos_of_ne_zero_right n h
theorem abs_gcd (n d : Int) : Int.gcd (absI n) (absI d) = Int.gcd n d := by unfold absI Int.gcd; simp
theorem quo_bd {a g : Int} (ha : 0 ≤ a) (hg : 0 < g) : 0 ≤ a / g ∧ a / g ≤ a := ⟨Int.ediv_nonneg ha (by omega), Int.ediv_le_self _ ha⟩
theorem i_gcd_eq {a b : Int} (ha : osI a) (ha' : -9223372036854775808 < a) (hb : osI b) (hb' : -9223372036854775808 < b) : i_gcd_m a b = some (Int.gcd a b : Int) := by
  unfold i_gcd_m
  obtain ⟨a0, a1⟩ := ha
  obtain ⟨b0, b1⟩ := hb
  obtain ⟨g, h, h1, h2⟩ := gcd_loop (step := fun s3 => (if s3.2 ≠ 0 then (chk (s3.2 ≠ 0) (some (.inl (s3.2, s3.1.tmod s3.2)))) else some (.inr s3.1))) (fun a b h => by simp only; rw [if_pos h, chk_t h]) (fun a => by simp) a b (by omega)
  rw [h, Option.bind_some]
  split
  · rw [w64_in (by omega) (by omega)]; congr 1; omega
  · congr 1; omega
theorem s_l02Gcd_eq {a b : Int} (ha : 0 ≤ a) (hb : 0 ≤ b) (hb1 : b ≤ 18446744073709551616) : s_l02Gcd_m a b = some (Int.gcd a b : Int) := by
  unfold s_l02Gcd_m
  rw [gcd_loopP (fun a b h0 h1 => by simp only; rw [if_pos (by omega), chk_t (by omega)]) (fun a => by simp) ha hb hb1]; rfl
end Go.Proofs.YtdchemiillekjaaGreatDoor
