/- Plain laws, U: ratios. No program. -/
import Derived.Test.YtjhadibjjldpdaaGreatPR
import Derived.Test.YtjhadibjjldpdaaGreatXOK
namespace Go.Proofs.YtjhadibjjldpdaaGreat
set_option linter.unusedVariables false
theorem u64_eq (x : Int) : IntKind.u64.wrap x = x % 18446744073709551616 := by
  unfold IntKind.wrap
  simp [IntKind.signed, IntKind.bits]
theorem u64_in {x : Int} (h0 : 0 ≤ x) (h1 : x < 18446744073709551616) : IntKind.u64.wrap x = x := by rw [u64_eq]; omega
theorem u64_neg {x : Int} (h0 : -18446744073709551616 < x) (h1 : x < 0) : IntKind.u64.wrap (-(IntKind.u64.wrap x)) = -x := by rw [u64_eq, u64_eq]; omega
def absI (x : Int) : Int := (x.natAbs : Int)
theorem absI_nn (x : Int) : 0 ≤ absI x := by unfold absI; omega
theorem s_l02Part_eq {x : Int} (h : osI x) : s_l02Part_m x = some (absI x) := by
  obtain ⟨h0, h1⟩ := h
  unfold s_l02Part_m absI
  split
  · rw [u64_neg (by omega) (by omega)]; congr 1; omega
  · rw [u64_in (by omega) (by omega)]; congr 1; omega
theorem i_magnitude_eq {x : Int} (h : osI x) : i_magnitude_m x = some (absI x) := by
  obtain ⟨h0, h1⟩ := h
  unfold i_magnitude_m absI
  split
  · rw [u64_neg (by omega) (by omega)]; congr 1; omega
  · rw [u64_in (by omega) (by omega)]; congr 1; omega
theorem gcd_step {a b : Int} : Int.gcd b (a.tmod b) = Int.gcd a b := by
  unfold Int.gcd
  rw [Int.natAbs_tmod, Nat.gcd_comm a.natAbs b.natAbs, Nat.gcd_comm, ← Nat.gcd_rec]
theorem gcd_loop {step : Int × Int → Option ((Int × Int) ⊕ Int)} (hS : ∀ a b, b ≠ 0 → step (a, b) = some (.inl (b, a.tmod b))) (hE : ∀ a, step (a, 0) = some (.inr a)) (a b : Int) (hb : b.natAbs ≤ 9223372036854775808) :
    ∃ g, loopM step (a, b) = some g ∧ g.natAbs = Int.gcd a b ∧ (g = a ∨ g.natAbs ≤ b.natAbs) := by
  refine loopM_of (fun (s : Int × Int) => Int.gcd s.1 s.2 = Int.gcd a b ∧ s.2.natAbs ≤ b.natAbs ∧ (s.1 = a ∨ s.1.natAbs ≤ b.natAbs)) (fun (s : Int × Int) => s.2.natAbs) (fun g => g.natAbs = Int.gcd a b ∧ (g = a ∨ g.natAbs ≤ b.natAbs)) (fun s hI => ?_) (a, b) ⟨rfl, Nat.le_refl _, .inl rfl⟩ (by dsimp only; omega)
  obtain ⟨x, y⟩ := s
  obtain ⟨h1, h2, h3⟩ := hI
  dsimp only at h1 h2 h3 ⊢
  by_cases hy : y = 0
  · right
    subst hy
    exact ⟨x, hE x, by rw [← h1]; simp, h3⟩
  · left
    have hlt : (x.tmod y).natAbs < y.natAbs := by rw [Int.natAbs_tmod]; exact Nat.mod_lt _ (by omega)
    exact ⟨_, hS x y hy, ⟨by rw [gcd_step]; exact h1, by dsimp only; omega, .inr h2⟩, hlt⟩
theorem gcd_loopP {step : Int × Int → Option ((Int × Int) ⊕ Int)} (hS : ∀ a b, 0 ≤ a → 0 < b → step (a, b) = some (.inl (b, a.tmod b))) (hE : ∀ a, step (a, 0) = some (.inr a)) {a b : Int} (ha : 0 ≤ a) (hb0 : 0 ≤ b) (hb : b ≤ 18446744073709551616) :
    loopM step (a, b) = some (Int.gcd a b : Int) := by
  obtain ⟨g, h, h1, h2⟩ := loopM_of (step := step) (fun (s : Int × Int) => Int.gcd s.1 s.2 = Int.gcd a b ∧ 0 ≤ s.1 ∧ 0 ≤ s.2) (fun (s : Int × Int) => s.2.natAbs) (fun g => g.natAbs = Int.gcd a b ∧ 0 ≤ g) (fun s hI => by
    obtain ⟨x, y⟩ := s
    obtain ⟨h1, h2, h3⟩ := hI
    dsimp only at h1 h2 h3 ⊢
    by_cases hy : y = 0
    · right
      subst hy
      exact ⟨x, hE x, by rw [← h1]; simp, h2⟩
    · left
      have hlt : (x.tmod y).natAbs < y.natAbs := by rw [Int.natAbs_tmod]; exact Nat.mod_lt _ (by omega)
      exact ⟨_, hS x y h2 (by omega), ⟨by rw [gcd_step]; exact h1, h3, Int.tmod_nonneg _ h2⟩, hlt⟩) (a, b) ⟨rfl, ha, hb0⟩ (by dsimp only; omega)
  rw [h]; congr 1; omega
theorem gcd_pos {n d : Int} (h : d ≠ 0) : 0 < Int.gcd n d := Int.gcd_pos_of_ne_zero_right n h
theorem abs_gcd (n d : Int) : Int.gcd (absI n) (absI d) = Int.gcd n d := by unfold absI Int.gcd; simp
theorem quo_bd {a g : Int} (ha : 0 ≤ a) (hg : 0 < g) : 0 ≤ a / g ∧ a / g ≤ a := ⟨Int.ediv_nonneg ha (by omega), Int.ediv_le_self _ ha⟩
/-- the ratio of two numbers in its least terms, and whether these are small enough -/
def mkR (n d : Int) : Ratio_ × Bool :=
  if 1000000000 < absI n / (Int.gcd n d : Int) ∨ 1000000000 < absI d / (Int.gcd n d : Int) then (⟨0, 0⟩, false)
  else (⟨if (decide (n < 0) != decide (d < 0)) = true then -(absI n / (Int.gcd n d : Int)) else absI n / (Int.gcd n d : Int), absI d / (Int.gcd n d : Int)⟩, true)
theorem make_tail {n d : Int} (hn : osI n) (hd : osI d) (h : d ≠ 0) {f : Int → Option (Ratio_ × Bool)} (hf : ∀ g, f g = (chk (g ≠ 0) (chk (g ≠ 0) ((((if 1000000000 < (IntKind.u64.wrap ((absI n).tdiv g)) then some true else some (decide (1000000000 < (IntKind.u64.wrap ((absI d).tdiv g))))) : Option Bool).bind fun v10 => (if v10 = true then some ((⟨0, 0⟩ : Ratio_), false) else (((if ((decide (n < 0)) != (decide (d < 0))) = true then some (⟨w64 (-(w64 (IntKind.u64.wrap ((absI n).tdiv g)))), w64 (IntKind.u64.wrap ((absI d).tdiv g))⟩ : Ratio_) else some (⟨w64 (IntKind.u64.wrap ((absI n).tdiv g)), w64 (IntKind.u64.wrap ((absI d).tdiv g))⟩ : Ratio_)) : Option Ratio_).bind fun v11 => some (v11, true)))))))) :
    f (Int.gcd n d : Int) = some (mkR n d) := by
  have hg := gcd_pos (n := n) h
  have a0 := absI_nn n
  have b0 := absI_nn d
  have a1 : absI n ≤ 9223372036854775808 := by unfold absI; obtain ⟨_, _⟩ := hn; omega
  have b1 : absI d ≤ 9223372036854775808 := by unfold absI; obtain ⟨_, _⟩ := hd; omega
  have qa := quo_bd (a := absI n) (g := (Int.gcd n d : Int)) a0 (by omega)
  have qb := quo_bd (a := absI d) (g := (Int.gcd n d : Int)) b0 (by omega)
  rw [hf, chk_t (by omega), chk_t (by omega), Int.tdiv_eq_ediv_of_nonneg a0, Int.tdiv_eq_ediv_of_nonneg b0]
  unfold mkR
  generalize absI n / (Int.gcd n d : Int) = a at *
  generalize absI d / (Int.gcd n d : Int) = b at *
  rw [u64_in qa.1 (by omega), u64_in qb.1 (by omega)]
  by_cases c1 : 1000000000 < a
  · simp [c1]
  · by_cases c2 : 1000000000 < b
    · simp [c1, c2]
    · rw [w64_in (x := a) (by omega) (by omega), w64_in (x := b) (by omega) (by omega), w64_in (x := -a) (by omega) (by omega)]
      simp only [if_neg c1, decide_eq_false c2, Option.bind_some, Bool.false_eq_true, if_false, c1, c2, or_self]
      cases (decide (n < 0) != decide (d < 0)) <;> simp
theorem s_l02Make_eq {n d : Int} (hn : osI n) (hd : osI d) (h : d ≠ 0) : s_l02Make_m n d = some (mkR n d) := by
  unfold s_l02Make_m
  have b1 : absI d ≤ 9223372036854775808 := by unfold absI; obtain ⟨_, _⟩ := hd; omega
  rw [s_l02Part_eq hn, Option.bind_some, s_l02Part_eq hd, Option.bind_some, gcd_loopP (fun a b h0 h1 => by simp only; rw [if_pos h1, chk_t (by omega)]) (fun a => by simp) (absI_nn n) (absI_nn d) (by omega), abs_gcd, Option.bind_some]
  exact make_tail hn hd h fun g => rfl
theorem i_reduced_eq {n d : Int} (hn : osI n) (hd : osI d) (h : d ≠ 0) : i_reduced_m n d = some (mkR n d) := by
  unfold i_reduced_m
  have b1 : absI d ≤ 9223372036854775808 := by unfold absI; obtain ⟨_, _⟩ := hd; omega
  rw [i_magnitude_eq hn, Option.bind_some, i_magnitude_eq hd, Option.bind_some, gcd_loopP (fun a b h0 h1 => by simp only; rw [if_pos (by omega), chk_t (by omega)]) (fun a => by simp) (absI_nn n) (absI_nn d) (by omega), abs_gcd, Option.bind_some]
  exact make_tail hn hd h fun g => rfl
/-- a ratio and its code -/
def codeR (x : Ratio_ × Bool) : Ratio_ × Int := if x.2 = true then (x.1, 0) else (⟨0, 0⟩, 2)
def makeR (n d : Int) : Ratio_ × Int := if d = 0 then (⟨0, 0⟩, 6) else codeR (mkR n d)
theorem i_MakeRatio_eq {n d : Int} (hn : osI n) (hd : osI d) : i_MakeRatio_m n d = some (makeR n d) := by
  unfold i_MakeRatio_m makeR codeR
  by_cases h : d = 0
  · rw [if_pos h, if_pos h]
  · rw [if_neg h, if_neg h, i_reduced_eq hn hd h, Option.bind_some]
    cases (mkR n d).2 <;> simp
theorem i_gcd_eq {a b : Int} (ha : osI a) (ha' : -9223372036854775808 < a) (hb : osI b) (hb' : -9223372036854775808 < b) : i_gcd_m a b = some (Int.gcd a b : Int) := by
  unfold i_gcd_m
  obtain ⟨a0, a1⟩ := ha
  obtain ⟨b0, b1⟩ := hb
  obtain ⟨g, h, h1, h2⟩ := gcd_loop (step := fun s3 => (if s3.2 ≠ 0 then (chk (s3.2 ≠ 0) (some (.inl (s3.2, s3.1.tmod s3.2)))) else some (.inr s3.1))) (fun a b h => by simp only; rw [if_pos h, chk_t h]) (fun a => by simp) a b (by omega)
  rw [h, Option.bind_some]
  split
  · rw [w64_in (by omega) (by omega)]; congr 1; omega
  · congr 1; omega
theorem s_l02Gcd_eq {a b : Int} (ha : 0 ≤ a) (hb : 0 ≤ b) (hb1 : b ≤ 18446744073709551616) : s_l02Gcd_m a b = some (Int.gcd a b : Int) := by
  unfold s_l02Gcd_m
  rw [gcd_loopP (fun a b h0 h1 => by simp only; rw [if_pos (by omega), chk_t (by omega)]) (fun a => by simp) ha hb hb1]; rfl
theorem s_l02Size_eq {a : Int} (h : -9223372036854775808 < a) (h1 : a ≤ 9223372036854775807) : s_l02Size_m a = some (absI a) := by
  unfold s_l02Size_m absI
  split
  · rw [w64_in (by omega) (by omega)]; congr 1; omega
  · congr 1; omega
theorem i_abs_eq {a : Int} (h : -9223372036854775808 < a) (h1 : a ≤ 9223372036854775807) : i_abs_m a = some (absI a) := by
  unfold i_abs_m absI
  split
  · rw [w64_in (by omega) (by omega)]; congr 1; omega
  · congr 1; omega
/-- a valid ratio -/
def ratB (r : Ratio_) : Bool := btw r.Den 1 1000000000 && (btw r.Num (-1000000000) 1000000000 && decide (Int.gcd r.Num r.Den = 1))
theorem ratB_iff {r : Ratio_} : ratB r = true ↔ (1 ≤ r.Den ∧ r.Den ≤ 1000000000) ∧ (-1000000000 ≤ r.Num ∧ r.Num ≤ 1000000000) ∧ Int.gcd r.Num r.Den = 1 := by
  unfold ratB btw
  simp only [Bool.and_eq_true, decide_eq_true_eq]
theorem i_ValidRatio_eq (r : Ratio_) : i_ValidRatio_m r = some (ratB r) := by
  unfold i_ValidRatio_m ratB
  simp only [i_within_eq, Option.bind_some]
  by_cases h1 : btw r.Den 1 1000000000 = true
  · by_cases h2 : btw r.Num (-1000000000) 1000000000 = true
    · have g1 := of_decide_eq_true h1
      have g2 := of_decide_eq_true h2
      rw [if_pos h1, if_pos h2, i_gcd_eq ⟨by omega, by omega⟩ (by omega) ⟨by omega, by omega⟩ (by omega), h1, h2]
      simp only [Option.bind_some, Bool.true_and]
      congr 1
      rw [decide_eq_decide]
      omega
    · simp [h1, h2]
  · simp [h1]
end Go.Proofs.YtjhadibjjldpdaaGreat
