/- Plain laws, Sr: the speed and the period of an arbor, and its place after some seconds. No program. -/
import Derived.Test.YtdchemiillekjaaGreatPSq
namespace Go.Proofs.YtdchemiillekjaaGreat
set_option linter.unusedVariables false
def speedR (m : Movement_) (k : Int) : Ratio_ × Int := if movB m = true then (if (speedsR m.Works m.Minute).2 = 0 then (if inArb m.Works k = true then (getR (speedsR m.Works m.Minute).1 k, 0) else (⟨0, 0⟩, 2)) else (⟨0, 0⟩, 6)) else (⟨0, 0⟩, 1)
theorem movB_wks {m : Movement_} (h : movB m = true) : wksB m.Works = true ∧ inArb m.Works m.Minute = true ∧ inArb m.Works m.Hour = true ∧ inArb m.Works m.Escape = true := by
  unfold movB at h
  simp only [Bool.and_eq_true] at h
  exact ⟨h.2.1, h.2.2.1, h.2.2.2.1, h.2.2.2.2.1⟩
theorem speed_tail {m : Movement_} {k : Int} (hw : wksB m.Works = true) (hs : (speedsR m.Works m.Minute).2 = 0) (hk : inArb m.Works k = true) : atI (speedsR m.Works m.Minute).1 k = some (getR (speedsR m.Works m.Minute).1 k) ∧ KnR (getR (speedsR m.Works m.Minute).1 k) := by
  have h1 := speedsR_ok hw hs
  have h2 := of_decide_eq_true hk
  obtain ⟨g, gm, _⟩ := getR_at (sp := (speedsR m.Works m.Minute).1) h2.1 (by rw [h1.1]; exact h2.2)
  exact ⟨g, h1.2 _ gm⟩
theorem i_SpeedOf_eq {m : Movement_} (h : smMovement_ m) (k : Int) : i_SpeedOf_m m k = some (speedR m k) := by
  unfold i_SpeedOf_m speedR
  obtain ⟨w1, w2, w3⟩ := smW h.2.1
  rw [i_ValidMovement_eq h, Option.bind_some]
  by_cases hv : movB m = true
  · obtain ⟨hw, _⟩ := movB_wks hv
    rw [if_pos hv, hv, i_SpeedsOf_eq w1 w2 w3, if_pos hw]
    simp only [Bool.not_true, Bool.false_eq_true, if_false, Option.bind_some]
    by_cases hs : (speedsR m.Works m.Minute).2 = 0
    · rw [if_neg (by simp [hs]), if_pos hs, i_isArbor_eq w1, Option.bind_some]
      by_cases hk : inArb m.Works k = true
      · rw [if_pos hk, hk, (speed_tail hw hs hk).1]; rfl
      · rw [if_neg hk, Bool.not_eq_true] at *
        rw [hk]; rfl
    · rw [if_pos hs, if_neg hs]
  · rw [if_neg hv, Bool.not_eq_true] at *
    rw [hv]; rfl
theorem s_l26Speed_eq {m : Movement_} (h : smMovement_ m) (k : Int) : s_l26Speed_m m k = some (speedR m k) := by
  unfold s_l26Speed_m speedR
  obtain ⟨w1, w2, w3⟩ := smW h.2.1
  rw [s_l26Ok_eq h, Option.bind_some]
  by_cases hv : movB m = true
  · obtain ⟨hw, _⟩ := movB_wks hv
    rw [if_pos hv, hv, s_l08Speeds_eq hw]
    simp only [Bool.not_true, Bool.false_eq_true, if_false, Option.bind_some]
    by_cases hs : (speedsR m.Works m.Minute).2 = 0
    · rw [if_neg (by simp [hs]), if_pos hs, s_l08Root_eq w1, Option.bind_some]
      by_cases hk : inArb m.Works k = true
      · rw [if_pos hk, hk, (speed_tail hw hs hk).1]; rfl
      · rw [if_neg hk, Bool.not_eq_true] at *
        rw [hk]; rfl
    · rw [if_pos hs, if_neg hs]
  · rw [if_neg hv, Bool.not_eq_true] at *
    rw [hv]; rfl
theorem speedR_kn {m : Movement_} {k : Int} (h : (speedR m k).2 = 0) : KnR (speedR m k).1 := by
  unfold speedR at h ⊢
  by_cases hv : movB m = true
  · rw [if_pos hv] at h ⊢
    by_cases hs : (speedsR m.Works m.Minute).2 = 0
    · rw [if_pos hs] at h ⊢
      by_cases hk : inArb m.Works k = true
      · rw [if_pos hk]; exact (speed_tail (movB_wks hv).1 hs hk).2
      · rw [if_neg hk] at h; cases h
    · rw [if_neg hs] at h; cases h
  · rw [if_neg hv] at h; cases h
theorem eqR_refl (a : Ratio_) : l_eqRatio_m a a = some true := by unfold l_eqRatio_m; simp
/-- what is behind the point -/
def fracR (x : Ratio_) : Ratio_ × Bool := mkR (x.Num - x.Num / x.Den * x.Den) x.Den
def atR (v : Ratio_) (s : Int) : Ratio_ × Bool := if (mulR v (mkR s 3600).1).2 = true then fracR (mulR v (mkR s 3600).1).1 else (⟨0, 0⟩, false)
def arborAtR (m : Movement_) (k s : Int) : Ratio_ × Int := if (speedR m k).2 = 0 then (if btw s 0 1000000000 = true then codeR (atR (speedR m k).1 s) else (⟨0, 0⟩, 2)) else (⟨0, 0⟩, (speedR m k).2)
theorem floor_in {x : Ratio_} (h : ratB x = true) : -1000000000 ≤ x.Num / x.Den ∧ x.Num / x.Den ≤ 1000000000 ∧ -1000000000000000000 ≤ x.Num / x.Den * x.Den ∧ x.Num / x.Den * x.Den ≤ 1000000000000000000 := by
  obtain ⟨d0, d1, n0, n1⟩ := ratB_d h
  have h1 := ediv_bd d0 (L := 1000000000) (by omega) n0 n1
  have h2 := mulS_bd (a := x.Num / x.Den) (b := x.Den) (A := 1000000000) (B := 1000000000) h1.1 h1.2 (by omega) d1
  omega
theorem i_FloorRatio_eq {x : Ratio_} (h : ratB x = true) : i_FloorRatio_m x = some (x.Num / x.Den) := by
  obtain ⟨d0, d1, n0, n1⟩ := ratB_d h
  unfold i_FloorRatio_m
  rw [i_ValidRatio_eq, h, Option.bind_some, if_neg (by decide), i_floorDiv_eq d0 (by omega) (by omega), Option.bind_some]
theorem i_frac_eq {x : Ratio_} (h : ratB x = true) : i_SubRatio_m x ⟨x.Num / x.Den, 1⟩ = some (codeR (fracR x)) := by
  obtain ⟨d0, d1, n0, n1⟩ := ratB_d h
  obtain ⟨f0, f1, f2, f3⟩ := floor_in h
  have hb : ratB ⟨x.Num / x.Den, 1⟩ = true := ratB_iff.2 ⟨⟨by show (1 : Int) ≤ 1; omega, by show (1 : Int) ≤ 1000000000; omega⟩, ⟨f0, f1⟩, by simp⟩
  unfold i_SubRatio_m
  simp only [i_ValidRatio_eq, h, hb, Option.bind_some, Bool.not_true, Bool.false_eq_true, if_false, Int.mul_one]
  rw [w64_in (x := x.Num) (by omega) (by omega), w64_in (x := x.Num / x.Den * x.Den) (by omega) (by omega), w64_in (x := x.Den) (by omega) (by omega), w64_in (by omega) (by omega), i_MakeRatio_eq ⟨by omega, by omega⟩ ⟨by omega, by omega⟩, Option.bind_some]
  unfold makeR fracR
  rw [if_neg (by omega)]
theorem i_ArborAt_eq {m : Movement_} (h : smMovement_ m) (k s : Int) : i_ArborAt_m m k s = some (arborAtR m k s) := by
  unfold i_ArborAt_m arborAtR
  rw [i_SpeedOf_eq h, Option.bind_some]
  by_cases hs : (speedR m k).2 = 0
  · rw [if_neg (by simp [hs]), if_pos hs, i_within_eq, Option.bind_some]
    by_cases hb : btw s 0 1000000000 = true
    · rw [if_pos hb, hb, if_neg (by decide)]
      have hk := speedR_kn hs
      generalize (speedR m k).1 = v at hk
      have hq := of_decide_eq_true hb
      have h2 := mkR_small (n := s) (d := 3600) (by omega) (by omega) (by omega) (by omega) (by omega)
      have h3 := (mkR_val (n := s) (d := 3600) (by omega) h2).1
      have e1 : makeR s 3600 = ((mkR s 3600).1, 0) := by unfold makeR codeR; rw [if_neg (by omega), if_pos h2]
      rw [i_MakeRatio_eq ⟨by omega, by omega⟩ ⟨by omega, by omega⟩, Option.bind_some, e1]
      simp only [ne_eq, not_true_eq_false, if_false]
      rw [i_MulRatio_eq hk.1 h3, Option.bind_some]
      unfold atR
      rcases codeR_cases (mulR v (mkR s 3600).1) with ⟨g1, g2⟩ | ⟨g1, g2⟩
      · have hx := (mulR_val hk.1 h3 g1).1
        rw [g2, g1]
        simp only [ne_eq, not_true_eq_false, if_false, if_true]
        rw [i_FloorRatio_eq hx, Option.bind_some, i_frac_eq hx, Option.bind_some]
      · rw [g2, g1]; rfl
    · rw [if_neg hb, Bool.not_eq_true] at *
      rw [hb]; rfl
  · rw [if_pos hs, if_neg hs]
theorem s_l26At_eq {v : Ratio_} {s : Int} (hk : ratB v = true) (s0 : 0 ≤ s) (s1 : s ≤ 1000000000) : s_l26At_m v s = some (atR v s) := by
  have h2 := mkR_small (n := s) (d := 3600) (by omega) (by omega) (by omega) (by omega) (by omega)
  have h3 := (mkR_val (n := s) (d := 3600) (by omega) h2).1
  unfold s_l26At_m atR
  rw [s_l02Make_eq ⟨by omega, by omega⟩ ⟨by omega, by omega⟩ (by omega), Option.bind_some, s_l02Mul_eq hk h3, Option.bind_some]
  cases g : (mulR v (mkR s 3600).1).2
  · rfl
  · have hx := (mulR_val hk h3 g).1
    generalize (mulR v (mkR s 3600).1).1 = x at hx
    obtain ⟨d0, d1, n0, n1⟩ := ratB_d hx
    obtain ⟨f0, f1, f2, f3⟩ := floor_in hx
    simp only [Bool.not_true, Bool.false_eq_true, if_false, if_true]
    have e : -(x.Num / x.Den) * x.Den = -(x.Num / x.Den * x.Den) := Int.neg_mul ..
    rw [s_l02Down_eq d0 (by omega) (by omega), Option.bind_some, w64_in (by omega) (by omega), s_l02Whole_m, Option.bind_some]
    unfold s_l02Add_m fracR
    dsimp only
    rw [Int.mul_one, Int.mul_one, e, w64_in (x := x.Num) (by omega) (by omega), w64_in (x := -(x.Num / x.Den * x.Den)) (by omega) (by omega), w64_in (x := x.Den) (by omega) (by omega), w64_in (by omega) (by omega), s_l02Make_eq ⟨by omega, by omega⟩ ⟨by omega, by omega⟩ (by omega)]
    simp only [Option.bind_some]
    rw [Int.sub_eq_add_neg]
theorem s_ArborAt_eq {m : Movement_} (h : smMovement_ m) (k s : Int) : s_ArborAt_m m k s = some (arborAtR m k s) := by
  unfold s_ArborAt_m arborAtR
  rw [s_l26Speed_eq h, Option.bind_some]
  by_cases hs : (speedR m k).2 = 0
  · rw [if_neg (by simp [hs]), if_pos hs, s_l00In_eq, Option.bind_some]
    by_cases hb : btw s 0 1000000000 = true
    · have hq := of_decide_eq_true hb
      rw [if_pos hb, hb, if_neg (by decide), s_l26At_eq (speedR_kn hs).1 hq.1 hq.2, Option.bind_some, s_l02Code_eq, Option.bind_some]
    · rw [if_neg hb, Bool.not_eq_true] at *
      rw [hb]; rfl
  · rw [if_pos hs, if_neg hs]
end Go.Proofs.YtdchemiillekjaaGreat
