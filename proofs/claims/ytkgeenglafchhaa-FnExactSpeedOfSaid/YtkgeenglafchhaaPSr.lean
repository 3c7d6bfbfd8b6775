/- Plain laws, Sr: the speed and the period of an arbor, and its place after some seconds. No program. -/
import Derived.Test.YtkgeenglafchhaaPSq
namespace Go.Proofs.Ytkgeenglafchhaa
set_option linter.unusedVariables false
def speedR (m : Movement_) (k : Int) : Ratio_ × Int := if movB m = true then (if (speedsR m.Works m.Minute).2 = 0 then (if inArb m.Works k = true then (getR (speedsR m.Works m.Minute).1 k, 0) else (⟨0, 0⟩, 2)) else (⟨0, 0⟩, 6)) else (⟨0, 0⟩, 1)
theorem movB_wks {m : Movement_} (h : movB m = true) : wksB m.Works = true ∧ inArb m.Works m.Minute = true ∧ inArb m.Works m.Hour = true ∧ inArb m.Works m.Escape = true := by
  unfold movB at h
  simp only [Bool.and_eq_true] at h
  exact ⟨h.2.1, h.2.2.1, h.2.2.2.1, h.2.2.2.2.1⟩
theorem speed_tail {m : Movement_} {k : Int} (hw : wksB m.Works = true) (hs : (speedsR m.Works m.Minute).2 = 0) (hk : inArb m.Works k = true) : atI (speedsR m.Works m.Minute).1 k = some (getR (speedsR m.Works m.Minute).1 k) ∧ KnR (getR (speedsR m.Works m.Minute).1 k) := by
  have h1 := speedsR_ok hw hs
  have h2 := of_decide_eq_true hk
  obtain ⟨g, gm, _⟩ := getR_at (sp := (speedsR m.Works m.Minute).1) h2.1 (by rw [h1.1]; exact h2.2)
  exact ⟨g, h1.2 _ gm⟩
theorem i_SpeedOf_eq {m : Movement_} (h : smMovement_ m) (k : Int) : i_SpeedOf_m m k = some (speedR m k) := by
  unfold i_SpeedOf_m speedR
  obtain ⟨w1, w2, w3⟩ := smW h.2.1
  rw [i_ValidMovement_eq h, Option.bind_some]
  by_cases hv : movB m = true
  · obtain ⟨hw, _⟩ := movB_wks hv
    rw [if_pos hv, hv, i_SpeedsOf_eq w1 w2 w3, if_pos hw]
    simp only [Bool.not_true, Bool.false_eq_true, if_false, Option.bind_some]
    by_cases hs : (speedsR m.Works m.Minute).2 = 0
    · rw [if_neg (by simp [hs]), if_pos hs, i_isArbor_eq w1, Option.bind_some]
      by_cases hk : inArb m.Works k = true
      · rw [if_pos hk, hk, (speed_tail hw hs hk).1]; rfl
      · rw [if_neg hk, Bool.not_eq_true] at *
        rw [hk]; rfl
    · rw [if_pos hs, if_neg hs]
  · rw [if_neg hv, Bool.not_eq_true] at *
    rw [hv]; rfl
theorem s_l26Speed_eq {m : Movement_} (h : smMovement_ m) (k : Int) : s_l26Speed_m m k = some (speedR m k) := by
  unfold s_l26Speed_m speedR
  obtain ⟨w1, w2, w3⟩ := smW h.2.1
  rw [s_l26Ok_eq h, Option.bind_some]
  by_cases hv : movB m = true
  · obtain ⟨hw, _⟩ := movB_wks hv
    rw [if_pos hv, hv, s_l08Speeds_eq hw]
    simp only [Bool.not_true, Bool.false_eq_true, if_false, Option.bind_some]
    by_cases hs : (speedsR m.Works m.Minute).2 = 0
    · rw [if_neg (by simp [hs]), if_pos hs, s_l08Root_eq w1, Option.bind_some]
      by_cases hk : inArb m.Works k = true
      · rw [if_pos hk, hk, (speed_tail hw hs hk).1]; rfl
      · rw [if_neg hk, Bool.not_eq_true] at *
        rw [hk]; rfl
    · rw [if_pos hs, if_neg hs]
  · rw [if_neg hv, Bool.not_eq_true] at *
    rw [hv]; rfl
theorem s_SpeedOf_eq {m : Movement_} (h : smMovement_ m) (k : Int) : s_SpeedOf_m m k = some (speedR m k) := by
  unfold s_SpeedOf_m; rw [s_l26Speed_eq h]; rfl
theorem speedR_kn {m : Movement_} {k : Int} (h : (speedR m k).2 = 0) : KnR (speedR m k).1 := by
  unfold speedR at h ⊢
  by_cases hv : movB m = true
  · rw [if_pos hv] at h ⊢
    by_cases hs : (speedsR m.Works m.Minute).2 = 0
    · rw [if_pos hs] at h ⊢
      by_cases hk : inArb m.Works k = true
      · rw [if_pos hk]; exact (speed_tail (movB_wks hv).1 hs hk).2
      · rw [if_neg hk] at h; cases h
    · rw [if_neg hs] at h; cases h
  · rw [if_neg hv] at h; cases h
theorem eqR_refl (a : Ratio_) : l_eqRatio_m a a = some true := by unfold l_eqRatio_m; simp
theorem law_speedOf (p0 : Movement_) (k0 : okMovement_ p0) (p1 : Int) (k1 : osI p1) : l_FnExactSpeedOf_m p0 p1 = some true := by
  unfold l_FnExactSpeedOf_m
  obtain ⟨r, e, l, s⟩ := szMovement_ok k0 1048576 (by omega) (by omega)
  rw [e, Option.bind_some]
  by_cases hr : r < 0
  · rw [if_pos hr]
  · rw [if_neg hr]
    have h0 := s (by omega)
    simp [toMovement_eq h0, s_SpeedOf_eq h0, i_SpeedOf_eq h0, eqMovement_refl h0, eqR_refl]
end Go.Proofs.Ytkgeenglafchhaa
