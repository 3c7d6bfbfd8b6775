/- Plain laws, Sr: the speed and the period of an arbor, and its place after some seconds. No program. -/
import Derived.Test.YtjhadibjjldpdaaGreatPSq
namespace Go.Proofs.YtjhadibjjldpdaaGreat
set_option linter.unusedVariables false
def speedR (m : Movement_) (k : Int) : Ratio_ × Int := if movB m = true then (if (speedsR m.Works m.Minute).2 = 0 then (if inArb m.Works k = true then (getR (speedsR m.Works m.Minute).1 k, 0) else (⟨0, 0⟩, 2)) else (⟨0, 0⟩, 6)) else (⟨0, 0⟩, 1)
theorem movB_wks {m : Movement_} (h : movB m = true) : wksB m.Works = true ∧ inArb m.Works m.Minute = true ∧ inArb m.Works m.Hour = true ∧ inArb m.Works m.Escape = true := by
  unfold movB at h
  simp only [Bool.and_eq_true] at h
  exact ⟨h.2.1, h.2.2.1, h.2.2.2.1, h.2.2.2.2.1⟩
theorem speed_tail {m : Movement_} {k : Int} (hw : wksB m.Works = true) (hs : (speedsR m.Works m.Minute).2 = 0) (hk : inArb m.Works k = true) : atI (speedsR m.Works m.Minute).1 k = some (getR (speedsR m.Works m.Minute).1 k) ∧ KnR (getR (speedsR m.Works m.Minute).1 k) := by
  have h1 := speedsR_ok hw hs
  have h2 := of_decide_eq_true hk
  obtain ⟨g, gm, _⟩ := getR_at (sp := (speedsR m.Works m.Minute).1) h2.1 (by rw [h1.1]; exact h2.2)
  exact ⟨g, h1.2 _ gm⟩
theorem speedR_kn {m : Movement_} {k : Int} (h : (speedR m k).2 = 0) : KnR (speedR m k).1 := by
  unfold speedR at h ⊢
  by_cases hv : movB m = true
  · rw [if_pos hv] at h ⊢
    by_cases hs : (speedsR m.Works m.Minute).2 = 0
    · rw [if_pos hs] at h ⊢
      by_cases hk : inArb m.Works k = true
      · rw [if_pos hk]; exact (speed_tail (movB_wks hv).1 hs hk).2
      · rw [if_neg hk] at h; cases h
    · rw [if_neg hs] at h; cases h
  · rw [if_neg hv] at h; cases h
end Go.Proofs.YtjhadibjjldpdaaGreat
