/- Plain laws, Mv: valid movements, and the count of wheels. No program. -/
import Derived.Test.YtjhadibjjldpdaaGreatPCal
import Derived.Test.YtjhadibjjldpdaaGreatXHP
namespace Go.Proofs.YtjhadibjjldpdaaGreat
set_option linter.unusedVariables false
def inArb (w : Works_) (k : Int) : Bool := decide (0 ≤ k ∧ k < w.Arbors.length)
/-- a valid movement -/
def movB (m : Movement_) : Bool := nameB m.Name && (wksB m.Works && (inArb m.Works m.Minute && (inArb m.Works m.Hour && (inArb m.Works m.Escape && (toothB m.Teeth && (btw m.Beats 1 36000 && (calB m.Calendar && (camB m.Cam && btw m.Strike 0 2))))))))
theorem smW {w : Works_} (h : smWorks_ w) : w.Arbors.length ≤ 9223372036854775807 ∧ (∀ b ∈ w.Arbors, b.Wheels.length ≤ 9223372036854775807) ∧ w.Meshes.length ≤ 9223372036854775807 := by
  have h1 := h.1.1
  have h2 := h.2.1
  exact ⟨by omega, fun b hb => by have := (h.1.2 b hb).2.1; omega, by omega⟩
theorem i_isArbor_eq {w : Works_} (hl : w.Arbors.length ≤ 9223372036854775807) (k : Int) : i_isArbor_m w k = some (inArb w k) := by
  unfold i_isArbor_m; rw [i_within_eq, Option.bind_some, btw_len hl]; rfl
theorem s_l08Root_eq {w : Works_} (hl : w.Arbors.length ≤ 9223372036854775807) (k : Int) : s_l08Root_m w k = some (inArb w k) := by
  unfold s_l08Root_m; rw [s_l00In_eq, Option.bind_some, btw_len hl]; rfl
theorem i_ValidMovement_eq {m : Movement_} (h : smMovement_ m) : i_ValidMovement_m m = some (movB m) := by
  obtain ⟨_, h2, _, _, _, _, _, h8, h9, _⟩ := h
  obtain ⟨w1, w2, w3⟩ := smW h2
  have c1 := h8.2.1.1
  have c2 := h8.2.2.1.1
  have c3 := h9.1
  unfold i_ValidMovement_m movB
  simp only [i_isArbor_eq w1, i_toothed_eq, i_within_eq, i_IsName_eq, i_ValidWorks_eq w1 w2 w3, i_ValidCalendar_eq (c := m.Calendar) (by omega) (by omega), i_ValidCam_eq (xs := m.Cam) (by omega), Option.bind_some, itA]
  congr 1
  ac_rfl
theorem s_l26Ok_eq {m : Movement_} (h : smMovement_ m) : s_l26Ok_m m = some (movB m) := by
  obtain ⟨_, h2, _, _, _, _, _, h8, h9, _⟩ := h
  obtain ⟨w1, w2, w3⟩ := smW h2
  have c1 := h8.2.1.1
  have c2 := h8.2.2.1.1
  have c3 := h9.1
  unfold s_l26Ok_m movB
  simp only [s_l08Root_eq w1, s_l05Teeth_eq, s_l00In_eq, s_IsName_eq, s_l08Ok_eq w1 w2 w3, s_l15Ok_eq (c := m.Calendar) (by omega) (by omega), s_l17Ok_eq (xs := m.Cam) (by omega), Option.bind_some, itA, itO, itF, Bool.not_or, Bool.not_not]
  congr 1
  ac_rfl
end Go.Proofs.YtjhadibjjldpdaaGreat
