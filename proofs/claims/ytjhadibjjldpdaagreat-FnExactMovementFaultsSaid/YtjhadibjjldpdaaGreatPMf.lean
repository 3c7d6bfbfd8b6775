/- Plain laws, Mf: the faults of a movement. No program. -/
import Derived.Test.YtjhadibjjldpdaaGreatPFa
import Derived.Test.YtjhadibjjldpdaaGreatXHQ
namespace Go.Proofs.YtjhadibjjldpdaaGreat
set_option linter.unusedVariables false
theorem s_MovementFaults_eq {m : Movement_} (h : smMovement_ m) : s_MovementFaults_m m = some (if movB m = true then faultsR m else [nmMove]) := by
  unfold s_MovementFaults_m
  rw [s_l26Ok_eq h, Option.bind_some]
  cases hv : movB m
  · rfl
  · rw [s_l26Faults_eq h hv]; rfl
theorem faults_len (m : Movement_) : (if movB m = true then faultsR m else [nmMove]).length ≤ 1048576 := by
  unfold faultsR
  (repeat' split) <;> simp
theorem law_movementFaults (p0 : Movement_) (k0 : okMovement_ p0) : l_FnExactMovementFaults_m p0 = some true := by
  unfold l_FnExactMovementFaults_m
  obtain ⟨r, e, l, s⟩ := szMovement_ok k0 1048576 (by omega) (by omega)
  rw [e, Option.bind_some]
  by_cases hr : r < 0
  · rw [if_pos hr]
  · rw [if_neg hr]
    have h0 := s (by omega)
    have hl := faults_len p0
    have hm := markMovement_eq (x := p0) (k := 1) (by omega) (by omega) h0
    rw [toMovement_eq h0, Option.bind_some, s_MovementFaults_eq h0, Option.bind_some, Option.bind_some, i_MovementFaults_eq h0, Option.bind_some]
    have hi := i_MovementFaults_eq h0
    generalize (if movB p0 = true then faultsR p0 else [nmMove]) = fs at hl hi ⊢
    have he : l_eqStringS_m fs fs = some true := by
      unfold l_eqStringS_m
      rw [if_neg (by simp), eqS_refl' (by omega)]; rfl
    have hk := markStringS_eq (x := fs) (k := 1) (by omega) (by omega) hl
    have hh := heldStringS_eq (n := fs.length) (k := 1) (by omega) (by omega) hl
    have b0 := endA_b (k := 1) h0.2.1.1
    obtain ⟨g1, g2, g3, g4⟩ : p0.Works.Meshes.length ≤ 1048576 ∧ p0.Calendar.Months.length ≤ 1048576 ∧ p0.Calendar.Rules.length ≤ 1048576 ∧ p0.Cam.length ≤ 1048576 := ⟨h0.2.1.2.1, h0.2.2.2.2.2.2.2.1.2.1.1, h0.2.2.2.2.2.2.2.1.2.2.1.1, h0.2.2.2.2.2.2.2.2.1.1⟩
    simp only [he, hi, hm, hk, hh, eqMovement_refl h0, Option.bind_some, Bool.not_true, Bool.false_eq_true, if_false, List.length_map, List.length_range, accL_len, chk_true]
    rw [if_neg (by omega)]
    simp only [Option.bind_some, Bool.false_eq_true, if_false]
    simp only [Int.not_lt.2 (show 0 ≤ 1 + 1 * (fs.length : Int) by omega), if_false, ne_eq, not_true_eq_false, hi, he, Option.bind_some, Bool.not_true, Bool.false_eq_true]
end Go.Proofs.YtjhadibjjldpdaaGreat
