/- Plain laws, Mv: valid movements, and the count of wheels. No program. -/
import Derived.Test.YtkgeenglafchhaaPCal
import Derived.Test.YtkgeenglafchhaaXHP
namespace Go.Proofs.Ytkgeenglafchhaa
set_option linter.unusedVariables false
def inArb (w : Works_) (k : Int) : Bool := decide (0 ≤ k ∧ k < w.Arbors.length)
/-- a valid movement -/
def movB (m : Movement_) : Bool := nameB m.Name && (wksB m.Works && (inArb m.Works m.Minute && (inArb m.Works m.Hour && (inArb m.Works m.Escape && (toothB m.Teeth && (btw m.Beats 1 36000 && (calB m.Calendar && (camB m.Cam && btw m.Strike 0 2))))))))
theorem smW {w : Works_} (h : smWorks_ w) : w.Arbors.length ≤ 9223372036854775807 ∧ (∀ b ∈ w.Arbors, b.Wheels.length ≤ 9223372036854775807) ∧ w.Meshes.length ≤ 9223372036854775807 := by
  have h1 := h.1.1
  have h2 := h.2.1
  exact ⟨by omega, fun b hb => by have := (h.1.2 b hb).2.1; omega, by omega⟩
theorem i_isArbor_eq {w : Works_} (hl : w.Arbors.length ≤ 9223372036854775807) (k : Int) : i_isArbor_m w k = some (inArb w k) := by
  unfold i_isArbor_m; rw [i_within_eq, Option.bind_some, btw_len hl]; rfl
theorem s_l08Root_eq {w : Works_} (hl : w.Arbors.length ≤ 9223372036854775807) (k : Int) : s_l08Root_m w k = some (inArb w k) := by
  unfold s_l08Root_m; rw [s_l00In_eq, Option.bind_some, btw_len hl]; rfl
theorem i_ValidMovement_eq {m : Movement_} (h : smMovement_ m) : i_ValidMovement_m m = some (movB m) := by
  obtain ⟨_, h2, _, _, _, _, _, h8, h9, _⟩ := h
  obtain ⟨w1, w2, w3⟩ := smW h2
  have c1 := h8.2.1.1
  have c2 := h8.2.2.1.1
  have c3 := h9.1
  unfold i_ValidMovement_m movB
  simp only [i_isArbor_eq w1, i_toothed_eq, i_within_eq, i_IsName_eq, i_ValidWorks_eq w1 w2 w3, i_ValidCalendar_eq (c := m.Calendar) (by omega) (by omega), i_ValidCam_eq (xs := m.Cam) (by omega), Option.bind_some, itA]
  congr 1
  ac_rfl
theorem s_l26Ok_eq {m : Movement_} (h : smMovement_ m) : s_l26Ok_m m = some (movB m) := by
  obtain ⟨_, h2, _, _, _, _, _, h8, h9, _⟩ := h
  obtain ⟨w1, w2, w3⟩ := smW h2
  have c1 := h8.2.1.1
  have c2 := h8.2.2.1.1
  have c3 := h9.1
  unfold s_l26Ok_m movB
  simp only [s_l08Root_eq w1, s_l05Teeth_eq, s_l00In_eq, s_IsName_eq, s_l08Ok_eq w1 w2 w3, s_l15Ok_eq (c := m.Calendar) (by omega) (by omega), s_l17Ok_eq (xs := m.Cam) (by omega), Option.bind_some, itA, itO, itF, Bool.not_or, Bool.not_not]
  congr 1
  ac_rfl
theorem s_ValidMovement_eq {m : Movement_} (h : smMovement_ m) : s_ValidMovement_m m = some (movB m) := by unfold s_ValidMovement_m; rw [s_l26Ok_eq h]; rfl
theorem law_validMovement (p0 : Movement_) (k0 : okMovement_ p0) : l_FnExactValidMovement_m p0 = some true := by
  unfold l_FnExactValidMovement_m
  obtain ⟨r, e, l, s⟩ := szMovement_ok k0 1048576 (by omega) (by omega)
  rw [e, Option.bind_some]
  by_cases hr : r < 0
  · rw [if_pos hr]
  · rw [if_neg hr]
    have h0 := s (by omega)
    simp [toMovement_eq h0, s_ValidMovement_eq h0, i_ValidMovement_eq h0, eqMovement_refl h0]
/-- wheels and teeth so far -/
def cnt1 (s : Int × Int) (t : Int) : Int × Int := (w64 (s.1 + 1), w64 (s.2 + t))
def cntA (s : Int × Int) (a : Arbor_) : Int × Int := a.Wheels.foldl cnt1 s
def countR (m : Movement_) : Int × Int × Int := if movB m = true then ((m.Works.Arbors.foldl cntA (0, 0)).1, (m.Works.Arbors.foldl cntA (0, 0)).2, 0) else (0, 0, 1)
theorem i_cnt_in {xs : List Int} (hl : xs.length ≤ 9223372036854775807) (a b : Int) : loopM (S := Int × Int × Int) (X := Int × Int) (fun s13 => (if s13.2.2 < (xs.length : Int) then ((atI xs s13.2.2).bind fun v14 => some (.inl (w64 (s13.1 + 1), w64 (s13.2.1 + v14), w64 (s13.2.2 + 1)))) else some (.inr (s13.1, s13.2.1)))) (a, b, 0) = some (xs.foldl cnt1 (a, b)) := by
  have := loop_for (xs := xs) (step := fun s13 => (if s13.2.2 < (xs.length : Int) then ((atI xs s13.2.2).bind fun v14 => some (.inl (w64 (s13.1 + 1), w64 (s13.2.1 + v14), w64 (s13.2.2 + 1)))) else some (.inr (s13.1, s13.2.1)))) (fun i (s : Int × Int) => (s.1, s.2, i)) (fun _ t s => some (.inl (cnt1 s t))) id hl (fun i hi s => by
    have hi' : (i : Int) < xs.length := by omega
    have e1 : w64 ((i : Int) + 1) = i + 1 := w64_in (by omega) (by omega)
    simp only [if_pos hi', atI_lt hi, Option.bind_some, e1]; rfl) (fun s => by simp) (a, b)
  rw [this, forL_fold cnt1 (fun _ _ _ => rfl)]; rfl
theorem i_WheelCount_eq {m : Movement_} (h : smMovement_ m) : i_WheelCount_m m = some (countR m) := by
  have hl := h.2.1.1.1
  unfold i_WheelCount_m countR
  rw [i_ValidMovement_eq h, Option.bind_some]
  cases movB m
  · rfl
  · have := loop_for (xs := m.Works.Arbors) (step := fun s9 => (if s9.2.2 < (m.Works.Arbors.length : Int) then ((((atI m.Works.Arbors s9.2.2).bind fun v10 => loopM (S := Int × Int × Int) (X := Int × Int) (fun s13 => (if s13.2.2 < (v10.Wheels.length : Int) then ((atI v10.Wheels s13.2.2).bind fun v14 => some (.inl (w64 (s13.1 + 1), w64 (s13.2.1 + v14), w64 (s13.2.2 + 1)))) else some (.inr (s13.1, s13.2.1)))) (s9.1, s9.2.1, 0)) : Option (Int × Int)).bind fun v15 => some (.inl (v15.1, v15.2, w64 (s9.2.2 + 1)))) else some (.inr (s9.1, s9.2.1)))) (fun i (s : Int × Int) => (s.1, s.2, i)) (fun _ a s => some (.inl (cntA s a))) id (by omega) (fun i hi s => by
      have hi' : (i : Int) < m.Works.Arbors.length := by omega
      have e1 : w64 ((i : Int) + 1) = i + 1 := w64_in (by omega) (by omega)
      have hw := (h.2.1.1.2 _ (List.getElem_mem hi)).2.1
      simp only [if_pos hi', atI_lt hi, Option.bind_some, e1]
      rw [i_cnt_in (by omega)]; rfl) (fun s => by simp) (0, 0)
    simp only [Bool.not_true, Bool.false_eq_true, if_false, if_true]
    rw [this, forL_fold cntA (fun _ _ _ => rfl)]; rfl
theorem s_WheelCount_eq {m : Movement_} (h : smMovement_ m) : s_WheelCount_m m = some (countR m) := by
  have hl := h.2.1.1.1
  unfold s_WheelCount_m countR
  rw [s_l26Ok_eq h, Option.bind_some]
  cases movB m
  · rfl
  · have := loop_for (xs := m.Works.Arbors) (step := fun s12 => (if s12.2.2 < (m.Works.Arbors.length : Int) then ((loopM (S := Int × Int × Int) (X := Int × Int) (fun s17 => ((atI m.Works.Arbors s12.2.2).bind fun v18 => (if s17.2.2 < (v18.Wheels.length : Int) then ((atI m.Works.Arbors s12.2.2).bind fun v19 => ((atI v19.Wheels s17.2.2).bind fun v20 => some (.inl (w64 (s17.1 + 1), w64 (s17.2.1 + v20), w64 (s17.2.2 + 1))))) else some (.inr (s17.1, s17.2.1))))) (s12.1, s12.2.1, 0) : Option (Int × Int)).bind fun v21 => some (.inl (v21.1, v21.2, w64 (s12.2.2 + 1)))) else some (.inr (s12.1, s12.2.1)))) (fun i (s : Int × Int) => (s.1, s.2, i)) (fun _ a s => some (.inl (cntA s a))) id (by omega) (fun i hi s => by
      have hi' : (i : Int) < m.Works.Arbors.length := by omega
      have e1 : w64 ((i : Int) + 1) = i + 1 := w64_in (by omega) (by omega)
      have hw := (h.2.1.1.2 _ (List.getElem_mem hi)).2.1
      simp only [if_pos hi', atI_lt hi, Option.bind_some, e1]
      rw [i_cnt_in (by omega)]; rfl) (fun s => by simp) (0, 0)
    simp only [Bool.not_true, Bool.false_eq_true, if_false, if_true]
    rw [this, forL_fold cntA (fun _ _ _ => rfl)]; rfl
theorem law_wheelCount (p0 : Movement_) (k0 : okMovement_ p0) : l_FnExactWheelCount_m p0 = some true := by
  unfold l_FnExactWheelCount_m
  obtain ⟨r, e, l, s⟩ := szMovement_ok k0 1048576 (by omega) (by omega)
  rw [e, Option.bind_some]
  by_cases hr : r < 0
  · rw [if_pos hr]
  · rw [if_neg hr]
    have h0 := s (by omega)
    simp [toMovement_eq h0, s_WheelCount_eq h0, i_WheelCount_eq h0, eqMovement_refl h0]
end Go.Proofs.Ytkgeenglafchhaa
