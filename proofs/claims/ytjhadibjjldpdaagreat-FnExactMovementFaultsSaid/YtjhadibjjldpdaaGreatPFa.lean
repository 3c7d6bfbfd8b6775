/- Plain laws, Fa: faults of movements, simulations that are valid, hands. No program. -/
import Derived.Test.YtjhadibjjldpdaaGreatPPp
import Derived.Test.YtjhadibjjldpdaaGreatPSr
namespace Go.Proofs.YtjhadibjjldpdaaGreat
set_option linter.unusedVariables false
def nmWorks : ByteArray := ⟨#[119, 111, 114, 107, 115]⟩
def nmHour : ByteArray := ⟨#[104, 111, 117, 114]⟩
def nmBeats : ByteArray := ⟨#[98, 101, 97, 116, 115]⟩
def nmCam : ByteArray := ⟨#[99, 97, 109]⟩
def nmMove : ByteArray := ⟨#[109, 111, 118, 101, 109, 101, 110, 116]⟩
def beatsB (m : Movement_) (v : Ratio_) : Bool := decide (w64 (w64 (2 * m.Teeth) * absI v.Num) = w64 (m.Beats * v.Den))
/-- the faults of a valid movement -/
def faultsR (m : Movement_) : List ByteArray :=
  (if (speedsR m.Works m.Minute).2 = 0 then (if getR (speedsR m.Works m.Minute).1 m.Hour = ⟨1, 12⟩ then [] else [nmHour]) ++ (if beatsB m (getR (speedsR m.Works m.Minute).1 m.Escape) = true then [] else [nmBeats]) else [nmWorks]) ++ (if (m.Cam.length : Int) % m.Calendar.Months.length = 0 then [] else [nmCam])
theorem movB_cal {m : Movement_} (h : movB m = true) : calB m.Calendar = true ∧ camB m.Cam = true := by
  unfold movB at h
  simp only [Bool.and_eq_true] at h
  exact ⟨h.2.2.2.2.2.2.2.1, h.2.2.2.2.2.2.2.2.1⟩
theorem askC_cal {c : Calendar_} {cam : List Int} (h1 : calB c = true) (h2 : camB cam = true) : askC c cam = if (cam.length : Int) % c.Months.length = 0 then 0 else 6 := by
  unfold askC; rw [h1, h2]; rfl
theorem i_MovementFaults_eq {m : Movement_} (h : smMovement_ m) : i_MovementFaults_m m = some (if movB m = true then faultsR m else [nmMove]) := by
  unfold i_MovementFaults_m faultsR
  obtain ⟨w1, w2, w3⟩ := smW h.2.1
  have hcl : m.Cam.length ≤ 1048576 := h.2.2.2.2.2.2.2.2.1.1
  rw [i_ValidMovement_eq h, Option.bind_some]
  by_cases hv : movB m = true
  · obtain ⟨hw, k1, k2, k3⟩ := movB_wks hv
    obtain ⟨c1, c2⟩ := movB_cal hv
    have cm := (calB_iff c1).2.1
    have hbel : ∀ (x y : Option (List ByteArray)), ((i_belongs_m m.Calendar m.Cam).bind fun v11 => if v11 = 0 then x else y) = if (m.Cam.length : Int) % m.Calendar.Months.length = 0 then y else x := by
      intro x y
      rw [i_belongs_eq cm.1 (by omega), Option.bind_some]
      by_cases h0 : (m.Cam.length : Int) % m.Calendar.Months.length = 0
      · have := askC_ok (c := m.Calendar) (cam := m.Cam) (by rw [askC_cal c1 c2, if_pos h0])
        rw [if_pos h0, if_neg (by omega), if_pos h0]
      · rw [if_neg h0, if_pos rfl, if_neg h0]
    rw [if_pos hv, hv, i_SpeedsOf_eq w1 w2 w3, if_pos hw]
    simp only [Bool.not_true, Bool.false_eq_true, if_false, Option.bind_some, hbel]
    by_cases hs : (speedsR m.Works m.Minute).2 = 0
    · have s2 := speed_tail hw hs k2
      have s3 := speed_tail hw hs k3
      have d3 := ratB_d s3.2.1
      rw [if_neg (by simp [hs]), if_pos hs, s2.1, s3.1]
      simp only [Option.bind_some]
      rw [i_abs_eq (by omega) (by omega)]
      simp only [Option.bind_some]
      unfold beatsB nmHour nmBeats nmCam
      by_cases b1 : getR (speedsR m.Works m.Minute).1 m.Hour = ⟨1, 12⟩ <;> by_cases b2 : w64 (w64 (2 * m.Teeth) * absI (getR (speedsR m.Works m.Minute).1 m.Escape).Num) = w64 (m.Beats * (getR (speedsR m.Works m.Minute).1 m.Escape).Den) <;> by_cases b3 : (m.Cam.length : Int) % m.Calendar.Months.length = 0 <;> simp [b1, b2, b3, chk]
    · rw [if_pos hs, if_neg hs]
      unfold nmWorks nmCam
      by_cases b3 : (m.Cam.length : Int) % m.Calendar.Months.length = 0 <;> simp [b3, chk]
  · rw [if_neg hv, Bool.not_eq_true] at *
    rw [hv]; rfl
theorem s_l26Faults_eq {m : Movement_} (h : smMovement_ m) (hv : movB m = true) : s_l26Faults_m m = some (faultsR m) := by
  unfold s_l26Faults_m faultsR
  have hcl : m.Cam.length ≤ 1048576 := h.2.2.2.2.2.2.2.2.1.1
  have hml : m.Calendar.Months.length ≤ 1048576 := h.2.2.2.2.2.2.2.1.2.1.1
  have hrl : m.Calendar.Rules.length ≤ 1048576 := h.2.2.2.2.2.2.2.1.2.2.1.1
  obtain ⟨hw, k1, k2, k3⟩ := movB_wks hv
  obtain ⟨c1, c2⟩ := movB_cal hv
  have hbel : ∀ (x y : Option (List ByteArray)), ((s_l17Ask_m m.Calendar m.Cam).bind fun v11 => if v11 ≠ 0 then x else y) = if (m.Cam.length : Int) % m.Calendar.Months.length = 0 then y else x := by
    intro x y
    rw [s_l17Ask_eq (by omega) (by omega) (by omega), Option.bind_some, askC_cal c1 c2]
    by_cases h0 : (m.Cam.length : Int) % m.Calendar.Months.length = 0
    · rw [if_pos h0, if_pos h0, if_neg (by decide)]
    · rw [if_neg h0, if_neg h0, if_pos (by decide)]
  rw [s_l08Speeds_eq hw]
  simp only [Option.bind_some, hbel]
  by_cases hs : (speedsR m.Works m.Minute).2 = 0
  · have s2 := speed_tail hw hs k2
    have s3 := speed_tail hw hs k3
    have d3 := ratB_d s3.2.1
    rw [if_neg (by simp [hs]), if_pos hs, s2.1, s3.1]
    unfold s_l26Beats_m
    simp only [Option.bind_some]
    rw [s_l02Size_eq (by omega) (by omega)]
    simp only [Option.bind_some]
    unfold beatsB nmHour nmBeats nmCam
    by_cases b1 : getR (speedsR m.Works m.Minute).1 m.Hour = ⟨1, 12⟩ <;> by_cases b2 : w64 (w64 (2 * m.Teeth) * absI (getR (speedsR m.Works m.Minute).1 m.Escape).Num) = w64 (m.Beats * (getR (speedsR m.Works m.Minute).1 m.Escape).Den) <;> by_cases b3 : (m.Cam.length : Int) % m.Calendar.Months.length = 0 <;> simp [b1, b2, b3, chk]
  · rw [if_pos hs, if_neg hs]
    unfold nmWorks nmCam
    by_cases b3 : (m.Cam.length : Int) % m.Calendar.Months.length = 0 <;> simp [b3, chk]
theorem cloneAny {α : Type} {xs : List α} {k : Nat} (hl : xs.length ≤ 1048576) (hk : k ≤ 100) : (chk ((([] : List α).length + xs.length) * k * 64 ≤ 140737488355328) (some (([] : List α) ++ xs))) = some xs := by
  rw [chk_t ?_, List.nil_append]
  have : (([] : List α).length + xs.length) * k ≤ 1048576 * 100 := Nat.mul_le_mul (by simpa using hl) hk
  omega
theorem i_copyWorks_eq {w : Works_} (h : smWorks_ w) : i_copyWorks_m w = some w := by
  unfold i_copyWorks_m
  have hl := h.1.1
  rw [buildF_ok (xs := w.Arbors) (f := fun a => [a]) (c := 1) (fun v _ => by simp) (fun i hi ys hy => ?_) (fun ys => by simp) (by omega)]
  · simp only [Option.bind_some]
    unfold slices_Clone_LMesh_Mesh_m
    rw [cloneAny h.2.1 (by omega)]
    simp
  · have hi' : (i : Int) < w.Arbors.length := by omega
    have hw := (h.1.2 _ (List.getElem_mem hi)).2.1
    simp only [if_pos hi', atI_lt hi, Option.bind_some, w64_in (x := (i : Int) + 1) (by omega) (by omega)]
    first | unfold slices_Clone_Lint64_int64_m | unfold slices_Clone_Lint64_int64_v_m
    rw [cloneAny hw (by omega), Option.bind_some, chk_t (by simp at hy ⊢; omega)]
theorem i_copyMovement_eq {m : Movement_} (h : smMovement_ m) : i_copyMovement_m m = some m := by
  unfold i_copyMovement_m
  rw [i_copyWorks_eq h.2.1, Option.bind_some]
  unfold slices_Clone_LMonth_Month_m slices_Clone_LLeapRule_LeapRule_m
  rw [cloneAny h.2.2.2.2.2.2.2.1.2.1.1 (by omega), Option.bind_some, cloneAny h.2.2.2.2.2.2.2.1.2.2.1.1 (by omega), Option.bind_some, i_cloneI h.2.2.2.2.2.2.2.2.1.1, Option.bind_some]
def zeroM : Movement_ := ⟨⟨#[]⟩, ⟨[], []⟩, 0, 0, 0, 0, 0, ⟨⟨#[]⟩, [], [], 0⟩, [], 0⟩
def zeroP : Perpetual_ := ⟨[], 0, 0, 0, 0, 0, 0⟩
def zeroS : Sim_ := ⟨zeroM, ⟨0, 0, 0⟩, 0, 0, zeroP⟩
def newR (m : Movement_) (d : Date_) (wd : Int) : Sim_ × Int :=
  if movB m = true then (if faultsR m = [] then (if (setR m.Calendar m.Cam d wd).2 = 0 then (⟨m, d, wd, 0, (setR m.Calendar m.Cam d wd).1⟩, 0) else (zeroS, (setR m.Calendar m.Cam d wd).2)) else (zeroS, 6)) else (zeroS, 1)
theorem smC {m : Movement_} (h : smMovement_ m) : m.Calendar.Months.length ≤ 1048576 ∧ m.Calendar.Rules.length ≤ 1048576 ∧ m.Cam.length ≤ 1048576 := ⟨h.2.2.2.2.2.2.2.1.2.1.1, h.2.2.2.2.2.2.2.1.2.2.1.1, h.2.2.2.2.2.2.2.2.1.1⟩
theorem len_nil {α : Type} {xs : List α} : (0 < (xs.length : Int)) ↔ ¬ xs = [] := by
  cases xs <;> simp
theorem i_NewSim_eq {m : Movement_} (h : smMovement_ m) (d : Date_) (wd : Int) : i_NewSim_m m d wd = some (newR m d wd) := by
  obtain ⟨c1, c2, c3⟩ := smC h
  unfold i_NewSim_m newR
  rw [i_ValidMovement_eq h, Option.bind_some]
  cases hv : movB m
  · rfl
  · rw [i_MovementFaults_eq h, hv]
    simp only [Bool.not_true, Bool.false_eq_true, if_false, if_true, Option.bind_some, len_nil]
    by_cases hf : faultsR m = []
    · rw [if_neg (by simp [hf]), if_pos hf, i_SetPerpetual_eq (by omega) (by omega) c3, Option.bind_some]
      by_cases hs : (setR m.Calendar m.Cam d wd).2 = 0
      · rw [if_neg (by simp [hs]), if_pos hs, i_copyMovement_eq h, Option.bind_some]
      · rw [if_pos hs, if_neg hs]; rfl
    · rw [if_pos hf, if_neg hf]; rfl
/-- a valid simulation -/
def simB (s : Sim_) : Bool := movB s.Movement && (decide (faultsR s.Movement = []) && (decide ((setR s.Movement.Calendar s.Movement.Cam s.Start s.First).2 = 0) && (btw s.Clock 0 1000000000 && (perB s.Dial && (decide (s.Dial.Cam = s.Movement.Cam) && (decide (s.Dial.Months = (setR s.Movement.Calendar s.Movement.Cam s.Start s.First).1.Months) && (decide (s.Dial.Teeth = (setR s.Movement.Calendar s.Movement.Cam s.Start s.First).1.Teeth) && decide (s.Dial.Week = (setR s.Movement.Calendar s.Movement.Cam s.Start s.First).1.Week))))))))
theorem setR_cam {c : Calendar_} {cam : List Int} {d : Date_} {wd : Int} (h : (setR c cam d wd).2 = 0) : (setR c cam d wd).1.Cam = cam := by
  unfold setR at h ⊢
  split
  · rename_i h1
    rw [if_pos h1] at h
    split
    · rfl
    · rename_i h2; rw [if_neg h2] at h; cases h
  · rename_i h1
    rw [if_neg h1] at h
    exact absurd h h1
theorem i_ValidSim_eq {s : Sim_} (h : smSim_ s) : i_ValidSim_m s = some (simB s) := by
  obtain ⟨hm, _, _, _, hd⟩ := h
  have hdl := hd.1.1
  unfold i_ValidSim_m simB
  rw [i_NewSim_eq hm, Option.bind_some]
  unfold newR
  cases hv : movB s.Movement
  · rfl
  · by_cases hf : faultsR s.Movement = []
    · by_cases hs : (setR s.Movement.Calendar s.Movement.Cam s.Start s.First).2 = 0
      · have hc := setR_cam hs
        rw [if_pos rfl, if_pos hf, if_pos hs, decide_eq_true hf, decide_eq_true hs]
        simp only [ne_eq, not_true_eq_false, if_false, i_within_eq, Option.bind_some, i_ValidPerpetual_eq (p := s.Dial) (by omega), itO, hc, i_eqI (xs := s.Dial.Cam) (ys := s.Movement.Cam) (by omega), Bool.true_and]
        simp only [itAp, itA, Bool.decide_eq_true]
        cases btw s.Clock 0 1000000000
        · rfl
        · cases perB s.Dial
          · rfl
          · simp only [Bool.not_true, Bool.or_self, Bool.false_eq_true, if_false, Bool.true_and]
      · rw [if_pos rfl, if_pos hf, if_neg hs, if_pos hs, decide_eq_false hs, decide_eq_true hf]; rfl
    · rw [if_pos rfl, if_neg hf, decide_eq_false hf]; rfl
theorem s_l27Ok_eq {s : Sim_} (h : smSim_ s) : s_l27Ok_m s = some (simB s) := by
  obtain ⟨hm, _, _, _, hd⟩ := h
  have hdl := hd.1.1
  obtain ⟨c1, c2, c3⟩ := smC hm
  unfold s_l27Ok_m simB s_l27Dial_m
  rw [s_l26Ok_eq hm, Option.bind_some]
  cases hv : movB s.Movement
  · rfl
  · rw [s_l26Faults_eq hm hv]
    simp only [Bool.not_true, Bool.false_eq_true, if_false, Option.bind_some, len_nil]
    by_cases hf : faultsR s.Movement = []
    · rw [if_neg (by simp [hf]), decide_eq_true hf]
      simp only [s_l00In_eq, Option.bind_some, s_l18Ok_eq (p := s.Dial) (by omega), itO, s_SetPerpetual_eq (c := s.Movement.Calendar) (cam := s.Movement.Cam) (by omega) (by omega) c3, s_eqI (xs := s.Dial.Cam) (ys := s.Movement.Cam) (by omega), Bool.true_and]
      simp only [itAp, itA, Bool.decide_eq_true]
      cases btw s.Clock 0 1000000000
      · cases decide ((setR s.Movement.Calendar s.Movement.Cam s.Start s.First).2 = 0) <;> rfl
      · cases perB s.Dial
        · cases decide ((setR s.Movement.Calendar s.Movement.Cam s.Start s.First).2 = 0) <;> rfl
        · simp only [Bool.not_true, Bool.or_self, Bool.false_eq_true, if_false, Bool.true_and]
          congr 1
          ac_rfl
    · rw [if_pos hf, Option.bind_some, if_pos rfl, decide_eq_false hf]; rfl
theorem law_validSim (p0 : Sim_) (k0 : okSim_ p0) : l_FnExactValidSim_m p0 = some true := by
  unfold l_FnExactValidSim_m s_ValidSim_m
  obtain ⟨r, e, l, s⟩ := szSim_ok k0 1048576 (by omega) (by omega)
  rw [e, Option.bind_some]
  by_cases hr : r < 0
  · rw [if_pos hr]
  · rw [if_neg hr]
    have h0 := s (by omega)
    simp [toSim_eq h0, s_l27Ok_eq h0, i_ValidSim_eq h0, eqSim_refl h0]
end Go.Proofs.YtjhadibjjldpdaaGreat
