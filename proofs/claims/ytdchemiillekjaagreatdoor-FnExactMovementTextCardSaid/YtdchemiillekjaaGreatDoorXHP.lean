/- helpers of the laws -/
import Derived.Test.YtdchemiillekjaaGreatDoorPT
import Derived.Test.YtdchemiillekjaaGreatDoorXM
import Derived.Test.YtdchemiillekjaaGreatDoorXOK
namespace Go.Proofs.YtdchemiillekjaaGreatDoor
open Go.RowKit
set_option linter.unusedVariables false
set_option maxRecDepth 100000
set_option maxHeartbeats 2000000
def smArbor_ (x : Arbor_) : Prop := smS x.Name ∧ (smL (fun _ => True)) x.Wheels
def smMesh_ (x : Mesh_) : Prop := (fun _ => True) x.A ∧ (fun _ => True) x.WheelA ∧ (fun _ => True) x.B ∧ (fun _ => True) x.WheelB
def smWorks_ (x : Works_) : Prop := (smL smArbor_) x.Arbors ∧ (smL smMesh_) x.Meshes
def smMonth_ (x : Month_) : Prop := smS x.Name ∧ (fun _ => True) x.Days ∧ (fun _ => True) x.Leap
def smLeapRule_ (x : LeapRule_) : Prop := (fun _ => True) x.Every ∧ (fun _ => True) x.Rest ∧ (fun _ => True) x.Leap
def smCalendar_ (x : Calendar_) : Prop := smS x.Name ∧ (smL smMonth_) x.Months ∧ (smL smLeapRule_) x.Rules ∧ (fun _ => True) x.Week
def smMovement_ (x : Movement_) : Prop := smS x.Name ∧ smWorks_ x.Works ∧ (fun _ => True) x.Minute ∧ (fun _ => True) x.Hour ∧ (fun _ => True) x.Escape ∧ (fun _ => True) x.Teeth ∧ (fun _ => True) x.Beats ∧ smCalendar_ x.Calendar ∧ (smL (fun _ => True)) x.Cam ∧ (fun _ => True) x.Strike
theorem toInt64S_eq {x : List Int} (h : (smL (fun _ => True)) x) : l_toInt64S_m x = some x := by
  unfold l_toInt64S_m
  rw [chk_t (by have := h.1; omega), toS_id' (by have := h.1; omega)]; rfl
theorem toArbor_eq {x : Arbor_} (h : smArbor_ x) : l_toArbor_m x = some x := by
  unfold l_toArbor_m
  simp only [toInt64S_eq h.2, Option.bind_some]
theorem toArborS_eq {x : List Arbor_} (h : (smL smArbor_) x) : l_toArborS_m x = some x := by
  unfold l_toArborS_m
  rw [chk_t (by have := h.1; omega), toS_id (by have := h.1; omega) fun v hv => toArbor_eq (h.2 v hv)]; rfl
theorem toMesh_eq {x : Mesh_} (h : smMesh_ x) : l_toMesh_m x = some x := rfl
theorem toMeshS_eq {x : List Mesh_} (h : (smL smMesh_) x) : l_toMeshS_m x = some x := by
  unfold l_toMeshS_m
  rw [chk_t (by have := h.1; omega), toS_id (by have := h.1; omega) fun v hv => toMesh_eq (h.2 v hv)]; rfl
theorem toWorks_eq {x : Works_} (h : smWorks_ x) : l_toWorks_m x = some x := by
  unfold l_toWorks_m
  simp only [toArborS_eq h.1, toMeshS_eq h.2, Option.bind_some]
theorem toMonth_eq {x : Month_} (h : smMonth_ x) : l_toMonth_m x = some x := rfl
theorem toMonthS_eq {x : List Month_} (h : (smL smMonth_) x) : l_toMonthS_m x = some x := by
  unfold l_toMonthS_m
  rw [chk_t (by have := h.1; omega), toS_id (by have := h.1; omega) fun v hv => toMonth_eq (h.2 v hv)]; rfl
theorem toLeapRule_eq {x : LeapRule_} (h : smLeapRule_ x) : l_toLeapRule_m x = some x := rfl
theorem toLeapRuleS_eq {x : List LeapRule_} (h : (smL smLeapRule_) x) : l_toLeapRuleS_m x = some x := by
  unfold l_toLeapRuleS_m
  rw [chk_t (by have := h.1; omega), toS_id (by have := h.1; omega) fun v hv => toLeapRule_eq (h.2 v hv)]; rfl
theorem toCalendar_eq {x : Calendar_} (h : smCalendar_ x) : l_toCalendar_m x = some x := by
  unfold l_toCalendar_m
  simp only [toMonthS_eq h.2.1, toLeapRuleS_eq h.2.2.1, Option.bind_some]
theorem toMovement_eq {x : Movement_} (h : smMovement_ x) : l_toMovement_m x = some x := by
  unfold l_toMovement_m
  simp only [toWorks_eq h.2.1, toCalendar_eq h.2.2.2.2.2.2.2.1, toInt64S_eq h.2.2.2.2.2.2.2.2.1, Option.bind_some]
theorem szInt64S_ok {x : List Int} (h : (osL osI) x) (l : Int) (h0 : 0 ≤ l) (h1 : l ≤ 1048576) : ∃ r, l_szInt64S_m x l = some r ∧ r ≤ l ∧ (0 ≤ r → (smL (fun _ => True)) x) := by
  obtain ⟨hl, hm⟩ := h
  unfold l_szInt64S_m
  rw [w64_in (by omega) (by omega)]
  split
  · exact ⟨_, rfl, by omega, by omega⟩
  · exact ⟨_, rfl, by omega, fun _ => ⟨by omega, fun _ _ => trivial⟩⟩
theorem szArbor_ok {x : Arbor_} (h : okArbor_ x) (l : Int) (h0 : 0 ≤ l) (h1 : l ≤ 1048576) : ∃ r, l_szArbor_m x l = some r ∧ r ≤ l ∧ (0 ≤ r → smArbor_ x) := by
  unfold l_szArbor_m
  have g0 := h.1
  unfold osS at g0
  rw [w64_in (x := l - (x.Name.size : Int)) (by omega) (by omega)]
  by_cases c0 : l - (x.Name.size : Int) < 0
  · rw [if_pos c0]; exact ⟨-1, rfl, by omega, by omega⟩
  rw [if_neg c0]
  obtain ⟨r0, hr0⟩ : ∃ r : Int, r = l - (x.Name.size : Int) := ⟨_, rfl⟩
  rw [← hr0] at c0 ⊢
  obtain ⟨r1, e1, f1, s1⟩ := szInt64S_ok h.2 r0 (by omega) (by omega)
  rw [e1]
  simp only [Option.bind_some]
  by_cases c1 : r1 < 0
  · simp only [if_pos c1]; exact ⟨_, rfl, by omega, by omega⟩
  simp only [if_neg c1]
  exact ⟨_, rfl, by omega, fun _ => ⟨(show smS x.Name by unfold smS; omega), s1 (by omega)⟩⟩
theorem szArborS_ok {x : List Arbor_} (h : (osL okArbor_) x) (l : Int) (h0 : 0 ≤ l) (h1 : l ≤ 1048576) : ∃ r, l_szArborS_m x l = some r ∧ r ≤ l ∧ (0 ≤ r → (smL smArbor_) x) := by
  obtain ⟨hl, hm⟩ := h
  unfold l_szArborS_m
  by_cases hq : w64 (l - (x.length : Int)) < 0
  · rw [if_pos hq]; exact ⟨-1, rfl, by omega, by omega⟩
  · rw [if_neg hq]
    rw [w64_in (by omega) (by omega)] at hq ⊢
    obtain ⟨y, hy, hp⟩ := szS_ok hl (sm := smArbor_) (fun v hv a b c => szArbor_ok (hm v hv) a b c) (l - x.length) (by omega) (by omega)
    rw [hy]
    rcases hp with rfl | ⟨r, rfl, e1, e2, e3⟩
    · exact ⟨-1, rfl, by omega, by omega⟩
    · exact ⟨r, rfl, by omega, fun _ => ⟨by omega, e3⟩⟩
theorem szMeshS_ok {x : List Mesh_} (h : (osL okMesh_) x) (l : Int) (h0 : 0 ≤ l) (h1 : l ≤ 1048576) : ∃ r, l_szMeshS_m x l = some r ∧ r ≤ l ∧ (0 ≤ r → (smL smMesh_) x) := by
  obtain ⟨hl, hm⟩ := h
  unfold l_szMeshS_m
  rw [w64_in (by omega) (by omega)]
  split
  · exact ⟨_, rfl, by omega, by omega⟩
  · exact ⟨_, rfl, by omega, fun _ => ⟨by omega, fun _ _ => by simp [smMesh_]⟩⟩
theorem szWorks_ok {x : Works_} (h : okWorks_ x) (l : Int) (h0 : 0 ≤ l) (h1 : l ≤ 1048576) : ∃ r, l_szWorks_m x l = some r ∧ r ≤ l ∧ (0 ≤ r → smWorks_ x) := by
  unfold l_szWorks_m
  obtain ⟨r0, e0, f0, s0⟩ := szArborS_ok h.1 l (by omega) (by omega)
  rw [e0]
  simp only [Option.bind_some]
  by_cases c0 : r0 < 0
  · simp only [if_pos c0]; exact ⟨_, rfl, by omega, by omega⟩
  simp only [if_neg c0]
  obtain ⟨r1, e1, f1, s1⟩ := szMeshS_ok h.2 r0 (by omega) (by omega)
  rw [e1]
  simp only [Option.bind_some]
  by_cases c1 : r1 < 0
  · simp only [if_pos c1]; exact ⟨_, rfl, by omega, by omega⟩
  simp only [if_neg c1]
  exact ⟨_, rfl, by omega, fun _ => ⟨s0 (by omega), s1 (by omega)⟩⟩
theorem szMonth_ok {x : Month_} (h : okMonth_ x) (l : Int) (h0 : 0 ≤ l) (h1 : l ≤ 1048576) : ∃ r, l_szMonth_m x l = some r ∧ r ≤ l ∧ (0 ≤ r → smMonth_ x) := by
  unfold l_szMonth_m
  have g0 := h.1
  unfold osS at g0
  rw [w64_in (x := l - (x.Name.size : Int)) (by omega) (by omega)]
  by_cases c0 : l - (x.Name.size : Int) < 0
  · rw [if_pos c0]; exact ⟨-1, rfl, by omega, by omega⟩
  rw [if_neg c0]
  obtain ⟨r0, hr0⟩ : ∃ r : Int, r = l - (x.Name.size : Int) := ⟨_, rfl⟩
  rw [← hr0] at c0 ⊢
  exact ⟨_, rfl, by omega, fun _ => ⟨(show smS x.Name by unfold smS; omega), trivial, trivial⟩⟩
theorem szMonthS_ok {x : List Month_} (h : (osL okMonth_) x) (l : Int) (h0 : 0 ≤ l) (h1 : l ≤ 1048576) : ∃ r, l_szMonthS_m x l = some r ∧ r ≤ l ∧ (0 ≤ r → (smL smMonth_) x) := by
  obtain ⟨hl, hm⟩ := h
  unfold l_szMonthS_m
  by_cases hq : w64 (l - (x.length : Int)) < 0
  · rw [if_pos hq]; exact ⟨-1, rfl, by omega, by omega⟩
  · rw [if_neg hq]
    rw [w64_in (by omega) (by omega)] at hq ⊢
    obtain ⟨y, hy, hp⟩ := szS_ok hl (sm := smMonth_) (fun v hv a b c => szMonth_ok (hm v hv) a b c) (l - x.length) (by omega) (by omega)
    rw [hy]
    rcases hp with rfl | ⟨r, rfl, e1, e2, e3⟩
    · exact ⟨-1, rfl, by omega, by omega⟩
    · exact ⟨r, rfl, by omega, fun _ => ⟨by omega, e3⟩⟩
theorem szLeapRuleS_ok {x : List LeapRule_} (h : (osL okLeapRule_) x) (l : Int) (h0 : 0 ≤ l) (h1 : l ≤ 1048576) : ∃ r, l_szLeapRuleS_m x l = some r ∧ r ≤ l ∧ (0 ≤ r → (smL smLeapRule_) x) := by
  obtain ⟨hl, hm⟩ := h
  unfold l_szLeapRuleS_m
  rw [w64_in (by omega) (by omega)]
  split
  · exact ⟨_, rfl, by omega, by omega⟩
  · exact ⟨_, rfl, by omega, fun _ => ⟨by omega, fun _ _ => by simp [smLeapRule_]⟩⟩
theorem szCalendar_ok {x : Calendar_} (h : okCalendar_ x) (l : Int) (h0 : 0 ≤ l) (h1 : l ≤ 1048576) : ∃ r, l_szCalendar_m x l = some r ∧ r ≤ l ∧ (0 ≤ r → smCalendar_ x) := by
  unfold l_szCalendar_m
  have g0 := h.1
  unfold osS at g0
  rw [w64_in (x := l - (x.Name.size : Int)) (by omega) (by omega)]
  by_cases c0 : l - (x.Name.size : Int) < 0
  · rw [if_pos c0]; exact ⟨-1, rfl, by omega, by omega⟩
  rw [if_neg c0]
  obtain ⟨r0, hr0⟩ : ∃ r : Int, r = l - (x.Name.size : Int) := ⟨_, rfl⟩
  rw [← hr0] at c0 ⊢
  obtain ⟨r1, e1, f1, s1⟩ := szMonthS_ok h.2.1 r0 (by omega) (by omega)
  rw [e1]
  simp only [Option.bind_some]
  by_cases c1 : r1 < 0
  · simp only [if_pos c1]; exact ⟨_, rfl, by omega, by omega⟩
  simp only [if_neg c1]
  obtain ⟨r2, e2, f2, s2⟩ := szLeapRuleS_ok h.2.2.1 r1 (by omega) (by omega)
  rw [e2]
  simp only [Option.bind_some]
  by_cases c2 : r2 < 0
  · simp only [if_pos c2]; exact ⟨_, rfl, by omega, by omega⟩
  simp only [if_neg c2]
  exact ⟨_, rfl, by omega, fun _ => ⟨(show smS x.Name by unfold smS; omega), s1 (by omega), s2 (by omega), trivial⟩⟩
theorem szMovement_ok {x : Movement_} (h : okMovement_ x) (l : Int) (h0 : 0 ≤ l) (h1 : l ≤ 1048576) : ∃ r, l_szMovement_m x l = some r ∧ r ≤ l ∧ (0 ≤ r → smMovement_ x) := by
  unfold l_szMovement_m
  have g0 := h.1
  unfold osS at g0
  rw [w64_in (x := l - (x.Name.size : Int)) (by omega) (by omega)]
  by_cases c0 : l - (x.Name.size : Int) < 0
  · rw [if_pos c0]; exact ⟨-1, rfl, by omega, by omega⟩
  rw [if_neg c0]
  obtain ⟨r0, hr0⟩ : ∃ r : Int, r = l - (x.Name.size : Int) := ⟨_, rfl⟩
  rw [← hr0] at c0 ⊢
  obtain ⟨r1, e1, f1, s1⟩ := szWorks_ok h.2.1 r0 (by omega) (by omega)
  rw [e1]
  simp only [Option.bind_some]
  by_cases c1 : r1 < 0
  · simp only [if_pos c1]; exact ⟨_, rfl, by omega, by omega⟩
  simp only [if_neg c1]
  obtain ⟨r2, e2, f2, s2⟩ := szCalendar_ok h.2.2.2.2.2.2.2.1 r1 (by omega) (by omega)
  rw [e2]
  simp only [Option.bind_some]
  by_cases c2 : r2 < 0
  · simp only [if_pos c2]; exact ⟨_, rfl, by omega, by omega⟩
  simp only [if_neg c2]
  obtain ⟨r3, e3, f3, s3⟩ := szInt64S_ok h.2.2.2.2.2.2.2.2.1 r2 (by omega) (by omega)
  rw [e3]
  simp only [Option.bind_some]
  by_cases c3 : r3 < 0
  · simp only [if_pos c3]; exact ⟨_, rfl, by omega, by omega⟩
  simp only [if_neg c3]
  exact ⟨_, rfl, by omega, fun _ => ⟨(show smS x.Name by unfold smS; omega), s1 (by omega), trivial, trivial, trivial, trivial, trivial, s2 (by omega), s3 (by omega), trivial⟩⟩
theorem eqInt64S_refl {x : List Int} (h : (smL (fun _ => True)) x) : l_eqInt64S_m x x = some true := by
  unfold l_eqInt64S_m
  rw [if_neg (by simp), eqS_refl' (by have := h.1; omega)]; rfl
theorem eqArbor_refl {x : Arbor_} (h : smArbor_ x) : l_eqArbor_m x x = some true := by
  unfold l_eqArbor_m
  simp [eqInt64S_refl h.2]
theorem eqArborS_refl {x : List Arbor_} (h : (smL smArbor_) x) : l_eqArborS_m x x = some true := by
  unfold l_eqArborS_m
  rw [if_neg (by simp), eqS_refl (by have := h.1; omega) fun v hv => eqArbor_refl (h.2 v hv)]; rfl
theorem eqMesh_refl {x : Mesh_} (h : smMesh_ x) : l_eqMesh_m x x = some true := by
  unfold l_eqMesh_m
  simp []
theorem eqMeshS_refl {x : List Mesh_} (h : (smL smMesh_) x) : l_eqMeshS_m x x = some true := by
  unfold l_eqMeshS_m
  rw [if_neg (by simp), eqS_refl (by have := h.1; omega) fun v hv => eqMesh_refl (h.2 v hv)]; rfl
theorem eqWorks_refl {x : Works_} (h : smWorks_ x) : l_eqWorks_m x x = some true := by
  unfold l_eqWorks_m
  simp [eqArborS_refl h.1, eqMeshS_refl h.2]
theorem eqMonth_refl {x : Month_} (h : smMonth_ x) : l_eqMonth_m x x = some true := by
  unfold l_eqMonth_m
  simp []
theorem eqMonthS_refl {x : List Month_} (h : (smL smMonth_) x) : l_eqMonthS_m x x = some true := by
  unfold l_eqMonthS_m
  rw [if_neg (by simp), eqS_refl (by have := h.1; omega) fun v hv => eqMonth_refl (h.2 v hv)]; rfl
theorem eqLeapRule_refl {x : LeapRule_} (h : smLeapRule_ x) : l_eqLeapRule_m x x = some true := by
  unfold l_eqLeapRule_m
  simp []
theorem eqLeapRuleS_refl {x : List LeapRule_} (h : (smL smLeapRule_) x) : l_eqLeapRuleS_m x x = some true := by
  unfold l_eqLeapRuleS_m
  rw [if_neg (by simp), eqS_refl (by have := h.1; omega) fun v hv => eqLeapRule_refl (h.2 v hv)]; rfl
theorem eqCalendar_refl {x : Calendar_} (h : smCalendar_ x) : l_eqCalendar_m x x = some true := by
  unfold l_eqCalendar_m
  simp [eqMonthS_refl h.2.1, eqLeapRuleS_refl h.2.2.1]
theorem eqMovement_refl {x : Movement_} (h : smMovement_ x) : l_eqMovement_m x x = some true := by
  unfold l_eqMovement_m
  simp [eqWorks_refl h.2.1, eqCalendar_refl h.2.2.2.2.2.2.2.1, eqInt64S_refl h.2.2.2.2.2.2.2.2.1]
end Go.Proofs.YtdchemiillekjaaGreatDoor
