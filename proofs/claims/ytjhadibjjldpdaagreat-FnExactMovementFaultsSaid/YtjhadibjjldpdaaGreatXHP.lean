/- helpers of the laws -/
import Derived.Test.YtjhadibjjldpdaaGreatPT
import Derived.Test.YtjhadibjjldpdaaGreatXM
import Derived.Test.YtjhadibjjldpdaaGreatXOK
namespace Go.Proofs.YtjhadibjjldpdaaGreat
open Go.RowKit
set_option linter.unusedVariables false
set_option maxRecDepth 100000
set_option maxHeartbeats 2000000
def smArbor_ (x : Arbor_) : Prop := smS x.Name ∧ (smL (fun _ => True)) x.Wheels
def smMesh_ (x : Mesh_) : Prop := (fun _ => True) x.A ∧ (fun _ => True) x.WheelA ∧ (fun _ => True) x.B ∧ (fun _ => True) x.WheelB
def smWorks_ (x : Works_) : Prop := (smL smArbor_) x.Arbors ∧ (smL smMesh_) x.Meshes
def smMonth_ (x : Month_) : Prop := smS x.Name ∧ (fun _ => True) x.Days ∧ (fun _ => True) x.Leap
def smLeapRule_ (x : LeapRule_) : Prop := (fun _ => True) x.Every ∧ (fun _ => True) x.Rest ∧ (fun _ => True) x.Leap
def smCalendar_ (x : Calendar_) : Prop := smS x.Name ∧ (smL smMonth_) x.Months ∧ (smL smLeapRule_) x.Rules ∧ (fun _ => True) x.Week
def smMovement_ (x : Movement_) : Prop := smS x.Name ∧ smWorks_ x.Works ∧ (fun _ => True) x.Minute ∧ (fun _ => True) x.Hour ∧ (fun _ => True) x.Escape ∧ (fun _ => True) x.Teeth ∧ (fun _ => True) x.Beats ∧ smCalendar_ x.Calendar ∧ (smL (fun _ => True)) x.Cam ∧ (fun _ => True) x.Strike
theorem toInt64S_eq {x : List Int} (h : (smL (fun _ => True)) x) : l_toInt64S_m x = some x := by
  unfold l_toInt64S_m
  rw [chk_t (by have := h.1; omega), toS_id' (by have := h.1; omega)]; rfl
theorem toArbor_eq {x : Arbor_} (h : smArbor_ x) : l_toArbor_m x = some x := by
  unfold l_toArbor_m
  simp only [toInt64S_eq h.2, Option.bind_some]
theorem toArborS_eq {x : List Arbor_} (h : (smL smArbor_) x) : l_toArborS_m x = some x := by
  unfold l_toArborS_m
  rw [chk_t (by have := h.1; omega), toS_id (by have := h.1; omega) fun v hv => toArbor_eq (h.2 v hv)]; rfl
theorem toMesh_eq {x : Mesh_} (h : smMesh_ x) : l_toMesh_m x = some x := rfl
theorem toMeshS_eq {x : List Mesh_} (h : (smL smMesh_) x) : l_toMeshS_m x = some x := by
  unfold l_toMeshS_m
  rw [chk_t (by have := h.1; omega), toS_id (by have := h.1; omega) fun v hv => toMesh_eq (h.2 v hv)]; rfl
theorem toWorks_eq {x : Works_} (h : smWorks_ x) : l_toWorks_m x = some x := by
  unfold l_toWorks_m
  simp only [toArborS_eq h.1, toMeshS_eq h.2, Option.bind_some]
theorem toMonth_eq {x : Month_} (h : smMonth_ x) : l_toMonth_m x = some x := rfl
theorem toMonthS_eq {x : List Month_} (h : (smL smMonth_) x) : l_toMonthS_m x = some x := by
  unfold l_toMonthS_m
  rw [chk_t (by have := h.1; omega), toS_id (by have := h.1; omega) fun v hv => toMonth_eq (h.2 v hv)]; rfl
theorem toLeapRule_eq {x : LeapRule_} (h : smLeapRule_ x) : l_toLeapRule_m x = some x := rfl
theorem toLeapRuleS_eq {x : List LeapRule_} (h : (smL smLeapRule_) x) : l_toLeapRuleS_m x = some x := by
  unfold l_toLeapRuleS_m
  rw [chk_t (by have := h.1; omega), toS_id (by have := h.1; omega) fun v hv => toLeapRule_eq (h.2 v hv)]; rfl
theorem toCalendar_eq {x : Calendar_} (h : smCalendar_ x) : l_toCalendar_m x = some x := by
  unfold l_toCalendar_m
  simp only [toMonthS_eq h.2.1, toLeapRuleS_eq h.2.2.1, Option.bind_some]
theorem toMovement_eq {x : Movement_} (h : smMovement_ x) : l_toMovement_m x = some x := by
  unfold l_toMovement_m
  simp only [toWorks_eq h.2.1, toCalendar_eq h.2.2.2.2.2.2.2.1, toInt64S_eq h.2.2.2.2.2.2.2.2.1, Option.bind_some]
theorem szInt64S_ok {x : List Int} (h : (osL osI) x) (l : Int) (h0 : 0 ≤ l) (h1 : l ≤ 1048576) : ∃ r, l_szInt64S_m x l = some r ∧ r ≤ l ∧ (0 ≤ r → (smL (fun _ => True)) x) := by
  obtain ⟨hl, hm⟩ := h
  unfold l_szInt64S_m
  rw [w64_in (by omega) (by omega)]
  split
  · exact ⟨_, rfl, by omega, by omega⟩
  · exact ⟨_, rfl, by omega, fun _ => ⟨by omega, fun _ _ => trivial⟩⟩
theorem szArbor_ok {x : Arbor_} (h : okArbor_ x) (l : Int) (h0 : 0 ≤ l) (h1 : l ≤ 1048576) : ∃ r, l_szArbor_m x l = some r ∧ r ≤ l ∧ (0 ≤ r → smArbor_ x) := by
  unfold l_szArbor_m
  have g0 := h.1
  unfold osS at g0
  rw [w64_in (x := l - (x.Name.size : Int)) (by omega) (by omega)]
  by_cases c0 : l - (x.Name.size : Int) < 0
  · rw [if_pos c0]; exact ⟨-1, rfl, by omega, by omega⟩
  rw [if_neg c0]
  obtain ⟨r0, hr0⟩ : ∃ r : Int, r = l - (x.Name.size : Int) := ⟨_, rfl⟩
  rw [← hr0] at c0 ⊢
  obtain ⟨r1, e1, f1, s1⟩ := szInt64S_ok h.2 r0 (by omega) (by omega)
  rw [e1]
  simp only [Option.bind_some]
  by_cases c1 : r1 < 0
  · simp only [if_pos c1]; exact ⟨_, rfl, by omega, by omega⟩
  simp only [if_neg c1]
  exact ⟨_, rfl, by omega, fun _ => ⟨(show smS x.Name by unfold smS; omega), s1 (by omega)⟩⟩
theorem szArborS_ok {x : List Arbor_} (h : (osL okArbor_) x) (l : Int) (h0 : 0 ≤ l) (h1 : l ≤ 1048576) : ∃ r, l_szArborS_m x l = some r ∧ r ≤ l ∧ (0 ≤ r → (smL smArbor_) x) := by
  obtain ⟨hl, hm⟩ := h
  unfold l_szArborS_m
  by_cases hq : w64 (l - (x.length : Int)) < 0
  · rw [if_pos hq]; exact ⟨-1, rfl, by omega, by omega⟩
  · rw [if_neg hq]
    rw [w64_in (by omega) (by omega)] at hq ⊢
    obtain ⟨y, hy, hp⟩ := szS_ok hl (sm := smArbor_) (fun v hv a b c => szArbor_ok (hm v hv) a b c) (l - x.length) (by omega) (by omega)
    rw [hy]
    rcases hp with rfl | ⟨r, rfl, e1, e2, e3⟩
    · exact ⟨-1, rfl, by omega, by omega⟩
    · exact ⟨r, rfl, by omega, fun _ => ⟨by omega, e3⟩⟩
theorem szMeshS_ok {x : List Mesh_} (h : (osL okMesh_) x) (l : Int) (h0 : 0 ≤ l) (h1 : l ≤ 1048576) : ∃ r, l_szMeshS_m x l = some r ∧ r ≤ l ∧ (0 ≤ r → (smL smMesh_) x) := by
  obtain ⟨hl, hm⟩ := h
  unfold l_szMeshS_m
  rw [w64_in (by omega) (by omega)]
  split
  · exact ⟨_, rfl, by omega, by omega⟩
  · exact ⟨_, rfl, by omega, fun _ => ⟨by omega, fun _ _ => by simp [smMesh_]⟩⟩
theorem szWorks_ok {x : Works_} (h : okWorks_ x) (l : Int) (h0 : 0 ≤ l) (h1 : l ≤ 1048576) : ∃ r, l_szWorks_m x l = some r ∧ r ≤ l ∧ (0 ≤ r → smWorks_ x) := by
  unfold l_szWorks_m
  obtain ⟨r0, e0, f0, s0⟩ := szArborS_ok h.1 l (by omega) (by omega)
  rw [e0]
  simp only [Option.bind_some]
  by_cases c0 : r0 < 0
  · simp only [if_pos c0]; exact ⟨_, rfl, by omega, by omega⟩
  simp only [if_neg c0]
  obtain ⟨r1, e1, f1, s1⟩ := szMeshS_ok h.2 r0 (by omega) (by omega)
  rw [e1]
  simp only [Option.bind_some]
  by_cases c1 : r1 < 0
  · simp only [if_pos c1]; exact ⟨_, rfl, by omega, by omega⟩
  simp only [if_neg c1]
  exact ⟨_, rfl, by omega, fun _ => ⟨s0 (by omega), s1 (by omega)⟩⟩
theorem szMonth_ok {x : Month_} (h : okMonth_ x) (l : Int) (h0 : 0 ≤ l) (h1 : l ≤ 1048576) : ∃ r, l_szMonth_m x l = some r ∧ r ≤ l ∧ (0 ≤ r → smMonth_ x) := by
  unfold l_szMonth_m
  have g0 := h.1
  unfold osS at g0
  rw [w64_in (x := l - (x.Name.size : Int)) (by omega) (by omega)]
  by_cases c0 : l - (x.Name.size : Int) < 0
  · rw [if_pos c0]; exact ⟨-1, rfl, by omega, by omega⟩
  rw [if_neg c0]
  obtain ⟨r0, hr0⟩ : ∃ r : Int, r = l - (x.Name.size : Int) := ⟨_, rfl⟩
  rw [← hr0] at c0 ⊢
  exact ⟨_, rfl, by omega, fun _ => ⟨(show smS x.Name by unfold smS; omega), trivial, trivial⟩⟩
theorem szMonthS_ok {x : List Month_} (h : (osL okMonth_) x) (l : Int) (h0 : 0 ≤ l) (h1 : l ≤ 1048576) : ∃ r, l_szMonthS_m x l = some r ∧ r ≤ l ∧ (0 ≤ r → (smL smMonth_) x) := by
  obtain ⟨hl, hm⟩ := h
  unfold l_szMonthS_m
  by_cases hq : w64 (l - (x.length : Int)) < 0
  · rw [if_pos hq]; exact ⟨-1, rfl, by omega, by omega⟩
  · rw [if_neg hq]
    rw [w64_in (by omega) (by omega)] at hq ⊢
    obtain ⟨y, hy, hp⟩ := szS_ok hl (sm := smMonth_) (fun v hv a b c => szMonth_ok (hm v hv) a b c) (l - x.length) (by omega) (by omega)
    rw [hy]
    rcases hp with rfl | ⟨r, rfl, e1, e2, e3⟩
    · exact ⟨-1, rfl, by omega, by omega⟩
    · exact ⟨r, rfl, by omega, fun _ => ⟨by omega, e3⟩⟩
theorem szLeapRuleS_ok {x : List LeapRule_} (h : (osL okLeapRule_) x) (l : Int) (h0 : 0 ≤ l) (h1 : l ≤ 1048576) : ∃ r, l_szLeapRuleS_m x l = some r ∧ r ≤ l ∧ (0 ≤ r → (smL smLeapRule_) x) := by
  obtain ⟨hl, hm⟩ := h
  unfold l_szLeapRuleS_m
  rw [w64_in (by omega) (by omega)]
  split
  · exact ⟨_, rfl, by omega, by omega⟩
  · exact ⟨_, rfl, by omega, fun _ => ⟨by omega, fun _ _ => by simp [smLeapRule_]⟩⟩
theorem szCalendar_ok {x : Calendar_} (h : okCalendar_ x) (l : Int) (h0 : 0 ≤ l) (h1 : l ≤ 1048576) : ∃ r, l_szCalendar_m x l = some r ∧ r ≤ l ∧ (0 ≤ r → smCalendar_ x) := by
  unfold l_szCalendar_m
  have g0 := h.1
  unfold osS at g0
  rw [w64_in (x := l - (x.Name.size : Int)) (by omega) (by omega)]
  by_cases c0 : l - (x.Name.size : Int) < 0
  · rw [if_pos c0]; exact ⟨-1, rfl, by omega, by omega⟩
  rw [if_neg c0]
  obtain ⟨r0, hr0⟩ : ∃ r : Int, r = l - (x.Name.size : Int) := ⟨_, rfl⟩
  rw [← hr0] at c0 ⊢
  obtain ⟨r1, e1, f1, s1⟩ := szMonthS_ok h.2.1 r0 (by omega) (by omega)
  rw [e1]
  simp only [Option.bind_some]
  by_cases c1 : r1 < 0
  · simp only [if_pos c1]; exact ⟨_, rfl, by omega, by omega⟩
  simp only [if_neg c1]
  obtain ⟨r2, e2, f2, s2⟩ := szLeapRuleS_ok h.2.2.1 r1 (by omega) (by omega)
  rw [e2]
  simp only [Option.bind_some]
  by_cases c2 : r2 < 0
  · simp only [if_pos c2]; exact ⟨_, rfl, by omega, by omega⟩
  simp only [if_neg c2]
  exact ⟨_, rfl, by omega, fun _ => ⟨(show smS x.Name by unfold smS; omega), s1 (by omega), s2 (by omega), trivial⟩⟩
theorem szMovement_ok {x : Movement_} (h : okMovement_ x) (l : Int) (h0 : 0 ≤ l) (h1 : l ≤ 1048576) : ∃ r, l_szMovement_m x l = some r ∧ r ≤ l ∧ (0 ≤ r → smMovement_ x) := by
  unfold l_szMovement_m
  have g0 := h.1
  unfold osS at g0
  rw [w64_in (x := l - (x.Name.size : Int)) (by omega) (by omega)]
  by_cases c0 : l - (x.Name.size : Int) < 0
  · rw [if_pos c0]; exact ⟨-1, rfl, by omega, by omega⟩
  rw [if_neg c0]
  obtain ⟨r0, hr0⟩ : ∃ r : Int, r = l - (x.Name.size : Int) := ⟨_, rfl⟩
  rw [← hr0] at c0 ⊢
  obtain ⟨r1, e1, f1, s1⟩ := szWorks_ok h.2.1 r0 (by omega) (by omega)
  rw [e1]
  simp only [Option.bind_some]
  by_cases c1 : r1 < 0
  · simp only [if_pos c1]; exact ⟨_, rfl, by omega, by omega⟩
  simp only [if_neg c1]
  obtain ⟨r2, e2, f2, s2⟩ := szCalendar_ok h.2.2.2.2.2.2.2.1 r1 (by omega) (by omega)
  rw [e2]
  simp only [Option.bind_some]
  by_cases c2 : r2 < 0
  · simp only [if_pos c2]; exact ⟨_, rfl, by omega, by omega⟩
  simp only [if_neg c2]
  obtain ⟨r3, e3, f3, s3⟩ := szInt64S_ok h.2.2.2.2.2.2.2.2.1 r2 (by omega) (by omega)
  rw [e3]
  simp only [Option.bind_some]
  by_cases c3 : r3 < 0
  · simp only [if_pos c3]; exact ⟨_, rfl, by omega, by omega⟩
  simp only [if_neg c3]
  exact ⟨_, rfl, by omega, fun _ => ⟨(show smS x.Name by unfold smS; omega), s1 (by omega), trivial, trivial, trivial, trivial, trivial, s2 (by omega), s3 (by omega), trivial⟩⟩
theorem eqInt64S_refl {x : List Int} (h : (smL (fun _ => True)) x) : l_eqInt64S_m x x = some true := by
  unfold l_eqInt64S_m
  rw [if_neg (by simp), eqS_refl' (by have := h.1; omega)]; rfl
theorem eqArbor_refl {x : Arbor_} (h : smArbor_ x) : l_eqArbor_m x x = some true := by
  unfold l_eqArbor_m
  simp [eqInt64S_refl h.2]
theorem eqArborS_refl {x : List Arbor_} (h : (smL smArbor_) x) : l_eqArborS_m x x = some true := by
  unfold l_eqArborS_m
  rw [if_neg (by simp), eqS_refl (by have := h.1; omega) fun v hv => eqArbor_refl (h.2 v hv)]; rfl
theorem eqMesh_refl {x : Mesh_} (h : smMesh_ x) : l_eqMesh_m x x = some true := by
  unfold l_eqMesh_m
  simp []
theorem eqMeshS_refl {x : List Mesh_} (h : (smL smMesh_) x) : l_eqMeshS_m x x = some true := by
  unfold l_eqMeshS_m
  rw [if_neg (by simp), eqS_refl (by have := h.1; omega) fun v hv => eqMesh_refl (h.2 v hv)]; rfl
theorem eqWorks_refl {x : Works_} (h : smWorks_ x) : l_eqWorks_m x x = some true := by
  unfold l_eqWorks_m
  simp [eqArborS_refl h.1, eqMeshS_refl h.2]
theorem eqMonth_refl {x : Month_} (h : smMonth_ x) : l_eqMonth_m x x = some true := by
  unfold l_eqMonth_m
  simp []
theorem eqMonthS_refl {x : List Month_} (h : (smL smMonth_) x) : l_eqMonthS_m x x = some true := by
  unfold l_eqMonthS_m
  rw [if_neg (by simp), eqS_refl (by have := h.1; omega) fun v hv => eqMonth_refl (h.2 v hv)]; rfl
theorem eqLeapRule_refl {x : LeapRule_} (h : smLeapRule_ x) : l_eqLeapRule_m x x = some true := by
  unfold l_eqLeapRule_m
  simp []
theorem eqLeapRuleS_refl {x : List LeapRule_} (h : (smL smLeapRule_) x) : l_eqLeapRuleS_m x x = some true := by
  unfold l_eqLeapRuleS_m
  rw [if_neg (by simp), eqS_refl (by have := h.1; omega) fun v hv => eqLeapRule_refl (h.2 v hv)]; rfl
theorem eqCalendar_refl {x : Calendar_} (h : smCalendar_ x) : l_eqCalendar_m x x = some true := by
  unfold l_eqCalendar_m
  simp [eqMonthS_refl h.2.1, eqLeapRuleS_refl h.2.2.1]
theorem eqMovement_refl {x : Movement_} (h : smMovement_ x) : l_eqMovement_m x x = some true := by
  unfold l_eqMovement_m
  simp [eqWorks_refl h.2.1, eqCalendar_refl h.2.2.2.2.2.2.2.1, eqInt64S_refl h.2.2.2.2.2.2.2.2.1]
def mkInt64S (k : Int) : Int := k
theorem markInt64S_eq {x : List Int} {k : Int} (h0 : 0 ≤ k) (hk : k ≤ 100000000000000) (hl : x.length ≤ 1048576) : l_markInt64S_o_m x k = some (k + 1 * x.length, (List.range x.length).map fun (j : Nat) => mkInt64S (k + 1 * (j : Int))) := by
  unfold l_markInt64S_o_m
  rw [markS_ok (c := 1) (B := 1000000000000000) (M := mkInt64S) (by omega) (fun k i ys a1 a2 a3 a4 a5 => ?_) (fun k i ys a => by simp [a]) h0 hl (by omega)]
  · rfl
  · obtain ⟨e, he, _, _⟩ := atI_some a3 a4
    have w : ∀ n : Int, 0 ≤ n → n ≤ 2000000000000000 → w64 n = n := fun n p q => w64_in (by omega) (by omega)
    simp only [if_pos a4, he, Option.bind_some, List.set_set, atI_set a3 a4, w (k + 1) (by omega) (by omega), w (i + 1) (by omega) (by omega)]
    simp [mkInt64S, Int.add_assoc]
def mkMeshS (k : Int) : Mesh_ := ⟨k, k + 1, k + 2, k + 3⟩
theorem markMeshS_eq {x : List Mesh_} {k : Int} (h0 : 0 ≤ k) (hk : k ≤ 100000000000000) (hl : x.length ≤ 1048576) : l_markMeshS_o_m x k = some (k + 4 * x.length, (List.range x.length).map fun (j : Nat) => mkMeshS (k + 4 * (j : Int))) := by
  unfold l_markMeshS_o_m
  rw [markS_ok (c := 4) (B := 1000000000000000) (M := mkMeshS) (by omega) (fun k i ys a1 a2 a3 a4 a5 => ?_) (fun k i ys a => by simp [a]) h0 hl (by omega)]
  · rfl
  · obtain ⟨e, he, _, _⟩ := atI_some a3 a4
    have w : ∀ n : Int, 0 ≤ n → n ≤ 2000000000000000 → w64 n = n := fun n p q => w64_in (by omega) (by omega)
    simp only [if_pos a4, he, Option.bind_some, List.set_set, atI_set a3 a4, w (k + 1) (by omega) (by omega), w (k + 1 + 1) (by omega) (by omega), w (k + 1 + 1 + 1) (by omega) (by omega), w (k + 1 + 1 + 1 + 1) (by omega) (by omega), w (i + 1) (by omega) (by omega)]
    simp [mkMeshS, Int.add_assoc]
def mkMonthS (k : Int) : Month_ := ⟨mkT k, k + 1, k + 2⟩
theorem markMonthS_eq {x : List Month_} {k : Int} (h0 : 0 ≤ k) (hk : k ≤ 100000000000000) (hl : x.length ≤ 1048576) : l_markMonthS_o_m x k = some (k + 3 * x.length, (List.range x.length).map fun (j : Nat) => mkMonthS (k + 3 * (j : Int))) := by
  unfold l_markMonthS_o_m
  rw [markS_ok (c := 3) (B := 1000000000000000) (M := mkMonthS) (by omega) (fun k i ys a1 a2 a3 a4 a5 => ?_) (fun k i ys a => by simp [a]) h0 hl (by omega)]
  · rfl
  · obtain ⟨e, he, _, _⟩ := atI_some a3 a4
    have w : ∀ n : Int, 0 ≤ n → n ≤ 2000000000000000 → w64 n = n := fun n p q => w64_in (by omega) (by omega)
    simp only [if_pos a4, he, Option.bind_some, List.set_set, atI_set a3 a4, w (k + 1) (by omega) (by omega), w (k + 1 + 1) (by omega) (by omega), w (k + 1 + 1 + 1) (by omega) (by omega), w (i + 1) (by omega) (by omega), markText_eq (show 0 ≤ k by omega) (by omega)]
    simp [mkMonthS, Int.add_assoc]
def mkLeapRuleS (k : Int) : LeapRule_ := ⟨k, k + 1, decide ((k + 2).tmod 3 = 0)⟩
theorem markLeapRuleS_eq {x : List LeapRule_} {k : Int} (h0 : 0 ≤ k) (hk : k ≤ 100000000000000) (hl : x.length ≤ 1048576) : l_markLeapRuleS_o_m x k = some (k + 3 * x.length, (List.range x.length).map fun (j : Nat) => mkLeapRuleS (k + 3 * (j : Int))) := by
  unfold l_markLeapRuleS_o_m
  rw [markS_ok (c := 3) (B := 1000000000000000) (M := mkLeapRuleS) (by omega) (fun k i ys a1 a2 a3 a4 a5 => ?_) (fun k i ys a => by simp [a]) h0 hl (by omega)]
  · rfl
  · obtain ⟨e, he, _, _⟩ := atI_some a3 a4
    have w : ∀ n : Int, 0 ≤ n → n ≤ 2000000000000000 → w64 n = n := fun n p q => w64_in (by omega) (by omega)
    simp only [if_pos a4, he, Option.bind_some, List.set_set, atI_set a3 a4, w (k + 1) (by omega) (by omega), w (k + 1 + 1) (by omega) (by omega), w (k + 1 + 1 + 1) (by omega) (by omega), w (i + 1) (by omega) (by omega)]
    simp [mkLeapRuleS, Int.add_assoc]
def smDate_ (x : Date_) : Prop := (fun _ => True) x.Year ∧ (fun _ => True) x.Month ∧ (fun _ => True) x.Day
def smPerpetual_ (x : Perpetual_) : Prop := (smL (fun _ => True)) x.Cam ∧ (fun _ => True) x.Months ∧ (fun _ => True) x.Teeth ∧ (fun _ => True) x.At ∧ (fun _ => True) x.Day ∧ (fun _ => True) x.Week ∧ (fun _ => True) x.Weekday
def smSim_ (x : Sim_) : Prop := smMovement_ x.Movement ∧ smDate_ x.Start ∧ (fun _ => True) x.First ∧ (fun _ => True) x.Clock ∧ smPerpetual_ x.Dial
theorem toDate_eq {x : Date_} (h : smDate_ x) : l_toDate_m x = some x := rfl
theorem toPerpetual_eq {x : Perpetual_} (h : smPerpetual_ x) : l_toPerpetual_m x = some x := by
  unfold l_toPerpetual_m
  simp only [toInt64S_eq h.1, Option.bind_some]
theorem toSim_eq {x : Sim_} (h : smSim_ x) : l_toSim_m x = some x := by
  unfold l_toSim_m
  simp only [toMovement_eq h.1, toDate_eq h.2.1, toPerpetual_eq h.2.2.2.2, Option.bind_some]
theorem szPerpetual_ok {x : Perpetual_} (h : okPerpetual_ x) (l : Int) (h0 : 0 ≤ l) (h1 : l ≤ 1048576) : ∃ r, l_szPerpetual_m x l = some r ∧ r ≤ l ∧ (0 ≤ r → smPerpetual_ x) := by
  unfold l_szPerpetual_m
  obtain ⟨r0, e0, f0, s0⟩ := szInt64S_ok h.1 l (by omega) (by omega)
  rw [e0]
  simp only [Option.bind_some]
  by_cases c0 : r0 < 0
  · simp only [if_pos c0]; exact ⟨_, rfl, by omega, by omega⟩
  simp only [if_neg c0]
  exact ⟨_, rfl, by omega, fun _ => ⟨s0 (by omega), trivial, trivial, trivial, trivial, trivial, trivial⟩⟩
theorem szSim_ok {x : Sim_} (h : okSim_ x) (l : Int) (h0 : 0 ≤ l) (h1 : l ≤ 1048576) : ∃ r, l_szSim_m x l = some r ∧ r ≤ l ∧ (0 ≤ r → smSim_ x) := by
  unfold l_szSim_m
  obtain ⟨r0, e0, f0, s0⟩ := szMovement_ok h.1 l (by omega) (by omega)
  rw [e0]
  simp only [Option.bind_some]
  by_cases c0 : r0 < 0
  · simp only [if_pos c0]; exact ⟨_, rfl, by omega, by omega⟩
  simp only [if_neg c0]
  obtain ⟨r1, e1, f1, s1⟩ := szPerpetual_ok h.2.2.2.2 r0 (by omega) (by omega)
  rw [e1]
  simp only [Option.bind_some]
  by_cases c1 : r1 < 0
  · simp only [if_pos c1]; exact ⟨_, rfl, by omega, by omega⟩
  simp only [if_neg c1]
  exact ⟨_, rfl, by omega, fun _ => ⟨s0 (by omega), (by simp [smDate_]), trivial, trivial, s1 (by omega)⟩⟩
theorem eqDate_refl {x : Date_} (h : smDate_ x) : l_eqDate_m x x = some true := by
  unfold l_eqDate_m
  simp []
theorem eqPerpetual_refl {x : Perpetual_} (h : smPerpetual_ x) : l_eqPerpetual_m x x = some true := by
  unfold l_eqPerpetual_m
  simp [eqInt64S_refl h.1]
theorem eqSim_refl {x : Sim_} (h : smSim_ x) : l_eqSim_m x x = some true := by
  unfold l_eqSim_m
  simp [eqMovement_refl h.1, eqDate_refl h.2.1, eqPerpetual_refl h.2.2.2.2]
def mkStringS (k : Int) : ByteArray := mkT k
theorem markStringS_eq {x : List ByteArray} {k : Int} (h0 : 0 ≤ k) (hk : k ≤ 100000000000000) (hl : x.length ≤ 1048576) : l_markStringS_o_m x k = some (k + 1 * x.length, (List.range x.length).map fun (j : Nat) => mkStringS (k + 1 * (j : Int))) := by
  unfold l_markStringS_o_m
  rw [markS_ok (c := 1) (B := 1000000000000000) (M := mkStringS) (by omega) (fun k i ys a1 a2 a3 a4 a5 => ?_) (fun k i ys a => by simp [a]) h0 hl (by omega)]
  · rfl
  · obtain ⟨e, he, _, _⟩ := atI_some a3 a4
    have w : ∀ n : Int, 0 ≤ n → n ≤ 2000000000000000 → w64 n = n := fun n p q => w64_in (by omega) (by omega)
    simp only [if_pos a4, he, Option.bind_some, List.set_set, atI_set a3 a4, w (k + 1) (by omega) (by omega), w (i + 1) (by omega) (by omega), markText_eq (show 0 ≤ k by omega) (by omega)]
    simp [mkStringS, Int.add_assoc]
theorem heldStringS_eq {n : Nat} {k : Int} (h0 : 0 ≤ k) (hk : k ≤ 100000000000000) (hl : n ≤ 1048576) : l_heldStringS_m ((List.range n).map fun (j : Nat) => mkStringS (k + 1 * (j : Int))) k = some (k + 1 * n) := by
  unfold l_heldStringS_m
  rw [heldS_ok (c := 1) (B := 1000000000000000) (M := mkStringS) (n := n) (by omega) (fun k' i a1 a2 a3 a4 a5 => ?_) (fun k i a => by simp [a]) h0 hl (by omega)]
  · rfl
  · have he := marked_get (M := mkStringS) (k0 := k) (c := 1) a3 a4
    have w : ∀ n : Int, 0 ≤ n → n ≤ 2000000000000000 → w64 n = n := fun n p q => w64_in (by omega) (by omega)
    rw [← a5] at he
    simp only [List.length_map, List.length_range, if_pos a4, he, Option.bind_some, w (k' + 1) (by omega) (by omega), w (i + 1) (by omega) (by omega), markText_eq (show 0 ≤ k' by omega) (by omega)]
    simp [mkStringS, Int.add_assoc]
end Go.Proofs.YtjhadibjjldpdaaGreat
