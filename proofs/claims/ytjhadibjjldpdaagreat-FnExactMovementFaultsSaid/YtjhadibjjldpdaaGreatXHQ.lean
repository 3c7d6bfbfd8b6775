/- helpers of the laws, more -/
import Derived.Test.YtjhadibjjldpdaaGreatPMk
namespace Go.Proofs.YtjhadibjjldpdaaGreat
open Go.RowKit
set_option linter.unusedVariables false
set_option maxRecDepth 100000
set_option maxHeartbeats 2000000
theorem markWorks_eq {x : Works_} {k : Int} (h0 : 0 ≤ k) (hk : k ≤ 8000000000000) (h : smWorks_ x) : l_markWorks_o_m x k = some ((accK mkA (k) x.Arbors) + 4 * x.Meshes.length, (accL mkA (k) x.Arbors), ((List.range x.Meshes.length).map fun (j : Nat) => mkMeshS ((accK mkA (k) x.Arbors) + 4 * (j : Int)))) := by
  have g0 := (h.1).1
  have b0 := endA_b (k := k) (h.1)
  have g1 := (h.2).1
  unfold l_markWorks_o_m
  simp only [markArborS_eq (x := x.Arbors) (k := k) (by omega) (by omega) (h.1), markMeshS_eq (x := x.Meshes) (k := accK mkA (k) x.Arbors) (by omega) (by omega) (h.2).1, Option.bind_some, List.length_map, List.length_range, accL_len, chk_true]
theorem markCalendar_eq {x : Calendar_} {k : Int} (h0 : 0 ≤ k) (hk : k ≤ 8000000000000) (h : smCalendar_ x) : l_markCalendar_o_m x k = some ((k + 3 * x.Months.length) + 3 * x.Rules.length, ((List.range x.Months.length).map fun (j : Nat) => mkMonthS (k + 3 * (j : Int))), ((List.range x.Rules.length).map fun (j : Nat) => mkLeapRuleS ((k + 3 * x.Months.length) + 3 * (j : Int)))) := by
  have g0 := (h.2.1).1
  have g1 := (h.2.2.1).1
  unfold l_markCalendar_o_m
  simp only [markMonthS_eq (x := x.Months) (k := k) (by omega) (by omega) (h.2.1).1, markLeapRuleS_eq (x := x.Rules) (k := k + 3 * x.Months.length) (by omega) (by omega) (h.2.2.1).1, Option.bind_some, List.length_map, List.length_range, chk_true]
theorem markMovement_eq {x : Movement_} {k : Int} (h0 : 0 ≤ k) (hk : k ≤ 6000000000000) (h : smMovement_ x) : l_markMovement_o_m x k = some (((((accK mkA (k) x.Works.Arbors) + 4 * x.Works.Meshes.length) + 3 * x.Calendar.Months.length) + 3 * x.Calendar.Rules.length) + 1 * x.Cam.length, (accL mkA (k) x.Works.Arbors), ((List.range x.Works.Meshes.length).map fun (j : Nat) => mkMeshS ((accK mkA (k) x.Works.Arbors) + 4 * (j : Int))), ((List.range x.Calendar.Months.length).map fun (j : Nat) => mkMonthS (((accK mkA (k) x.Works.Arbors) + 4 * x.Works.Meshes.length) + 3 * (j : Int))), ((List.range x.Calendar.Rules.length).map fun (j : Nat) => mkLeapRuleS ((((accK mkA (k) x.Works.Arbors) + 4 * x.Works.Meshes.length) + 3 * x.Calendar.Months.length) + 3 * (j : Int))), ((List.range x.Cam.length).map fun (j : Nat) => mkInt64S (((((accK mkA (k) x.Works.Arbors) + 4 * x.Works.Meshes.length) + 3 * x.Calendar.Months.length) + 3 * x.Calendar.Rules.length) + 1 * (j : Int)))) := by
  have g0 := (h.2.1.1).1
  have b0 := endA_b (k := k) (h.2.1.1)
  have g1 := (h.2.1.2).1
  have g2 := (h.2.2.2.2.2.2.2.1.2.1).1
  have g3 := (h.2.2.2.2.2.2.2.1.2.2.1).1
  have g4 := (h.2.2.2.2.2.2.2.2.1).1
  unfold l_markMovement_o_m
  simp only [markWorks_eq (x := x.Works) (k := k) (by omega) (by omega) (h.2.1), markCalendar_eq (x := x.Calendar) (k := (accK mkA (k) x.Works.Arbors) + 4 * x.Works.Meshes.length) (by omega) (by omega) (h.2.2.2.2.2.2.2.1), markInt64S_eq (x := x.Cam) (k := (((accK mkA (k) x.Works.Arbors) + 4 * x.Works.Meshes.length) + 3 * x.Calendar.Months.length) + 3 * x.Calendar.Rules.length) (by omega) (by omega) (h.2.2.2.2.2.2.2.2.1).1, Option.bind_some, List.length_map, List.length_range, accL_len, chk_true]
end Go.Proofs.YtjhadibjjldpdaaGreat
