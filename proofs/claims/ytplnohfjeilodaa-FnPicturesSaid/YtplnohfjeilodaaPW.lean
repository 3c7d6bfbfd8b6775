/- Plain laws, W: valid drawings. No program. -/
import Derived.Test.YtplnohfjeilodaaPN
namespace Go.Proofs.Ytplnohfjeilodaa
set_option linter.unusedVariables false
def spB (s : Spot_) : Bool := btw s.X (-100000) 100000 && btw s.Y (-100000) 100000
def shB (s : Shape_) : Bool := spB s.A && (if s.Kind = 1 then spB s.B && (decide (s.R = 0) && decide (s.Name = ⟨#[]⟩)) else if s.Kind = 2 then decide (s.B = ⟨0, 0⟩) && (btw s.R 1 100000 && decide (s.Name = ⟨#[]⟩)) else if s.Kind = 3 then decide (s.B = ⟨0, 0⟩) && (decide (s.R = 0) && nameB s.Name) else false)
def drB (x : Drawing_) : Bool := decide (x.Shapes.length ≤ 1200) && x.Shapes.all shB
theorem s_l25Spot_eq (s : Spot_) : s_l25Spot_m s = some (spB s) := by
  unfold s_l25Spot_m spB
  simp only [s_l00In_eq, Option.bind_some]
  cases btw s.X (-100000) 100000 <;> simp
theorem i_validSpot_eq (s : Spot_) : i_validSpot_m s = some (spB s) := by
  unfold i_validSpot_m spB
  simp only [i_within_eq, Option.bind_some]
  cases btw s.X (-100000) 100000 <;> simp
theorem s_l25Shape_eq (s : Shape_) : s_l25Shape_m s = some (shB s) := by
  unfold s_l25Shape_m shB
  simp only [s_l25Spot_eq, s_l00In_eq, s_IsName_eq, Option.bind_some]
  cases spB s.A
  · simp
  · by_cases h1 : s.Kind = 1
    · cases spB s.B <;> by_cases h2 : s.R = 0 <;> simp [h1, h2]
    · by_cases h2 : s.Kind = 2
      · by_cases h3 : s.B = (⟨0, 0⟩ : Spot_) <;> cases btw s.R 1 100000 <;> simp [h2, h3]
      · by_cases h3 : s.Kind = 3
        · by_cases h4 : s.B = (⟨0, 0⟩ : Spot_) <;> by_cases h5 : s.R = 0 <;> simp [h3, h4, h5]
        · simp [h1, h2, h3]
theorem i_validShape_eq (s : Shape_) : i_validShape_m s = some (shB s) := by
  obtain ⟨K, A, B, R, N⟩ := s
  unfold i_validShape_m shB
  simp only [i_validSpot_eq, i_within_eq, i_IsName_eq, i_line_m, i_circle_m, i_label_m, Option.bind_some]
  cases spB A
  · simp
  · by_cases h1 : K = 1
    · cases spB B <;> simp [h1]
    · by_cases h2 : K = 2
      · cases btw R 1 100000 <;> simp [h2]
      · by_cases h3 : K = 3
        · cases nameB N <;> simp [h3]
        · simp [h1, h2, h3]
theorem s_l25Ok_eq {x : Drawing_} (hl : x.Shapes.length ≤ 9223372036854775807) : s_l25Ok_m x = some (drB x) := by
  unfold s_l25Ok_m drB
  rw [scanL_ok (xs := x.Shapes) (f := shB) (d := .inl ()) (e := .inr false) (fun i hi => ?_) (by simp) hl]
  · cases x.Shapes.all shB <;> simp [orE]; omega
  · have e1 : w64 ((i : Int) + 1) = i + 1 := w64_in (by omega) (by omega)
    have hi' : (i : Int) < x.Shapes.length := by omega
    simp only [if_pos hi', atI_lt hi, Option.bind_some, s_l25Shape_eq, e1]
    rcases Bool.eq_false_or_eq_true (shB x.Shapes[i]) with h | h <;> simp [h]
theorem i_ValidDrawing_eq (x : Drawing_) : i_ValidDrawing_m x = some (drB x) := by
  unfold i_ValidDrawing_m drB
  by_cases hl : (x.Shapes.length : Int) ≤ 1200
  · rw [if_pos hl, decide_eq_true (show x.Shapes.length ≤ 1200 by omega)]
    unfold slices_ContainsFunc_LShape_Shape_i_ValidDrawing_1_m slices_IndexFunc_LShape_Shape_i_ValidDrawing_1_m
    obtain ⟨y, hy, h⟩ := index_ok (xs := x.Shapes) (p := fun v => !shB v) (step := fun s4 => (if s4 < (x.Shapes.length : Int) then ((atI x.Shapes s4).bind fun v5 => ((i_ValidDrawing_1_m v5).bind fun v6 => (if v6 = true then some (.inr (.inr s4)) else some (.inl (w64 (s4 + 1)))))) else some (.inr (.inl ()))))
      (fun i hi => by
        have e1 : w64 ((i : Int) + 1) = i + 1 := w64_in (by omega) (by omega)
        have hi' : (i : Int) < x.Shapes.length := by omega
        simp only [if_pos hi', atI_lt hi, Option.bind_some, i_ValidDrawing_1_m, i_validShape_eq, e1]
        rcases Bool.eq_false_or_eq_true (shB x.Shapes[i]) with h | h <;> simp [h]) (by simp) (by omega)
    rw [hy]
    have e : x.Shapes.all shB = !(x.Shapes.any fun v => !shB v) := by
      rw [Bool.eq_iff_iff]; simp
    rw [e]
    rcases h with ⟨h, rfl⟩ | ⟨h, i, hi, rfl⟩
    · simp only [h, Option.bind_some, orE]; simp
    · simp only [h, Option.bind_some, orE]; simp [hi]
  · rw [if_neg hl, decide_eq_false (by omega)]; rfl
theorem drB_len {x : Drawing_} (h : drB x = true) : x.Shapes.length ≤ 1200 := by
  unfold drB at h
  simp only [Bool.and_eq_true, decide_eq_true_eq] at h
  exact h.1
end Go.Proofs.Ytplnohfjeilodaa
