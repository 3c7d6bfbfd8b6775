/- Plain laws, M: drawings moved, turned, boxed. No program. -/
import Derived.Test.YtplnohfjeilodaaPW
import Derived.Test.YtplnohfjeilodaaPQ
namespace Go.Proofs.Ytplnohfjeilodaa
set_option linter.unusedVariables false
theorem sp_lim {s : Spot_} (h : spB s = true) : -100000 ≤ s.X ∧ s.X ≤ 100000 ∧ -100000 ≤ s.Y ∧ s.Y ≤ 100000 := by
  unfold spB btw at h
  simp only [Bool.and_eq_true, decide_eq_true_eq] at h
  omega
theorem sh_lim {s : Shape_} (h : shB s = true) : spB s.A = true ∧ (s.Kind = 1 → spB s.B = true) ∧ (s.Kind ≠ 1 → s.B = ⟨0, 0⟩) ∧ (s.Kind = 2 → 1 ≤ s.R ∧ s.R ≤ 100000) := by
  unfold shB at h
  rw [Bool.and_eq_true] at h
  refine ⟨h.1, fun h1 => ?_, fun h1 => ?_, fun h2 => ?_⟩
  · have h2 := h.2
    rw [if_pos h1, Bool.and_eq_true] at h2
    exact h2.1
  · have h3 := h.2
    rw [if_neg h1] at h3
    by_cases h2 : s.Kind = 2
    · rw [if_pos h2, Bool.and_eq_true, decide_eq_true_eq] at h3; exact h3.1
    · rw [if_neg h2] at h3
      by_cases h4 : s.Kind = 3
      · rw [if_pos h4, Bool.and_eq_true, decide_eq_true_eq] at h3; exact h3.1
      · rw [if_neg h4] at h3; cases h3
  · have h3 := h.2
    rw [if_neg (by omega), if_pos h2] at h3
    simp only [btw, Bool.and_eq_true, decide_eq_true_eq] at h3
    exact h3.2.1
theorem dr_all {x : Drawing_} (h : drB x = true) : ∀ s ∈ x.Shapes, shB s = true := by
  unfold drB at h
  rw [Bool.and_eq_true, List.all_eq_true] at h
  exact h.2
/-! turned -/
def trn (s : Shape_) : Shape_ := ⟨s.Kind, ⟨-s.A.Y, s.A.X⟩, if s.Kind = 1 then ⟨-s.B.Y, s.B.X⟩ else ⟨0, 0⟩, s.R, s.Name⟩
def turnR (x : Drawing_) : Drawing_ × Int := if drB x = true then (⟨x.Shapes.map trn⟩, 0) else (⟨[]⟩, 1)
theorem flat1 {α β : Type} (f : α → β) (xs : List α) : (xs.flatMap fun v => [f v]) = xs.map f := by induction xs <;> simp_all
theorem s_turn_eq {x : Drawing_} (hl : x.Shapes.length ≤ 1048576) : s_TurnDrawing_m x = some (turnR x) := by
  unfold s_TurnDrawing_m turnR
  rw [s_l25Ok_eq (by omega), Option.bind_some]
  rcases Bool.eq_false_or_eq_true (drB x) with h | h
  · have hd := drB_len h
    simp only [h, Bool.not_true, Bool.false_eq_true, if_false, if_true]
    rw [buildF_ok (xs := x.Shapes) (f := fun v => [trn v]) (c := 1) (fun v _ => Nat.le_refl 1) (fun i hi ys hy => ?_) (fun ys => by simp) (by omega), Option.bind_some, flat1]
    · rfl
    · have e1 : w64 ((i : Int) + 1) = i + 1 := w64_in (by omega) (by omega)
      have hi' : (i : Int) < x.Shapes.length := by omega
      obtain ⟨a1, a2, a3, a4⟩ := sh_lim (dr_all h _ (List.getElem_mem hi))
      have hA := sp_lim a1
      simp only [List.length_nil] at hy
      simp only [if_pos hi', atI_lt hi, Option.bind_some, e1, s_l25Two_m]
      rw [w64_in (x := -(x.Shapes[i].A.Y)) (by omega) (by omega)]
      by_cases hk : x.Shapes[i].Kind = 1
      · have hB := sp_lim (a2 hk)
        rw [w64_in (x := -(x.Shapes[i].B.Y)) (by omega) (by omega)]
        simp only [hk, if_true, Option.bind_some]
        rw [chk_t (by simp; omega)]
        simp [trn, hk]
      · simp only [hk, if_false, Option.bind_some]
        rw [chk_t (by simp; omega)]
        simp [trn, hk]
  · simp [h]
theorem i_turn_eq (x : Drawing_) : i_TurnDrawing_m x = some (turnR x) := by
  unfold i_TurnDrawing_m turnR
  rw [i_ValidDrawing_eq, Option.bind_some]
  rcases Bool.eq_false_or_eq_true (drB x) with h | h
  · have hd := drB_len h
    simp only [h, Bool.not_true, Bool.false_eq_true, if_false, if_true]
    unfold i_mapped_i_TurnDrawing_1_m
    rw [buildF_ok (xs := x.Shapes) (f := fun v => [trn v]) (c := 1) (fun v _ => Nat.le_refl 1) (fun i hi ys hy => ?_) (fun ys => by simp) (by omega), Option.bind_some, flat1]
    · rfl
    · have e1 : w64 ((i : Int) + 1) = i + 1 := w64_in (by omega) (by omega)
      have hi' : (i : Int) < x.Shapes.length := by omega
      obtain ⟨a1, a2, a3, a4⟩ := sh_lim (dr_all h _ (List.getElem_mem hi))
      have hA := sp_lim a1
      simp only [List.length_nil] at hy
      simp only [if_pos hi', atI_lt hi, Option.bind_some, e1, i_TurnDrawing_1_m]
      rw [w64_in (x := -(x.Shapes[i].A.Y)) (by omega) (by omega)]
      by_cases hk : x.Shapes[i].Kind = 1
      · have hB := sp_lim (a2 hk)
        rw [w64_in (x := -(x.Shapes[i].B.Y)) (by omega) (by omega)]
        simp only [hk, if_true, Option.bind_some]
        rw [chk_t (by simp; omega)]
        simp [trn, hk]
      · simp only [hk, if_false, Option.bind_some]
        rw [chk_t (by simp; omega)]
        simp [trn, hk, a3 hk]
  · simp [h]
theorem neg_btw {x : Int} : btw (-x) (-100000) 100000 = btw x (-100000) 100000 := by
  unfold btw; rw [decide_eq_decide]; omega
theorem spB_turn (s : Spot_) : spB ⟨-s.Y, s.X⟩ = spB s := by unfold spB; simp only [neg_btw]; rw [Bool.and_comm]
theorem shB_trn {s : Shape_} (h : shB s = true) : shB (trn s) = true := by
  obtain ⟨a1, a2, a3, a4⟩ := sh_lim h
  unfold shB at h ⊢
  unfold trn
  rw [Bool.and_eq_true] at h ⊢
  refine ⟨by rw [spB_turn]; exact h.1, ?_⟩
  have h2 := h.2
  by_cases hk : s.Kind = 1
  · rw [if_pos hk] at h2
    simp only [hk, if_true]
    rw [spB_turn]; exact h2
  · rw [if_neg hk, a3 hk] at h2
    simp only [hk, if_false]
    exact h2
theorem trn4 {s : Shape_} (h : shB s = true) : trn (trn (trn (trn s))) = s := by
  obtain ⟨a1, a2, a3, a4⟩ := sh_lim h
  obtain ⟨K, ⟨AX, AY⟩, ⟨BX, BY⟩, R, N⟩ := s
  by_cases hk : K = 1
  · simp [trn, hk]
  · have := a3 hk
    simp only at this
    simp [trn, hk, this]
theorem drB_turn {x : Drawing_} (h : drB x = true) : drB ⟨x.Shapes.map trn⟩ = true := by
  have ha := dr_all h
  have hl := drB_len h
  unfold drB
  rw [Bool.and_eq_true, List.all_eq_true]
  refine ⟨by simp; omega, fun s hs => ?_⟩
  obtain ⟨u, hu, rfl⟩ := List.mem_map.1 hs
  exact shB_trn (ha u hu)
/-! moved -/
def mv (b : Spot_) (s : Shape_) : Shape_ := ⟨s.Kind, ⟨s.A.X + b.X, s.A.Y + b.Y⟩, if s.Kind = 1 then ⟨s.B.X + b.X, s.B.Y + b.Y⟩ else ⟨0, 0⟩, s.R, s.Name⟩
def moveR (x : Drawing_) (b : Spot_) : Drawing_ × Int := if drB x = true then (if spB b = true then (if drB ⟨x.Shapes.map (mv b)⟩ = true then (⟨x.Shapes.map (mv b)⟩, 0) else (⟨[]⟩, 10)) else (⟨[]⟩, 2)) else (⟨[]⟩, 1)
theorem s_move_eq {x : Drawing_} {b : Spot_} (hl : x.Shapes.length ≤ 1048576) : s_MoveDrawing_m x b = some (moveR x b) := by
  unfold s_MoveDrawing_m moveR
  rw [s_l25Ok_eq (by omega), Option.bind_some, s_l25Spot_eq]
  rcases Bool.eq_false_or_eq_true (drB x) with h | h
  · rcases Bool.eq_false_or_eq_true (spB b) with hb | hb
    · have hd := drB_len h
      have hbl := sp_lim hb
      simp only [h, hb, Bool.not_true, Bool.false_eq_true, if_false, if_true, Option.bind_some]
      rw [buildF_ok (xs := x.Shapes) (f := fun v => [mv b v]) (c := 1) (fun v _ => Nat.le_refl 1) (fun i hi ys hy => ?_) (fun ys => by simp) (by omega), Option.bind_some, flat1]
      · simp only [List.nil_append]
        rw [s_l25Ok_eq (by simp; omega), Option.bind_some]
        rcases Bool.eq_false_or_eq_true (drB ⟨x.Shapes.map (mv b)⟩) with hm | hm <;> simp [hm]
      · have e1 : w64 ((i : Int) + 1) = i + 1 := w64_in (by omega) (by omega)
        have hi' : (i : Int) < x.Shapes.length := by omega
        obtain ⟨a1, a2, a3, a4⟩ := sh_lim (dr_all h _ (List.getElem_mem hi))
        have hA := sp_lim a1
        simp only [List.length_nil] at hy
        simp only [if_pos hi', atI_lt hi, Option.bind_some, e1, s_l25Two_m]
        rw [w64_in (x := x.Shapes[i].A.X + b.X) (by omega) (by omega), w64_in (x := x.Shapes[i].A.Y + b.Y) (by omega) (by omega)]
        by_cases hk : x.Shapes[i].Kind = 1
        · have hB := sp_lim (a2 hk)
          rw [w64_in (x := x.Shapes[i].B.X + b.X) (by omega) (by omega), w64_in (x := x.Shapes[i].B.Y + b.Y) (by omega) (by omega)]
          simp only [hk, if_true, Option.bind_some]
          rw [chk_t (by simp; omega)]
          simp [mv, hk]
        · simp only [hk, if_false, Option.bind_some]
          rw [chk_t (by simp; omega)]
          simp [mv, hk]
    · simp [h, hb]
  · simp [h]
theorem i_move_eq (x : Drawing_) (b : Spot_) : i_MoveDrawing_m x b = some (moveR x b) := by
  unfold i_MoveDrawing_m moveR
  rw [i_ValidDrawing_eq, Option.bind_some, i_validSpot_eq]
  rcases Bool.eq_false_or_eq_true (drB x) with h | h
  · rcases Bool.eq_false_or_eq_true (spB b) with hb | hb
    · have hd := drB_len h
      have hbl := sp_lim hb
      simp only [h, hb, Bool.not_true, Bool.false_eq_true, if_false, if_true, Option.bind_some]
      unfold i_mapped_i_MoveDrawing_1_m
      rw [buildF_ok (xs := x.Shapes) (f := fun v => [mv b v]) (c := 1) (fun v _ => Nat.le_refl 1) (fun i hi ys hy => ?_) (fun ys => by simp) (by omega), Option.bind_some, flat1]
      · simp only [List.nil_append, Option.bind_some, i_ValidDrawing_eq]
        rcases Bool.eq_false_or_eq_true (drB ⟨x.Shapes.map (mv b)⟩) with hm | hm <;> simp [hm]
      · have e1 : w64 ((i : Int) + 1) = i + 1 := w64_in (by omega) (by omega)
        have hi' : (i : Int) < x.Shapes.length := by omega
        obtain ⟨a1, a2, a3, a4⟩ := sh_lim (dr_all h _ (List.getElem_mem hi))
        have hA := sp_lim a1
        simp only [List.length_nil] at hy
        simp only [if_pos hi', atI_lt hi, Option.bind_some, e1, i_MoveDrawing_1_m]
        rw [w64_in (x := x.Shapes[i].A.X + b.X) (by omega) (by omega), w64_in (x := x.Shapes[i].A.Y + b.Y) (by omega) (by omega)]
        by_cases hk : x.Shapes[i].Kind = 1
        · have hB := sp_lim (a2 hk)
          rw [w64_in (x := x.Shapes[i].B.X + b.X) (by omega) (by omega), w64_in (x := x.Shapes[i].B.Y + b.Y) (by omega) (by omega)]
          simp only [hk, if_true, Option.bind_some]
          rw [chk_t (by simp; omega)]
          simp [mv, hk]
        · simp only [hk, if_false, Option.bind_some]
          rw [chk_t (by simp; omega)]
          simp [mv, hk, a3 hk]
    · simp [h, hb]
  · simp [h]
theorem mv_back {b : Spot_} {s : Shape_} (h : shB s = true) : mv ⟨-b.X, -b.Y⟩ (mv b s) = s := by
  obtain ⟨a1, a2, a3, a4⟩ := sh_lim h
  obtain ⟨K, ⟨AX, AY⟩, ⟨BX, BY⟩, R, N⟩ := s
  by_cases hk : K = 1
  · simp [mv, hk]; omega
  · have := a3 hk
    simp only at this
    simp [mv, hk, this]; omega
theorem map_id' {α : Type} {f : α → α} {xs : List α} (h : ∀ v ∈ xs, f v = v) : xs.map f = xs := by
  induction xs with
  | nil => rfl
  | cons x xs ih => rw [List.map_cons, h x (List.mem_cons_self ..), ih fun v hv => h v (List.mem_cons_of_mem _ hv)]
/-! boxes -/
abbrev Bx := Spot_ × Spot_
def fb (b : Bx) (p : Spot_) : Bx := (⟨min b.1.X p.X, min b.1.Y p.Y⟩, ⟨max b.2.X p.X, max b.2.Y p.Y⟩)
def iPts (s : Shape_) : List Spot_ := if s.Kind = 1 then [s.A, s.B] else if s.Kind = 2 then [⟨s.A.X - s.R, s.A.Y - s.R⟩, ⟨s.A.X + s.R, s.A.Y + s.R⟩] else [s.A]
def sPts (s : Shape_) : List Spot_ := if s.Kind = 1 then [s.A, s.B] else if s.Kind = 2 then [s.A, ⟨s.A.X - s.R, s.A.Y - s.R⟩, ⟨s.A.X + s.R, s.A.Y + s.R⟩] else [s.A]
def c0 (s : Shape_) : Spot_ := if s.Kind = 2 then ⟨s.A.X - s.R, s.A.Y - s.R⟩ else s.A
def boxF (b : Bx) (xs : List Shape_) : Bx := xs.foldl (fun b s => (iPts s).foldl fb b) b
def boxR (x : Drawing_) : Spot_ × Spot_ × Int := if drB x = true then (match x.Shapes with | [] => (⟨0, 0⟩, ⟨0, 0⟩, 3) | s :: ss => ((boxF (c0 s, c0 s) (s :: ss)).1, (boxF (c0 s, c0 s) (s :: ss)).2, 0)) else (⟨0, 0⟩, ⟨0, 0⟩, 1)
theorem pts_eq {s : Shape_} (h : shB s = true) (b : Bx) : (sPts s).foldl fb b = (iPts s).foldl fb b := by
  obtain ⟨a1, a2, a3, a4⟩ := sh_lim h
  unfold sPts iPts
  by_cases h1 : s.Kind = 1
  · simp [h1]
  · by_cases h2 : s.Kind = 2
    · have := a4 h2
      simp only [h2, if_true, if_neg (show ¬ ((2 : Int) = 1) by omega), List.foldl, fb]
      congr 2 <;> omega
    · simp [h1, h2]
theorem pts_0 {s : Shape_} (h : shB s = true) : (sPts s).foldl fb (s.A, s.A) = (iPts s).foldl fb (c0 s, c0 s) := by
  obtain ⟨a1, a2, a3, a4⟩ := sh_lim h
  rw [pts_eq h]
  unfold iPts c0
  by_cases h1 : s.Kind = 1
  · simp [h1]
  · by_cases h2 : s.Kind = 2
    · have := a4 h2
      simp only [h2, if_true, if_neg (show ¬ ((2 : Int) = 1) by omega), List.foldl, fb]
      congr 2 <;> omega
    · simp [h1, h2]
end Go.Proofs.Ytplnohfjeilodaa
