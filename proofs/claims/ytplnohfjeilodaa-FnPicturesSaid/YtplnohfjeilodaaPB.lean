/- Plain laws, B: boxes of drawings; drawings moved and turned, the law. No program. -/
import Derived.Test.YtplnohfjeilodaaPM
namespace Go.Proofs.Ytplnohfjeilodaa
set_option linter.unusedVariables false
theorem corners_eq {s : Shape_} (h : shB s = true) : i_cornersOf_m s = some (iPts s) := by
  obtain ⟨a1, a2, a3, a4⟩ := sh_lim h
  have hA := sp_lim a1
  unfold i_cornersOf_m iPts
  by_cases h1 : s.Kind = 1
  · simp [h1]
  · by_cases h2 : s.Kind = 2
    · have := a4 h2
      rw [if_neg h1, if_pos h2, if_neg h1, if_pos h2, w64_in (x := s.A.X - s.R) (by omega) (by omega), w64_in (x := s.A.Y - s.R) (by omega) (by omega), w64_in (x := s.A.X + s.R) (by omega) (by omega), w64_in (x := s.A.Y + s.R) (by omega) (by omega)]
    · simp [h1, h2]
theorem iPts_0 (s : Shape_) : atI (iPts s) 0 = some (c0 s) := by
  unfold iPts c0
  by_cases h1 : s.Kind = 1
  · simp [h1, atI]
  · by_cases h2 : s.Kind = 2 <;> simp [h1, h2, atI]
theorem i_box_eq (x : Drawing_) : i_BoxOf_m x = some (boxR x) := by
  unfold i_BoxOf_m boxR
  rw [i_ValidDrawing_eq, Option.bind_some]
  rcases Bool.eq_false_or_eq_true (drB x) with h | h
  · have hd := drB_len h
    have ha := dr_all h
    simp only [h, Bool.not_true, Bool.false_eq_true, if_false, if_true]
    cases hx : x.Shapes with
    | nil => simp
    | cons s ss =>
      have hs : shB s = true := ha s (by rw [hx]; exact List.mem_cons_self ..)
      rw [← hx]
      have hl : ¬ (x.Shapes.length : Int) = 0 := by rw [hx]; simp; omega
      rw [if_neg hl]
      have h0 : atI x.Shapes 0 = some s := by rw [hx]; rfl
      rw [h0, Option.bind_some, corners_eq hs, Option.bind_some, iPts_0, Option.bind_some]
      rw [foldL_ok (xs := x.Shapes) (f := fun (b : Bx) s => (iPts s).foldl fb b) (c0 s, c0 s) (fun i hi b => ?_) (fun b => by simp) (by omega)]
      · rw [Option.bind_some, hx]; rfl
      · have e1 : w64 ((i : Int) + 1) = i + 1 := w64_in (by omega) (by omega)
        have hi' : (i : Int) < x.Shapes.length := by omega
        have hsi := ha _ (List.getElem_mem hi)
        simp only [if_pos hi', atI_lt hi, Option.bind_some, e1, corners_eq hsi]
        have hin := foldL_ok (xs := iPts x.Shapes[i]) (f := fb) (step := fun s18 => (if s18.1 < ((iPts x.Shapes[i]).length : Int) then ((atI (iPts x.Shapes[i]) s18.1).bind fun v19 => some (.inl (w64 (s18.1 + 1), (⟨min s18.2.1.X v19.X, min s18.2.1.Y v19.Y⟩ : Spot_), (⟨max s18.2.2.X v19.X, max s18.2.2.Y v19.Y⟩ : Spot_)))) else some (.inr (s18.2.1, s18.2.2)))) b (fun j hj b => by
          have hj' : (j : Int) < (iPts x.Shapes[i]).length := by omega
          have hlen : (iPts x.Shapes[i]).length ≤ 2 := by unfold iPts; split <;> (try split) <;> simp
          have e2 : w64 ((j : Int) + 1) = j + 1 := w64_in (by omega) (by omega)
          simp only [if_pos hj', atI_lt hj, Option.bind_some, e2]; rfl) (fun b => by simp) (by unfold iPts; split <;> (try split) <;> simp)
        rw [show ((0 : Int), b.1, b.2) = ((0 : Int), b) from rfl, hin]; rfl
  · simp [h]
theorem min_eq (a b : Int) : s_l00Min_m a b = some (min a b) := by unfold s_l00Min_m; split <;> (congr 1; omega)
theorem max_eq (a b : Int) : s_l00Max_m a b = some (max a b) := by unfold s_l00Max_m; split <;> (congr 1; omega)
theorem s_box_eq {x : Drawing_} (hl : x.Shapes.length ≤ 1048576) : s_BoxOf_m x = some (boxR x) := by
  unfold s_BoxOf_m boxR
  rw [s_l25Ok_eq (by omega), Option.bind_some]
  rcases Bool.eq_false_or_eq_true (drB x) with h | h
  · have hd := drB_len h
    have ha := dr_all h
    simp only [h, Bool.not_true, Bool.false_eq_true, if_false, if_true]
    cases hx : x.Shapes with
    | nil => simp
    | cons s ss =>
      have hs : shB s = true := ha s (by rw [hx]; exact List.mem_cons_self ..)
      rw [← hx]
      have hl : ¬ (x.Shapes.length : Int) = 0 := by rw [hx]; simp; omega
      rw [if_neg hl]
      have h0 : atI x.Shapes 0 = some s := by rw [hx]; rfl
      rw [h0, Option.bind_some]
      rw [foldL_ok (xs := x.Shapes) (f := fun (b : Bx) s => (sPts s).foldl fb b) (s.A, s.A) (fun i hi b => ?_) (fun b => by simp) (by omega)]
      · have key : ∀ (l : List Shape_) (b : Bx), (∀ v ∈ l, shB v = true) → l.foldl (fun (b : Bx) s => (sPts s).foldl fb b) b = l.foldl (fun (b : Bx) s => (iPts s).foldl fb b) b := fun l => by
          induction l with
          | nil => intro b _; rfl
          | cons v l ih => intro b hv; rw [List.foldl_cons, List.foldl_cons, pts_eq (hv v (List.mem_cons_self ..)), ih _ fun u hu => hv u (List.mem_cons_of_mem _ hu)]
        have hss : ∀ v ∈ ss, shB v = true := fun v hv => ha v (by rw [hx]; exact List.mem_cons_of_mem _ hv)
        rw [Option.bind_some, hx, List.foldl_cons, pts_0 hs, key ss _ hss]; rfl
      · have e1 : w64 ((i : Int) + 1) = i + 1 := w64_in (by omega) (by omega)
        have hi' : (i : Int) < x.Shapes.length := by omega
        have hsi := ha _ (List.getElem_mem hi)
        obtain ⟨a1, a2, a3, a4⟩ := sh_lim hsi
        have hA := sp_lim a1
        simp only [if_pos hi', atI_lt hi, Option.bind_some, e1]
        have hp : ((if x.Shapes[i].Kind = 1 then (chk (([x.Shapes[i].A].length + [x.Shapes[i].B].length) * 2 * 64 ≤ 140737488355328) (some ([x.Shapes[i].A] ++ [x.Shapes[i].B]))) else (if x.Shapes[i].Kind = 2 then (chk (([x.Shapes[i].A].length + [(⟨w64 (x.Shapes[i].A.X - x.Shapes[i].R), w64 (x.Shapes[i].A.Y - x.Shapes[i].R)⟩ : Spot_), (⟨w64 (x.Shapes[i].A.X + x.Shapes[i].R), w64 (x.Shapes[i].A.Y + x.Shapes[i].R)⟩ : Spot_)].length) * 2 * 64 ≤ 140737488355328) (some ([x.Shapes[i].A] ++ [(⟨w64 (x.Shapes[i].A.X - x.Shapes[i].R), w64 (x.Shapes[i].A.Y - x.Shapes[i].R)⟩ : Spot_), (⟨w64 (x.Shapes[i].A.X + x.Shapes[i].R), w64 (x.Shapes[i].A.Y + x.Shapes[i].R)⟩ : Spot_)]))) else some [x.Shapes[i].A])) : Option (List Spot_)) = some (sPts x.Shapes[i]) := by
          unfold sPts
          by_cases h1 : x.Shapes[i].Kind = 1
          · rw [if_pos h1, if_pos h1, chk_t (by simp)]; rfl
          · by_cases h2 : x.Shapes[i].Kind = 2
            · have := a4 h2
              rw [if_neg h1, if_pos h2, if_neg h1, if_pos h2, chk_t (by simp), w64_in (x := x.Shapes[i].A.X - x.Shapes[i].R) (by omega) (by omega), w64_in (x := x.Shapes[i].A.Y - x.Shapes[i].R) (by omega) (by omega), w64_in (x := x.Shapes[i].A.X + x.Shapes[i].R) (by omega) (by omega), w64_in (x := x.Shapes[i].A.Y + x.Shapes[i].R) (by omega) (by omega)]; rfl
            · rw [if_neg h1, if_neg h2, if_neg h1, if_neg h2]
        rw [hp, Option.bind_some]
        have hin := foldL_ok (xs := sPts x.Shapes[i]) (f := fb) (step := fun s41 => (if s41.1 < ((sPts x.Shapes[i]).length : Int) then ((atI (sPts x.Shapes[i]) s41.1).bind fun v42 => ((atI (sPts x.Shapes[i]) s41.1).bind fun v43 => ((s_l00Min_m s41.2.1.X v42.X).bind fun v44 => ((s_l00Min_m s41.2.1.Y v43.Y).bind fun v45 => ((atI (sPts x.Shapes[i]) s41.1).bind fun v46 => ((atI (sPts x.Shapes[i]) s41.1).bind fun v47 => ((s_l00Max_m s41.2.2.X v46.X).bind fun v48 => ((s_l00Max_m s41.2.2.Y v47.Y).bind fun v49 => some (.inl (w64 (s41.1 + 1), (⟨v44, v45⟩ : Spot_), (⟨v48, v49⟩ : Spot_))))))))))) else some (.inr (s41.2.1, s41.2.2)))) b (fun j hj b => by
          have hj' : (j : Int) < (sPts x.Shapes[i]).length := by omega
          have hlen : (sPts x.Shapes[i]).length ≤ 3 := by unfold sPts; split <;> (try split) <;> simp
          have e2 : w64 ((j : Int) + 1) = j + 1 := w64_in (by omega) (by omega)
          simp only [if_pos hj', atI_lt hj, Option.bind_some, e2, min_eq, max_eq]; rfl) (fun b => by simp) (by unfold sPts; split <;> (try split) <;> simp)
        rw [show ((0 : Int), b.1, b.2) = ((0 : Int), b) from rfl, hin]; rfl
  · simp [h]
/-! a box moves with its drawing -/
def addP (b p : Spot_) : Spot_ := ⟨p.X + b.X, p.Y + b.Y⟩
def addB (b : Spot_) (r : Bx) : Bx := (addP b r.1, addP b r.2)
theorem fb_add (b : Spot_) (r : Bx) (p : Spot_) : fb (addB b r) (addP b p) = addB b (fb r p) := by
  simp only [fb, addB, addP]
  congr 2 <;> omega
theorem iPts_mv {b : Spot_} {s : Shape_} : iPts (mv b s) = (iPts s).map (addP b) := by
  unfold iPts mv
  by_cases h1 : s.Kind = 1
  · simp [h1, addP]
  · by_cases h2 : s.Kind = 2
    · simp [h2, addP]; omega
    · simp [h1, h2, addP]
theorem c0_mv {b : Spot_} {s : Shape_} : c0 (mv b s) = addP b (c0 s) := by
  unfold c0 mv addP
  by_cases h2 : s.Kind = 2
  · simp [h2]; omega
  · simp [h2]
theorem fold_add (b : Spot_) (ps : List Spot_) (r : Bx) : (ps.map (addP b)).foldl fb (addB b r) = addB b (ps.foldl fb r) := by
  induction ps generalizing r with
  | nil => rfl
  | cons p ps ih => rw [List.map_cons, List.foldl_cons, List.foldl_cons, fb_add, ih]
theorem boxF_mv (b : Spot_) (xs : List Shape_) (r : Bx) : boxF (addB b r) (xs.map (mv b)) = addB b (boxF r xs) := by
  unfold boxF
  induction xs generalizing r with
  | nil => rfl
  | cons s xs ih => rw [List.map_cons, List.foldl_cons, List.foldl_cons, iPts_mv, fold_add, ih]
/-- corners of valid drawings lie so far out at most -/
theorem boxF_lim (xs : List Shape_) (r : Bx) (hx : ∀ s ∈ xs, shB s = true) (h1 : -200000 ≤ r.1.X ∧ r.1.X ≤ 200000 ∧ -200000 ≤ r.1.Y ∧ r.1.Y ≤ 200000 ∧ -200000 ≤ r.2.X ∧ r.2.X ≤ 200000 ∧ -200000 ≤ r.2.Y ∧ r.2.Y ≤ 200000) :
    -200000 ≤ (boxF r xs).1.X ∧ (boxF r xs).1.X ≤ 200000 ∧ -200000 ≤ (boxF r xs).1.Y ∧ (boxF r xs).1.Y ≤ 200000 ∧ -200000 ≤ (boxF r xs).2.X ∧ (boxF r xs).2.X ≤ 200000 ∧ -200000 ≤ (boxF r xs).2.Y ∧ (boxF r xs).2.Y ≤ 200000 := by
  unfold boxF
  induction xs generalizing r with
  | nil => exact h1
  | cons s xs ih =>
    rw [List.foldl_cons]
    refine ih _ (fun u hu => hx u (List.mem_cons_of_mem _ hu)) ?_
    obtain ⟨a1, a2, a3, a4⟩ := sh_lim (hx s (List.mem_cons_self ..))
    have hA := sp_lim a1
    unfold iPts
    by_cases k1 : s.Kind = 1
    · have hB := sp_lim (a2 k1)
      simp only [k1, if_true, List.foldl, fb]; omega
    · by_cases k2 : s.Kind = 2
      · have := a4 k2
        simp only [k2, if_true, if_neg (show ¬ ((2 : Int) = 1) by omega), List.foldl, fb]; omega
      · simp only [k1, k2, if_false, List.foldl, fb]; omega
theorem c0_lim {s : Shape_} (h : shB s = true) : -200000 ≤ (c0 s).X ∧ (c0 s).X ≤ 200000 ∧ -200000 ≤ (c0 s).Y ∧ (c0 s).Y ≤ 200000 := by
  obtain ⟨a1, a2, a3, a4⟩ := sh_lim h
  have hA := sp_lim a1
  unfold c0
  by_cases k2 : s.Kind = 2
  · have := a4 k2
    rw [if_pos k2]; dsimp only; omega
  · rw [if_neg k2]; omega
end Go.Proofs.Ytplnohfjeilodaa
