/- Plain laws, X: equal works, calendars, movements, simulations, desks. No program. -/
import Derived.Test.YtkgeenglafchhaaXHP
namespace Go.Proofs.Ytkgeenglafchhaa
set_option linter.unusedVariables false
theorem eq2_ok {α X : Type} [DecidableEq α] {xs ys : List α} {d e : X} {step : Int → Option (Int ⊕ X)} (h : xs.length = ys.length) (hS : ∀ (i : Nat) (hi : i < xs.length) (hj : i < ys.length), step (i : Int) = some (if xs[i] = ys[i] then .inl ((i : Int) + 1) else .inr e)) (hE : step xs.length = some (.inr d)) (hl : xs.length ≤ 9223372036854775807) :
    loopM step 0 = some (if xs = ys then d else e) := by
  rw [scan_ok (n := xs.length) (d := d) (e := e) (g := fun i => decide (xs[i]? = ys[i]?)) (fun i hi => ?_) hE hl]
  · congr 2
    rw [List.all_eq_true, eq_iff_iff]
    constructor
    · intro q
      refine List.ext_getElem? fun i => ?_
      by_cases hi : i < xs.length
      · exact of_decide_eq_true (q i (List.mem_range.2 hi))
      · rw [List.getElem?_eq_none (by omega), List.getElem?_eq_none (by omega)]
    · rintro rfl i hi
      exact decide_eq_true rfl
  · rw [hS i hi (by omega), List.getElem?_eq_getElem hi, List.getElem?_eq_getElem (show i < ys.length by omega)]
    by_cases q : xs[i] = ys[i] <;> simp [q]
theorem loop_eq2 {α X : Type} [DecidableEq α] {xs ys : List α} {d e : X} (hl : xs.length ≤ 9223372036854775807) (h : xs.length = ys.length) :
    loopM (S := Int) (X := X) (fun s => (if s < (xs.length : Int) then ((atI xs s).bind fun u => ((atI ys s).bind fun v => (if u ≠ v then some (.inr e) else some (.inl (w64 (s + 1)))))) else some (.inr d))) 0 = some (if xs = ys then d else e) := by
  refine eq2_ok h (fun i hi hj => ?_) (by simp) hl
  have hi' : (i : Int) < xs.length := by omega
  have e1 : w64 ((i : Int) + 1) = i + 1 := w64_in (by omega) (by omega)
  simp only [if_pos hi', atI_lt hi, atI_lt hj, Option.bind_some, e1]
  by_cases q : xs[i] = ys[i] <;> simp [q]
theorem loop_eq2f {α X : Type} [DecidableEq α] {xs ys : List α} {d e : X} {f : α → α → Option Bool} (hl : xs.length ≤ 9223372036854775807) (h : xs.length = ys.length) (hf : ∀ u ∈ xs, ∀ v, f u v = some (decide (u = v))) :
    loopM (S := Int) (X := X) (fun s => (if s < (xs.length : Int) then ((atI xs s).bind fun u => ((atI ys s).bind fun v => ((f u v).bind fun b => (if (!b) = true then some (.inr e) else some (.inl (w64 (s + 1))))))) else some (.inr d))) 0 = some (if xs = ys then d else e) := by
  refine eq2_ok h (fun i hi hj => ?_) (by simp) hl
  have hi' : (i : Int) < xs.length := by omega
  have e1 : w64 ((i : Int) + 1) = i + 1 := w64_in (by omega) (by omega)
  simp only [if_pos hi', atI_lt hi, atI_lt hj, Option.bind_some, e1, hf _ (List.getElem_mem hi)]
  by_cases q : xs[i] = ys[i] <;> simp [q]
theorem len_eq {α : Type} {a b : List α} (h : ¬ a.length = b.length) : ¬ a = b := fun e => h (e ▸ rfl)
theorem slices_Equal_Lint64_int64_eq {a b : List Int} (hl : a.length ≤ 1048576) : slices_Equal_Lint64_int64_m a b = some (decide (a = b)) := by
  unfold slices_Equal_Lint64_int64_m
  by_cases h : a.length = b.length
  · rw [if_neg (by omega), loop_eq2 (by omega) h]
    by_cases e : a = b <;> simp [e, orE]
  · rw [if_pos (by omega)]
    simp [len_eq h]
theorem slices_Equal_LMesh_Mesh_eq {a b : List Mesh_} (hl : a.length ≤ 1048576) : slices_Equal_LMesh_Mesh_m a b = some (decide (a = b)) := by
  unfold slices_Equal_LMesh_Mesh_m
  by_cases h : a.length = b.length
  · rw [if_neg (by omega), loop_eq2 (by omega) h]
    by_cases e : a = b <;> simp [e, orE]
  · rw [if_pos (by omega)]
    simp [len_eq h]
theorem slices_Equal_LMonth_Month_eq {a b : List Month_} (hl : a.length ≤ 1048576) : slices_Equal_LMonth_Month_m a b = some (decide (a = b)) := by
  unfold slices_Equal_LMonth_Month_m
  by_cases h : a.length = b.length
  · rw [if_neg (by omega), loop_eq2 (by omega) h]
    by_cases e : a = b <;> simp [e, orE]
  · rw [if_pos (by omega)]
    simp [len_eq h]
theorem slices_Equal_LLeapRule_LeapRule_eq {a b : List LeapRule_} (hl : a.length ≤ 1048576) : slices_Equal_LLeapRule_LeapRule_m a b = some (decide (a = b)) := by
  unfold slices_Equal_LLeapRule_LeapRule_m
  by_cases h : a.length = b.length
  · rw [if_neg (by omega), loop_eq2 (by omega) h]
    by_cases e : a = b <;> simp [e, orE]
  · rw [if_pos (by omega)]
    simp [len_eq h]
theorem s_l00Same_eq {a b : List Int} (hl : a.length ≤ 1048576) : s_l00Same_m a b = some (decide (a = b)) := by
  unfold s_l00Same_m
  by_cases h : a.length = b.length
  · rw [if_neg (by omega), loop_eq2 (by omega) h]
    by_cases e : a = b <;> simp [e, orE]
  · rw [if_pos (by omega)]
    simp [len_eq h]
theorem i_SameWorks_1_eq {x y : Arbor_} (hx : smArbor_ x) : i_SameWorks_1_m x y = some (decide (x = y)) := by
  obtain ⟨n, w⟩ := x
  obtain ⟨n', w'⟩ := y
  unfold i_SameWorks_1_m
  simp only [slices_Equal_Lint64_int64_eq hx.2.1, Option.bind_some, Arbor_.mk.injEq]
  by_cases h : n = n' <;> by_cases k : w = w' <;> simp [h, k]
theorem i_arbors_eq {a b : List Arbor_} (ha : smL smArbor_ a) : slices_EqualFunc_LArbor_LArbor_Arbor_Arbor_i_SameWorks_1_m a b = some (decide (a = b)) := by
  unfold slices_EqualFunc_LArbor_LArbor_Arbor_Arbor_i_SameWorks_1_m
  have hl := ha.1
  by_cases h : a.length = b.length
  · rw [if_neg (by omega), loop_eq2f (f := i_SameWorks_1_m) (by omega) h fun u hu v => i_SameWorks_1_eq (ha.2 u hu)]
    by_cases e : a = b <;> simp [e, orE]
  · rw [if_pos (by omega)]
    simp [len_eq h]
theorem i_SameWorks_eq {x y : Works_} (hx : smWorks_ x) : i_SameWorks_m x y = some (decide (x = y)) := by
  obtain ⟨n, w⟩ := x
  obtain ⟨n', w'⟩ := y
  unfold i_SameWorks_m
  simp only [slices_Equal_LMesh_Mesh_eq hx.2.1, i_arbors_eq hx.1, Option.bind_some, Works_.mk.injEq]
  by_cases h : n = n' <;> by_cases k : w = w' <;> simp [h, k]
theorem s_SameWorks_eq {x y : Works_} (hx : smWorks_ x) : s_SameWorks_m x y = some (decide (x = y)) := by
  obtain ⟨n, w⟩ := x
  obtain ⟨n', w'⟩ := y
  obtain ⟨ha, hw⟩ := hx
  have l1 := ha.1
  have l2 := hw.1
  unfold s_SameWorks_m
  dsimp only at ha hw l1 l2 ⊢
  by_cases h1 : n.length = n'.length
  · by_cases h2 : w.length = w'.length
    · rw [if_neg (by omega)]
      have e0 : decide ((w.length : Int) ≠ (w'.length : Int)) = false := by simp [h2]
      rw [e0, Option.bind_some, if_neg (by decide), loop_eq2 (xs := w) (ys := w') (by omega) h2]
      have q := eq2_ok (X := Unit ⊕ Bool) (xs := n) (ys := n') (d := .inl ()) (e := .inr false) (step := fun s9 => (if s9 < (n.length : Int) then ((((atI n s9).bind fun v10 => ((atI n' s9).bind fun v11 => (if v10.Name ≠ v11.Name then some true else ((atI n s9).bind fun v12 => ((atI n' s9).bind fun v13 => ((s_l00Same_m v12.Wheels v13.Wheels).bind fun v14 => some (!v14))))))) : Option Bool).bind fun v15 => (if v15 = true then some (.inr (.inr false)) else some (.inl (w64 (s9 + 1))))) else some (.inr (.inl ())))) h1 (fun i hi hj => by
        have hi' : (i : Int) < n.length := by omega
        have e1 : w64 ((i : Int) + 1) = i + 1 := w64_in (by omega) (by omega)
        have hs := (ha.2 _ (List.getElem_mem hi)).2.1
        simp only [if_pos hi', atI_lt hi, atI_lt hj, Option.bind_some, e1, s_l00Same_eq hs]
        generalize n[i] = u
        generalize n'[i] = v
        obtain ⟨u1, u2⟩ := u
        obtain ⟨v1, v2⟩ := v
        by_cases h : u1 = v1 <;> by_cases k : u2 = v2 <;> simp [h, k]) (by simp) (by omega)
      rw [q]
      by_cases e : n = n' <;> by_cases e' : w = w' <;> simp [e, e', orE]
    · rw [if_neg (by omega)]
      have e0 : decide ((w.length : Int) ≠ (w'.length : Int)) = true := by simp; omega
      rw [e0, Option.bind_some, if_pos rfl]
      simp [len_eq h2]
  · rw [if_pos (by omega), Option.bind_some, if_pos rfl]
    simp [len_eq h1]
theorem i_SameCalendar_eq {x y : Calendar_} (hx : smCalendar_ x) : i_SameCalendar_m x y = some (decide (x = y)) := by
  obtain ⟨n, w, r, z⟩ := x
  obtain ⟨n', w', r', z'⟩ := y
  obtain ⟨_, h2, h3, _⟩ := hx
  unfold i_SameCalendar_m
  simp only [slices_Equal_LMonth_Month_eq h2.1, slices_Equal_LLeapRule_LeapRule_eq h3.1, Option.bind_some, Calendar_.mk.injEq]
  by_cases h : n = n' <;> by_cases k : w = w' <;> by_cases l : z = z' <;> simp [*]
theorem s_l15Same_eq {x y : Calendar_} (hx : smCalendar_ x) : s_l15Same_m x y = some (decide (x = y)) := by
  obtain ⟨n, w, r, k⟩ := x
  obtain ⟨n', w', r', k'⟩ := y
  obtain ⟨_, h2, h3, _⟩ := hx
  have l1 := h2.1
  have l2 := h3.1
  unfold s_l15Same_m
  dsimp only at l1 l2 ⊢
  by_cases h : n = n'
  · by_cases hk : k = k'
    · by_cases a1 : w.length = w'.length
      · by_cases a2 : r.length = r'.length
        · rw [if_neg (by simp [h]), if_neg (by simp [hk]), if_neg (by omega)]
          have e0 : decide ((r.length : Int) ≠ (r'.length : Int)) = false := by simp [a2]
          rw [e0, Option.bind_some, if_neg (by decide), loop_eq2 (xs := w) (ys := w') (by omega) a1, loop_eq2 (xs := r) (ys := r') (by omega) a2]
          by_cases e : w = w' <;> by_cases e' : r = r' <;> simp [e, e', orE, h, hk]
        · rw [if_neg (by simp [h]), if_neg (by simp [hk]), if_neg (by omega)]
          have e0 : decide ((r.length : Int) ≠ (r'.length : Int)) = true := by simp; omega
          rw [e0, Option.bind_some, if_pos rfl]
          simp [len_eq a2]
      · rw [if_neg (by simp [h]), if_neg (by simp [hk]), if_pos (by omega), Option.bind_some, if_pos rfl]
        simp [len_eq a1]
    · simp [h, hk]
  · simp [h]
theorem i_SameMovement_eq {x y : Movement_} (hx : smMovement_ x) : i_SameMovement_m x y = some (decide (x = y)) := by
  obtain ⟨a1, a2, a3, a4, a5, a6, a7, a8, a9, a10⟩ := x
  obtain ⟨b1, b2, b3, b4, b5, b6, b7, b8, b9, b10⟩ := y
  obtain ⟨h1, h2, _, _, _, _, _, h8, h9, _⟩ := hx
  unfold i_SameMovement_m
  have g : (if a6 = b6 then (if a7 = b7 then some (decide (a10 = b10)) else some false) else some false) = some (decide (a6 = b6) && (decide (a7 = b7) && decide (a10 = b10))) := by
    by_cases q6 : a6 = b6 <;> by_cases q7 : a7 = b7 <;> simp [*]
  have g2 : (if a3 = b3 then (if a4 = b4 then some (decide (a5 = b5)) else some false) else some false) = some (decide (a3 = b3) && (decide (a4 = b4) && decide (a5 = b5))) := by
    by_cases q6 : a3 = b3 <;> by_cases q7 : a4 = b4 <;> simp [*]
  simp only [g, g2, i_SameWorks_eq h2, i_SameCalendar_eq h8, slices_Equal_Lint64_int64_eq h9.1, Option.bind_some, Movement_.mk.injEq]
  by_cases q1 : a1 = b1
  · by_cases q3 : a3 = b3
    · by_cases q4 : a4 = b4
      · by_cases q5 : a5 = b5
        · by_cases q6 : a6 = b6
          · by_cases q7 : a7 = b7
            · by_cases q10 : a10 = b10
              · by_cases q2 : a2 = b2 <;> by_cases q8 : a8 = b8 <;> simp [*]
              · simp [*]
            · simp [*]
          · simp [*]
        · simp [*]
      · simp [*]
    · simp [*]
  · simp [*]
theorem s_SameMovement_eq {x y : Movement_} (hx : smMovement_ x) : s_SameMovement_m x y = some (decide (x = y)) := by
  obtain ⟨a1, a2, a3, a4, a5, a6, a7, a8, a9, a10⟩ := x
  obtain ⟨b1, b2, b3, b4, b5, b6, b7, b8, b9, b10⟩ := y
  obtain ⟨h1, h2, _, _, _, _, _, h8, h9, _⟩ := hx
  unfold s_SameMovement_m
  simp only [s_SameWorks_eq h2, s_l15Same_eq h8, s_l00Same_eq h9.1, Option.bind_some, Movement_.mk.injEq]
  by_cases q1 : a1 = b1
  · by_cases q3 : a3 = b3
    · by_cases q4 : a4 = b4
      · by_cases q5 : a5 = b5
        · by_cases q6 : a6 = b6
          · by_cases q7 : a7 = b7
            · by_cases q10 : a10 = b10
              · by_cases q2 : a2 = b2 <;> by_cases q8 : a8 = b8 <;> simp [*]
              · simp [*]
            · simp [*]
          · simp [*]
        · simp [*]
      · simp [*]
    · simp [*]
  · simp [*]
theorem law_sameMovement (p0 : Movement_) (k0 : okMovement_ p0) (p1 : Movement_) (k1 : okMovement_ p1) : l_FnExactSameMovement_m p0 p1 = some true := by
  unfold l_FnExactSameMovement_m
  obtain ⟨r, e, l, s⟩ := szMovement_ok k0 1048576 (by omega) (by omega)
  rw [e, Option.bind_some]
  by_cases hr : r < 0
  · rw [if_pos hr]
  · rw [if_neg hr]
    have h0 := s (by omega)
    obtain ⟨r2, e2, l2, s2⟩ := szMovement_ok k1 r (by omega) (by omega)
    rw [e2, Option.bind_some]
    by_cases hr2 : r2 < 0
    · rw [if_pos hr2]
    · rw [if_neg hr2]
      have h1 := s2 (by omega)
      simp [toMovement_eq h0, toMovement_eq h1, s_SameMovement_eq h0, i_SameMovement_eq h0, eqMovement_refl h0, eqMovement_refl h1]
theorem i_SamePerpetual_eq {x y : Perpetual_} (hx : smPerpetual_ x) : i_SamePerpetual_m x y = some (decide (x = y)) := by
  obtain ⟨a1, a2, a3, a4, a5, a6, a7⟩ := x
  obtain ⟨b1, b2, b3, b4, b5, b6, b7⟩ := y
  unfold i_SamePerpetual_m
  simp only [slices_Equal_Lint64_int64_eq hx.1.1, Option.bind_some, Perpetual_.mk.injEq]
  by_cases q1 : a1 = b1
  · by_cases q2 : a2 = b2
    · by_cases q3 : a3 = b3
      · by_cases q4 : a4 = b4
        · by_cases q5 : a5 = b5
          · by_cases q6 : a6 = b6 <;> simp [*]
          · simp [*]
        · simp [*]
      · simp [*]
    · simp [*]
  · simp [*]
theorem s_SamePerpetual_eq {x y : Perpetual_} (hx : smPerpetual_ x) : s_SamePerpetual_m x y = some (decide (x = y)) := by
  obtain ⟨a1, a2, a3, a4, a5, a6, a7⟩ := x
  obtain ⟨b1, b2, b3, b4, b5, b6, b7⟩ := y
  unfold s_SamePerpetual_m
  simp only [s_l00Same_eq hx.1.1, Option.bind_some, Perpetual_.mk.injEq]
  by_cases q1 : a1 = b1
  · by_cases q2 : a2 = b2
    · by_cases q3 : a3 = b3
      · by_cases q4 : a4 = b4
        · by_cases q5 : a5 = b5
          · by_cases q6 : a6 = b6 <;> simp [*]
          · simp [*]
        · simp [*]
      · simp [*]
    · simp [*]
  · simp [*]
theorem SameSim_tail {x y : Sim_} {a b : Bool} (ha : a = decide (x.Movement = y.Movement)) (hb : b = decide (x.Dial = y.Dial)) : (decide (x = y)) = (decide (x.Start = y.Start) && (decide (x.First = y.First) && (decide (x.Clock = y.Clock) && (a && b)))) := by
  subst ha hb
  obtain ⟨a1, a2, a3, a4, a5⟩ := x
  obtain ⟨b1, b2, b3, b4, b5⟩ := y
  simp only [Sim_.mk.injEq, ← Bool.decide_and]
  rw [decide_eq_decide]
  constructor
  · rintro ⟨h1, h2, h3, h4, h5⟩; exact ⟨h2, h3, h4, h1, h5⟩
  · rintro ⟨h2, h3, h4, h1, h5⟩; exact ⟨h1, h2, h3, h4, h5⟩
theorem sx_A {a b : Bool} : (if a = true then some b else some false) = some (a && b) := by cases a <;> rfl
theorem sx_Ap {p : Prop} [Decidable p] {b : Bool} : (if p then some b else some false) = some (decide p && b) := by by_cases h : p <;> simp [h]
theorem i_SameSim_eq {x y : Sim_} (hx : smSim_ x) : i_SameSim_m x y = some (decide (x = y)) := by
  unfold i_SameSim_m
  rw [SameSim_tail rfl rfl]
  simp only [i_SameMovement_eq hx.1, i_SamePerpetual_eq hx.2.2.2.2, Option.bind_some, sx_A]
  simp only [sx_Ap]
theorem s_SameSim_eq {x y : Sim_} (hx : smSim_ x) : s_SameSim_m x y = some (decide (x = y)) := by
  unfold s_SameSim_m
  rw [SameSim_tail rfl rfl]
  simp only [s_SameMovement_eq hx.1, s_SamePerpetual_eq hx.2.2.2.2, Option.bind_some, sx_Ap]
  congr 1
  cases decide (x.Movement = y.Movement) <;> simp
theorem decD {x y : Desk_} : decide (x.Sim = y.Sim) = decide (x = y) := by
  obtain ⟨a⟩ := x
  obtain ⟨b⟩ := y
  rw [decide_eq_decide, Desk_.mk.injEq]
theorem law_sameSim (p0 : Sim_) (k0 : okSim_ p0) (p1 : Sim_) (k1 : okSim_ p1) : l_FnExactSameSim_m p0 p1 = some true := by
  unfold l_FnExactSameSim_m
  obtain ⟨r, e, l, s⟩ := szSim_ok k0 1048576 (by omega) (by omega)
  rw [e, Option.bind_some]
  by_cases hr : r < 0
  · rw [if_pos hr]
  · rw [if_neg hr]
    have h0 := s (by omega)
    obtain ⟨r2, e2, l2, s2⟩ := szSim_ok k1 r (by omega) (by omega)
    rw [e2, Option.bind_some]
    by_cases hr2 : r2 < 0
    · rw [if_pos hr2]
    · rw [if_neg hr2]
      have h1 := s2 (by omega)
      simp [toSim_eq h0, toSim_eq h1, s_SameSim_eq h0, i_SameSim_eq h0, eqSim_refl h0, eqSim_refl h1]
theorem i_SameDesk_eq {x y : Desk_} (hx : smDesk_ x) : i_SameDesk_m x y = some (decide (x = y)) := by
  unfold i_SameDesk_m
  rw [i_SameSim_eq hx, Option.bind_some, decD]
theorem s_SameDesk_eq {x y : Desk_} (hx : smDesk_ x) : s_SameDesk_m x y = some (decide (x = y)) := by
  unfold s_SameDesk_m
  rw [s_SameSim_eq hx, Option.bind_some, decD]
theorem law_sameDesk (p0 : Desk_) (k0 : okDesk_ p0) (p1 : Desk_) (k1 : okDesk_ p1) : l_FnExactSameDesk_m p0 p1 = some true := by
  unfold l_FnExactSameDesk_m
  obtain ⟨r, e, l, s⟩ := szDesk_ok k0 1048576 (by omega) (by omega)
  rw [e, Option.bind_some]
  by_cases hr : r < 0
  · rw [if_pos hr]
  · rw [if_neg hr]
    have h0 := s (by omega)
    obtain ⟨r2, e2, l2, s2⟩ := szDesk_ok k1 r (by omega) (by omega)
    rw [e2, Option.bind_some]
    by_cases hr2 : r2 < 0
    · rw [if_pos hr2]
    · rw [if_neg hr2]
      have h1 := s2 (by omega)
      simp [toDesk_eq h0, toDesk_eq h1, s_SameDesk_eq h0, i_SameDesk_eq h0, eqDesk_refl h0, eqDesk_refl h1]
end Go.Proofs.Ytkgeenglafchhaa
