/- Plain laws, Cal: valid calendars, cams and movements. No program. -/
import Derived.Test.YtjhadibjjldpdaaGreatPU
import Derived.Test.YtjhadibjjldpdaaGreatPWk
namespace Go.Proofs.YtjhadibjjldpdaaGreat
set_option linter.unusedVariables false
def monB (m : Month_) : Bool := nameB m.Name && (btw m.Days 1 60 && btw m.Leap 1 60)
def ruleB (r : LeapRule_) : Bool := btw r.Every 1 1000 && btw r.Rest 0 (r.Every - 1)
def cycF (y : Int) (r : LeapRule_) : Int := if y ≤ 2000 then y / (Int.gcd y r.Every : Int) * r.Every else y
/-- the years of a cycle, or a number beyond 2000 -/
def cyc (rs : List LeapRule_) : Int := rs.foldl cycF 1
def monsB (xs : List Month_) : Bool := allI xs fun i m => monB m && !((xs.take i).any fun n => decide (n.Name = m.Name))
def calB (c : Calendar_) : Bool := nameB c.Name && (decide (1 ≤ c.Months.length ∧ c.Months.length ≤ 20) && (decide (c.Rules.length ≤ 6) && (btw c.Week 1 12 && (monsB c.Months && (c.Rules.all ruleB && decide (cyc c.Rules ≤ 2000))))))
theorem ruleB_iff {r : LeapRule_} : ruleB r = true ↔ (1 ≤ r.Every ∧ r.Every ≤ 1000) ∧ 0 ≤ r.Rest ∧ r.Rest ≤ r.Every - 1 := by
  unfold ruleB btw
  simp only [Bool.and_eq_true, decide_eq_true_eq]
theorem cyc_step {y e : Int} (y0 : 1 ≤ y) (y1 : y ≤ 2000) (e0 : 1 ≤ e) (e1 : e ≤ 1000) : 1 ≤ y / (Int.gcd y e : Int) ∧ y / (Int.gcd y e : Int) ≤ 2000 ∧ 1 ≤ y / (Int.gcd y e : Int) * e ∧ y / (Int.gcd y e : Int) * e ≤ 2000000 := by
  have hg := gcd_pos (n := y) (d := e) (by omega)
  have hd : (Int.gcd y e : Int) ∣ y := Int.gcd_dvd_left ..
  have h1 : 1 ≤ y / (Int.gcd y e : Int) := by
    have h2 : (Int.gcd y e : Int) ≤ y := Int.le_of_dvd (by omega) hd
    exact (Int.le_ediv_iff_mul_le (by omega)).2 (by omega)
  have h2 : y / (Int.gcd y e : Int) ≤ y := Int.ediv_le_self _ (by omega)
  refine ⟨h1, by omega, ?_, ?_⟩
  · have := Int.mul_le_mul h1 e0 (by omega) (by omega); omega
  · have := Int.mul_le_mul (show y / (Int.gcd y e : Int) ≤ 2000 by omega) e1 (by omega) (by omega); omega
theorem cycF_in {y : Int} {r : LeapRule_} (y0 : 1 ≤ y) (y1 : y ≤ 2000000) (h : ruleB r = true) : 1 ≤ cycF y r ∧ cycF y r ≤ 2000000 := by
  unfold cycF
  have hr := ruleB_iff.1 h
  split
  · have := cyc_step y0 (by omega) hr.1.1 hr.1.2; omega
  · omega
theorem cyc_high {rs : List LeapRule_} {y : Int} (h : 2000 < y) : rs.foldl cycF y = y := by
  induction rs generalizing y with
  | nil => rfl
  | cons r rs ih =>
    rw [List.foldl_cons]
    have e : cycF y r = y := by unfold cycF; rw [if_neg (by omega)]
    rw [e]; exact ih h
theorem i_cycleYears_eq {rs : List LeapRule_} (hl : rs.length ≤ 9223372036854775807) (h : rs.all ruleB = true) : i_cycleYears_m rs = some (cyc rs) := by
  unfold i_cycleYears_m
  have hr : ∀ (i : Nat) (hi : i < rs.length), ruleB rs[i] = true := fun i hi => (List.all_eq_true.1 h) _ (List.getElem_mem hi)
  have := loop_forI (xs := rs) (step := fun s6 => (if s6.2 < (rs.length : Int) then ((((atI rs s6.2).bind fun v7 => (if s6.1 ≤ 2000 then ((i_gcd_m s6.1 v7.Every).bind fun v8 => (chk (v8 ≠ 0) (some (w64 ((w64 (s6.1.tdiv v8)) * v7.Every))))) else some s6.1)) : Option Int).bind fun v10 => some (.inl (v10, w64 (s6.2 + 1)))) else some (.inr s6.1)))
    (fun i (y : Int) => (y, i)) (fun _ r y => some (.inl (cycF y r))) id (fun y => 1 ≤ y ∧ y ≤ 2000000) hl (fun i hi y hy => by
      have hi' : (i : Int) < rs.length := by omega
      have e1 : w64 ((i : Int) + 1) = i + 1 := w64_in (by omega) (by omega)
      have hq := ruleB_iff.1 (hr i hi)
      simp only [if_pos hi', atI_lt hi, Option.bind_some, e1]
      unfold cycF
      by_cases c : y ≤ 2000
      · have hc := cyc_step hy.1 c hq.1.1 hq.1.2
        have hg := gcd_pos (n := y) (d := rs[i].Every) (by omega)
        rw [if_pos c, if_pos c, i_gcd_eq ⟨by omega, by omega⟩ (by omega) ⟨by omega, by omega⟩ (by omega), Option.bind_some, chk_t (by omega), Int.tdiv_eq_ediv_of_nonneg (by omega), w64_in (x := y / _) (by omega) (by omega), w64_in (by omega) (by omega)]
        rfl
      · rw [if_neg c, if_neg c]; rfl) (fun i hi y y' hy e => by
      injection e with e; injection e with e; subst e
      exact cycF_in hy.1 hy.2 (hr i hi)) (fun y _ => by simp) 1 (by omega)
  rw [this, forL_fold cycF (fun _ _ _ => rfl)]
  rfl
theorem s_years_for {X : Type} {e : X} {rs : List LeapRule_} : ∀ (k : Nat) (y : Int), 1 ≤ y → y ≤ 2000 → forL (X := X) (fun _ r y => if ruleB r = true then (if 2000 < y / (Int.gcd y r.Every : Int) * r.Every then some (.inr e) else some (.inl (y / (Int.gcd y r.Every : Int) * r.Every))) else some (.inr e)) rs k y = some (if rs.all ruleB = true ∧ rs.foldl cycF y ≤ 2000 then .inl (rs.foldl cycF y) else .inr e) := by
  induction rs with
  | nil => intro k y h0 h1; simp [forL, h1]
  | cons r rs ih =>
    intro k y h0 h1
    show Option.bind (if ruleB r = true then _ else _) _ = _
    cases hr : ruleB r
    · simp [hr]
    · have hq := ruleB_iff.1 hr
      have hc := cyc_step h0 h1 hq.1.1 hq.1.2
      have e : cycF y r = y / (Int.gcd y r.Every : Int) * r.Every := by unfold cycF; rw [if_pos h1]
      rw [if_pos rfl, List.foldl_cons, List.all_cons, hr, e, Bool.true_and]
      by_cases c : 2000 < y / (Int.gcd y r.Every : Int) * r.Every
      · rw [if_pos c, Option.bind_some, cyc_high c, if_neg (by omega)]
      · rw [if_neg c, Option.bind_some]
        exact ih (k + 1) _ hc.2.2.1 (by omega)
theorem s_l15Years_eq {rs : List LeapRule_} (hl : rs.length ≤ 9223372036854775807) : s_l15Years_m rs = some (if rs.all ruleB = true ∧ cyc rs ≤ 2000 then (cyc rs, decide (rs.length ≤ 6)) else (0, false)) := by
  unfold s_l15Years_m
  rw [loop_forI (xs := rs) (fun i (y : Int) => (y, i)) (fun _ r y => if ruleB r = true then (if 2000 < y / (Int.gcd y r.Every : Int) * r.Every then some (.inr (.inr (0, false))) else some (.inl (y / (Int.gcd y r.Every : Int) * r.Every))) else some (.inr (.inr (0, false)))) (fun y => .inl y) (fun y => 1 ≤ y ∧ y ≤ 2000) hl (fun i hi y hy => ?_) (fun i hi y y' hy e => ?_) (fun y _ => by simp) 1 (by omega)]
  · have e : forL (X := Int ⊕ (Int × Bool)) (fun _ r y => if ruleB r = true then (if 2000 < y / (Int.gcd y r.Every : Int) * r.Every then some (.inr (.inr (0, false))) else some (.inl (y / (Int.gcd y r.Every : Int) * r.Every))) else some (.inr (.inr (0, false)))) rs 0 1 = some (if rs.all ruleB = true ∧ cyc rs ≤ 2000 then .inl (cyc rs) else .inr (.inr (0, false))) := s_years_for 0 1 (by omega) (by omega)
    rw [e]
    by_cases c : rs.all ruleB = true ∧ cyc rs ≤ 2000
    · simp only [if_pos c]
      simp [orE]
      omega
    · simp only [if_neg c]; rfl
  · have hi' : (i : Int) < rs.length := by omega
    have e1 : w64 ((i : Int) + 1) = i + 1 := w64_in (by omega) (by omega)
    simp only [if_pos hi', atI_lt hi, Option.bind_some, e1, s_l00In_eq]
    have e2 : ruleB rs[i] = (btw rs[i].Every 1 1000 && btw rs[i].Rest 0 (rs[i].Every - 1)) := rfl
    rw [e2]
    by_cases c1 : btw rs[i].Every 1 1000 = true
    · have q := of_decide_eq_true c1
      rw [c1, w64_in (x := rs[i].Every - 1) (by omega) (by omega)]
      cases btw rs[i].Rest 0 (rs[i].Every - 1)
      · rfl
      · have hc := cyc_step hy.1 hy.2 q.1 q.2
        have hg := gcd_pos (n := y) (d := rs[i].Every) (by omega)
        simp only [Bool.not_true, Bool.false_eq_true, if_false, Option.bind_some, Bool.and_self, if_true]
        rw [s_l02Gcd_eq (by omega) (by omega) (by omega), Option.bind_some, chk_t (by omega), Int.tdiv_eq_ediv_of_nonneg (by omega), w64_in (x := y / _) (by omega) (by omega), w64_in (by omega) (by omega)]
        by_cases c : 2000 < y / (Int.gcd y rs[i].Every : Int) * rs[i].Every
        · rw [if_pos c, if_pos c]; rfl
        · rw [if_neg c, if_neg c]; rfl
    · rw [Bool.not_eq_true] at c1
      rw [c1]; rfl
  · split at e
    · rename_i hr
      have hq := ruleB_iff.1 hr
      have hc := cyc_step hy.1 hy.2 hq.1.1 hq.1.2
      split at e
      · cases e
      · injection e with e; injection e with e; omega
    · cases e
theorem i_knownMonth_eq {xs : List Month_} {m : Month_} (hl : xs.length ≤ 9223372036854775807) : slices_ContainsFunc_LMonth_Month_i_ValidCalendar_1_m xs m = some (xs.any fun n => decide (n.Name = m.Name)) := by
  unfold slices_ContainsFunc_LMonth_Month_i_ValidCalendar_1_m slices_IndexFunc_LMonth_Month_i_ValidCalendar_1_m
  rw [findG (fun n => decide (n.Name = m.Name)) hl fun i hi => by rw [atI_lt hi, Option.bind_some, i_ValidCalendar_1_m, Option.bind_some], Option.bind_some, posOf_nn]
theorem i_ValidCalendar_eq {c : Calendar_} (hm : c.Months.length ≤ 9223372036854775807) (hr : c.Rules.length ≤ 9223372036854775807) : i_ValidCalendar_m c = some (calB c) := by
  unfold i_ValidCalendar_m calB
  simp only [i_IsName_eq, i_within_eq, Option.bind_some, itO]
  simp only [itOp (p := (_ : Int) < _), itO, Option.bind_some]
  by_cases h : nameB c.Name = true ∧ (1 ≤ c.Months.length ∧ c.Months.length ≤ 20) ∧ c.Rules.length ≤ 6 ∧ btw c.Week 1 12 = true
  · obtain ⟨h1, h2, h3, h4⟩ := h
    rw [h1, h4, decide_eq_false (show ¬ (c.Months.length : Int) < 1 by omega), decide_eq_false (show ¬ 20 < (c.Months.length : Int) by omega), decide_eq_false (show ¬ 6 < (c.Rules.length : Int) by omega), decide_eq_true h2, decide_eq_true h3, if_neg (by decide),
      scanG (e := .inr false) (fun i m => monB m && !((c.Months.take i).any fun n => decide (n.Name = m.Name))) hm fun i hi => ?_, Option.bind_some,
      scanG (e := .inr false) (fun _ r => ruleB r) hr fun i hi => ?_, Option.bind_some, allI_all]
    · by_cases h5 : c.Rules.all ruleB = true
      · rw [i_cycleYears_eq hr h5, Option.bind_some, h5]
        unfold monsB
        cases allI c.Months (fun i m => monB m && !((c.Months.take i).any fun n => decide (n.Name = m.Name))) <;> rfl
      · rw [Bool.not_eq_true] at h5
        rw [h5]
        unfold monsB
        cases allI c.Months (fun i m => monB m && !((c.Months.take i).any fun n => decide (n.Name = m.Name))) <;> rfl
    · rw [atI_lt hi]
      simp only [Option.bind_some]
      by_cases q : btw c.Rules[i].Every 1 1000 = true
      · have := of_decide_eq_true q
        unfold ruleB
        rw [q, w64_in (by omega) (by omega)]
        cases btw c.Rules[i].Rest 0 (c.Rules[i].Every - 1) <;> rfl
      · rw [Bool.not_eq_true] at q
        unfold ruleB
        rw [q]; rfl
    · rw [atI_lt hi]
      simp only [Option.bind_some]
      rw [chk_t (subL_ok (by omega)), subL0, i_knownMonth_eq (by rw [List.length_take]; omega), Option.bind_some]
      unfold monB
      cases nameB c.Months[i].Name <;> cases btw c.Months[i].Days 1 60 <;> cases btw c.Months[i].Leap 1 60 <;> cases ((c.Months.take i).any fun n => decide (n.Name = c.Months[i].Name)) <;> rfl
  · have e : (!nameB c.Name || (decide ((c.Months.length : Int) < 1) || (decide (20 < (c.Months.length : Int)) || (decide (6 < (c.Rules.length : Int)) || !btw c.Week 1 12)))) = true := by
      simp only [Bool.or_eq_true, Bool.not_eq_true', decide_eq_true_eq]
      by_cases h1 : nameB c.Name = true
      · by_cases h2 : 1 ≤ c.Months.length ∧ c.Months.length ≤ 20
        · by_cases h3 : c.Rules.length ≤ 6
          · have h4 : ¬ btw c.Week 1 12 = true := fun h4 => h ⟨h1, h2, h3, h4⟩
            simp [h4]
          · omega
        · omega
      · simp [h1]
    rw [e, if_pos rfl]
    congr 1
    symm
    rw [← Bool.not_eq_true]
    simp only [Bool.and_eq_true, decide_eq_true_eq]
    rintro ⟨h1, h2, h3, h4, _⟩
    exact h ⟨h1, h2, h3, h4⟩
theorem s_l15Months_eq {xs : List Month_} (hl : xs.length ≤ 9223372036854775807) : s_l15Months_m xs = some (monsB xs && decide (1 ≤ xs.length ∧ xs.length ≤ 20)) := by
  unfold s_l15Months_m
  rw [scanG (e := .inr false) (fun i m => monB m && !((xs.take i).any fun n => decide (n.Name = m.Name))) hl fun i hi => ?_, Option.bind_some]
  · have e : btw (xs.length : Int) 1 20 = decide (1 ≤ xs.length ∧ xs.length ≤ 20) := by unfold btw; rw [decide_eq_decide]; omega
    rw [s_l00In_eq, e]
    unfold monsB
    cases allI xs (fun i m => monB m && !((xs.take i).any fun n => decide (n.Name = m.Name))) <;> rfl
  · simp only [atI_lt hi, s_IsName_eq, s_l00In_eq, Option.bind_some, itO]
    rw [scanT (xs := xs) i (fun _ (b : Month_) => !decide (b.Name = xs[i].Name)) (by omega) (by omega) fun j hj _ => by
      rw [atI_lt hj, Option.bind_some]
      by_cases q : xs[j].Name = xs[i].Name
      · rw [if_pos q, decide_eq_true q]; rfl
      · rw [if_neg q, decide_eq_false q]; rfl, allI_all]
    have e : ((xs.take i).all fun b => !decide (b.Name = xs[i].Name)) = !((xs.take i).any fun b => decide (b.Name = xs[i].Name)) := by rw [Bool.eq_iff_iff]; simp
    rw [e]
    unfold monB
    cases nameB xs[i].Name <;> cases btw xs[i].Days 1 60 <;> cases btw xs[i].Leap 1 60 <;> cases ((xs.take i).any fun n => decide (n.Name = xs[i].Name)) <;> rfl
theorem s_l15Ok_eq {c : Calendar_} (hm : c.Months.length ≤ 9223372036854775807) (hr : c.Rules.length ≤ 9223372036854775807) : s_l15Ok_m c = some (calB c) := by
  unfold s_l15Ok_m calB
  rw [s_l15Years_eq hr, Option.bind_some]
  simp only [s_IsName_eq, s_l15Months_eq hm, s_l00In_eq, Option.bind_some, itA]
  by_cases h : c.Rules.all ruleB = true ∧ cyc c.Rules ≤ 2000
  · rw [if_pos h, h.1, decide_eq_true h.2]
    cases nameB c.Name <;> cases monsB c.Months <;> cases btw c.Week 1 12 <;> cases decide (1 ≤ c.Months.length ∧ c.Months.length ≤ 20) <;> cases decide (c.Rules.length ≤ 6) <;> rfl
  · rw [if_neg h]
    have e : (c.Rules.all ruleB && decide (cyc c.Rules ≤ 2000)) = false := by
      rw [← Bool.not_eq_true, Bool.and_eq_true, decide_eq_true_eq]; exact h
    rw [e]
    cases nameB c.Name <;> cases monsB c.Months <;> cases btw c.Week 1 12 <;> cases decide (1 ≤ c.Months.length ∧ c.Months.length ≤ 20) <;> cases decide (c.Rules.length ≤ 6) <;> rfl
def camB (xs : List Int) : Bool := xs.all (fun n => btw n 1 60) && decide (1 ≤ xs.length ∧ xs.length ≤ 260)
theorem i_ValidCam_eq {xs : List Int} (hl : xs.length ≤ 9223372036854775807) : i_ValidCam_m xs = some (camB xs) := by
  unfold i_ValidCam_m camB
  rw [scanG (fun _ v => btw v 1 60) hl fun i hi => by rw [atI_lt hi, Option.bind_some, i_within_eq, Option.bind_some]; cases btw xs[i] 1 60 <;> rfl, allI_all, Option.bind_some, itAp]
  have e : (decide (1 ≤ (xs.length : Int)) && decide ((xs.length : Int) ≤ 260)) = decide (1 ≤ xs.length ∧ xs.length ≤ 260) := by rw [← Bool.decide_and, decide_eq_decide]; omega
  rw [e]
  exact scan_and rfl
theorem s_l17Ok_eq {xs : List Int} (hl : xs.length ≤ 9223372036854775807) : s_l17Ok_m xs = some (camB xs) := by
  unfold s_l17Ok_m camB
  rw [scanG (fun _ v => btw v 1 60) hl fun i hi => by rw [atI_lt hi, Option.bind_some, s_l00In_eq, Option.bind_some]; cases btw xs[i] 1 60 <;> rfl, allI_all, Option.bind_some, s_l00In_eq, Option.bind_some]
  have e : btw (xs.length : Int) 1 260 = decide (1 ≤ xs.length ∧ xs.length ≤ 260) := by unfold btw; rw [decide_eq_decide]; omega
  rw [e]
  exact scan_and rfl
end Go.Proofs.YtjhadibjjldpdaaGreat
