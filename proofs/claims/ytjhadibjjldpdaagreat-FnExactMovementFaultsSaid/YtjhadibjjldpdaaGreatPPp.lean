/- Plain laws, Pp: leap years, dates, works that show a date. No program. -/
import Derived.Test.YtjhadibjjldpdaaGreatPMv
namespace Go.Proofs.YtjhadibjjldpdaaGreat
set_option linter.unusedVariables false
/-! two rows of numbers -/
theorem eq2I {xs ys : List Int} {step : Int → Option (Int ⊕ (Unit ⊕ Bool))} (h : xs.length = ys.length) (hl : xs.length ≤ 9223372036854775807) :
    ((loopM (S := Int) (X := Unit ⊕ Bool) (fun s => (if s < (xs.length : Int) then ((atI xs s).bind fun u => ((atI ys s).bind fun v => (if u ≠ v then some (.inr (.inr false)) else some (.inl (w64 (s + 1)))))) else some (.inr (.inl ())))) 0 : Option (Unit ⊕ Bool)).bind fun x => orE x fun _ => some true) = some (decide (xs = ys)) := by
  rw [scanG (xs := xs) (e := .inr false) (fun i u => decide (some u = ys[i]?)) hl fun i hi => ?_, Option.bind_some]
  · have e : allI xs (fun i u => decide (some u = ys[i]?)) = decide (xs = ys) := by
      rw [Bool.eq_iff_iff, allI_iff, decide_eq_true_eq]
      constructor
      · intro q
        refine List.ext_getElem? fun i => ?_
        by_cases hi : i < xs.length
        · rw [List.getElem?_eq_getElem hi]
          exact of_decide_eq_true (q i hi)
        · rw [List.getElem?_eq_none (by omega), List.getElem?_eq_none (by omega)]
      · rintro rfl i hi
        rw [List.getElem?_eq_getElem hi]
        exact decide_eq_true rfl
    rw [e]
    cases decide (xs = ys) <;> rfl
  · have hj : i < ys.length := by omega
    rw [atI_lt hi, Option.bind_some, atI_lt hj, Option.bind_some, List.getElem?_eq_getElem hj]
    by_cases q : xs[i] = ys[i] <;> simp [q]
theorem len_ne {xs ys : List Int} (h : ¬ xs.length = ys.length) : decide (xs = ys) = false := decide_eq_false fun e => h (e ▸ rfl)
theorem i_eqI {xs ys : List Int} (hl : xs.length ≤ 9223372036854775807) : slices_Equal_Lint64_int64_m xs ys = some (decide (xs = ys)) := by
  unfold slices_Equal_Lint64_int64_m
  by_cases h : xs.length = ys.length
  · rw [if_neg (by omega)]
    exact eq2I (step := fun _ => none) h hl
  · rw [if_pos (by omega), len_ne h]
theorem s_eqI {xs ys : List Int} (hl : xs.length ≤ 9223372036854775807) : s_l00Same_m xs ys = some (decide (xs = ys)) := by
  unfold s_l00Same_m
  by_cases h : xs.length = ys.length
  · rw [if_neg (by omega)]
    exact eq2I (step := fun _ => none) h hl
  · rw [if_pos (by omega), len_ne h]
/-! leap years -/
def leapF (y : Int) (b : Bool) (r : LeapRule_) : Bool := if y % r.Every = r.Rest then r.Leap else b
def leapB (c : Calendar_) (y : Int) : Bool := c.Rules.foldl (leapF y) false
theorem calB_iff {c : Calendar_} (h : calB c = true) : nameB c.Name = true ∧ (1 ≤ c.Months.length ∧ c.Months.length ≤ 20) ∧ c.Rules.length ≤ 6 ∧ (1 ≤ c.Week ∧ c.Week ≤ 12) ∧ monsB c.Months = true ∧ c.Rules.all ruleB = true ∧ cyc c.Rules ≤ 2000 := by
  unfold calB at h
  simp only [Bool.and_eq_true, decide_eq_true_eq] at h
  exact ⟨h.1, h.2.1, h.2.2.1, of_decide_eq_true h.2.2.2.1, h.2.2.2.2.1, h.2.2.2.2.2.1, h.2.2.2.2.2.2⟩
theorem leap_loop {c : Calendar_} (h : calB c = true) {y : Int} (y0 : 0 ≤ y) {step : Bool × Int → Option ((Bool × Int) ⊕ Bool)} (hS : ∀ (i : Nat) (hi : i < c.Rules.length) b, c.Rules[i].Every ≠ 0 → step (b, (i : Int)) = some (.inl ((if y.tmod c.Rules[i].Every = c.Rules[i].Rest then c.Rules[i].Leap else b), w64 ((i : Int) + 1)))) (hE : ∀ b, step (b, (c.Rules.length : Int)) = some (.inr b)) :
    loopM step (false, 0) = some (leapB c y) := by
  obtain ⟨_, _, hr, _, _, hb, _⟩ := calB_iff h
  have := loop_for (xs := c.Rules) (step := step) (fun i b => (b, i)) (fun _ r b => some (.inl (leapF y b r))) id (by omega) (fun i hi b => by
    have hq := ruleB_iff.1 ((List.all_eq_true.1 hb) _ (List.getElem_mem hi))
    rw [hS i hi b (by omega), w64_in (by omega) (by omega), Int.tmod_eq_emod_of_nonneg y0]; rfl) (fun b => hE b) false
  rw [this, forL_fold (leapF y) (fun _ _ _ => rfl)]; rfl
theorem i_isLeap_eq {c : Calendar_} (h : calB c = true) {y : Int} (y0 : 0 ≤ y) : i_isLeap_m c y = some (leapB c y) := by
  unfold i_isLeap_m
  rw [leap_loop h y0 (fun i hi b he => by
    have hi' : (i : Int) < c.Rules.length := by omega
    simp only [if_pos hi', atI_lt hi, Option.bind_some, chk_t he]
    split <;> rfl) (fun b => by simp)]; rfl
theorem s_l15Leap_eq {c : Calendar_} (h : calB c = true) {y : Int} (y0 : 0 ≤ y) : s_l15Leap_m c y = some (leapB c y) := by
  unfold s_l15Leap_m
  rw [leap_loop h y0 (fun i hi b he => by
    have hi' : (i : Int) < c.Rules.length := by omega
    simp only [if_pos hi', atI_lt hi, Option.bind_some, chk_t he]
    split <;> rfl) (fun b => by simp)]; rfl
/-! days of a month (from 0 on) -/
def monAt (c : Calendar_) (k : Int) : Month_ := c.Months.getD k.toNat ⟨⟨#[]⟩, 0, 0⟩
def lenM (c : Calendar_) (leap : Bool) (k : Int) : Int := if leap = true then (monAt c k).Leap else (monAt c k).Days
theorem monAt_ok {c : Calendar_} {k : Int} (h0 : 0 ≤ k) (h1 : k < c.Months.length) : atI c.Months k = some (monAt c k) ∧ monAt c k ∈ c.Months := by
  obtain ⟨e, he, hm, hg⟩ := atI_some h0 h1
  have : monAt c k = e := by unfold monAt; rw [List.getD_eq_getElem?_getD, hg]; rfl
  rw [this]; exact ⟨he, hm⟩
theorem mon_in {c : Calendar_} (h : calB c = true) {m : Month_} (hm : m ∈ c.Months) : (1 ≤ m.Days ∧ m.Days ≤ 60) ∧ 1 ≤ m.Leap ∧ m.Leap ≤ 60 := by
  obtain ⟨_, _, _, _, hb, _⟩ := calB_iff h
  obtain ⟨i, hi, rfl⟩ := List.getElem_of_mem hm
  have := allI_iff.1 hb i hi
  unfold monB btw at this
  simp only [Bool.and_eq_true, decide_eq_true_eq] at this
  exact ⟨this.1.2.1, this.1.2.2⟩
theorem lenM_in {c : Calendar_} (h : calB c = true) (l : Bool) {k : Int} (h0 : 0 ≤ k) (h1 : k < c.Months.length) : 1 ≤ lenM c l k ∧ lenM c l k ≤ 60 := by
  have := mon_in h (monAt_ok h0 h1).2
  unfold lenM
  cases l <;> simp <;> omega
theorem i_daysOfMonth_eq {c : Calendar_} (h : calB c = true) (l : Bool) {m : Int} (h0 : 1 ≤ m) (h1 : m ≤ c.Months.length) : i_daysOfMonth_m c l m = some (lenM c l (m - 1)) := by
  have hc := (calB_iff h).2.1.2
  unfold i_daysOfMonth_m lenM
  rw [w64_in (by omega) (by omega), (monAt_ok (c := c) (k := m - 1) (by omega) (by omega)).1]
  cases l <;> rfl
theorem s_l15Days_eq {c : Calendar_} (h : calB c = true) {y : Int} (y0 : 0 ≤ y) {k : Int} (h0 : 0 ≤ k) (h1 : k < c.Months.length) : s_l15Days_m c y k = some (lenM c (leapB c y) k) := by
  unfold s_l15Days_m lenM
  rw [s_l15Leap_eq h y0, Option.bind_some, (monAt_ok h0 h1).1]
  cases leapB c y <;> rfl
/-- a date of a valid calendar -/
def dateB (c : Calendar_) (d : Date_) : Bool := btw d.Year 0 9999 && (btw d.Month 1 c.Months.length && btw d.Day 1 (lenM c (leapB c d.Year) (d.Month - 1)))
theorem i_ValidDate_eq {c : Calendar_} (hm : c.Months.length ≤ 9223372036854775807) (hr : c.Rules.length ≤ 9223372036854775807) (d : Date_) : i_ValidDate_m c d = some (calB c && dateB c d) := by
  unfold i_ValidDate_m dateB
  rw [i_ValidCalendar_eq hm hr, Option.bind_some]
  cases h : calB c
  · rfl
  · unfold i_isYear_m i_isMonth_m
    simp only [i_within_eq, Option.bind_some]
    cases hy : btw d.Year 0 9999
    · rfl
    · cases hmo : btw d.Month 1 (c.Months.length : Int)
      · rfl
      · have hy := of_decide_eq_true hy
        have hmo := of_decide_eq_true hmo
        simp only [if_true]
        rw [i_isLeap_eq h hy.1, Option.bind_some, i_daysOfMonth_eq h _ hmo.1 hmo.2]; rfl
theorem s_l16Ok_eq {c : Calendar_} (h : calB c = true) (d : Date_) : s_l16Ok_m c d = some (dateB c d) := by
  unfold s_l16Ok_m dateB s_l15Year_m
  simp only [s_l00In_eq, Option.bind_some]
  cases hy : btw d.Year 0 9999
  · rfl
  · cases hmo : btw d.Month 1 (c.Months.length : Int)
    · rfl
    · have hy := of_decide_eq_true hy
      have hmo := of_decide_eq_true hmo
      have hc := (calB_iff h).2.1.2
      simp only [Bool.not_true, Bool.false_eq_true, if_false, Option.bind_some]
      rw [w64_in (by omega) (by omega), s_l15Days_eq h hy.1 (by omega) (by omega)]; rfl
/-! a cam and its calendar -/
theorem camB_iff {xs : List Int} (h : camB xs = true) : (∀ v ∈ xs, 1 ≤ v ∧ v ≤ 60) ∧ 1 ≤ xs.length ∧ xs.length ≤ 260 := by
  unfold camB at h
  simp only [Bool.and_eq_true, decide_eq_true_eq, List.all_eq_true] at h
  exact ⟨fun v hv => of_decide_eq_true (h.1 v hv), h.2⟩
def askC (c : Calendar_) (cam : List Int) : Int := if (calB c && camB cam) = true then (if (cam.length : Int) % c.Months.length = 0 then 0 else 6) else 1
theorem askC_ok {c : Calendar_} {cam : List Int} (h : askC c cam = 0) : calB c = true ∧ camB cam = true ∧ (cam.length : Int) % c.Months.length = 0 ∧ 1 ≤ (cam.length : Int) / c.Months.length ∧ (cam.length : Int) / c.Months.length ≤ 260 := by
  unfold askC at h
  split at h
  · rename_i h1
    rw [Bool.and_eq_true] at h1
    split at h
    · rename_i h2
      have a := (calB_iff h1.1).2.1
      have b := (camB_iff h1.2).2
      have e := Int.emod_add_mul_ediv (cam.length : Int) c.Months.length
      have q := quo_bd (a := (cam.length : Int)) (g := (c.Months.length : Int)) (by omega) (by omega)
      refine ⟨h1.1, h1.2, h2, ?_, by omega⟩
      rcases Int.lt_or_le 0 ((cam.length : Int) / c.Months.length) with h | h
      · omega
      · have : (cam.length : Int) / c.Months.length = 0 := by omega
        rw [this, h2] at e
        omega
    · cases h
  · cases h
theorem i_belongs_eq {c : Calendar_} {cam : List Int} (h1 : 1 ≤ c.Months.length) (h2 : cam.length ≤ 9223372036854775807) : i_belongs_m c cam = some (if (cam.length : Int) % c.Months.length = 0 then (cam.length : Int) / c.Months.length else 0) := by
  unfold i_belongs_m
  have q := quo_bd (a := (cam.length : Int)) (g := (c.Months.length : Int)) (by omega) (by omega)
  rw [chk_t (by omega), Int.tmod_eq_emod_of_nonneg (by omega), chk_t (by omega), Int.tdiv_eq_ediv_of_nonneg (by omega), w64_in (by omega) (by omega)]
  by_cases h : (cam.length : Int) % c.Months.length = 0
  · rw [if_neg (by simp [h]), if_pos h]
  · rw [if_pos h, if_neg h]
theorem i_askedCam_eq {c : Calendar_} {cam : List Int} (hm : c.Months.length ≤ 9223372036854775807) (hr : c.Rules.length ≤ 9223372036854775807) (hl : cam.length ≤ 9223372036854775807) : i_askedCam_m c cam = some (askC c cam) := by
  unfold i_askedCam_m
  simp only [i_ValidCalendar_eq hm hr, i_ValidCam_eq hl, Option.bind_some, itO]
  cases h1 : calB c
  · unfold askC; rw [h1]; rfl
  · cases h2 : camB cam
    · unfold askC; rw [h1, h2]; rfl
    · have a := (calB_iff h1).2.1
      simp only [Bool.not_true, Bool.or_self, Bool.false_eq_true, if_false]
      rw [i_belongs_eq a.1 hl, Option.bind_some]
      unfold askC
      rw [h1, h2]
      by_cases h : (cam.length : Int) % c.Months.length = 0
      · have h0 : askC c cam = 0 := by unfold askC; rw [h1, h2, if_pos (show (true && true) = true from rfl), if_pos h]
        have := askC_ok h0
        rw [if_pos h, if_neg (by omega), if_pos (show (true && true) = true from rfl), if_pos h]
      · rw [if_neg h, if_pos rfl, if_pos (show (true && true) = true from rfl), if_neg h]
theorem s_l17Ask_eq {c : Calendar_} {cam : List Int} (hm : c.Months.length ≤ 9223372036854775807) (hr : c.Rules.length ≤ 9223372036854775807) (hl : cam.length ≤ 9223372036854775807) : s_l17Ask_m c cam = some (askC c cam) := by
  unfold s_l17Ask_m askC
  simp only [s_l15Ok_eq hm hr, s_l17Ok_eq hl, Option.bind_some, itO]
  cases h1 : calB c
  · rfl
  · cases h2 : camB cam
    · rfl
    · have a := (calB_iff h1).2.1
      simp only [Bool.not_true, Bool.or_self, Bool.false_eq_true, if_false, Bool.and_self, if_true]
      rw [chk_t (by omega), Int.tmod_eq_emod_of_nonneg (by omega)]
      by_cases h : (cam.length : Int) % c.Months.length = 0
      · rw [if_neg (by simp [h]), if_pos h]
      · rw [if_pos h, if_neg h]
/-! the date wheel -/
def maxL (xs : List Int) : Int := xs.foldl max 0
def teethF (t : Int) (m : Month_) : Int := max (max t m.Days) m.Leap
def teethC (c : Calendar_) (cam : List Int) : Int := c.Months.foldl teethF (maxL cam)
theorem foldl_max_ge {xs : List Int} : ∀ {a : Int}, a ≤ xs.foldl max a ∧ (∀ v ∈ xs, v ≤ xs.foldl max a) ∧ (xs.foldl max a = a ∨ xs.foldl max a ∈ xs) := by
  induction xs with
  | nil => intro a; exact ⟨Int.le_refl _, fun v hv => by simp at hv, .inl rfl⟩
  | cons x xs ih =>
    intro a
    obtain ⟨h1, h2, h3⟩ := ih (a := max a x)
    rw [List.foldl_cons]
    refine ⟨by omega, fun v hv => ?_, ?_⟩
    · rcases List.mem_cons.1 hv with rfl | hv
      · omega
      · exact h2 v hv
    · rcases h3 with h3 | h3
      · rw [h3]
        rcases Int.le_total a x with h | h
        · rw [Int.max_eq_right h]; exact .inr (List.mem_cons_self ..)
        · rw [Int.max_eq_left h]; exact .inl rfl
      · exact .inr (List.mem_cons_of_mem _ h3)
theorem maxL_le {xs : List Int} {t : Int} (h0 : 0 ≤ t) : decide (t < maxL xs) = !(xs.all fun v => decide (v ≤ t)) := by
  obtain ⟨h1, h2, h3⟩ := foldl_max_ge (xs := xs) (a := 0)
  rw [Bool.eq_iff_iff, decide_eq_true_eq, Bool.not_eq_true', ← Bool.not_eq_true, List.all_eq_true]
  unfold maxL
  constructor
  · intro h q
    rcases h3 with h3 | h3
    · omega
    · have := of_decide_eq_true (q _ h3); omega
  · intro q
    refine Classical.byContradiction fun hn => q fun v hv => decide_eq_true ?_
    have := h2 v hv
    omega
theorem i_Max_eq {xs : List Int} (h1 : 1 ≤ xs.length) (h2 : xs.length ≤ 9223372036854775807) (h3 : ∀ v ∈ xs, 0 ≤ v) : slices_Max_Lint64_int64_m xs = some (maxL xs) := by
  unfold slices_Max_Lint64_int64_m maxL
  rw [if_neg (by omega), Option.bind_some]
  cases xs with
  | nil => simp at h1
  | cons x xs =>
    have e0 : atI (x :: xs) 0 = some x := by rw [show (0 : Int) = ((0 : Nat) : Int) from rfl, atI_nat]; rfl
    have hx := h3 x (List.mem_cons_self ..)
    have hq : loopM (S := Int × Int) (X := Int) (fun s5 => (if s5.2 < ((x :: xs).length : Int) then ((atI (x :: xs) s5.2).bind fun v6 => some (.inl (max s5.1 v6, w64 (s5.2 + 1)))) else some (.inr s5.1))) (x, 1) = some (xs.foldl max x) := by
      have := loop_for (xs := xs) (step := fun (s5 : Int × Int) => (if s5.2 < ((x :: xs).length : Int) then ((atI (x :: xs) s5.2).bind fun v6 => some (.inl (max s5.1 v6, w64 (s5.2 + 1)))) else some (.inr s5.1))) (fun i (s : Int) => (s, i + 1)) (fun _ v s => some (.inl (max s v))) id (by simp at h2; omega) (fun i hi s => by
        simp only [List.length_cons] at h2
        have hi' : (i : Int) + 1 < ((x :: xs).length : Int) := by simp; omega
        have ea : atI (x :: xs) ((i : Int) + 1) = some xs[i] := by
          rw [show (i : Int) + 1 = ((i + 1 : Nat) : Int) by omega, atI_nat, List.getElem?_cons_succ, List.getElem?_eq_getElem hi]
        simp only [if_pos hi', ea, Option.bind_some, w64_in (x := (i : Int) + 1 + 1) (by omega) (by omega)]; rfl) (fun s => by simp) x
      rw [forL_fold max (fun _ _ _ => rfl)] at this
      exact this
    rw [e0, Option.bind_some, hq, List.foldl_cons, Int.max_eq_right hx]; rfl
theorem s_l00Max_eq (a b : Int) : s_l00Max_m a b = some (max a b) := by
  unfold s_l00Max_m
  split
  · congr 1; omega
  · congr 1; omega
def setR (c : Calendar_) (cam : List Int) (d : Date_) (wd : Int) : Perpetual_ × Int :=
  if askC c cam = 0 then (if (dateB c d && btw wd 1 c.Week) = true then (⟨cam, c.Months.length, teethC c cam, w64 ((w64 ((w64 ((d.Year.tmod ((cam.length : Int) / c.Months.length)) * (c.Months.length : Int))) + d.Month)) - 1), d.Day, c.Week, wd⟩, 0) else (⟨[], 0, 0, 0, 0, 0, 0⟩, 2)) else (⟨[], 0, 0, 0, 0, 0, 0⟩, askC c cam)
theorem i_cloneI {xs : List Int} (hl : xs.length ≤ 1048576) : slices_Clone_Lint64_int64_m xs = some xs := by
  unfold slices_Clone_Lint64_int64_m
  rw [chk_t (by simp; omega), List.nil_append]
theorem s_ownI {xs : List Int} (hl : xs.length ≤ 1048576) : s_l00Own_m xs = some xs := by
  unfold s_l00Own_m
  rw [chk_t (by simp; omega), List.nil_append]
theorem i_SetPerpetual_eq {c : Calendar_} {cam : List Int} (hm : c.Months.length ≤ 9223372036854775807) (hr : c.Rules.length ≤ 9223372036854775807) (hl : cam.length ≤ 1048576) (d : Date_) (wd : Int) : i_SetPerpetual_m c cam d wd = some (setR c cam d wd) := by
  unfold i_SetPerpetual_m setR
  rw [i_askedCam_eq hm hr (by omega), Option.bind_some]
  by_cases h : askC c cam = 0
  · obtain ⟨h1, h2, h3, h4, h5⟩ := askC_ok h
    have a := (calB_iff h1).2.1
    have b := camB_iff h2
    rw [if_neg (by simp [h]), if_pos h, i_ValidDate_eq hm hr, h1]
    simp only [Option.bind_some, Bool.true_and, i_within_eq, itO]
    cases hd : dateB c d
    · rfl
    · cases hw : btw wd 1 c.Week
      · rfl
      · simp only [Bool.not_true, Bool.or_self, Bool.false_eq_true, if_false, Bool.and_self, if_true]
        have hq := loop_for (xs := c.Months) (step := fun (s8 : Int × Int) => (if s8.2 < (c.Months.length : Int) then ((atI c.Months s8.2).bind fun v9 => some (.inl (max (max s8.1 v9.Days) v9.Leap, w64 (s8.2 + 1)))) else some (.inr s8.1))) (fun i (s : Int) => (s, i)) (fun _ m s => some (.inl (teethF s m))) id hm (fun i hi s => by
          have hi' : (i : Int) < c.Months.length := by omega
          simp only [if_pos hi', atI_lt hi, Option.bind_some, w64_in (x := (i : Int) + 1) (by omega) (by omega)]; rfl) (fun s => by simp) (maxL cam)
        rw [forL_fold teethF (fun _ _ _ => rfl)] at hq
        rw [i_Max_eq b.2.1 (by omega) (fun v hv => by have := b.1 v hv; omega), Option.bind_some, hq]
        simp only [Option.map_some, Option.bind_some, i_cloneI hl, i_belongs_eq a.1 (show cam.length ≤ 9223372036854775807 by omega), if_pos h3]
        rw [chk_t (by omega)]; rfl
  · rw [if_pos h, if_neg h]
theorem s_SetPerpetual_eq {c : Calendar_} {cam : List Int} (hm : c.Months.length ≤ 9223372036854775807) (hr : c.Rules.length ≤ 9223372036854775807) (hl : cam.length ≤ 1048576) (d : Date_) (wd : Int) : s_SetPerpetual_m c cam d wd = some (setR c cam d wd) := by
  unfold s_SetPerpetual_m setR
  rw [s_l17Ask_eq hm hr (by omega), Option.bind_some]
  by_cases h : askC c cam = 0
  · obtain ⟨h1, h2, h3, h4, h5⟩ := askC_ok h
    have a := (calB_iff h1).2.1
    rw [if_neg (by simp [h]), if_pos h, s_l16Ok_eq h1]
    simp only [Option.bind_some, s_l00In_eq, itO]
    cases hd : dateB c d
    · rfl
    · cases hw : btw wd 1 c.Week
      · rfl
      · simp only [Bool.not_true, Bool.or_self, Bool.false_eq_true, if_false, Bool.and_self, if_true]
        have hk : w64 ((cam.length : Int).tdiv (c.Months.length : Int)) = (cam.length : Int) / c.Months.length := by rw [Int.tdiv_eq_ediv_of_nonneg (by omega), w64_in (by omega) (by omega)]
        have hq1 := loop_for (xs := cam) (step := fun (s11 : Int × Int) => (if s11.1 < (cam.length : Int) then ((atI cam s11.1).bind fun v12 => ((s_l00Max_m s11.2 v12).bind fun v13 => some (.inl (w64 (s11.1 + 1), v13)))) else some (.inr s11.2))) (fun i (s : Int) => (i, s)) (fun _ v s => some (.inl (max s v))) id (by omega) (fun i hi s => by
          have hi' : (i : Int) < cam.length := by omega
          simp only [if_pos hi', atI_lt hi, Option.bind_some, s_l00Max_eq, w64_in (x := (i : Int) + 1) (by omega) (by omega)]; rfl) (fun s => by simp) 0
        rw [forL_fold max (fun _ _ _ => rfl)] at hq1
        have hq2 := loop_for (xs := c.Months) (step := fun (s20 : Int × Int) => (if s20.1 < (c.Months.length : Int) then ((atI c.Months s20.1).bind fun v21 => ((atI c.Months s20.1).bind fun v22 => ((s_l00Max_m v21.Days v22.Leap).bind fun v23 => ((s_l00Max_m s20.2 v23).bind fun v24 => some (.inl (w64 (s20.1 + 1), v24)))))) else some (.inr s20.2))) (fun i (s : Int) => (i, s)) (fun _ m s => some (.inl (teethF s m))) id hm (fun i hi s => by
          have hi' : (i : Int) < c.Months.length := by omega
          have e : max s (max c.Months[i].Days c.Months[i].Leap) = teethF s c.Months[i] := by unfold teethF; omega
          simp only [if_pos hi', atI_lt hi, Option.bind_some, s_l00Max_eq, e, w64_in (x := (i : Int) + 1) (by omega) (by omega)]; rfl) (fun s => by simp) (maxL cam)
        rw [forL_fold teethF (fun _ _ _ => rfl)] at hq2
        rw [s_ownI hl, Option.bind_some, hk, chk_t (by omega), chk_t (by omega), hq1]
        simp only [Option.map_some, Option.bind_some]
        have e0 : Sum.elim id id (Sum.inl (cam.foldl max 0) : Int ⊕ Int) = maxL cam := rfl
        rw [e0, hq2]; rfl
  · rw [if_pos h, if_neg h]
/-- a valid work -/
def perB (p : Perpetual_) : Bool := camB p.Cam && (decide (1 ≤ p.Months) && (decide ((p.Cam.length : Int) % p.Months = 0) && (decide (p.Teeth ≤ 60) && ((p.Cam.all fun v => decide (v ≤ p.Teeth)) && (decide (0 ≤ p.At ∧ p.At < p.Cam.length) && (btw p.Day 1 p.Teeth && (btw p.Week 1 12 && btw p.Weekday 1 p.Week)))))))
theorem per_all {p : Perpetual_} (h : camB p.Cam = true) (t0 : p.Teeth < 1) : (p.Cam.all fun v => decide (v ≤ p.Teeth)) = false := by
  rw [← Bool.not_eq_true, List.all_eq_true]
  intro q
  obtain ⟨h1, h2, h3⟩ := camB_iff h
  cases hc : p.Cam with
  | nil => rw [hc] at h2; simp at h2
  | cons x xs =>
    have hx : x ∈ p.Cam := by rw [hc]; exact List.mem_cons_self ..
    have := of_decide_eq_true (q x hx)
    have := h1 x hx
    omega
theorem i_ValidPerpetual_eq {p : Perpetual_} (hl : p.Cam.length ≤ 9223372036854775807) : i_ValidPerpetual_m p = some (perB p) := by
  unfold i_ValidPerpetual_m perB
  rw [i_ValidCam_eq hl, Option.bind_some]
  cases h1 : camB p.Cam
  · rfl
  · have b := camB_iff h1
    simp only [Bool.not_true, Bool.false_eq_true, if_false, Bool.true_and]
    by_cases h2 : 1 ≤ p.Months
    · rw [if_neg (by omega), chk_t (by omega), Option.bind_some, Int.tmod_eq_emod_of_nonneg (by omega), decide_eq_true h2, Bool.true_and]
      by_cases h3 : (p.Cam.length : Int) % p.Months = 0
      · rw [decide_eq_false (by simp [h3]), if_neg (by decide), decide_eq_true h3, Bool.true_and]
        by_cases h4 : p.Teeth ≤ 60
        · rw [if_neg (by omega), decide_eq_true h4, Bool.true_and, i_Max_eq b.2.1 hl (fun v hv => by have := b.1 v hv; omega), Option.bind_some, Option.bind_some]
          by_cases h5 : p.Teeth < 1
          · have hx : p.Teeth < maxL p.Cam := by
              obtain ⟨q1, q2, q3⟩ := foldl_max_ge (xs := p.Cam) (a := 0)
              cases hc : p.Cam with
              | nil => rw [hc] at b; simp at b
              | cons x xs =>
                have hx : x ∈ p.Cam := by rw [hc]; exact List.mem_cons_self ..
                have := b.1 x hx
                have := q2 x hx
                rw [← hc]
                unfold maxL; omega
            rw [decide_eq_true hx, if_pos rfl, per_all h1 h5]; rfl
          · rw [maxL_le (by omega)]
            cases (p.Cam.all fun v => decide (v ≤ p.Teeth))
            · rfl
            · simp only [Bool.not_true, Bool.false_eq_true, if_false, i_within_eq, Option.bind_some, itA, btw_len hl, Bool.true_and]
        · rw [if_pos (by omega), Option.bind_some, if_pos rfl, decide_eq_false h4]; rfl
      · rw [decide_eq_true h3, if_pos rfl, decide_eq_false h3]; rfl
    · rw [if_pos (by omega), Option.bind_some, if_pos rfl, decide_eq_false h2]; rfl
theorem s_l18Ok_eq {p : Perpetual_} (hl : p.Cam.length ≤ 9223372036854775807) : s_l18Ok_m p = some (perB p) := by
  unfold s_l18Ok_m perB
  rw [s_l17Ok_eq hl, Option.bind_some]
  cases h1 : camB p.Cam
  · rfl
  · simp only [Bool.not_true, Bool.false_eq_true, if_false, Bool.true_and]
    by_cases h2 : 1 ≤ p.Months
    · rw [if_neg (by omega), chk_t (by omega), Int.tmod_eq_emod_of_nonneg (by omega), decide_eq_true h2, Bool.true_and]
      by_cases h3 : (p.Cam.length : Int) % p.Months = 0
      · rw [if_neg (by simp [h3]), s_l00In_eq, decide_eq_true h3, Bool.true_and, Option.bind_some, Option.bind_some]
        by_cases h4 : p.Teeth ≤ 60
        · by_cases h5 : p.Teeth < 1
          · have e : btw p.Teeth 1 60 = false := decide_eq_false (by omega)
            rw [e, per_all h1 h5, decide_eq_true h4]; rfl
          · have e : btw p.Teeth 1 60 = true := decide_eq_true (by omega)
            rw [e, decide_eq_true h4, Bool.not_true, if_neg (by decide), Bool.true_and,
              scanG (xs := p.Cam) (e := .inr false) (fun _ v => decide (v ≤ p.Teeth)) hl fun i hi => ?_, allI_all, Option.bind_some]
            · cases (p.Cam.all fun v => decide (v ≤ p.Teeth))
              · rfl
              · simp only [if_true, orE, s_l00In_eq, Option.bind_some, itA, btw_len hl, Bool.true_and]
            · rw [atI_lt hi, Option.bind_some]
              by_cases q : p.Cam[i] ≤ p.Teeth
              · rw [if_neg (by omega), decide_eq_true q]; rfl
              · rw [if_pos (by omega), decide_eq_false q]; rfl
        · have e : btw p.Teeth 1 60 = false := decide_eq_false (by omega)
          rw [e, decide_eq_false h4]; rfl
      · rw [if_pos h3, decide_eq_false h3]; rfl
    · rw [if_pos (by omega), decide_eq_false h2]; rfl
end Go.Proofs.YtjhadibjjldpdaaGreat
