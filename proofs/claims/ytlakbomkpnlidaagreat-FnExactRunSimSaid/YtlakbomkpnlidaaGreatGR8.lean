/- Texts of this claim, one behind the other (merged by a program of mine). -/
import Derived.Test.YtlakbomkpnlidaaGreatGR7
set_option linter.unusedSimpArgs false
set_option linter.unusedVariables false
namespace Go.Proofs.YtlakbomkpnlidaaGreat
set_option linter.unusedVariables false
theorem eq2I {xs ys : List Int} {step : Int → Option (Int ⊕ (Unit ⊕ Bool))} (h : xs.length = ys.length) (hl : xs.length ≤ 9223372036854775807) :
    ((loopM (S := Int) (X := Unit ⊕ Bool) (fun s => (if s < (xs.length : Int) then ((atI xs s).bind fun u => ((atI ys s).bind fun v => (if u ≠ v then some (.inr (.inr false)) else some (.inl (w64 (s + 1)))))) else some (.inr (.inl ())))) 0 : Option (Unit ⊕ Bool)).bind fun x => orE x fun _ => some true) = some (decide (xs = ys)) := by
  rw [scanG (xs := xs) (e := .inr false) (fun i u => decide (some u = ys[i]?)) hl fun i hi => ?_, Option.bind_some]
  · have e : allI xs (fun i u => decide (some u = ys[i]?)) = decide (xs = ys) := by
      rw [Bool.eq_iff_iff, allI_iff, decide_eq_true_eq]
      constructor
      · intro q
        refine List.ext_getElem? fun i => ?_
        by_cases hi : i < xs.length
        · rw [List.getElem?_eq_getElem hi]
          exact of_decide_eq_true (q i hi)
        · rw [List.getElem?_eq_none (by omega), List.getElem?_eq_none (by omega)]
      · rintro rfl i hi
        rw [List.getElem?_eq_getElem hi]
        exact decide_eq_true rfl
    rw [e]
    cases decide (xs = ys) <;> rfl
  · have hj : i < ys.length := by omega
    rw [atI_lt hi, Option.bind_some, atI_lt hj, Option.bind_some, List.getElem?_eq_getElem hj]
    by_cases q : xs[i] = ys[i] <;> simp [q]
theorem len_ne {xs ys : List Int} (h : ¬ xs.length = ys.length) : decide (xs = ys) = false := decide_eq_false fun e => h (e ▸ rfl)
theorem i_eqI {xs ys : List Int} (hl : xs.length ≤ 9223372036854775807) : slices_Equal_Lint64_int64_m xs ys = some (decide (xs = ys)) := by
  unfold slices_Equal_Lint64_int64_m
  by_cases h : xs.length = ys.length
  · rw [if_neg (by omega)]
    exact eq2I (step := fun _ => none) h hl
  · rw [if_pos (by omega), len_ne h]
theorem s_eqI {xs ys : List Int} (hl : xs.length ≤ 9223372036854775807) : s_l00Same_m xs ys = some (decide (xs = ys)) := by
  unfold s_l00Same_m
  by_cases h : xs.length = ys.length
  · rw [if_neg (by omega)]
    exact eq2I (step := fun _ => none) h hl
  · rw [if_pos (by omega), len_ne h]
def leapF (y : Int) (b : Bool) (r : LeapRule_) : Bool := if y % r.Every = r.Rest then r.Leap else b
def leapB (c : Calendar_) (y : Int) : Bool := c.Rules.foldl (leapF y) false
theorem calB_iff {c : Calendar_} (h : calB c = true) : nameB c.Name = true ∧ (1 ≤ c.Months.length ∧ c.Months.length ≤ 20) ∧ c.Rules.length ≤ 6 ∧ (1 ≤ c.Week ∧ c.Week ≤ 12) ∧ monsB c.Months = true ∧ c.Rules.all ruleB = true ∧ cyc c.Rules ≤ 2000 := by
  unfold calB at h
  simp only [Bool.and_eq_true, decide_eq_true_eq] at h
  exact ⟨h.1, h.2.1, h.2.2.1, of_decide_eq_true h.2.2.2.1, h.2.2.2.2.1, h.2.2.2.2.2.1, h.2.2.2.2.2.2⟩
theorem leap_loop {c : Calendar_} (h : calB c = true) {y : Int} (y0 : 0 ≤ y) {step : Bool × Int → Option ((Bool × Int) ⊕ Bool)} (hS : ∀ (i : Nat) (hi : i < c.Rules.length) b, c.Rules[i].Every ≠ 0 → step (b, (i : Int)) = some (.inl ((if y.tmod c.Rules[i].Every = c.Rules[i].Rest then c.Rules[i].Leap else b), w64 ((i : Int) + 1)))) (hE : ∀ b, step (b, (c.Rules.length : Int)) = some (.inr b)) :
    loopM step (false, 0) = some (leapB c y) := by
  obtain ⟨_, _, hr, _, _, hb, _⟩ := calB_iff h
  have := loop_for (xs := c.Rules) (step := step) (fun i b => (b, i)) (fun _ r b => some (.inl (leapF y b r))) id (by omega) (fun i hi b => by
    have hq := ruleB_iff.1 ((List.all_eq_true.1 hb) _ (List.getElem_mem hi))
    rw [hS i hi b (by omega), w64_in (by omega) (by omega), Int.tmod_eq_emod_of_nonneg y0]; rfl) (fun b => hE b) false
  rw [this, forL_fold (leapF y) (fun _ _ _ => rfl)]; rfl
theorem i_isLeap_eq {c : Calendar_} (h : calB c = true) {y : Int} (y0 : 0 ≤ y) : i_isLeap_m c y = some (leapB c y) := by
  unfold i_isLeap_m
  rw [leap_loop h y0 (fun i hi b he => by
    have hi' : (i : Int) < c.Rules.length := by omega
    simp only [if_pos hi', atI_lt hi, Option.bind_some, chk_t he]
    split <;> rfl) (fun b => by simp)]; rfl
theorem s_l15Leap_eq {c : Calendar_} (h : calB c = true) {y : Int} (y0 : 0 ≤ y) : s_l15Leap_m c y = some (leapB c y) := by
  unfold s_l15Leap_m
  rw [leap_loop h y0 (fun i hi b he => by
    have hi' : (i : Int) < c.Rules.length := by omega
    simp only [if_pos hi', atI_lt hi, Option.bind_some, chk_t he]
    split <;> rfl) (fun b => by simp)]; rfl
def monAt (c : Calendar_) (k : Int) : Month_ := c.Months.getD k.toNat ⟨⟨#[]⟩, 0, 0⟩
def lenM (c : Calendar_) (leap : Bool) (k : Int) : Int := if leap = true then (monAt c k).Leap else (monAt c k).Days
theorem monAt_ok {c : Calendar_} {k : Int} (h0 : 0 ≤ k) (h1 : k < c.Months.length) : atI c.Months k = some (monAt c k) ∧ monAt c k ∈ c.Months := by
  obtain ⟨e, he, hm, hg⟩ := atI_some h0 h1
  have : monAt c k = e := by unfold monAt; rw [List.getD_eq_getElem?_getD, hg]; rfl
  rw [this]; exact ⟨he, hm⟩
theorem mon_in {c : Calendar_} (h : calB c = true) {m : Month_} (hm : m ∈ c.Months) : (1 ≤ m.Days ∧ m.Days ≤ 60) ∧ 1 ≤ m.Leap ∧ m.Leap ≤ 60 := by
  obtain ⟨_, _, _, _, hb, _⟩ := calB_iff h
  obtain ⟨i, hi, rfl⟩ := List.getElem_of_mem hm
  have := allI_iff.1 hb i hi
  unfold monB btw at this
  simp only [Bool.and_eq_true, decide_eq_true_eq] at this
  exact ⟨this.1.2.1, this.1.2.2⟩
theorem lenM_in {c : Calendar_} (h : calB c = true) (l : Bool) {k : Int} (h0 : 0 ≤ k) (h1 : k < c.Months.length) : 1 ≤ lenM c l k ∧ lenM c l k ≤ 60 := by
  have := mon_in h (monAt_ok h0 h1).2
  unfold lenM
  cases l <;> simp <;> omega
theorem i_daysOfMonth_eq {c : Calendar_} (h : calB c = true) (l : Bool) {m : Int} (h0 : 1 ≤ m) (h1 : m ≤ c.Months.length) : i_daysOfMonth_m c l m = some (lenM c l (m - 1)) := by
  have hc := (calB_iff h).2.1.2
  unfold i_daysOfMonth_m lenM
  rw [w64_in (by omega) (by omega), (monAt_ok (c := c) (k := m - 1) (by omega) (by omega)).1]
  cases l <;> rfl
theorem s_l15Days_eq {c : Calendar_} (h : calB c = true) {y : Int} (y0 : 0 ≤ y) {k : Int} (h0 : 0 ≤ k) (h1 : k < c.Months.length) : s_l15Days_m c y k = some (lenM c (leapB c y) k) := by
  unfold s_l15Days_m lenM
  rw [s_l15Leap_eq h y0, Option.bind_some, (monAt_ok h0 h1).1]
  cases leapB c y <;> rfl
def dateB (c : Calendar_) (d : Date_) : Bool := btw d.Year 0 9999 && (btw d.Month 1 c.Months.length && btw d.Day 1 (lenM c (leapB c d.Year) (d.Month - 1)))
theorem i_ValidDate_eq {c : Calendar_} (hm : c.Months.length ≤ 9223372036854775807) (hr : c.Rules.length ≤ 9223372036854775807) (d : Date_) : i_ValidDate_m c d = some (calB c && dateB c d) := by
  unfold i_ValidDate_m dateB
  rw [i_ValidCalendar_eq hm hr, Option.bind_some]
  cases h : calB c
  · rfl
  · unfold i_isYear_m i_isMonth_m
    simp only [i_within_eq, Option.bind_some]
    cases hy : btw d.Year 0 9999
    · rfl
    · cases hmo : btw d.Month 1 (c.Months.length : Int)
      · rfl
      · have hy := of_decide_eq_true hy
        have hmo := of_decide_eq_true hmo
        simp only [if_true]
        rw [i_isLeap_eq h hy.1, Option.bind_some, i_daysOfMonth_eq h _ hmo.1 hmo.2]; rfl
theorem s_l16Ok_eq {c : Calendar_} (h : calB c = true) (d : Date_) : s_l16Ok_m c d = some (dateB c d) := by
  unfold s_l16Ok_m dateB s_l15Year_m
  simp only [s_l00In_eq, Option.bind_some]
  cases hy : btw d.Year 0 9999
  · rfl
  · cases hmo : btw d.Month 1 (c.Months.length : Int)
    · rfl
    · have hy := of_decide_eq_true hy
      have hmo := of_decide_eq_true hmo
      have hc := (calB_iff h).2.1.2
      simp only [Bool.not_true, Bool.false_eq_true, if_false, Option.bind_some]
      rw [w64_in (by omega) (by omega), s_l15Days_eq h hy.1 (by omega) (by omega)]; rfl
theorem camB_iff {xs : List Int} (h : camB xs = true) : (∀ v ∈ xs, 1 ≤ v ∧ v ≤ 60) ∧ 1 ≤ xs.length ∧ xs.length ≤ 260 := by
  unfold camB at h
  simp only [Bool.and_eq_true, decide_eq_true_eq, List.all_eq_true] at h
  exact ⟨fun v hv => of_decide_eq_true (h.1 v hv), h.2⟩
def askC (c : Calendar_) (cam : List Int) : Int := if (calB c && camB cam) = true then (if (cam.length : Int) % c.Months.length = 0 then 0 else 6) else 1
theorem askC_ok {c : Calendar_} {cam : List Int} (h : askC c cam = 0) : calB c = true ∧ camB cam = true ∧ (cam.length : Int) % c.Months.length = 0 ∧ 1 ≤ (cam.length : Int) / c.Months.length ∧ (cam.length : Int) / c.Months.length ≤ 260 := by
  unfold askC at h
  split at h
  · rename_i h1
    rw [Bool.and_eq_true] at h1
    split at h
    · rename_i h2
      have a := (calB_iff h1.1).2.1
      have b := (camB_iff h1.2).2
      have e := Int.emod_add_mul_ediv (cam.length : Int) c.Months.length
      have q := quo_bd (a := (cam.length : Int)) (g := (c.Months.length : Int)) (by omega) (by omega)
      refine ⟨h1.1, h1.2, h2, ?_, by omega⟩
      rcases Int.lt_or_le 0 ((cam.length : Int) / c.Months.length) with h | h
      · omega
      · have : (cam.length : Int) / c.Months.length = 0 := by omega
        rw [this, h2] at e
        omega
    · cases h
  · cases h
theorem i_belongs_eq {c : Calendar_} {cam : List Int} (h1 : 1 ≤ c.Months.length) (h2 : cam.length ≤ 9223372036854775807) : i_belongs_m c cam = some (if (cam.length : Int) % c.Months.length = 0 then (cam.length : Int) / c.Months.length else 0) := by
  unfold i_belongs_m
  have q := quo_bd (a := (cam.length : Int)) (g := (c.Months.length : Int)) (by omega) (by omega)
  rw [chk_t (by omega), Int.tmod_eq_emod_of_nonneg (by omega), chk_t (by omega), Int.tdiv_eq_ediv_of_nonneg (by omega), w64_in (by omega) (by omega)]
  by_cases h : (cam.length : Int) % c.Months.length = 0
  · rw [if_neg (by simp [h]), if_pos h]
  · rw [if_pos h, if_neg h]
theorem i_askedCam_eq {c : Calendar_} {cam : List Int} (hm : c.Months.length ≤ 9223372036854775807) (hr : c.Rules.length ≤ 9223372036854775807) (hl : cam.length ≤ 9223372036854775807) : i_askedCam_m c cam = some (askC c cam) := by
  unfold i_askedCam_m
  simp only [i_ValidCalendar_eq hm hr, i_ValidCam_eq hl, Option.bind_some, itO]
  cases h1 : calB c
  · unfold askC; rw [h1]; rfl
  · cases h2 : camB cam
    · unfold askC; rw [h1, h2]; rfl
    · have a := (calB_iff h1).2.1
      simp only [Bool.not_true, Bool.or_self, Bool.false_eq_true, if_false]
      rw [i_belongs_eq a.1 hl, Option.bind_some]
      unfold askC
      rw [h1, h2]
      by_cases h : (cam.length : Int) % c.Months.length = 0
      · have h0 : askC c cam = 0 := by unfold askC; rw [h1, h2, if_pos (show (true && true) = true from rfl), if_pos h]
        have := askC_ok h0
        rw [if_pos h, if_neg (by omega), if_pos (show (true && true) = true from rfl), if_pos h]
      · rw [if_neg h, if_pos rfl, if_pos (show (true && true) = true from rfl), if_neg h]
theorem s_l17Ask_eq {c : Calendar_} {cam : List Int} (hm : c.Months.length ≤ 9223372036854775807) (hr : c.Rules.length ≤ 9223372036854775807) (hl : cam.length ≤ 9223372036854775807) : s_l17Ask_m c cam = some (askC c cam) := by
  unfold s_l17Ask_m askC
  simp only [s_l15Ok_eq hm hr, s_l17Ok_eq hl, Option.bind_some, itO]
  cases h1 : calB c
  · rfl
  · cases h2 : camB cam
    · rfl
    · have a := (calB_iff h1).2.1
      simp only [Bool.not_true, Bool.or_self, Bool.false_eq_true, if_false, Bool.and_self, if_true]
      rw [chk_t (by omega), Int.tmod_eq_emod_of_nonneg (by omega)]
      by_cases h : (cam.length : Int) % c.Months.length = 0
      · rw [if_neg (by simp [h]), if_pos h]
      · rw [if_pos h, if_neg h]
def maxL (xs : List Int) : Int := xs.foldl max 0
def teethF (t : Int) (m : Month_) : Int := max (max t m.Days) m.Leap
def teethC (c : Calendar_) (cam : List Int) : Int := c.Months.foldl teethF (maxL cam)
theorem foldl_max_ge {xs : List Int} : ∀ {a : Int}, a ≤ xs.foldl max a ∧ (∀ v ∈ xs, v ≤ xs.foldl max a) ∧ (xs.foldl max a = a ∨ xs.foldl max a ∈ xs) := by
  induction xs with
  | nil => intro a; exact ⟨Int.le_refl _, fun v hv => by simp at hv, .inl rfl⟩
  | cons x xs ih =>
    intro a
    obtain ⟨h1, h2, h3⟩ := ih (a := max a x)
    rw [List.foldl_cons]
    refine ⟨by omega, fun v hv => ?_, ?_⟩
    · rcases List.mem_cons.1 hv with rfl | hv
      · omega
      · exact h2 v hv
    · rcases h3 with h3 | h3
      · rw [h3]
        rcases Int.le_total a x with h | h
        · rw [Int.max_eq_right h]; exact .inr (List.mem_cons_self ..)
        · rw [Int.max_eq_left h]; exact .inl rfl
      · exact .inr (List.mem_cons_of_mem _ h3)
theorem maxL_le {xs : List Int} {t : Int} (h0 : 0 ≤ t) : decide (t < maxL xs) = !(xs.all fun v => decide (v ≤ t)) := by
  obtain ⟨h1, h2, h3⟩ := foldl_max_ge (xs := xs) (a := 0)
  rw [Bool.eq_iff_iff, decide_eq_true_eq, Bool.not_eq_true', ← Bool.not_eq_true, List.all_eq_true]
  unfold maxL
  constructor
  · intro h q
    rcases h3 with h3 | h3
    · omega
    · have := of_decide_eq_true (q _ h3); omega
  · intro q
    refine Classical.byContradiction fun hn => q fun v hv => decide_eq_true ?_
    have := h2 v hv
    omega
theorem i_Max_eq {xs : List Int} (h1 : 1 ≤ xs.length) (h2 : xs.length ≤ 9223372036854775807) (h3 : ∀ v ∈ xs, 0 ≤ v) : slices_Max_Lint64_int64_m xs = some (maxL xs) := by
  unfold slices_Max_Lint64_int64_m maxL
  rw [if_neg (by omega), Option.bind_some]
  cases xs with
  | nil => simp at h1
  | cons x xs =>
    have e0 : atI (x :: xs) 0 = some x := by rw [show (0 : Int) = ((0 : Nat) : Int) from rfl, atI_nat]; rfl
    have hx := h3 x (List.mem_cons_self ..)
    have hq : loopM (S := Int × Int) (X := Int) (fun s5 => (if s5.2 < ((x :: xs).length : Int) then ((atI (x :: xs) s5.2).bind fun v6 => some (.inl (max s5.1 v6, w64 (s5.2 + 1)))) else some (.inr s5.1))) (x, 1) = some (xs.foldl max x) := by
      have := loop_for (xs := xs) (step := fun (s5 : Int × Int) => (if s5.2 < ((x :: xs).length : Int) then ((atI (x :: xs) s5.2).bind fun v6 => some (.inl (max s5.1 v6, w64 (s5.2 + 1)))) else some (.inr s5.1))) (fun i (s : Int) => (s, i + 1)) (fun _ v s => some (.inl (max s v))) id (by simp at h2; omega) (fun i hi s => by
        simp only [List.length_cons] at h2
        have hi' : (i : Int) + 1 < ((x :: xs).length : Int) := by simp; omega
        have ea : atI (x :: xs) ((i : Int) + 1) = some xs[i] := by
          rw [show (i : Int) + 1 = ((i + 1 : Nat) : Int) by omega, atI_nat, List.getElem?_cons_succ, List.getElem?_eq_getElem hi]
        simp only [if_pos hi', ea, Option.bind_some, w64_in (x := (i : Int) + 1 + 1) (by omega) (by omega)]; rfl) (fun s => by simp) x
      rw [forL_fold max (fun _ _ _ => rfl)] at this
      exact this
    rw [e0, Option.bind_some, hq, List.foldl_cons, Int.max_eq_right hx]; rfl
theorem s_l00Max_eq (a b : Int) : s_l00Max_m a b = some (max a b) := by
  unfold s_l00Max_m
  split
  · congr 1; omega
  · congr 1; omega
def setR (c : Calendar_) (cam : List Int) (d : Date_) (wd : Int) : Perpetual_ × Int :=
  if askC c cam = 0 then (if (dateB c d && btw wd 1 c.Week) = true then (⟨cam, c.Months.length, teethC c cam, w64 ((w64 ((w64 ((d.Year.tmod ((cam.length : Int) / c.Months.length)) * (c.Months.length : Int))) + d.Month)) - 1), d.Day, c.Week, wd⟩, 0) else (⟨[], 0, 0, 0, 0, 0, 0⟩, 2)) else (⟨[], 0, 0, 0, 0, 0, 0⟩, askC c cam)
theorem i_cloneI {xs : List Int} (hl : xs.length ≤ 1048576) : slices_Clone_Lint64_int64_m xs = some xs := by
  unfold slices_Clone_Lint64_int64_m
  rw [chk_t (by simp; omega), List.nil_append]
theorem s_ownI {xs : List Int} (hl : xs.length ≤ 1048576) : s_l00Own_m xs = some xs := by
  unfold s_l00Own_m
  rw [chk_t (by simp; omega), List.nil_append]
theorem i_SetPerpetual_eq {c : Calendar_} {cam : List Int} (hm : c.Months.length ≤ 9223372036854775807) (hr : c.Rules.length ≤ 9223372036854775807) (hl : cam.length ≤ 1048576) (d : Date_) (wd : Int) : i_SetPerpetual_m c cam d wd = some (setR c cam d wd) := by
  unfold i_SetPerpetual_m setR
  rw [i_askedCam_eq hm hr (by omega), Option.bind_some]
  by_cases h : askC c cam = 0
  · obtain ⟨h1, h2, h3, h4, h5⟩ := askC_ok h
    have a := (calB_iff h1).2.1
    have b := camB_iff h2
    rw [if_neg (by simp [h]), if_pos h, i_ValidDate_eq hm hr, h1]
    simp only [Option.bind_some, Bool.true_and, i_within_eq, itO]
    cases hd : dateB c d
    · rfl
    · cases hw : btw wd 1 c.Week
      · rfl
      · simp only [Bool.not_true, Bool.or_self, Bool.false_eq_true, if_false, Bool.and_self, if_true]
        have hq := loop_for (xs := c.Months) (step := fun (s8 : Int × Int) => (if s8.2 < (c.Months.length : Int) then ((atI c.Months s8.2).bind fun v9 => some (.inl (max (max s8.1 v9.Days) v9.Leap, w64 (s8.2 + 1)))) else some (.inr s8.1))) (fun i (s : Int) => (s, i)) (fun _ m s => some (.inl (teethF s m))) id hm (fun i hi s => by
          have hi' : (i : Int) < c.Months.length := by omega
          simp only [if_pos hi', atI_lt hi, Option.bind_some, w64_in (x := (i : Int) + 1) (by omega) (by omega)]; rfl) (fun s => by simp) (maxL cam)
        rw [forL_fold teethF (fun _ _ _ => rfl)] at hq
        rw [i_Max_eq b.2.1 (by omega) (fun v hv => by have := b.1 v hv; omega), Option.bind_some, hq]
        simp only [Option.map_some, Option.bind_some, i_cloneI hl, i_belongs_eq a.1 (show cam.length ≤ 9223372036854775807 by omega), if_pos h3]
        rw [chk_t (by omega)]; rfl
  · rw [if_pos h, if_neg h]
theorem s_SetPerpetual_eq {c : Calendar_} {cam : List Int} (hm : c.Months.length ≤ 9223372036854775807) (hr : c.Rules.length ≤ 9223372036854775807) (hl : cam.length ≤ 1048576) (d : Date_) (wd : Int) : s_SetPerpetual_m c cam d wd = some (setR c cam d wd) := by
  unfold s_SetPerpetual_m setR
  rw [s_l17Ask_eq hm hr (by omega), Option.bind_some]
  by_cases h : askC c cam = 0
  · obtain ⟨h1, h2, h3, h4, h5⟩ := askC_ok h
    have a := (calB_iff h1).2.1
    rw [if_neg (by simp [h]), if_pos h, s_l16Ok_eq h1]
    simp only [Option.bind_some, s_l00In_eq, itO]
    cases hd : dateB c d
    · rfl
    · cases hw : btw wd 1 c.Week
      · rfl
      · simp only [Bool.not_true, Bool.or_self, Bool.false_eq_true, if_false, Bool.and_self, if_true]
        have hk : w64 ((cam.length : Int).tdiv (c.Months.length : Int)) = (cam.length : Int) / c.Months.length := by rw [Int.tdiv_eq_ediv_of_nonneg (by omega), w64_in (by omega) (by omega)]
        have hq1 := loop_for (xs := cam) (step := fun (s11 : Int × Int) => (if s11.1 < (cam.length : Int) then ((atI cam s11.1).bind fun v12 => ((s_l00Max_m s11.2 v12).bind fun v13 => some (.inl (w64 (s11.1 + 1), v13)))) else some (.inr s11.2))) (fun i (s : Int) => (i, s)) (fun _ v s => some (.inl (max s v))) id (by omega) (fun i hi s => by
          have hi' : (i : Int) < cam.length := by omega
          simp only [if_pos hi', atI_lt hi, Option.bind_some, s_l00Max_eq, w64_in (x := (i : Int) + 1) (by omega) (by omega)]; rfl) (fun s => by simp) 0
        rw [forL_fold max (fun _ _ _ => rfl)] at hq1
        have hq2 := loop_for (xs := c.Months) (step := fun (s20 : Int × Int) => (if s20.1 < (c.Months.length : Int) then ((atI c.Months s20.1).bind fun v21 => ((atI c.Months s20.1).bind fun v22 => ((s_l00Max_m v21.Days v22.Leap).bind fun v23 => ((s_l00Max_m s20.2 v23).bind fun v24 => some (.inl (w64 (s20.1 + 1), v24)))))) else some (.inr s20.2))) (fun i (s : Int) => (i, s)) (fun _ m s => some (.inl (teethF s m))) id hm (fun i hi s => by
          have hi' : (i : Int) < c.Months.length := by omega
          have e : max s (max c.Months[i].Days c.Months[i].Leap) = teethF s c.Months[i] := by unfold teethF; omega
          simp only [if_pos hi', atI_lt hi, Option.bind_some, s_l00Max_eq, e, w64_in (x := (i : Int) + 1) (by omega) (by omega)]; rfl) (fun s => by simp) (maxL cam)
        rw [forL_fold teethF (fun _ _ _ => rfl)] at hq2
        rw [s_ownI hl, Option.bind_some, hk, chk_t (by omega), chk_t (by omega), hq1]
        simp only [Option.map_some, Option.bind_some]
        have e0 : Sum.elim id id (Sum.inl (cam.foldl max 0) : Int ⊕ Int) = maxL cam := rfl
        rw [e0, hq2]; rfl
  · rw [if_pos h, if_neg h]
def perB (p : Perpetual_) : Bool := camB p.Cam && (decide (1 ≤ p.Months) && (decide ((p.Cam.length : Int) % p.Months = 0) && (decide (p.Teeth ≤ 60) && ((p.Cam.all fun v => decide (v ≤ p.Teeth)) && (decide (0 ≤ p.At ∧ p.At < p.Cam.length) && (btw p.Day 1 p.Teeth && (btw p.Week 1 12 && btw p.Weekday 1 p.Week)))))))
theorem per_all {p : Perpetual_} (h : camB p.Cam = true) (t0 : p.Teeth < 1) : (p.Cam.all fun v => decide (v ≤ p.Teeth)) = false := by
  rw [← Bool.not_eq_true, List.all_eq_true]
  intro q
  obtain ⟨h1, h2, h3⟩ := camB_iff h
  cases hc : p.Cam with
  | nil => rw [hc] at h2; simp at h2
  | cons x xs =>
    have hx : x ∈ p.Cam := by rw [hc]; exact List.mem_cons_self ..
    have := of_decide_eq_true (q x hx)
    have := h1 x hx
    omega
theorem i_ValidPerpetual_eq {p : Perpetual_} (hl : p.Cam.length ≤ 9223372036854775807) : i_ValidPerpetual_m p = some (perB p) := by
  unfold i_ValidPerpetual_m perB
  rw [i_ValidCam_eq hl, Option.bind_some]
  cases h1 : camB p.Cam
  · rfl
  · have b := camB_iff h1
    simp only [Bool.not_true, Bool.false_eq_true, if_false, Bool.true_and]
    by_cases h2 : 1 ≤ p.Months
    · rw [if_neg (by omega), chk_t (by omega), Option.bind_some, Int.tmod_eq_emod_of_nonneg (by omega), decide_eq_true h2, Bool.true_and]
      by_cases h3 : (p.Cam.length : Int) % p.Months = 0
      · rw [decide_eq_false (by simp [h3]), if_neg (by decide), decide_eq_true h3, Bool.true_and]
        by_cases h4 : p.Teeth ≤ 60
        · rw [if_neg (by omega), decide_eq_true h4, Bool.true_and, i_Max_eq b.2.1 hl (fun v hv => by have := b.1 v hv; omega), Option.bind_some, Option.bind_some]
          by_cases h5 : p.Teeth < 1
          · have hx : p.Teeth < maxL p.Cam := by
              obtain ⟨q1, q2, q3⟩ := foldl_max_ge (xs := p.Cam) (a := 0)
              cases hc : p.Cam with
              | nil => rw [hc] at b; simp at b
              | cons x xs =>
                have hx : x ∈ p.Cam := by rw [hc]; exact List.mem_cons_self ..
                have := b.1 x hx
                have := q2 x hx
                rw [← hc]
                unfold maxL; omega
            rw [decide_eq_true hx, if_pos rfl, per_all h1 h5]; rfl
          · rw [maxL_le (by omega)]
            cases (p.Cam.all fun v => decide (v ≤ p.Teeth))
            · rfl
            · simp only [Bool.not_true, Bool.false_eq_true, if_false, i_within_eq, Option.bind_some, itA, btw_len hl, Bool.true_and]
        · rw [if_pos (by omega), Option.bind_some, if_pos rfl, decide_eq_false h4]; rfl
      · rw [decide_eq_true h3, if_pos rfl, decide_eq_false h3]; rfl
    · rw [if_pos (by omega), Option.bind_some, if_pos rfl, decide_eq_false h2]; rfl
theorem s_l18Ok_eq {p : Perpetual_} (hl : p.Cam.length ≤ 9223372036854775807) : s_l18Ok_m p = some (perB p) := by
  unfold s_l18Ok_m perB
  rw [s_l17Ok_eq hl, Option.bind_some]
  cases h1 : camB p.Cam
  · rfl
  · simp only [Bool.not_true, Bool.false_eq_true, if_false, Bool.true_and]
    by_cases h2 : 1 ≤ p.Months
    · rw [if_neg (by omega), chk_t (by omega), Int.tmod_eq_emod_of_nonneg (by omega), decide_eq_true h2, Bool.true_and]
      by_cases h3 : (p.Cam.length : Int) % p.Months = 0
      · rw [if_neg (by simp [h3]), s_l00In_eq, decide_eq_true h3, Bool.true_and, Option.bind_some, Option.bind_some]
        by_cases h4 : p.Teeth ≤ 60
        · by_cases h5 : p.Teeth < 1
          · have e : btw p.Teeth 1 60 = false := decide_eq_false (by omega)
            rw [e, per_all h1 h5, decide_eq_true h4]; rfl
          · have e : btw p.Teeth 1 60 = true := decide_eq_true (by omega)
            rw [e, decide_eq_true h4, Bool.not_true, if_neg (by decide), Bool.true_and,
              scanG (xs := p.Cam) (e := .inr false) (fun _ v => decide (v ≤ p.Teeth)) hl fun i hi => ?_, allI_all, Option.bind_some]
            · cases (p.Cam.all fun v => decide (v ≤ p.Teeth))
              · rfl
              · simp only [if_true, orE, s_l00In_eq, Option.bind_some, itA, btw_len hl, Bool.true_and]
            · rw [atI_lt hi, Option.bind_some]
              by_cases q : p.Cam[i] ≤ p.Teeth
              · rw [if_neg (by omega), decide_eq_true q]; rfl
              · rw [if_pos (by omega), decide_eq_false q]; rfl
        · have e : btw p.Teeth 1 60 = false := decide_eq_false (by omega)
          rw [e, decide_eq_false h4]; rfl
      · rw [if_pos h3, decide_eq_false h3]; rfl
    · rw [if_pos (by omega), decide_eq_false h2]; rfl
end Go.Proofs.YtlakbomkpnlidaaGreat
namespace Go.Proofs.YtlakbomkpnlidaaGreat
set_option linter.unusedVariables false
def sumN (g : Nat → Int) : Nat → Int
  | 0 => 0
  | n + 1 => sumN g n + g n
theorem sumN_bd {g : Nat → Int} {lo hi : Int} {n : Nat} (h : ∀ k, k < n → lo ≤ g k ∧ g k ≤ hi) : lo * n ≤ sumN g n ∧ sumN g n ≤ hi * n := by
  induction n with
  | zero => simp [sumN]
  | succ n ih =>
    have h1 := ih fun k hk => h k (by omega)
    have h2 := h n (by omega)
    have e1 : lo * ((n + 1 : Nat) : Int) = lo * n + lo := by push_cast; rw [Int.mul_add]; omega
    have e2 : hi * ((n + 1 : Nat) : Int) = hi * n + hi := by push_cast; rw [Int.mul_add]; omega
    rw [e1, e2]
    unfold sumN
    omega
theorem sumN_add (g : Nat → Int) (m : Nat) : ∀ n, sumN g (m + n) = sumN g m + sumN (fun k => g (m + k)) n
  | 0 => by simp [sumN]
  | n + 1 => by
    show sumN g (m + n) + g (m + n) = _
    rw [sumN_add g m n]
    simp only [sumN]; omega
theorem sumN_mono {g : Nat → Int} (h : ∀ k, 0 ≤ g k) {m n : Nat} (hm : m ≤ n) : sumN g m ≤ sumN g n := by
  obtain ⟨k, rfl⟩ : ∃ k, n = m + k := ⟨n - m, by omega⟩
  rw [sumN_add]
  have := (sumN_bd (g := fun k => g (m + k)) (lo := 0) (hi := 0 + 1) (n := 0) fun k hk => by omega)
  have h2 : ∀ j, 0 ≤ sumN (fun k => g (m + k)) j := fun j => by
    induction j with
    | zero => simp [sumN]
    | succ j ih => have := h (m + j); simp only [sumN]; omega
  have := h2 k
  omega
def sumM (c : Calendar_) (l : Bool) : Int := sumN (fun k => lenM c l (k : Int)) c.Months.length
def lenY (c : Calendar_) (y : Nat) : Int := sumM c (leapB c y)
def bef (c : Calendar_) (y : Nat) : Int := sumN (lenY c) y
theorem sumM_bd {c : Calendar_} (h : calB c = true) (l : Bool) : 1 ≤ sumM c l ∧ sumM c l ≤ 1200 := by
  have hc := (calB_iff h).2.1
  have := sumN_bd (g := fun k => lenM c l (k : Int)) (lo := 1) (hi := 60) (n := c.Months.length) fun k hk => lenM_in h l (by omega) (by omega)
  unfold sumM
  omega
theorem lenY_bd {c : Calendar_} (h : calB c = true) (y : Nat) : 1 ≤ lenY c y ∧ lenY c y ≤ 1200 := sumM_bd h _
theorem bef_bd {c : Calendar_} (h : calB c = true) (y : Nat) : (y : Int) ≤ bef c y ∧ bef c y ≤ 1200 * y := by
  have := sumN_bd (g := lenY c) (lo := 1) (hi := 1200) (n := y) fun k _ => lenY_bd h k
  unfold bef
  omega
theorem bef_mono {c : Calendar_} (h : calB c = true) {m n : Nat} (hm : m ≤ n) : bef c m ≤ bef c n := sumN_mono (fun k => by have := (lenY_bd h k).1; omega) hm
end Go.Proofs.YtlakbomkpnlidaaGreat
namespace Go.Proofs.YtlakbomkpnlidaaGreat
set_option linter.unusedVariables false
theorem mulS_bd {a b A B : Int} (h1 : -A ≤ a) (h2 : a ≤ A) (h3 : -B ≤ b) (h4 : b ≤ B) : -(A * B) ≤ a * b ∧ a * b ≤ A * B := by
  have h : (a * b).natAbs ≤ (A * B).natAbs := by
    rw [Int.natAbs_mul, Int.natAbs_mul]
    exact Nat.mul_le_mul (by omega) (by omega)
  have hp : 0 ≤ A * B := Int.mul_nonneg (by omega) (by omega)
  generalize a * b = x at *
  generalize A * B = y at *
  omega
theorem mkR_val {n d : Int} (hd : d ≠ 0) (h : (mkR n d).2 = true) : ratB (mkR n d).1 = true ∧ ((mkR n d).1.Num = 0 ↔ n = 0) := by
  unfold mkR at h ⊢
  split at h
  · cases h
  · rename_i hc
    rw [if_neg hc]
    have hg : 0 < Int.gcd n d := gcd_pos hd
    have ea : absI n / (Int.gcd n d : Int) = ((n.natAbs / Int.gcd n d : Nat) : Int) := rfl
    have eb : absI d / (Int.gcd n d : Int) = ((d.natAbs / Int.gcd n d : Nat) : Int) := rfl
    have hco : Nat.Coprime (n.natAbs / Int.gcd n d) (d.natAbs / Int.gcd n d) := Nat.coprime_div_gcd_div_gcd hg
    have hb0 : 0 < d.natAbs / Int.gcd n d := Nat.div_pos (Nat.le_of_dvd (by omega) (Nat.gcd_dvd_right ..)) hg
    have ha0 : n.natAbs / Int.gcd n d = 0 ↔ n = 0 := by
      constructor
      · intro h0
        have := Nat.eq_mul_of_div_eq_right (Nat.gcd_dvd_left n.natAbs d.natAbs) h0
        omega
      · rintro rfl; simp
    rw [ea, eb] at hc ⊢
    generalize n.natAbs / Int.gcd n d = a at *
    generalize d.natAbs / Int.gcd n d = b at *
    refine ⟨ratB_iff.2 ⟨⟨by show 1 ≤ (b : Int); omega, by show (b : Int) ≤ _; omega⟩, ?_, ?_⟩, ?_⟩
    · dsimp only; split <;> omega
    · dsimp only
      unfold Int.gcd
      split
      · rw [Int.natAbs_neg, Int.natAbs_natCast, Int.natAbs_natCast]; exact hco
      · rw [Int.natAbs_natCast, Int.natAbs_natCast]; exact hco
    · dsimp only
      rw [← ha0]
      split <;> omega
theorem mkR_small {n d : Int} (hd : d ≠ 0) (n0 : -1000000000 ≤ n) (n1 : n ≤ 1000000000) (d0 : -1000000000 ≤ d) (d1 : d ≤ 1000000000) : (mkR n d).2 = true := by
  unfold mkR
  have hg := gcd_pos (n := n) hd
  have h1 := (quo_bd (a := absI n) (g := (Int.gcd n d : Int)) (absI_nn n) (by omega)).2
  have h2 := (quo_bd (a := absI d) (g := (Int.gcd n d : Int)) (absI_nn d) (by omega)).2
  have h3 : absI n ≤ 1000000000 := by unfold absI; omega
  have h4 : absI d ≤ 1000000000 := by unfold absI; omega
  rw [if_neg (by omega)]
def mulR (a b : Ratio_) : Ratio_ × Bool := mkR (a.Num * b.Num) (a.Den * b.Den)
theorem ratB_d {r : Ratio_} (h : ratB r = true) : 1 ≤ r.Den ∧ r.Den ≤ 1000000000 ∧ -1000000000 ≤ r.Num ∧ r.Num ≤ 1000000000 := by
  obtain ⟨⟨d0, d1⟩, ⟨n0, n1⟩, _⟩ := ratB_iff.1 h; exact ⟨d0, d1, n0, n1⟩
theorem mul_in {a b : Ratio_} (ha : ratB a = true) (hb : ratB b = true) : osI (a.Num * b.Num) ∧ osI (a.Den * b.Den) ∧ a.Den * b.Den ≠ 0 := by
  obtain ⟨d0, d1, n0, n1⟩ := ratB_d ha
  obtain ⟨e0, e1, m0, m1⟩ := ratB_d hb
  have h1 := mulS_bd n0 n1 m0 m1
  have h2 := mulS_bd (a := a.Den) (b := b.Den) (A := 1000000000) (B := 1000000000) (by omega) d1 (by omega) e1
  have h3 : a.Den * b.Den ≠ 0 := Int.mul_ne_zero (by omega) (by omega)
  refine ⟨⟨by omega, by omega⟩, ⟨by omega, by omega⟩, h3⟩
theorem mulR_val {a b : Ratio_} (ha : ratB a = true) (hb : ratB b = true) (h : (mulR a b).2 = true) : ratB (mulR a b).1 = true ∧ ((mulR a b).1.Num = 0 ↔ a.Num * b.Num = 0) := mkR_val (mul_in ha hb).2.2 h
theorem i_MulRatio_eq {a b : Ratio_} (ha : ratB a = true) (hb : ratB b = true) : i_MulRatio_m a b = some (codeR (mulR a b)) := by
  unfold i_MulRatio_m
  obtain ⟨h1, h2, h3⟩ := mul_in ha hb
  simp only [i_ValidRatio_eq, ha, hb, Option.bind_some, Bool.not_true, Bool.false_eq_true, if_false]
  rw [w64_in h1.1 h1.2, w64_in h2.1 h2.2, i_MakeRatio_eq h1 h2, Option.bind_some]
  unfold makeR mulR
  rw [if_neg h3]
theorem s_l02Mul_eq {a b : Ratio_} (ha : ratB a = true) (hb : ratB b = true) : s_l02Mul_m a b = some (mulR a b) := by
  unfold s_l02Mul_m
  obtain ⟨h1, h2, h3⟩ := mul_in ha hb
  rw [w64_in h1.1 h1.2, w64_in h2.1 h2.2, s_l02Make_eq h1 h2 h3, Option.bind_some]; rfl
end Go.Proofs.YtlakbomkpnlidaaGreat
namespace Go.Proofs.YtlakbomkpnlidaaGreat
set_option linter.unusedVariables false
def teethAt (w : Works_) (a k : Int) : Int := (w.Arbors[a.toNat]?.bind fun b => b.Wheels[k.toNat]?).getD 0
def pairM (w : Works_) (m : Mesh_) : Pair_ := ⟨teethAt w m.A m.WheelA, teethAt w m.B m.WheelB⟩
theorem wheel_at {w : Works_} {a k : Int} (h : whB w a k = true) : 0 ≤ a ∧ a < w.Arbors.length ∧ ∃ b t, atI w.Arbors a = some b ∧ b ∈ w.Arbors ∧ atI b.Wheels k = some t ∧ t ∈ b.Wheels ∧ teethAt w a k = t := by
  unfold whB at h
  rw [Bool.and_eq_true, decide_eq_true_eq] at h
  obtain ⟨h1, h2⟩ := h
  obtain ⟨b, hb, hm, hg⟩ := atI_some h1.1 h1.2
  rw [hg] at h2
  have h2 := of_decide_eq_true h2
  obtain ⟨t, ht, htm, htg⟩ := atI_some h2.1 h2.2
  exact ⟨h1.1, h1.2, b, t, hb, hm, ht, htm, by unfold teethAt; rw [hg]; simp [htg]⟩
theorem joinB_iff {w : Works_} {m : Mesh_} : joinB w m = true ↔ m.A ≠ m.B ∧ whB w m.A m.WheelA = true ∧ whB w m.B m.WheelB = true := by
  unfold joinB; simp only [Bool.and_eq_true, decide_eq_true_eq]
theorem wksB_iff {w : Works_} : wksB w = true ↔ w.Arbors.length ≤ 16 ∧ w.Meshes.length ≤ 24 ∧ (∀ (i : Nat) (hi : i < w.Arbors.length), arbB w.Arbors[i] = true ∧ ((w.Arbors.take i).any fun b => decide (b.Name = w.Arbors[i].Name)) = false) ∧ ∀ (i : Nat) (hi : i < w.Meshes.length), joinB w w.Meshes[i] = true ∧ ((w.Meshes.take i).any fun n => sameB w.Meshes[i] n) = false := by
  unfold wksB
  simp only [Bool.and_eq_true, decide_eq_true_eq, allI_iff, Bool.not_eq_true']
theorem wks_join {w : Works_} (h : wksB w = true) : ∀ m ∈ w.Meshes, joinB w m = true := fun m hm => by
  obtain ⟨i, hi, rfl⟩ := List.getElem_of_mem hm
  exact ((wksB_iff.1 h).2.2.2 i hi).1
theorem wks_arb {w : Works_} (h : wksB w = true) : ∀ a ∈ w.Arbors, arbB a = true := fun m hm => by
  obtain ⟨i, hi, rfl⟩ := List.getElem_of_mem hm
  exact ((wksB_iff.1 h).2.2.1 i hi).1
theorem tooth_in {w : Works_} (h : wksB w = true) {a k : Int} (hw : whB w a k = true) : 6 ≤ teethAt w a k ∧ teethAt w a k ≤ 240 := by
  obtain ⟨_, _, b, t, _, hb, _, ht, e⟩ := wheel_at hw
  have hb := wks_arb h b hb
  unfold arbB at hb
  rw [Bool.and_eq_true, List.all_eq_true] at hb
  have := hb.1 t ht
  unfold toothB btw at this
  rw [e]
  exact of_decide_eq_true this
theorem i_pairOf_eq {w : Works_} {m : Mesh_} (h : joinB w m = true) : i_pairOf_m w m = some (pairM w m) := by
  obtain ⟨_, h1, h2⟩ := joinB_iff.1 h
  obtain ⟨_, _, b, t, e1, _, e2, _, e3⟩ := wheel_at h1
  obtain ⟨_, _, b', t', f1, _, f2, _, f3⟩ := wheel_at h2
  unfold i_pairOf_m pairM
  simp only [e1, e2, f1, f2, Option.bind_some, e3, f3]
theorem s_l08Pair_eq {w : Works_} {m : Mesh_} (h : joinB w m = true) : s_l08Pair_m w m = some (pairM w m) := by
  obtain ⟨_, h1, h2⟩ := joinB_iff.1 h
  obtain ⟨_, _, b, t, e1, _, e2, _, e3⟩ := wheel_at h1
  obtain ⟨_, _, b', t', f1, _, f2, _, f3⟩ := wheel_at h2
  unfold s_l08Pair_m pairM
  simp only [e1, e2, f1, f2, Option.bind_some, e3, f3]
def meshed (v : Ratio_) (t u : Int) : Ratio_ × Bool := mulR v (mkR (-t) u).1
theorem step_val {t u : Int} (t0 : 6 ≤ t) (t1 : t ≤ 240) (u0 : 6 ≤ u) (u1 : u ≤ 240) : (mkR (-t) u).2 = true ∧ ratB (mkR (-t) u).1 = true ∧ (mkR (-t) u).1.Num ≠ 0 := by
  have h := mkR_small (n := -t) (d := u) (by omega) (by omega) (by omega) (by omega) (by omega)
  have h2 := mkR_val (n := -t) (d := u) (by omega) h
  exact ⟨h, h2.1, fun e => by have := h2.2.1 e; omega⟩
def KnR (r : Ratio_) : Prop := ratB r = true ∧ r.Num ≠ 0
theorem KnR.den {r : Ratio_} (h : KnR r) : r.Den ≠ 0 := by have := ratB_d h.1; omega
theorem meshed_val {v : Ratio_} {t u : Int} (hv : KnR v) (t0 : 6 ≤ t) (t1 : t ≤ 240) (u0 : 6 ≤ u) (u1 : u ≤ 240) (h : (meshed v t u).2 = true) : KnR (meshed v t u).1 := by
  obtain ⟨_, h2, h3⟩ := step_val t0 t1 u0 u1
  obtain ⟨h4, h5⟩ := mulR_val hv.1 h2 h
  exact ⟨h4, fun e => by
    rcases Int.mul_eq_zero.1 (h5.1 e) with h | h
    · exact hv.2 h
    · exact h3 h⟩
theorem i_meshed_eq {v : Ratio_} {t u : Int} (hv : KnR v) (t0 : 6 ≤ t) (t1 : t ≤ 240) (u0 : 6 ≤ u) (u1 : u ≤ 240) : i_meshed_m v t u = some (codeR (meshed v t u)) := by
  unfold i_meshed_m
  obtain ⟨h1, h2, h3⟩ := step_val t0 t1 u0 u1
  rw [w64_in (by omega) (by omega), i_MakeRatio_eq ⟨by omega, by omega⟩ ⟨by omega, by omega⟩, Option.bind_some]
  have e : (makeR (-t) u).1 = (mkR (-t) u).1 := by unfold makeR codeR; rw [if_neg (by omega), if_pos h1]
  rw [e, i_MulRatio_eq hv.1 h2]; rfl
def SpI (w : Works_) (sp : List Ratio_) : Prop := sp.length = w.Arbors.length ∧ ∀ r ∈ sp, r = ⟨0, 0⟩ ∨ KnR r
def getR (sp : List Ratio_) (i : Int) : Ratio_ := sp.getD i.toNat ⟨0, 0⟩
theorem getR_at {sp : List Ratio_} {i : Int} (h0 : 0 ≤ i) (h1 : i < sp.length) : atI sp i = some (getR sp i) ∧ getR sp i ∈ sp ∧ ∃ h : i.toNat < sp.length, sp[i.toNat] = getR sp i := by
  obtain ⟨e, he, hm, hg⟩ := atI_some h0 h1
  have : getR sp i = e := by unfold getR; rw [List.getD_eq_getElem?_getD, hg]; rfl
  rw [this]
  exact ⟨he, hm, (List.getElem?_eq_some_iff.1 hg)⟩
def rstep (w : Works_) (m : Mesh_) (s : Bool × List Ratio_) : (Bool × List Ratio_) ⊕ Unit :=
  if decide ((getR s.2 m.A).Den = 0) = decide ((getR s.2 m.B).Den = 0) then .inl s
  else if (getR s.2 m.A).Den = 0 then (if (meshed (getR s.2 m.B) (pairM w m).Driven (pairM w m).Driver).2 = true then .inl (true, s.2.set m.A.toNat (meshed (getR s.2 m.B) (pairM w m).Driven (pairM w m).Driver).1) else .inr ())
  else (if (meshed (getR s.2 m.A) (pairM w m).Driver (pairM w m).Driven).2 = true then .inl (true, s.2.set m.B.toNat (meshed (getR s.2 m.A) (pairM w m).Driver (pairM w m).Driven).1) else .inr ())
def roundF (w : Works_) : List Mesh_ → Bool × List Ratio_ → (Bool × List Ratio_) ⊕ Unit
  | [], s => .inl s
  | m :: ms, s => match rstep w m s with
    | .inl s' => roundF w ms s'
    | .inr u => .inr u
def cntU (sp : List Ratio_) : Nat := sp.countP fun r => decide (r.Den = 0)
theorem SpI.den {w : Works_} {sp : List Ratio_} (h : SpI w sp) {i : Int} (h0 : 0 ≤ i) (h1 : i < w.Arbors.length) (hd : (getR sp i).Den ≠ 0) : KnR (getR sp i) := by
  obtain ⟨_, hm, _⟩ := getR_at (sp := sp) h0 (by rw [h.1]; exact h1)
  rcases h.2 _ hm with e | e
  · rw [e] at hd; exact absurd rfl hd
  · exact e
theorem SpI.set {w : Works_} {sp : List Ratio_} (h : SpI w sp) (i : Nat) {v : Ratio_} (hv : KnR v) : SpI w (sp.set i v) := by
  refine ⟨by rw [List.length_set]; exact h.1, fun r hr => ?_⟩
  rcases List.mem_or_eq_of_mem_set hr with hr | rfl
  · exact h.2 r hr
  · exact .inr hv
theorem cntU_set {sp : List Ratio_} {i : Int} (h0 : 0 ≤ i) (h1 : i < sp.length) (hd : (getR sp i).Den = 0) {v : Ratio_} (hv : v.Den ≠ 0) : cntU (sp.set i.toNat v) < cntU sp := by
  obtain ⟨_, hm, hi, e⟩ := getR_at h0 h1
  unfold cntU
  have hp : 0 < sp.countP fun r => decide (r.Den = 0) := List.countP_pos_iff.2 ⟨_, hm, decide_eq_true hd⟩
  rw [List.countP_set hi]
  rw [e, decide_eq_true hd, decide_eq_false hv]
  simp
  omega
theorem rstep_ok {w : Works_} (hw : wksB w = true) {m : Mesh_} (hm : joinB w m = true) {s s' : Bool × List Ratio_} (h : SpI w s.2) (e : rstep w m s = .inl s') : SpI w s'.2 ∧ (s' = s ∨ (s'.1 = true ∧ cntU s'.2 < cntU s.2)) := by
  obtain ⟨_, j1, j2⟩ := joinB_iff.1 hm
  have a := wheel_at j1
  have b := wheel_at j2
  have ta := tooth_in hw j1
  have tb := tooth_in hw j2
  unfold rstep at e
  split at e
  · injection e with e; subst e; exact ⟨h, .inl rfl⟩
  · rename_i hne
    split at e
    · rename_i hA
      have hB : (getR s.2 m.B).Den ≠ 0 := fun hB => hne (by rw [decide_eq_true hA, decide_eq_true hB])
      split at e
      · rename_i hv
        injection e with e; subst e
        have k := meshed_val (h.den b.1 b.2.1 hB) (t := (pairM w m).Driven) (u := (pairM w m).Driver) tb.1 tb.2 ta.1 ta.2 hv
        exact ⟨h.set _ k, .inr ⟨rfl, cntU_set a.1 (by rw [h.1]; exact a.2.1) hA k.den⟩⟩
      · cases e
    · rename_i hA
      have hB : (getR s.2 m.B).Den = 0 := Classical.byContradiction fun hB => hne (by rw [decide_eq_false hA, decide_eq_false hB])
      split at e
      · rename_i hv
        injection e with e; subst e
        have k := meshed_val (h.den a.1 a.2.1 hA) (t := (pairM w m).Driver) (u := (pairM w m).Driven) ta.1 ta.2 tb.1 tb.2 hv
        exact ⟨h.set _ k, .inr ⟨rfl, cntU_set b.1 (by rw [h.1]; exact b.2.1) hB k.den⟩⟩
      · cases e
theorem roundF_ok {w : Works_} (hw : wksB w = true) : ∀ {ms : List Mesh_} (hm : ∀ m ∈ ms, joinB w m = true) {s s' : Bool × List Ratio_} (h : SpI w s.2) (e : roundF w ms s = .inl s'), SpI w s'.2 ∧ cntU s'.2 ≤ cntU s.2 ∧ (s'.1 = true → s.1 = true ∨ cntU s'.2 < cntU s.2)
  | [], hm, s, s', h, e => by
    injection e with e; subst e
    exact ⟨h, Nat.le_refl _, fun h => .inl h⟩
  | m :: ms, hm, s, s', h, e => by
    unfold roundF at e
    cases e1 : rstep w m s with
    | inr u => rw [e1] at e; cases e
    | inl s1 =>
      rw [e1] at e
      obtain ⟨h1, h2⟩ := rstep_ok hw (hm m (List.mem_cons_self ..)) h e1
      obtain ⟨h3, h4, h5⟩ := roundF_ok hw (fun m hm' => hm m (List.mem_cons_of_mem _ hm')) h1 e
      refine ⟨h3, ?_, fun ht => ?_⟩
      · rcases h2 with rfl | h2 <;> omega
      · rcases h2 with rfl | h2
        · exact h5 ht
        · right; omega
theorem forL_round {w : Works_} {X : Type} {g : Unit → X} {body : Nat → Mesh_ → Bool × List Ratio_ → Option ((Bool × List Ratio_) ⊕ X)} (hb : ∀ i m s, body i m s = some (Sum.map id g (rstep w m s))) : ∀ (ms : List Mesh_) (k : Nat) (s : Bool × List Ratio_), forL body ms k s = some (Sum.map id g (roundF w ms s))
  | [], k, s => rfl
  | m :: ms, k, s => by
    show (body k m s).bind _ = _
    rw [hb, Option.bind_some]
    unfold roundF
    cases rstep w m s with
    | inr u => rfl
    | inl s1 => exact forL_round hb ms (k + 1) s1
def spread (w : Works_) : Nat → List Ratio_ → List Ratio_ ⊕ Unit
  | 0, sp => .inl sp
  | n + 1, sp => match roundF w w.Meshes (false, sp) with
    | .inr u => .inr u
    | .inl (true, sp') => spread w n sp'
    | .inl (false, sp') => .inl sp'
theorem spread_same {w : Works_} (hw : wksB w = true) : ∀ {n m : Nat} {sp : List Ratio_}, SpI w sp → cntU sp < n → cntU sp < m → spread w n sp = spread w m sp
  | 0, _, _, _, h, _ => by omega
  | _ + 1, 0, _, _, _, h => by omega
  | n + 1, m + 1, sp, hs, h1, h2 => by
    unfold spread
    cases e : roundF w w.Meshes (false, sp) with
    | inr u => rfl
    | inl s =>
      obtain ⟨b, sp'⟩ := s
      cases b with
      | false => rfl
      | true =>
        obtain ⟨h3, _, h5⟩ := roundF_ok hw (wks_join hw) (s := (false, sp)) hs e
        have h6 : cntU sp' < cntU sp := by
          rcases h5 rfl with h | h
          · cases h
          · exact h
        exact spread_same hw h3 (by omega) (by omega)
def spreadS (w : Works_) (s : Bool × List Ratio_) : List Ratio_ ⊕ Unit := if s.1 = true then spread w (cntU s.2 + 1) s.2 else .inl s.2
theorem rounds_ok {w : Works_} (hw : wksB w = true) {S X : Type} {step : S → Option (S ⊕ X)} (mk : Bool × List Ratio_ → S) (un : S → Bool × List Ratio_) (hun : ∀ s, un (mk s) = s) (good : List Ratio_ → X) (bad : List Ratio_ → X)
    (hbad : ∀ x y, bad x = bad y)
    (hT : ∀ sp, SpI w sp → step (mk (true, sp)) = some (match roundF w w.Meshes (false, sp) with
      | .inr _ => .inr (bad sp)
      | .inl s' => .inl (mk s'))) (hF : ∀ sp, SpI w sp → step (mk (false, sp)) = some (.inr (good sp))) (sp : List Ratio_) (h : SpI w sp) :
    loopM step (mk (true, sp)) = some (match spread w (cntU sp + 1) sp with
      | .inl sp' => good sp'
      | .inr _ => bad sp) := by
  refine loopM_eq (fun s => ∃ t : Bool × List Ratio_, s = mk t ∧ SpI w t.2 ∧ spreadS w t = spread w (cntU sp + 1) sp) (fun s => 2 * cntU (un s).2 + if (un s).1 = true then 1 else 0) (fun s hI => ?_) ⟨(true, sp), rfl, h, rfl⟩ ?_
  · obtain ⟨⟨b, q⟩, rfl, hq, e⟩ := hI
    cases b with
    | false =>
      right
      rw [hF q hq]
      have e : Sum.inl q = spread w (cntU sp + 1) sp := e
      rw [← e]
    | true =>
      rw [hT q hq]
      have e : spread w (cntU q + 1) q = spread w (cntU sp + 1) sp := e
      unfold spread at e
      cases er : roundF w w.Meshes (false, q) with
      | inr u =>
        right
        rw [er] at e
        have e : Sum.inr u = spread w (cntU sp + 1) sp := by unfold spread; exact e
        rw [← e]
        simp only [hbad q sp]
      | inl s' =>
        left
        obtain ⟨h3, h4, h5⟩ := roundF_ok hw (wks_join hw) (s := (false, q)) hq er
        refine ⟨_, rfl, ⟨s', rfl, h3, ?_⟩, ?_⟩
        · rw [er] at e
          obtain ⟨b, q'⟩ := s'
          cases b with
          | false => unfold spread; exact e
          | true =>
            have h6 : cntU q' < cntU q := by
              rcases h5 rfl with h | h
              · cases h
              · exact h
            have e : spread w (cntU q) q' = spread w (cntU sp + 1) sp := e.trans (by rw [spread])
            rw [← e]
            exact spread_same hw h3 (by show cntU q' < cntU q' + 1; omega) h6
        · simp only [hun]
          obtain ⟨b, q'⟩ := s'
          cases b with
          | false => dsimp only at h4 ⊢; simp; omega
          | true =>
            have h6 : cntU q' < cntU q := by
              rcases h5 rfl with h | h
              · cases h
              · exact h
            simp; omega
  · simp only [hun]
    have : cntU sp ≤ sp.length := List.countP_le_length
    have h1 := h.1
    have h2 := (wksB_iff.1 hw).1
    simp; omega
def fitB (w : Works_) (sp : List Ratio_) (m : Mesh_) : Bool := (meshed (getR sp m.A) (pairM w m).Driver (pairM w m).Driven).2 && decide ((meshed (getR sp m.A) (pairM w m).Driver (pairM w m).Driven).1 = getR sp m.B)
def start (w : Works_) (root : Int) : List Ratio_ := (List.replicate w.Arbors.length (⟨0, 0⟩ : Ratio_)).set root.toNat ⟨1, 1⟩
def speedsR (w : Works_) (root : Int) : List Ratio_ × Int :=
  if inArb w root = true then (match spread w (cntU (start w root) + 1) (start w root) with
    | .inr _ => ([], 2)
    | .inl sp => if sp.any (fun r => decide (r.Den = 0)) = true then ([], 6) else if w.Meshes.all (fitB w sp) = true then (sp, 0) else ([], 10))
  else ([], 2)
theorem start_ok {w : Works_} (root : Int) : SpI w (start w root) := by
  refine SpI.set ⟨by simp, fun r hr => .inl (List.eq_of_mem_replicate hr)⟩ _ ⟨by decide, by decide⟩
theorem spread_ok {w : Works_} (hw : wksB w = true) : ∀ {n : Nat} {sp sp' : List Ratio_}, SpI w sp → spread w n sp = .inl sp' → SpI w sp'
  | 0, _, _, h, e => by injection e with e; subst e; exact h
  | n + 1, sp, sp', h, e => by
    unfold spread at e
    cases er : roundF w w.Meshes (false, sp) with
    | inr u => rw [er] at e; cases e
    | inl s =>
      rw [er] at e
      obtain ⟨h3, _, _⟩ := roundF_ok hw (wks_join hw) (s := (false, sp)) h er
      obtain ⟨b, q⟩ := s
      cases b with
      | false => injection e with e; subst e; exact h3
      | true => exact spread_ok hw h3 e
theorem speedsR_ok {w : Works_} (hw : wksB w = true) {root : Int} (h : (speedsR w root).2 = 0) : (speedsR w root).1.length = w.Arbors.length ∧ ∀ r ∈ (speedsR w root).1, KnR r := by
  unfold speedsR at h ⊢
  split
  · rename_i hr
    rw [if_pos hr] at h
    cases e : spread w (cntU (start w root) + 1) (start w root) with
    | inr u => rw [e] at h; cases h
    | inl sp =>
      rw [e] at h
      have hs := spread_ok hw (start_ok root) e
      dsimp only at h ⊢
      split
      · rename_i hn; rw [if_pos hn] at h; cases h
      · rename_i hn
        rw [if_neg hn] at h
        split
        · refine ⟨hs.1, fun r hr => ?_⟩
          rcases hs.2 r hr with rfl | h
          · exact absurd (List.any_eq_true.2 ⟨_, hr, decide_eq_true rfl⟩) hn
          · exact h
        · rename_i hf; rw [if_neg hf] at h; cases h
  · rename_i hr; rw [if_neg hr] at h; cases h
end Go.Proofs.YtlakbomkpnlidaaGreat
namespace Go.Proofs.YtlakbomkpnlidaaGreat
set_option linter.unusedVariables false
theorem codeR_cases (x : Ratio_ × Bool) : (x.2 = true ∧ codeR x = (x.1, 0)) ∨ (x.2 = false ∧ codeR x = (⟨0, 0⟩, 2)) := by
  unfold codeR
  cases h : x.2
  · exact .inr ⟨rfl, by simp⟩
  · exact .inl ⟨rfl, by simp⟩
theorem joint_len {w : Works_} {m : Mesh_} {sp : List Ratio_} (hm : joinB w m = true) (h : SpI w sp) : 0 ≤ m.A ∧ m.A < sp.length ∧ 0 ≤ m.B ∧ m.B < sp.length := by
  obtain ⟨_, j1, j2⟩ := joinB_iff.1 hm
  have a := wheel_at j1
  have b := wheel_at j2
  rw [h.1]
  exact ⟨a.1, a.2.1, b.1, b.2.1⟩
theorem chkLen {n k : Nat} (h : n ≤ 16) (hk : k ≤ 2) : 0 ≤ (n : Int) ∧ (n : Int) = (n : Int) ∧ ((n : Int)).toNat * k * 64 ≤ 281474976710656 := by
  refine ⟨by omega, rfl, ?_⟩
  have : (n : Int).toNat * k ≤ 16 * 2 := Nat.mul_le_mul (by omega) hk
  omega
theorem i_round_eq {w : Works_} (hw : wksB w = true) (sp : List Ratio_) (h : SpI w sp) :
    loopM (S := Bool × Int × List Ratio_) (X := (Bool × List Ratio_) ⊕ ((List Ratio_) ⊕ (List Ratio_ × Int))) (fun s41 =>
  (if s41.2.1 < (w.Meshes.length : Int) then
  ((((atI w.Meshes s41.2.1).bind fun v42 =>
  ((i_pairOf_m w v42).bind fun v43 =>
  ((((atI s41.2.2 v42.A).bind fun v44 =>
  (if v44.Den = 0 then
  some (v42.B, v42.A, (⟨v43.Driven, v43.Driver⟩ : Pair_))
  else
  some (v42.A, v42.B, v43))) : Option (Int × Int × Pair_)).bind fun v45 =>
  ((((atI s41.2.2 v45.1).bind fun v46 =>
  (if v46.Den = 0 then
  some true
  else
  ((atI s41.2.2 v45.2.1).bind fun v47 =>
  some (decide (v47.Den ≠ 0))))) : Option Bool).bind fun v48 =>
  (if v48 = true then
  some (.inl (s41.1, s41.2.2))
  else
  ((atI s41.2.2 v45.1).bind fun v49 =>
  ((i_meshed_m v49 v45.2.2.Driver v45.2.2.Driven).bind fun v50 =>
  (if v50.2 ≠ 0 then
  some (.inr (.inr (.inr (.inr (([] : List Ratio_), v50.2)))))
  else
  ((atI s41.2.2 v45.2.1).bind fun v51 =>
  some (.inl (true, List.set s41.2.2 (v45.2.1).toNat v50.1))))))))))) : Option ((Bool × List Ratio_) ⊕ ((Bool × Int × List Ratio_) ⊕ ((Bool × List Ratio_) ⊕ ((List Ratio_) ⊕ (List Ratio_ × Int)))))).bind fun v52x => orE v52x fun v52 =>
  some (.inl (v52.1, w64 (s41.2.1 + 1), v52.2)))
  else
  some (.inr (.inl (s41.1, s41.2.2))))) (false, 0, sp) = some (match roundF w w.Meshes (false, sp) with
    | .inl s' => .inl s'
    | .inr _ => .inr (.inr ([], 2))) := by
  have hl := (wksB_iff.1 hw).2.1
  rw [loop_forI (xs := w.Meshes) (fun i (s : Bool × List Ratio_) => (s.1, i, s.2)) (fun _ m s => some (Sum.map id (fun _ => .inr (.inr ([], 2))) (rstep w m s))) (fun s => .inl s) (fun s => SpI w s.2) (by omega) (fun i hi s hs => ?_) (fun i hi s s' hs e => ?_) (fun s hs => by simp) (false, sp) h]
  · rw [forL_round (w := w) (X := (Bool × List Ratio_) ⊕ ((List Ratio_) ⊕ (List Ratio_ × Int))) (g := fun _ => .inr (.inr ([], 2))) (fun _ _ _ => rfl)]
    cases roundF w w.Meshes (false, sp) <;> rfl
  · have hi' : (i : Int) < w.Meshes.length := by omega
    have e1 : w64 ((i : Int) + 1) = i + 1 := w64_in (by omega) (by omega)
    have hj := wks_join hw _ (List.getElem_mem hi)
    simp only [if_pos hi', atI_lt hi, Option.bind_some, e1, i_pairOf_eq hj]
    generalize w.Meshes[i] = m at hj
    obtain ⟨_, j1, j2⟩ := joinB_iff.1 hj
    have ta := tooth_in hw j1
    have tb := tooth_in hw j2
    obtain ⟨a0, a1, b0, b1⟩ := joint_len hj hs
    obtain ⟨ga, _, _⟩ := getR_at a0 a1
    obtain ⟨gb, _, _⟩ := getR_at b0 b1
    have a1' : m.A < w.Arbors.length := by rw [← hs.1]; exact a1
    have b1' : m.B < w.Arbors.length := by rw [← hs.1]; exact b1
    unfold rstep
    simp only [ga, Option.bind_some]
    by_cases dA : (getR s.2 m.A).Den = 0
    · simp only [if_pos dA, Option.bind_some, gb]
      by_cases dB : (getR s.2 m.B).Den = 0
      · simp only [if_pos dB, dA, dB, Option.bind_some, if_true]; rfl
      · have k := hs.den b0 b1' dB
        simp only [if_neg dB, ga, gb, dA, dB, Option.bind_some]
        rw [i_meshed_eq k (t := (pairM w m).Driven) (u := (pairM w m).Driver) tb.1 tb.2 ta.1 ta.2]
        rcases codeR_cases (meshed (getR s.2 m.B) (pairM w m).Driven (pairM w m).Driver) with ⟨h1, h2⟩ | ⟨h1, h2⟩ <;> simp [h1, h2, orE]
    · simp only [if_neg dA, Option.bind_some, ga, gb]
      by_cases dB : (getR s.2 m.B).Den = 0
      · have k := hs.den a0 a1' dA
        simp only [ga, gb, dA, dB, Option.bind_some, if_false, ne_eq, not_true_eq_false, decide_false, Bool.false_eq_true]
        rw [i_meshed_eq k (t := (pairM w m).Driver) (u := (pairM w m).Driven) ta.1 ta.2 tb.1 tb.2]
        rcases codeR_cases (meshed (getR s.2 m.A) (pairM w m).Driver (pairM w m).Driven) with ⟨h1, h2⟩ | ⟨h1, h2⟩ <;> simp [h1, h2, orE]
      · simp [dA, dB, orE]
  · have e : rstep w w.Meshes[i] s = .inl s' := by
      cases e2 : rstep w w.Meshes[i] s with
      | inr u => rw [e2] at e; cases e
      | inl z => rw [e2] at e; injection e with e; injection e with e; rw [← e]; rfl
    exact (rstep_ok hw (wks_join hw _ (List.getElem_mem hi)) hs e).1
theorem i_speedsFrom_eq {w : Works_} (hw : wksB w = true) {root : Int} (hr : inArb w root = true) : i_speedsFrom_m w root = some (match spread w (cntU (start w root) + 1) (start w root) with
    | .inl sp => (sp, 0)
    | .inr _ => ([], 2)) := by
  have hl := (wksB_iff.1 hw).1
  have hr := of_decide_eq_true hr
  unfold i_speedsFrom_m
  rw [chk_t (chkLen hl (by omega))]
  simp only [Int.toNat_natCast]
  obtain ⟨e, he, _, _⟩ := atI_some (xs := List.replicate w.Arbors.length (⟨0, 0⟩ : Ratio_)) hr.1 (by rw [List.length_replicate]; exact hr.2)
  rw [he, Option.bind_some]
  have := rounds_ok hw (S := Bool × List Ratio_) (X := (List Ratio_) ⊕ (List Ratio_ × Int)) (step := fun s28 => (if s28.1 = true then loopM (S := Bool × Int × List Ratio_) (X := (Bool × List Ratio_) ⊕ ((List Ratio_) ⊕ (List Ratio_ × Int))) (fun s41 =>
  (if s41.2.1 < (w.Meshes.length : Int) then
  ((((atI w.Meshes s41.2.1).bind fun v42 =>
  ((i_pairOf_m w v42).bind fun v43 =>
  ((((atI s41.2.2 v42.A).bind fun v44 =>
  (if v44.Den = 0 then
  some (v42.B, v42.A, (⟨v43.Driven, v43.Driver⟩ : Pair_))
  else
  some (v42.A, v42.B, v43))) : Option (Int × Int × Pair_)).bind fun v45 =>
  ((((atI s41.2.2 v45.1).bind fun v46 =>
  (if v46.Den = 0 then
  some true
  else
  ((atI s41.2.2 v45.2.1).bind fun v47 =>
  some (decide (v47.Den ≠ 0))))) : Option Bool).bind fun v48 =>
  (if v48 = true then
  some (.inl (s41.1, s41.2.2))
  else
  ((atI s41.2.2 v45.1).bind fun v49 =>
  ((i_meshed_m v49 v45.2.2.Driver v45.2.2.Driven).bind fun v50 =>
  (if v50.2 ≠ 0 then
  some (.inr (.inr (.inr (.inr (([] : List Ratio_), v50.2)))))
  else
  ((atI s41.2.2 v45.2.1).bind fun v51 =>
  some (.inl (true, List.set s41.2.2 (v45.2.1).toNat v50.1))))))))))) : Option ((Bool × List Ratio_) ⊕ ((Bool × Int × List Ratio_) ⊕ ((Bool × List Ratio_) ⊕ ((List Ratio_) ⊕ (List Ratio_ × Int)))))).bind fun v52x => orE v52x fun v52 =>
  some (.inl (v52.1, w64 (s41.2.1 + 1), v52.2)))
  else
  some (.inr (.inl (s41.1, s41.2.2))))) (false, 0, s28.2) else some (.inr (.inl s28.2)))) (fun s => s) (fun s => s) (fun _ => rfl) (fun sp => .inl sp) (fun _ => .inr ([], 2)) (fun _ _ => rfl) (fun sp h => by
    simp only [if_true]
    rw [i_round_eq hw sp h]
    cases roundF w w.Meshes (false, sp) <;> rfl) (fun sp h => by simp) (start w root) (start_ok root)
  unfold start at this
  unfold start
  rw [this, Option.bind_some]
  cases spread w (cntU ((List.replicate w.Arbors.length (⟨0, 0⟩ : Ratio_)).set root.toNat ⟨1, 1⟩) + 1) ((List.replicate w.Arbors.length (⟨0, 0⟩ : Ratio_)).set root.toNat ⟨1, 1⟩) <;> rfl
theorem i_SpeedsOf_eq {w : Works_} (hl : w.Arbors.length ≤ 9223372036854775807) (hws : ∀ b ∈ w.Arbors, b.Wheels.length ≤ 9223372036854775807) (hm : w.Meshes.length ≤ 9223372036854775807) (root : Int) : i_SpeedsOf_m w root = some (if wksB w = true then speedsR w root else ([], 1)) := by
  unfold i_SpeedsOf_m speedsR
  rw [i_ValidWorks_eq hl hws hm, Option.bind_some]
  by_cases hw : wksB w = true
  · have e0 : btw root 0 (w64 ((w.Arbors.length : Int) - 1)) = inArb w root := btw_len hl
    have hml := (wksB_iff.1 hw).2.1
    rw [if_pos hw, hw, i_within_eq, e0, Option.bind_some]
    by_cases hr : inArb w root = true
    · rw [if_pos hr, hr, i_speedsFrom_eq hw hr]
      cases e : spread w (cntU (start w root) + 1) (start w root) with
      | inr u => rfl
      | inl sp =>
        have hs := spread_ok hw (start_ok root) e
        have hsl := hs.1
        have hal := (wksB_iff.1 hw).1
        simp only [Bool.not_true, Bool.false_eq_true, if_false, Option.bind_some, ne_eq, not_true_eq_false]
        have hc : slices_ContainsFunc_LRatio_Ratio_i_SpeedsOf_1_m sp = some (sp.any fun r => decide (r.Den = 0)) := by
          unfold slices_ContainsFunc_LRatio_Ratio_i_SpeedsOf_1_m slices_IndexFunc_LRatio_Ratio_i_SpeedsOf_1_m
          rw [findG (fun r => decide (r.Den = 0)) (by omega) fun i hi => by rw [atI_lt hi, Option.bind_some, i_SpeedsOf_1_m, Option.bind_some], Option.bind_some, posOf_nn]
        rw [hc, Option.bind_some]
        by_cases hn : (sp.any fun r => decide (r.Den = 0)) = true
        · rw [if_pos hn, if_pos hn]
        · rw [if_neg hn, if_neg hn, scanG (e := .inr ([], 10)) (fun _ m => fitB w sp m) hm fun i hi => ?_, allI_all, Option.bind_some]
          · cases w.Meshes.all (fitB w sp) <;> rfl
          · have hj := wks_join hw _ (List.getElem_mem hi)
            simp only [atI_lt hi, Option.bind_some, i_pairOf_eq hj]
            generalize w.Meshes[i] = m at hj
            obtain ⟨_, j1, j2⟩ := joinB_iff.1 hj
            have ta := tooth_in hw j1
            have tb := tooth_in hw j2
            obtain ⟨a0, a1, b0, b1⟩ := joint_len hj hs
            obtain ⟨ga, gm, _⟩ := getR_at a0 a1
            obtain ⟨gb, _, _⟩ := getR_at b0 b1
            have k : KnR (getR sp m.A) := by
              rcases hs.2 _ gm with e | h
              · exact absurd (List.any_eq_true.2 ⟨_, gm, decide_eq_true (by rw [e])⟩) hn
              · exact h
            rw [ga, Option.bind_some, i_meshed_eq k (t := (pairM w m).Driver) (u := (pairM w m).Driven) ta.1 ta.2 tb.1 tb.2, gb]
            unfold fitB
            rcases codeR_cases (meshed (getR sp m.A) (pairM w m).Driver (pairM w m).Driven) with ⟨h1, h2⟩ | ⟨h1, h2⟩
            · by_cases q : (meshed (getR sp m.A) (pairM w m).Driver (pairM w m).Driven).1 = getR sp m.B <;> simp [h1, h2, q]
            · simp [h1, h2]
    · rw [if_neg hr, Bool.not_eq_true] at *
      rw [hr]; rfl
  · rw [if_neg hw, Bool.not_eq_true] at *
    rw [hw]; rfl
theorem s_l08Fits_eq {w : Works_} (hw : wksB w = true) {sp : List Ratio_} (hs : SpI w sp) {m : Mesh_} (hj : joinB w m = true) (k : KnR (getR sp m.A)) : s_l08Fits_m w m sp = some (fitB w sp m) := by
  obtain ⟨_, j1, j2⟩ := joinB_iff.1 hj
  have ta := tooth_in hw j1
  have tb := tooth_in hw j2
  obtain ⟨a0, a1, b0, b1⟩ := joint_len hj hs
  obtain ⟨ga, gm, _⟩ := getR_at a0 a1
  obtain ⟨gb, _, _⟩ := getR_at b0 b1
  have hv := step_val (t := (pairM w m).Driver) (u := (pairM w m).Driven) ta.1 ta.2 tb.1 tb.2
  have t0 : 6 ≤ (pairM w m).Driver := ta.1
  have t1 : (pairM w m).Driver ≤ 240 := ta.2
  have u0 : 6 ≤ (pairM w m).Driven := tb.1
  have u1 : (pairM w m).Driven ≤ 240 := tb.2
  unfold s_l08Fits_m fitB meshed
  rw [s_l08Pair_eq hj, Option.bind_some, w64_in (by omega) (by omega), s_l02Make_eq ⟨by omega, by omega⟩ ⟨by omega, by omega⟩ (by omega), Option.bind_some, ga, Option.bind_some, s_l02Mul_eq k.1 hv.2.1, Option.bind_some, gb]
  cases (mulR (getR sp m.A) (mkR (-(pairM w m).Driver) (pairM w m).Driven).1).2 <;> simp
def kn (sp : List Ratio_) : List Bool := sp.map fun r => decide (r.Den ≠ 0)
theorem kn_at {sp : List Ratio_} {i : Int} (h0 : 0 ≤ i) (h1 : i < sp.length) : atI (kn sp) i = some (decide ((getR sp i).Den ≠ 0)) := by
  obtain ⟨_, _, hi, e⟩ := getR_at h0 h1
  unfold atI kn
  rw [if_pos h0, List.getElem?_map, List.getElem?_eq_getElem hi, e]; rfl
theorem kn_set {sp : List Ratio_} {i : Nat} {v : Ratio_} (hv : v.Den ≠ 0) : kn (sp.set i v) = (kn sp).set i true := by
  unfold kn
  rw [List.map_set, decide_eq_true hv]
theorem forL_roundS {w : Works_} (hw : wksB w = true) {X : Type} (g : Bool × List Ratio_ → X) : ∀ (ms : List Mesh_) (hm : ∀ m ∈ ms, joinB w m = true) (k : Nat) (s : Bool × List Ratio_), SpI w s.2 → ∃ f, SpI w f.2 ∧ forL (fun _ m s => some (match rstep w m s with
    | .inl s' => .inl s'
    | .inr _ => .inr (g s))) ms k s = some (match roundF w ms s with
    | .inl s' => .inl s'
    | .inr _ => .inr (g f))
  | [], _, k, s, h => ⟨s, h, rfl⟩
  | m :: ms, hm, k, s, h => by
    cases e : rstep w m s with
    | inr u =>
      refine ⟨s, h, ?_⟩
      show (some (match rstep w m s with
        | .inl s' => _
        | .inr _ => _)).bind _ = _
      unfold roundF
      rw [e]; rfl
    | inl s1 =>
      obtain ⟨f, hf, q⟩ := forL_roundS hw g ms (fun m h => hm m (List.mem_cons_of_mem _ h)) (k + 1) s1 (rstep_ok hw (hm m (List.mem_cons_self ..)) h e).1
      refine ⟨f, hf, ?_⟩
      show (some (match rstep w m s with
        | .inl s' => _
        | .inr _ => _)).bind _ = _
      unfold roundF
      rw [e]
      exact q
theorem s_round_eq {w : Works_} (hw : wksB w = true) (sp : List Ratio_) (h : SpI w sp) : ∃ f, SpI w f ∧ s_l08Round_o_o_m w (kn sp) sp = some (match roundF w w.Meshes (false, sp) with
    | .inl s' => (s'.1, true, kn s'.2, s'.2)
    | .inr _ => (false, false, kn f, f)) := by
  have hl := (wksB_iff.1 hw).2.1
  unfold s_l08Round_o_o_m
  obtain ⟨f, hf, q⟩ := forL_roundS hw (X := (Bool × List Bool × List Ratio_) ⊕ (Bool × Bool × List Bool × List Ratio_)) (fun s => .inr (false, false, kn s.2, s.2)) w.Meshes (wks_join hw) 0 (false, sp) h
  refine ⟨f.2, hf, ?_⟩
  rw [loop_forI (xs := w.Meshes) (fun i (s : Bool × List Ratio_) => (s.1, i, kn s.2, s.2)) (fun _ m s => some (match rstep w m s with
    | .inl s' => .inl s'
    | .inr _ => .inr (.inr (false, false, kn s.2, s.2)))) (fun s => .inl (s.1, kn s.2, s.2)) (fun s => SpI w s.2) (by omega) (fun i hi s hs => ?_) (fun i hi s s' hs e => ?_) (fun s hs => by simp) (false, sp) h]
  · rw [q]
    cases roundF w w.Meshes (false, sp) <;> rfl
  · have hi' : (i : Int) < w.Meshes.length := by omega
    have e1 : w64 ((i : Int) + 1) = i + 1 := w64_in (by omega) (by omega)
    have hj := wks_join hw _ (List.getElem_mem hi)
    simp only [if_pos hi', atI_lt hi, Option.bind_some, e1, s_l08Pair_eq hj]
    generalize w.Meshes[i] = m at hj
    obtain ⟨_, j1, j2⟩ := joinB_iff.1 hj
    have ta := tooth_in hw j1
    have tb := tooth_in hw j2
    have t0 : 6 ≤ (pairM w m).Driver := ta.1
    have t1 : (pairM w m).Driver ≤ 240 := ta.2
    have u0 : 6 ≤ (pairM w m).Driven := tb.1
    have u1 : (pairM w m).Driven ≤ 240 := tb.2
    obtain ⟨a0, a1, b0, b1⟩ := joint_len hj hs
    obtain ⟨ga, _, _⟩ := getR_at a0 a1
    obtain ⟨gb, _, _⟩ := getR_at b0 b1
    have ka := kn_at a0 a1
    have kb := kn_at b0 b1
    have a1' : m.A < w.Arbors.length := by rw [← hs.1]; exact a1
    have b1' : m.B < w.Arbors.length := by rw [← hs.1]; exact b1
    unfold rstep
    simp only [ka, kb, Option.bind_some]
    by_cases dA : (getR s.2 m.A).Den = 0
    · by_cases dB : (getR s.2 m.B).Den = 0
      · simp [dA, dB, orE]
      · have k := hs.den b0 b1' dB
        have hv := step_val (t := (pairM w m).Driven) (u := (pairM w m).Driver) u0 u1 t0 t1
        have e2 : (decide ((getR s.2 m.A).Den ≠ 0) == decide ((getR s.2 m.B).Den ≠ 0)) = false := by simp [dA, dB]
        have e3 : decide ((getR s.2 m.A).Den = 0) ≠ decide ((getR s.2 m.B).Den = 0) := by simp [dA, dB]
        have e4 : decide ((getR s.2 m.B).Den ≠ 0) = true := by simp [dB]
        rw [e2, if_neg (by decide), if_neg e3, if_pos dA, e4, if_pos rfl]
        simp only [Option.bind_some, ga, gb, ka, kb]
        rw [w64_in (by omega) (by omega), s_l02Make_eq ⟨by omega, by omega⟩ ⟨by omega, by omega⟩ (by omega)]
        simp only [Option.bind_some]
        rw [s_l02Mul_eq k.1 hv.2.1]
        have mv := meshed_val k (t := (pairM w m).Driven) (u := (pairM w m).Driver) u0 u1 t0 t1
        have em : mulR (getR s.2 m.B) (mkR (-(pairM w m).Driven) (pairM w m).Driver).1 = meshed (getR s.2 m.B) (pairM w m).Driven (pairM w m).Driver := rfl
        rw [em]
        cases h2 : (meshed (getR s.2 m.B) (pairM w m).Driven (pairM w m).Driver).2
        · simp [h2, orE]
        · simp [h2, orE, kn_set (mv h2).den]
    · by_cases dB : (getR s.2 m.B).Den = 0
      · have k := hs.den a0 a1' dA
        have hv := step_val (t := (pairM w m).Driver) (u := (pairM w m).Driven) t0 t1 u0 u1
        have e2 : (decide ((getR s.2 m.A).Den ≠ 0) == decide ((getR s.2 m.B).Den ≠ 0)) = false := by simp [dA, dB]
        have e3 : decide ((getR s.2 m.A).Den = 0) ≠ decide ((getR s.2 m.B).Den = 0) := by simp [dA, dB]
        have e4 : decide ((getR s.2 m.B).Den ≠ 0) = false := by simp [dB]
        rw [e2, if_neg (by decide), if_neg e3, if_neg dA, e4, if_neg (by decide)]
        simp only [Option.bind_some, ga, gb, ka, kb]
        rw [w64_in (by omega) (by omega), s_l02Make_eq ⟨by omega, by omega⟩ ⟨by omega, by omega⟩ (by omega)]
        simp only [Option.bind_some]
        rw [s_l02Mul_eq k.1 hv.2.1]
        have mv := meshed_val k (t := (pairM w m).Driver) (u := (pairM w m).Driven) t0 t1 u0 u1
        have em : mulR (getR s.2 m.A) (mkR (-(pairM w m).Driver) (pairM w m).Driven).1 = meshed (getR s.2 m.A) (pairM w m).Driver (pairM w m).Driven := rfl
        rw [em]
        cases h2 : (meshed (getR s.2 m.A) (pairM w m).Driver (pairM w m).Driven).2
        · simp [h2, orE]
        · simp [h2, orE, kn_set (mv h2).den]
      · simp [dA, dB, orE]
  · have e : rstep w w.Meshes[i] s = .inl s' := by
      cases e2 : rstep w w.Meshes[i] s with
      | inr u => rw [e2] at e; cases e
      | inl z => rw [e2] at e; injection e with e; injection e with e; rw [← e]
    exact (rstep_ok hw (wks_join hw _ (List.getElem_mem hi)) hs e).1
theorem kn_len (sp : List Ratio_) : (kn sp).length = sp.length := by unfold kn; simp
theorem s_l08Speeds_eq {w : Works_} (hw : wksB w = true) (root : Int) : s_l08Speeds_m w root = some (speedsR w root) := by
  have hal := (wksB_iff.1 hw).1
  have hml := (wksB_iff.1 hw).2.1
  unfold s_l08Speeds_m speedsR
  rw [s_l08Root_eq (by omega), Option.bind_some]
  by_cases hr : inArb w root = true
  · rw [if_pos hr, hr, if_neg (by decide), chk_t (chkLen hal (by omega)), chk_t (chkLen hal (by omega))]
    simp only [Int.toNat_natCast]
    have hrr := of_decide_eq_true hr
    obtain ⟨e, he, _, _⟩ := atI_some (xs := List.replicate w.Arbors.length (⟨0, 0⟩ : Ratio_)) hrr.1 (by rw [List.length_replicate]; exact hrr.2)
    obtain ⟨e', he', _, _⟩ := atI_some (xs := List.replicate w.Arbors.length false) hrr.1 (by rw [List.length_replicate]; exact hrr.2)
    rw [he', Option.bind_some, s_l02Whole_m, Option.bind_some, he, Option.bind_some]
    have hk : kn (start w root) = (List.replicate w.Arbors.length false).set root.toNat true := by
      unfold start
      rw [kn_set (by decide)]
      congr 1
      unfold kn
      rw [List.map_replicate]; rfl
    have := rounds_ok hw (S := Bool × List Bool × List Ratio_) (X := (List Bool × List Ratio_) ⊕ (List Ratio_ × Int)) (step := fun s11 => (if s11.1 = true then ((s_l08Round_o_o_m w s11.2.1 s11.2.2).bind fun v12 => (chk (v12.2.2.1.length = s11.2.1.length) (chk (v12.2.2.2.length = s11.2.2.length) (if (!v12.2.1) = true then some (.inr (.inr (([] : List Ratio_), 2))) else some (.inl (v12.1, v12.2.2.1, v12.2.2.2)))))) else some (.inr (.inl (s11.2.1, s11.2.2))))) (fun s => (s.1, kn s.2, s.2)) (fun s => (s.1, s.2.2)) (fun _ => rfl) (fun sp => .inl (kn sp, sp)) (fun _ => .inr ([], 2)) (fun _ _ => rfl) (fun sp h => by
      obtain ⟨f, hf, q⟩ := s_round_eq hw sp h
      simp only [if_true, q, Option.bind_some]
      cases er : roundF w w.Meshes (false, sp) with
      | inr u =>
        simp only [kn_len, hf.1, h.1, chk_true]
        simp
      | inl s' =>
        have h3 := (roundF_ok hw (wks_join hw) (s := (false, sp)) h er).1
        simp only [kn_len, h3.1, h.1, chk_true]
        simp) (fun sp h => by simp) (start w root) (start_ok root)
    rw [hk] at this
    unfold start at this
    unfold start
    rw [this, Option.bind_some]
    cases e : spread w (cntU ((List.replicate w.Arbors.length (⟨0, 0⟩ : Ratio_)).set root.toNat ⟨1, 1⟩) + 1) ((List.replicate w.Arbors.length (⟨0, 0⟩ : Ratio_)).set root.toNat ⟨1, 1⟩) with
    | inr u => rfl
    | inl sp =>
      have hs := spread_ok hw (start_ok root) e
      have hsl := hs.1
      show (orE (.inl (kn sp, sp)) _) = _
      simp only [orE]
      rw [scanG (xs := kn sp) (e := .inr ([], 6)) (fun _ b => b) (by rw [kn_len]; omega) fun i hi => by rw [atI_lt hi, Option.bind_some]; cases (kn sp)[i] <;> rfl, allI_all, Option.bind_some]
      have e5 : (kn sp).all (fun b => b) = !(sp.any fun r => decide (r.Den = 0)) := by
        unfold kn
        rw [Bool.eq_iff_iff]; simp
      rw [e5]
      by_cases hn : (sp.any fun r => decide (r.Den = 0)) = true
      · rw [hn]; rfl
      · rw [Bool.not_eq_true] at hn
        rw [hn]
        simp only [Bool.not_false, if_true, orE]
        rw [scanG (xs := w.Meshes) (e := .inr ([], 10)) (fun _ m => fitB w sp m) (by omega) fun i hi => ?_, allI_all, Option.bind_some]
        · cases w.Meshes.all (fitB w sp) <;> rfl
        · have hj := wks_join hw _ (List.getElem_mem hi)
          obtain ⟨a0, a1, b0, b1⟩ := joint_len hj hs
          obtain ⟨_, gm, _⟩ := getR_at a0 a1
          have k : KnR (getR sp w.Meshes[i].A) := by
            rcases hs.2 _ gm with e | h
            · have q : (sp.any fun r => decide (r.Den = 0)) = true := List.any_eq_true.2 ⟨_, gm, decide_eq_true (by rw [e])⟩
              rw [hn] at q; cases q
            · exact h
          rw [atI_lt hi, Option.bind_some, s_l08Fits_eq hw hs hj k, Option.bind_some]
          cases fitB w sp w.Meshes[i] <;> rfl
  · rw [if_neg hr, Bool.not_eq_true] at *
    rw [hr]; rfl
end Go.Proofs.YtlakbomkpnlidaaGreat
namespace Go.Proofs.YtlakbomkpnlidaaGreat
set_option linter.unusedVariables false
theorem movB_wks {m : Movement_} (h : movB m = true) : wksB m.Works = true ∧ inArb m.Works m.Minute = true ∧ inArb m.Works m.Hour = true ∧ inArb m.Works m.Escape = true := by
  unfold movB at h
  simp only [Bool.and_eq_true] at h
  exact ⟨h.2.1, h.2.2.1, h.2.2.2.1, h.2.2.2.2.1⟩
theorem speed_tail {m : Movement_} {k : Int} (hw : wksB m.Works = true) (hs : (speedsR m.Works m.Minute).2 = 0) (hk : inArb m.Works k = true) : atI (speedsR m.Works m.Minute).1 k = some (getR (speedsR m.Works m.Minute).1 k) ∧ KnR (getR (speedsR m.Works m.Minute).1 k) := by
  have h1 := speedsR_ok hw hs
  have h2 := of_decide_eq_true hk
  obtain ⟨g, gm, _⟩ := getR_at (sp := (speedsR m.Works m.Minute).1) h2.1 (by rw [h1.1]; exact h2.2)
  exact ⟨g, h1.2 _ gm⟩
end Go.Proofs.YtlakbomkpnlidaaGreat
namespace Go.Proofs.YtlakbomkpnlidaaGreat
set_option linter.unusedVariables false
def nmWorks : ByteArray := ⟨#[119, 111, 114, 107, 115]⟩
def nmHour : ByteArray := ⟨#[104, 111, 117, 114]⟩
def nmBeats : ByteArray := ⟨#[98, 101, 97, 116, 115]⟩
def nmCam : ByteArray := ⟨#[99, 97, 109]⟩
def nmMove : ByteArray := ⟨#[109, 111, 118, 101, 109, 101, 110, 116]⟩
def beatsB (m : Movement_) (v : Ratio_) : Bool := decide (w64 (w64 (2 * m.Teeth) * absI v.Num) = w64 (m.Beats * v.Den))
def faultsR (m : Movement_) : List ByteArray :=
  (if (speedsR m.Works m.Minute).2 = 0 then (if getR (speedsR m.Works m.Minute).1 m.Hour = ⟨1, 12⟩ then [] else [nmHour]) ++ (if beatsB m (getR (speedsR m.Works m.Minute).1 m.Escape) = true then [] else [nmBeats]) else [nmWorks]) ++ (if (m.Cam.length : Int) % m.Calendar.Months.length = 0 then [] else [nmCam])
theorem movB_cal {m : Movement_} (h : movB m = true) : calB m.Calendar = true ∧ camB m.Cam = true := by
  unfold movB at h
  simp only [Bool.and_eq_true] at h
  exact ⟨h.2.2.2.2.2.2.2.1, h.2.2.2.2.2.2.2.2.1⟩
theorem askC_cal {c : Calendar_} {cam : List Int} (h1 : calB c = true) (h2 : camB cam = true) : askC c cam = if (cam.length : Int) % c.Months.length = 0 then 0 else 6 := by
  unfold askC; rw [h1, h2]; rfl
theorem i_MovementFaults_eq {m : Movement_} (h : smMovement_ m) : i_MovementFaults_m m = some (if movB m = true then faultsR m else [nmMove]) := by
  unfold i_MovementFaults_m faultsR
  obtain ⟨w1, w2, w3⟩ := smW h.2.1
  have hcl : m.Cam.length ≤ 1048576 := h.2.2.2.2.2.2.2.2.1.1
  rw [i_ValidMovement_eq h, Option.bind_some]
  by_cases hv : movB m = true
  · obtain ⟨hw, k1, k2, k3⟩ := movB_wks hv
    obtain ⟨c1, c2⟩ := movB_cal hv
    have cm := (calB_iff c1).2.1
    have hbel : ∀ (x y : Option (List ByteArray)), ((i_belongs_m m.Calendar m.Cam).bind fun v11 => if v11 = 0 then x else y) = if (m.Cam.length : Int) % m.Calendar.Months.length = 0 then y else x := by
      intro x y
      rw [i_belongs_eq cm.1 (by omega), Option.bind_some]
      by_cases h0 : (m.Cam.length : Int) % m.Calendar.Months.length = 0
      · have := askC_ok (c := m.Calendar) (cam := m.Cam) (by rw [askC_cal c1 c2, if_pos h0])
        rw [if_pos h0, if_neg (by omega), if_pos h0]
      · rw [if_neg h0, if_pos rfl, if_neg h0]
    rw [if_pos hv, hv, i_SpeedsOf_eq w1 w2 w3, if_pos hw]
    simp only [Bool.not_true, Bool.false_eq_true, if_false, Option.bind_some, hbel]
    by_cases hs : (speedsR m.Works m.Minute).2 = 0
    · have s2 := speed_tail hw hs k2
      have s3 := speed_tail hw hs k3
      have d3 := ratB_d s3.2.1
      rw [if_neg (by simp [hs]), if_pos hs, s2.1, s3.1]
      simp only [Option.bind_some]
      rw [i_abs_eq (by omega) (by omega)]
      simp only [Option.bind_some]
      unfold beatsB nmHour nmBeats nmCam
      by_cases b1 : getR (speedsR m.Works m.Minute).1 m.Hour = ⟨1, 12⟩ <;> by_cases b2 : w64 (w64 (2 * m.Teeth) * absI (getR (speedsR m.Works m.Minute).1 m.Escape).Num) = w64 (m.Beats * (getR (speedsR m.Works m.Minute).1 m.Escape).Den) <;> by_cases b3 : (m.Cam.length : Int) % m.Calendar.Months.length = 0 <;> simp [b1, b2, b3, chk]
    · rw [if_pos hs, if_neg hs]
      unfold nmWorks nmCam
      by_cases b3 : (m.Cam.length : Int) % m.Calendar.Months.length = 0 <;> simp [b3, chk]
  · rw [if_neg hv, Bool.not_eq_true] at *
    rw [hv]; rfl
theorem s_l26Faults_eq {m : Movement_} (h : smMovement_ m) (hv : movB m = true) : s_l26Faults_m m = some (faultsR m) := by
  unfold s_l26Faults_m faultsR
  have hcl : m.Cam.length ≤ 1048576 := h.2.2.2.2.2.2.2.2.1.1
  have hml : m.Calendar.Months.length ≤ 1048576 := h.2.2.2.2.2.2.2.1.2.1.1
  have hrl : m.Calendar.Rules.length ≤ 1048576 := h.2.2.2.2.2.2.2.1.2.2.1.1
  obtain ⟨hw, k1, k2, k3⟩ := movB_wks hv
  obtain ⟨c1, c2⟩ := movB_cal hv
  have hbel : ∀ (x y : Option (List ByteArray)), ((s_l17Ask_m m.Calendar m.Cam).bind fun v11 => if v11 ≠ 0 then x else y) = if (m.Cam.length : Int) % m.Calendar.Months.length = 0 then y else x := by
    intro x y
    rw [s_l17Ask_eq (by omega) (by omega) (by omega), Option.bind_some, askC_cal c1 c2]
    by_cases h0 : (m.Cam.length : Int) % m.Calendar.Months.length = 0
    · rw [if_pos h0, if_pos h0, if_neg (by decide)]
    · rw [if_neg h0, if_neg h0, if_pos (by decide)]
  rw [s_l08Speeds_eq hw]
  simp only [Option.bind_some, hbel]
  by_cases hs : (speedsR m.Works m.Minute).2 = 0
  · have s2 := speed_tail hw hs k2
    have s3 := speed_tail hw hs k3
    have d3 := ratB_d s3.2.1
    rw [if_neg (by simp [hs]), if_pos hs, s2.1, s3.1]
    unfold s_l26Beats_m
    simp only [Option.bind_some]
    rw [s_l02Size_eq (by omega) (by omega)]
    simp only [Option.bind_some]
    unfold beatsB nmHour nmBeats nmCam
    by_cases b1 : getR (speedsR m.Works m.Minute).1 m.Hour = ⟨1, 12⟩ <;> by_cases b2 : w64 (w64 (2 * m.Teeth) * absI (getR (speedsR m.Works m.Minute).1 m.Escape).Num) = w64 (m.Beats * (getR (speedsR m.Works m.Minute).1 m.Escape).Den) <;> by_cases b3 : (m.Cam.length : Int) % m.Calendar.Months.length = 0 <;> simp [b1, b2, b3, chk]
  · rw [if_pos hs, if_neg hs]
    unfold nmWorks nmCam
    by_cases b3 : (m.Cam.length : Int) % m.Calendar.Months.length = 0 <;> simp [b3, chk]
theorem cloneAny {α : Type} {xs : List α} {k : Nat} (hl : xs.length ≤ 1048576) (hk : k ≤ 100) : (chk ((([] : List α).length + xs.length) * k * 64 ≤ 140737488355328) (some (([] : List α) ++ xs))) = some xs := by
  rw [chk_t ?_, List.nil_append]
  have : (([] : List α).length + xs.length) * k ≤ 1048576 * 100 := Nat.mul_le_mul (by simpa using hl) hk
  omega
theorem i_copyWorks_eq {w : Works_} (h : smWorks_ w) : i_copyWorks_m w = some w := by
  unfold i_copyWorks_m
  have hl := h.1.1
  rw [buildF_ok (xs := w.Arbors) (f := fun a => [a]) (c := 1) (fun v _ => by simp) (fun i hi ys hy => ?_) (fun ys => by simp) (by omega)]
  · simp only [Option.bind_some]
    unfold slices_Clone_LMesh_Mesh_m
    rw [cloneAny h.2.1 (by omega)]
    simp
  · have hi' : (i : Int) < w.Arbors.length := by omega
    have hw := (h.1.2 _ (List.getElem_mem hi)).2.1
    simp only [if_pos hi', atI_lt hi, Option.bind_some, w64_in (x := (i : Int) + 1) (by omega) (by omega)]
    first | unfold slices_Clone_Lint64_int64_m | unfold slices_Clone_Lint64_int64_v_m
    rw [cloneAny hw (by omega), Option.bind_some, chk_t (by simp at hy ⊢; omega)]
theorem i_copyMovement_eq {m : Movement_} (h : smMovement_ m) : i_copyMovement_m m = some m := by
  unfold i_copyMovement_m
  rw [i_copyWorks_eq h.2.1, Option.bind_some]
  unfold slices_Clone_LMonth_Month_m slices_Clone_LLeapRule_LeapRule_m
  rw [cloneAny h.2.2.2.2.2.2.2.1.2.1.1 (by omega), Option.bind_some, cloneAny h.2.2.2.2.2.2.2.1.2.2.1.1 (by omega), Option.bind_some, i_cloneI h.2.2.2.2.2.2.2.2.1.1, Option.bind_some]
def zeroM : Movement_ := ⟨⟨#[]⟩, ⟨[], []⟩, 0, 0, 0, 0, 0, ⟨⟨#[]⟩, [], [], 0⟩, [], 0⟩
def zeroP : Perpetual_ := ⟨[], 0, 0, 0, 0, 0, 0⟩
def zeroS : Sim_ := ⟨zeroM, ⟨0, 0, 0⟩, 0, 0, zeroP⟩
def newR (m : Movement_) (d : Date_) (wd : Int) : Sim_ × Int :=
  if movB m = true then (if faultsR m = [] then (if (setR m.Calendar m.Cam d wd).2 = 0 then (⟨m, d, wd, 0, (setR m.Calendar m.Cam d wd).1⟩, 0) else (zeroS, (setR m.Calendar m.Cam d wd).2)) else (zeroS, 6)) else (zeroS, 1)
theorem smC {m : Movement_} (h : smMovement_ m) : m.Calendar.Months.length ≤ 1048576 ∧ m.Calendar.Rules.length ≤ 1048576 ∧ m.Cam.length ≤ 1048576 := ⟨h.2.2.2.2.2.2.2.1.2.1.1, h.2.2.2.2.2.2.2.1.2.2.1.1, h.2.2.2.2.2.2.2.2.1.1⟩
theorem len_nil {α : Type} {xs : List α} : (0 < (xs.length : Int)) ↔ ¬ xs = [] := by
  cases xs <;> simp
theorem i_NewSim_eq {m : Movement_} (h : smMovement_ m) (d : Date_) (wd : Int) : i_NewSim_m m d wd = some (newR m d wd) := by
  obtain ⟨c1, c2, c3⟩ := smC h
  unfold i_NewSim_m newR
  rw [i_ValidMovement_eq h, Option.bind_some]
  cases hv : movB m
  · rfl
  · rw [i_MovementFaults_eq h, hv]
    simp only [Bool.not_true, Bool.false_eq_true, if_false, if_true, Option.bind_some, len_nil]
    by_cases hf : faultsR m = []
    · rw [if_neg (by simp [hf]), if_pos hf, i_SetPerpetual_eq (by omega) (by omega) c3, Option.bind_some]
      by_cases hs : (setR m.Calendar m.Cam d wd).2 = 0
      · rw [if_neg (by simp [hs]), if_pos hs, i_copyMovement_eq h, Option.bind_some]
      · rw [if_pos hs, if_neg hs]; rfl
    · rw [if_pos hf, if_neg hf]; rfl
def simB (s : Sim_) : Bool := movB s.Movement && (decide (faultsR s.Movement = []) && (decide ((setR s.Movement.Calendar s.Movement.Cam s.Start s.First).2 = 0) && (btw s.Clock 0 1000000000 && (perB s.Dial && (decide (s.Dial.Cam = s.Movement.Cam) && (decide (s.Dial.Months = (setR s.Movement.Calendar s.Movement.Cam s.Start s.First).1.Months) && (decide (s.Dial.Teeth = (setR s.Movement.Calendar s.Movement.Cam s.Start s.First).1.Teeth) && decide (s.Dial.Week = (setR s.Movement.Calendar s.Movement.Cam s.Start s.First).1.Week))))))))
theorem setR_cam {c : Calendar_} {cam : List Int} {d : Date_} {wd : Int} (h : (setR c cam d wd).2 = 0) : (setR c cam d wd).1.Cam = cam := by
  unfold setR at h ⊢
  split
  · rename_i h1
    rw [if_pos h1] at h
    split
    · rfl
    · rename_i h2; rw [if_neg h2] at h; cases h
  · rename_i h1
    rw [if_neg h1] at h
    exact absurd h h1
theorem i_ValidSim_eq {s : Sim_} (h : smSim_ s) : i_ValidSim_m s = some (simB s) := by
  obtain ⟨hm, _, _, _, hd⟩ := h
  have hdl := hd.1.1
  unfold i_ValidSim_m simB
  rw [i_NewSim_eq hm, Option.bind_some]
  unfold newR
  cases hv : movB s.Movement
  · rfl
  · by_cases hf : faultsR s.Movement = []
    · by_cases hs : (setR s.Movement.Calendar s.Movement.Cam s.Start s.First).2 = 0
      · have hc := setR_cam hs
        rw [if_pos rfl, if_pos hf, if_pos hs, decide_eq_true hf, decide_eq_true hs]
        simp only [ne_eq, not_true_eq_false, if_false, i_within_eq, Option.bind_some, i_ValidPerpetual_eq (p := s.Dial) (by omega), itO, hc, i_eqI (xs := s.Dial.Cam) (ys := s.Movement.Cam) (by omega), Bool.true_and]
        simp only [itAp, itA, Bool.decide_eq_true]
        cases btw s.Clock 0 1000000000
        · rfl
        · cases perB s.Dial
          · rfl
          · simp only [Bool.not_true, Bool.or_self, Bool.false_eq_true, if_false, Bool.true_and]
      · rw [if_pos rfl, if_pos hf, if_neg hs, if_pos hs, decide_eq_false hs, decide_eq_true hf]; rfl
    · rw [if_pos rfl, if_neg hf, decide_eq_false hf]; rfl
theorem s_l27Ok_eq {s : Sim_} (h : smSim_ s) : s_l27Ok_m s = some (simB s) := by
  obtain ⟨hm, _, _, _, hd⟩ := h
  have hdl := hd.1.1
  obtain ⟨c1, c2, c3⟩ := smC hm
  unfold s_l27Ok_m simB s_l27Dial_m
  rw [s_l26Ok_eq hm, Option.bind_some]
  cases hv : movB s.Movement
  · rfl
  · rw [s_l26Faults_eq hm hv]
    simp only [Bool.not_true, Bool.false_eq_true, if_false, Option.bind_some, len_nil]
    by_cases hf : faultsR s.Movement = []
    · rw [if_neg (by simp [hf]), decide_eq_true hf]
      simp only [s_l00In_eq, Option.bind_some, s_l18Ok_eq (p := s.Dial) (by omega), itO, s_SetPerpetual_eq (c := s.Movement.Calendar) (cam := s.Movement.Cam) (by omega) (by omega) c3, s_eqI (xs := s.Dial.Cam) (ys := s.Movement.Cam) (by omega), Bool.true_and]
      simp only [itAp, itA, Bool.decide_eq_true]
      cases btw s.Clock 0 1000000000
      · cases decide ((setR s.Movement.Calendar s.Movement.Cam s.Start s.First).2 = 0) <;> rfl
      · cases perB s.Dial
        · cases decide ((setR s.Movement.Calendar s.Movement.Cam s.Start s.First).2 = 0) <;> rfl
        · simp only [Bool.not_true, Bool.or_self, Bool.false_eq_true, if_false, Bool.true_and]
          congr 1
          ac_rfl
    · rw [if_pos hf, Option.bind_some, if_pos rfl, decide_eq_false hf]; rfl
end Go.Proofs.YtlakbomkpnlidaaGreat
namespace Go.Proofs.YtlakbomkpnlidaaGreat
set_option linter.unusedVariables false
def yrs (c : Calendar_) : Nat := 10000 + 0 * c.Months.length
theorem yrs_eq (c : Calendar_) : yrs c = 10000 := by unfold yrs; omega
def allD (c : Calendar_) : Int := bef c (yrs c)
def YearAt (c : Calendar_) (day : Int) (s : Int × Date_) : Prop := s.2.Month = 1 ∧ s.2.Day = 0 ∧ 0 ≤ s.2.Year ∧ 0 ≤ s.1 ∧ bef c s.2.Year.toNat + s.1 = day
theorem YearAt.bd {c : Calendar_} (h : calB c = true) {day : Int} {s : Int × Date_} (hs : YearAt c day s) (hd : day < allD c) : s.2.Year ≤ 9999 ∧ s.1 ≤ 12000000 := by
  obtain ⟨_, _, h3, h4, h5⟩ := hs
  have f := (bef_bd h (yrs c)).2
  have g := (bef_bd h s.2.Year.toNat).1
  have y := yrs_eq c
  unfold allD at hd
  refine ⟨?_, by omega⟩
  refine Classical.byContradiction fun hn => ?_
  have := bef_mono h (m := yrs c) (n := s.2.Year.toNat) (by omega)
  omega
end Go.Proofs.YtlakbomkpnlidaaGreat
namespace Go.Proofs.YtlakbomkpnlidaaGreat
set_option linter.unusedVariables false
theorem simB_iff {s : Sim_} (h : simB s = true) : movB s.Movement = true ∧ faultsR s.Movement = [] ∧ (setR s.Movement.Calendar s.Movement.Cam s.Start s.First).2 = 0 ∧ (0 ≤ s.Clock ∧ s.Clock ≤ 1000000000) ∧ perB s.Dial = true := by
  unfold simB at h
  simp only [Bool.and_eq_true, decide_eq_true_eq] at h
  exact ⟨h.1, h.2.1, h.2.2.1, of_decide_eq_true h.2.2.2.1, h.2.2.2.2.1⟩
theorem setR_ok {c : Calendar_} {cam : List Int} {d : Date_} {wd : Int} (h : (setR c cam d wd).2 = 0) : askC c cam = 0 ∧ dateB c d = true ∧ 1 ≤ wd ∧ wd ≤ c.Week := by
  unfold setR at h
  split at h
  · rename_i h1
    split at h
    · rename_i h2
      rw [Bool.and_eq_true] at h2
      exact ⟨h1, h2.1, of_decide_eq_true h2.2⟩
    · cases h
  · rename_i h1; exact absurd h h1
theorem simB_day {s : Sim_} (h : simB s = true) : calB s.Movement.Calendar = true ∧ dateB s.Movement.Calendar s.Start = true ∧ (1 ≤ s.First ∧ s.First ≤ s.Movement.Calendar.Week) ∧ (1 ≤ s.Movement.Calendar.Week ∧ s.Movement.Calendar.Week ≤ 12) ∧ (0 ≤ s.Clock ∧ s.Clock ≤ 1000000000) ∧ perB s.Dial = true := by
  obtain ⟨h1, _, h3, h4, h5⟩ := simB_iff h
  obtain ⟨_, g2, g3⟩ := setR_ok h3
  have hc := (movB_cal h1).1
  exact ⟨hc, g2, g3, (calB_iff hc).2.2.2.1, h4, h5⟩
end Go.Proofs.YtlakbomkpnlidaaGreat
namespace Go.Proofs.YtlakbomkpnlidaaGreat
set_option linter.unusedVariables false
section
variable {α : Type} (f : Int → α → α × Int)
def accL : Int → List α → List α
  | _, [] => []
  | k, a :: l => (f k a).1 :: accL (f k a).2 l
def accK : Int → List α → Int
  | k, [] => k
  | k, a :: l => accK (f k a).2 l
theorem accL_len : ∀ (xs : List α) (k : Int), (accL f k xs).length = xs.length
  | [], _ => rfl
  | a :: l, k => by simp [accL, accL_len l]
theorem accK_app : ∀ (xs ys : List α) (k : Int), accK f k (xs ++ ys) = accK f (accK f k xs) ys
  | [], _, _ => rfl
  | a :: l, ys, k => by simp [accK, accK_app l ys]
theorem accL_app : ∀ (xs ys : List α) (k : Int), accL f k (xs ++ ys) = accL f k xs ++ accL f (accK f k xs) ys
  | [], _, _ => rfl
  | a :: l, ys, k => by simp [accL, accK, accL_app l ys]
end
section
variable {α : Type} {f : Int → α → α × Int} {sm : α → Prop} {C : Int}
theorem accK_b (hC : 0 ≤ C) (hf : ∀ k a, sm a → k ≤ (f k a).2 ∧ (f k a).2 ≤ k + C) : ∀ {xs : List α} {k : Int}, (∀ a ∈ xs, sm a) → k ≤ accK f k xs ∧ accK f k xs ≤ k + C * xs.length
  | [], k, _ => by simp [accK]
  | a :: l, k, h => by
    have h1 := hf k a (h a (by simp))
    have h2 := accK_b hC hf (xs := l) (k := (f k a).2) fun b hb => h b (by simp [hb])
    simp only [accK, List.length_cons]
    have : C * ((l.length + 1 : Nat) : Int) = C * l.length + C := by push_cast; rw [Int.mul_add]; omega
    omega
theorem accK_pre (hC : 0 ≤ C) (hf : ∀ k a, sm a → k ≤ (f k a).2 ∧ (f k a).2 ≤ k + C) {xs pre : List α} {a : α} {suf : List α} {k0 B : Int} (hsm : ∀ a ∈ xs, sm a) (hB : k0 + C * xs.length ≤ B) (e : xs = pre ++ a :: suf) : k0 ≤ accK f k0 pre ∧ accK f k0 pre ≤ B := by
  have := accK_b hC hf (xs := pre) (k := k0) fun b hb => hsm b (by rw [e]; simp [hb])
  have h2 : C * (pre.length : Int) ≤ C * xs.length := Int.mul_le_mul_of_nonneg_left (by rw [e]; simp; omega) hC
  omega
theorem markF_ok {B : Int} (hC : 0 ≤ C) (hf : ∀ k a, sm a → k ≤ (f k a).2 ∧ (f k a).2 ≤ k + C) {step : Int × Int × List α → Option ((Int × Int × List α) ⊕ (Int × List α))} {xs : List α} (hsm : ∀ a ∈ xs, sm a) (hl : xs.length ≤ 1048576)
    (hM : ∀ k (i : Nat) ys a, 0 ≤ k → k ≤ B → ys[i]? = some a → sm a → ys.length = xs.length → step (k, (i : Int), ys) = some (.inl ((f k a).2, (i : Int) + 1, ys.set i (f k a).1))) (hE : ∀ k (i : Nat) ys, ys.length ≤ i → step (k, (i : Int), ys) = some (.inr (k, ys)))
    {k0 : Int} (h0 : 0 ≤ k0) (hB : k0 + C * xs.length ≤ B) : loopM step (k0, 0, xs) = some (accK f k0 xs, accL f k0 xs) := by
  refine loopM_eq (fun (s : Int × Int × List α) => ∃ pre suf, xs = pre ++ suf ∧ s = (accK f k0 pre, (pre.length : Int), accL f k0 pre ++ suf)) (fun (s : Int × Int × List α) => ((xs.length : Int) - s.2.1).toNat) (fun s hI => ?_) ⟨[], xs, rfl, rfl⟩ (by simp; omega)
  obtain ⟨pre, suf, e, rfl⟩ := hI
  cases suf with
  | nil =>
    right
    rw [List.append_nil] at e
    subst e
    rw [hE _ _ _ (by simp [accL_len]), List.append_nil]
  | cons a suf =>
    left
    have hb := accK_pre hC hf hsm hB e
    have hlen : (accL f k0 pre ++ a :: suf).length = xs.length := by rw [e]; simp [accL_len]
    refine ⟨_, hM _ pre.length _ a (by omega) hb.2 (by rw [List.getElem?_append_right (by rw [accL_len]; exact Nat.le_refl _), accL_len]; simp) (hsm a (by rw [e]; simp)) hlen, ⟨pre ++ [a], suf, by rw [e]; simp, ?_⟩, ?_⟩
    · rw [accK_app, accL_app, List.set_append_right _ _ (by rw [accL_len]; exact Nat.le_refl _), accL_len, Nat.sub_self, List.set_cons_zero]
      simp [accK, accL]
    · have : pre.length < xs.length := by rw [e]; simp
      dsimp only
      omega
theorem heldF_ok {B : Int} (hC : 0 ≤ C) (hf : ∀ k a, sm a → k ≤ (f k a).2 ∧ (f k a).2 ≤ k + C) {step : Int × Int → Option ((Int × Int) ⊕ (Int ⊕ Int))} {xs : List α} {k0 : Int} (hsm : ∀ a ∈ xs, sm a) (hl : xs.length ≤ 1048576)
    (hM : ∀ k (i : Nat) a, 0 ≤ k → k ≤ B → (accL f k0 xs)[i]? = some (f k a).1 → sm a → i < xs.length → step (k, (i : Int)) = some (.inl ((f k a).2, (i : Int) + 1))) (hE : ∀ k, step (k, (xs.length : Int)) = some (.inr (.inl k)))
    (h0 : 0 ≤ k0) (hB : k0 + C * xs.length ≤ B) : loopM step (k0, 0) = some (.inl (accK f k0 xs)) := by
  refine loopM_eq (fun (s : Int × Int) => ∃ pre suf, xs = pre ++ suf ∧ s = (accK f k0 pre, (pre.length : Int))) (fun (s : Int × Int) => ((xs.length : Int) - s.2).toNat) (fun s hI => ?_) ⟨[], xs, rfl, rfl⟩ (by simp; omega)
  obtain ⟨pre, suf, e, rfl⟩ := hI
  cases suf with
  | nil =>
    right
    rw [List.append_nil] at e
    subst e
    rw [hE]
  | cons a suf =>
    left
    have hb := accK_pre hC hf hsm hB e
    have hlt : pre.length < xs.length := by rw [e]; simp
    refine ⟨_, hM _ pre.length a (by omega) hb.2 ?_ (hsm a (by rw [e]; simp)) hlt, ⟨pre ++ [a], suf, by rw [e]; simp, ?_⟩, ?_⟩
    · rw [e, accL_app, List.getElem?_append_right (by rw [accL_len]; exact Nat.le_refl _), accL_len]
      simp [accL]
    · rw [accK_app]; simp [accK]
    · dsimp only
      omega
end
def mkA (k : Int) (a : Arbor_) : Arbor_ × Int := (⟨mkT k, (List.range a.Wheels.length).map fun (j : Nat) => mkInt64S (k + 1 + 1 * (j : Int))⟩, k + 1 + 1 * a.Wheels.length)
theorem mkA_b : ∀ k a, smArbor_ a → k ≤ (mkA k a).2 ∧ (mkA k a).2 ≤ k + 1048577 := fun k a h => by
  have := h.2.1
  unfold mkA
  dsimp only
  omega
theorem endA_b {x : List Arbor_} {k : Int} (h : smL smArbor_ x) : k ≤ accK mkA k x ∧ accK mkA k x ≤ k + 1099512676352 := by
  have := accK_b (by omega) mkA_b (k := k) h.2
  have := h.1
  omega
theorem markArborS_eq {x : List Arbor_} {k : Int} (h0 : 0 ≤ k) (hk : k ≤ 10000000000000) (h : smL smArbor_ x) : l_markArborS_o_m x k = some (accK mkA k x, accL mkA k x) := by
  unfold l_markArborS_o_m
  have hl := h.1
  rw [markF_ok (f := mkA) (sm := smArbor_) (C := 1048577) (B := 12000000000000) (by omega) mkA_b h.2 h.1 (fun k i ys a a1 a2 a3 a4 a5 => ?_) (fun k i ys a => ?_) h0 (by omega)]
  · rfl
  · have hil := (List.getElem?_eq_some_iff.1 a3).1
    have hw := a4.2.1
    have e1 : atI ys (i : Int) = some a := by rw [atI_nat]; exact a3
    have e2 : ∀ b : Arbor_, atI (ys.set i b) (i : Int) = some b := fun b => by rw [atI_nat]; exact List.getElem?_set_self hil
    have h7 := markInt64S_eq (x := a.Wheels) (k := k + 1) (by omega) (by omega) hw
    simp only [if_pos (show (i : Int) < (ys.length : Int) by omega), markText_eq a1 (show k ≤ 1000000000000000000 by omega), e1, e2, Option.bind_some, Int.toNat_natCast, w64_in (x := k + 1) (by omega) (by omega), h7, List.set_set, w64_in (x := (i : Int) + 1) (by omega) (by omega), mkA]
    rw [chk_t (by simp)]
  · simp only [if_neg (show ¬ (i : Int) < (ys.length : Int) by omega)]
theorem heldArborS_eq {x : List Arbor_} {k : Int} (h0 : 0 ≤ k) (hk : k ≤ 10000000000000) (h : smL smArbor_ x) : l_heldArborS_m (accL mkA k x) k = some (accK mkA k x) := by
  unfold l_heldArborS_m
  have hl := h.1
  rw [heldF_ok (f := mkA) (sm := smArbor_) (C := 1048577) (B := 12000000000000) (xs := x) (by omega) mkA_b h.2 h.1 (fun k' i a a1 a2 a3 a4 a5 => ?_) (fun k' => ?_) h0 (by omega)]
  · rfl
  · have hw := a4.2.1
    have e1 : atI (accL mkA k x) (i : Int) = some (mkA k' a).1 := by rw [atI_nat]; exact a3
    have h7 := heldInt64S_eq (n := a.Wheels.length) (k := k' + 1) (by omega) (by omega) hw
    simp only [accL_len, if_pos (show (i : Int) < (x.length : Int) by omega), markText_eq a1 (show k' ≤ 1000000000000000000 by omega), e1, Option.bind_some, w64_in (x := k' + 1) (by omega) (by omega), mkA, ne_eq, not_true_eq_false, if_false, h7, Int.not_lt.2 (show 0 ≤ k' + 1 + 1 * (a.Wheels.length : Int) by omega), w64_in (x := (i : Int) + 1) (by omega) (by omega)]
  · simp only [accL_len, if_neg (show ¬ (x.length : Int) < (x.length : Int) by omega)]
end Go.Proofs.YtlakbomkpnlidaaGreat
namespace Go.Proofs.YtlakbomkpnlidaaGreat
open Go.RowKit
set_option linter.unusedVariables false
set_option maxRecDepth 100000
set_option maxHeartbeats 2000000
theorem markWorks_eq {x : Works_} {k : Int} (h0 : 0 ≤ k) (hk : k ≤ 8000000000000) (h : smWorks_ x) : l_markWorks_o_m x k = some ((accK mkA (k) x.Arbors) + 4 * x.Meshes.length, (accL mkA (k) x.Arbors), ((List.range x.Meshes.length).map fun (j : Nat) => mkMeshS ((accK mkA (k) x.Arbors) + 4 * (j : Int)))) := by
  have g0 := (h.1).1
  have b0 := endA_b (k := k) (h.1)
  have g1 := (h.2).1
  unfold l_markWorks_o_m
  simp only [markArborS_eq (x := x.Arbors) (k := k) (by omega) (by omega) (h.1), markMeshS_eq (x := x.Meshes) (k := accK mkA (k) x.Arbors) (by omega) (by omega) (h.2).1, Option.bind_some, List.length_map, List.length_range, accL_len, chk_true]
theorem heldWorks_eq {x : Works_} {k : Int} (h0 : 0 ≤ k) (hk : k ≤ 8000000000000) (h : smWorks_ x) : l_heldWorks_m ⟨(accL mkA (k) x.Arbors), ((List.range x.Meshes.length).map fun (j : Nat) => mkMeshS ((accK mkA (k) x.Arbors) + 4 * (j : Int)))⟩ k = some ((accK mkA (k) x.Arbors) + 4 * x.Meshes.length) := by
  have g0 := (h.1).1
  have b0 := endA_b (k := k) (h.1)
  have g1 := (h.2).1
  unfold l_heldWorks_m
  simp only [heldArborS_eq (x := x.Arbors) (k := k) (by omega) (by omega) (h.1), heldMeshS_eq (n := x.Meshes.length) (k := accK mkA (k) x.Arbors) (by omega) (by omega) (h.2).1, Option.bind_some, List.length_map, List.length_range, accL_len, Int.not_lt.2 (show 0 ≤ accK mkA (k) x.Arbors by omega), Int.not_lt.2 (show 0 ≤ (accK mkA (k) x.Arbors) + 4 * x.Meshes.length by omega), if_false]
theorem markCalendar_eq {x : Calendar_} {k : Int} (h0 : 0 ≤ k) (hk : k ≤ 8000000000000) (h : smCalendar_ x) : l_markCalendar_o_m x k = some ((k + 3 * x.Months.length) + 3 * x.Rules.length, ((List.range x.Months.length).map fun (j : Nat) => mkMonthS (k + 3 * (j : Int))), ((List.range x.Rules.length).map fun (j : Nat) => mkLeapRuleS ((k + 3 * x.Months.length) + 3 * (j : Int)))) := by
  have g0 := (h.2.1).1
  have g1 := (h.2.2.1).1
  unfold l_markCalendar_o_m
  simp only [markMonthS_eq (x := x.Months) (k := k) (by omega) (by omega) (h.2.1).1, markLeapRuleS_eq (x := x.Rules) (k := k + 3 * x.Months.length) (by omega) (by omega) (h.2.2.1).1, Option.bind_some, List.length_map, List.length_range, chk_true]
theorem heldCalendar_eq {x : Calendar_} {k : Int} (h0 : 0 ≤ k) (hk : k ≤ 8000000000000) (h : smCalendar_ x) : l_heldCalendar_m ⟨x.Name, ((List.range x.Months.length).map fun (j : Nat) => mkMonthS (k + 3 * (j : Int))), ((List.range x.Rules.length).map fun (j : Nat) => mkLeapRuleS ((k + 3 * x.Months.length) + 3 * (j : Int))), x.Week⟩ k = some ((k + 3 * x.Months.length) + 3 * x.Rules.length) := by
  have g0 := (h.2.1).1
  have g1 := (h.2.2.1).1
  unfold l_heldCalendar_m
  simp only [heldMonthS_eq (n := x.Months.length) (k := k) (by omega) (by omega) (h.2.1).1, heldLeapRuleS_eq (n := x.Rules.length) (k := k + 3 * x.Months.length) (by omega) (by omega) (h.2.2.1).1, Option.bind_some, List.length_map, List.length_range, Int.not_lt.2 (show 0 ≤ k + 3 * x.Months.length by omega), Int.not_lt.2 (show 0 ≤ (k + 3 * x.Months.length) + 3 * x.Rules.length by omega), if_false]
theorem markMovement_eq {x : Movement_} {k : Int} (h0 : 0 ≤ k) (hk : k ≤ 6000000000000) (h : smMovement_ x) : l_markMovement_o_m x k = some (((((accK mkA (k) x.Works.Arbors) + 4 * x.Works.Meshes.length) + 3 * x.Calendar.Months.length) + 3 * x.Calendar.Rules.length) + 1 * x.Cam.length, (accL mkA (k) x.Works.Arbors), ((List.range x.Works.Meshes.length).map fun (j : Nat) => mkMeshS ((accK mkA (k) x.Works.Arbors) + 4 * (j : Int))), ((List.range x.Calendar.Months.length).map fun (j : Nat) => mkMonthS (((accK mkA (k) x.Works.Arbors) + 4 * x.Works.Meshes.length) + 3 * (j : Int))), ((List.range x.Calendar.Rules.length).map fun (j : Nat) => mkLeapRuleS ((((accK mkA (k) x.Works.Arbors) + 4 * x.Works.Meshes.length) + 3 * x.Calendar.Months.length) + 3 * (j : Int))), ((List.range x.Cam.length).map fun (j : Nat) => mkInt64S (((((accK mkA (k) x.Works.Arbors) + 4 * x.Works.Meshes.length) + 3 * x.Calendar.Months.length) + 3 * x.Calendar.Rules.length) + 1 * (j : Int)))) := by
  have g0 := (h.2.1.1).1
  have b0 := endA_b (k := k) (h.2.1.1)
  have g1 := (h.2.1.2).1
  have g2 := (h.2.2.2.2.2.2.2.1.2.1).1
  have g3 := (h.2.2.2.2.2.2.2.1.2.2.1).1
  have g4 := (h.2.2.2.2.2.2.2.2.1).1
  unfold l_markMovement_o_m
  simp only [markWorks_eq (x := x.Works) (k := k) (by omega) (by omega) (h.2.1), markCalendar_eq (x := x.Calendar) (k := (accK mkA (k) x.Works.Arbors) + 4 * x.Works.Meshes.length) (by omega) (by omega) (h.2.2.2.2.2.2.2.1), markInt64S_eq (x := x.Cam) (k := (((accK mkA (k) x.Works.Arbors) + 4 * x.Works.Meshes.length) + 3 * x.Calendar.Months.length) + 3 * x.Calendar.Rules.length) (by omega) (by omega) (h.2.2.2.2.2.2.2.2.1).1, Option.bind_some, List.length_map, List.length_range, accL_len, chk_true]
theorem heldMovement_eq {x : Movement_} {k : Int} (h0 : 0 ≤ k) (hk : k ≤ 6000000000000) (h : smMovement_ x) : l_heldMovement_m ⟨x.Name, ⟨(accL mkA (k) x.Works.Arbors), ((List.range x.Works.Meshes.length).map fun (j : Nat) => mkMeshS ((accK mkA (k) x.Works.Arbors) + 4 * (j : Int)))⟩, x.Minute, x.Hour, x.Escape, x.Teeth, x.Beats, ⟨x.Calendar.Name, ((List.range x.Calendar.Months.length).map fun (j : Nat) => mkMonthS (((accK mkA (k) x.Works.Arbors) + 4 * x.Works.Meshes.length) + 3 * (j : Int))), ((List.range x.Calendar.Rules.length).map fun (j : Nat) => mkLeapRuleS ((((accK mkA (k) x.Works.Arbors) + 4 * x.Works.Meshes.length) + 3 * x.Calendar.Months.length) + 3 * (j : Int))), x.Calendar.Week⟩, ((List.range x.Cam.length).map fun (j : Nat) => mkInt64S (((((accK mkA (k) x.Works.Arbors) + 4 * x.Works.Meshes.length) + 3 * x.Calendar.Months.length) + 3 * x.Calendar.Rules.length) + 1 * (j : Int))), x.Strike⟩ k = some (((((accK mkA (k) x.Works.Arbors) + 4 * x.Works.Meshes.length) + 3 * x.Calendar.Months.length) + 3 * x.Calendar.Rules.length) + 1 * x.Cam.length) := by
  have g0 := (h.2.1.1).1
  have b0 := endA_b (k := k) (h.2.1.1)
  have g1 := (h.2.1.2).1
  have g2 := (h.2.2.2.2.2.2.2.1.2.1).1
  have g3 := (h.2.2.2.2.2.2.2.1.2.2.1).1
  have g4 := (h.2.2.2.2.2.2.2.2.1).1
  unfold l_heldMovement_m
  simp only [heldWorks_eq (x := x.Works) (k := k) (by omega) (by omega) (h.2.1), heldCalendar_eq (x := x.Calendar) (k := (accK mkA (k) x.Works.Arbors) + 4 * x.Works.Meshes.length) (by omega) (by omega) (h.2.2.2.2.2.2.2.1), heldInt64S_eq (n := x.Cam.length) (k := (((accK mkA (k) x.Works.Arbors) + 4 * x.Works.Meshes.length) + 3 * x.Calendar.Months.length) + 3 * x.Calendar.Rules.length) (by omega) (by omega) (h.2.2.2.2.2.2.2.2.1).1, Option.bind_some, List.length_map, List.length_range, accL_len, Int.not_lt.2 (show 0 ≤ (accK mkA (k) x.Works.Arbors) + 4 * x.Works.Meshes.length by omega), Int.not_lt.2 (show 0 ≤ (((accK mkA (k) x.Works.Arbors) + 4 * x.Works.Meshes.length) + 3 * x.Calendar.Months.length) + 3 * x.Calendar.Rules.length by omega), Int.not_lt.2 (show 0 ≤ ((((accK mkA (k) x.Works.Arbors) + 4 * x.Works.Meshes.length) + 3 * x.Calendar.Months.length) + 3 * x.Calendar.Rules.length) + 1 * x.Cam.length by omega), if_false]
theorem markSim_eq {x : Sim_} {k : Int} (h0 : 0 ≤ k) (hk : k ≤ 4000000000000) (h : smSim_ x) : l_markSim_o_m x k = some ((((((accK mkA (k) x.Movement.Works.Arbors) + 4 * x.Movement.Works.Meshes.length) + 3 * x.Movement.Calendar.Months.length) + 3 * x.Movement.Calendar.Rules.length) + 1 * x.Movement.Cam.length) + 1 * x.Dial.Cam.length, (accL mkA (k) x.Movement.Works.Arbors), ((List.range x.Movement.Works.Meshes.length).map fun (j : Nat) => mkMeshS ((accK mkA (k) x.Movement.Works.Arbors) + 4 * (j : Int))), ((List.range x.Movement.Calendar.Months.length).map fun (j : Nat) => mkMonthS (((accK mkA (k) x.Movement.Works.Arbors) + 4 * x.Movement.Works.Meshes.length) + 3 * (j : Int))), ((List.range x.Movement.Calendar.Rules.length).map fun (j : Nat) => mkLeapRuleS ((((accK mkA (k) x.Movement.Works.Arbors) + 4 * x.Movement.Works.Meshes.length) + 3 * x.Movement.Calendar.Months.length) + 3 * (j : Int))), ((List.range x.Movement.Cam.length).map fun (j : Nat) => mkInt64S (((((accK mkA (k) x.Movement.Works.Arbors) + 4 * x.Movement.Works.Meshes.length) + 3 * x.Movement.Calendar.Months.length) + 3 * x.Movement.Calendar.Rules.length) + 1 * (j : Int))), ((List.range x.Dial.Cam.length).map fun (j : Nat) => mkInt64S ((((((accK mkA (k) x.Movement.Works.Arbors) + 4 * x.Movement.Works.Meshes.length) + 3 * x.Movement.Calendar.Months.length) + 3 * x.Movement.Calendar.Rules.length) + 1 * x.Movement.Cam.length) + 1 * (j : Int)))) := by
  have g0 := (h.1.2.1.1).1
  have b0 := endA_b (k := k) (h.1.2.1.1)
  have g1 := (h.1.2.1.2).1
  have g2 := (h.1.2.2.2.2.2.2.2.1.2.1).1
  have g3 := (h.1.2.2.2.2.2.2.2.1.2.2.1).1
  have g4 := (h.1.2.2.2.2.2.2.2.2.1).1
  have g5 := (h.2.2.2.2.1).1
  unfold l_markSim_o_m
  simp only [markMovement_eq (x := x.Movement) (k := k) (by omega) (by omega) (h.1), markPerpetual_eq (x := x.Dial) (k := ((((accK mkA (k) x.Movement.Works.Arbors) + 4 * x.Movement.Works.Meshes.length) + 3 * x.Movement.Calendar.Months.length) + 3 * x.Movement.Calendar.Rules.length) + 1 * x.Movement.Cam.length) (by omega) (by omega) (h.2.2.2.2), Option.bind_some, List.length_map, List.length_range, accL_len, chk_true]
theorem heldSim_eq {x : Sim_} {k : Int} (h0 : 0 ≤ k) (hk : k ≤ 4000000000000) (h : smSim_ x) : l_heldSim_m ⟨⟨x.Movement.Name, ⟨(accL mkA (k) x.Movement.Works.Arbors), ((List.range x.Movement.Works.Meshes.length).map fun (j : Nat) => mkMeshS ((accK mkA (k) x.Movement.Works.Arbors) + 4 * (j : Int)))⟩, x.Movement.Minute, x.Movement.Hour, x.Movement.Escape, x.Movement.Teeth, x.Movement.Beats, ⟨x.Movement.Calendar.Name, ((List.range x.Movement.Calendar.Months.length).map fun (j : Nat) => mkMonthS (((accK mkA (k) x.Movement.Works.Arbors) + 4 * x.Movement.Works.Meshes.length) + 3 * (j : Int))), ((List.range x.Movement.Calendar.Rules.length).map fun (j : Nat) => mkLeapRuleS ((((accK mkA (k) x.Movement.Works.Arbors) + 4 * x.Movement.Works.Meshes.length) + 3 * x.Movement.Calendar.Months.length) + 3 * (j : Int))), x.Movement.Calendar.Week⟩, ((List.range x.Movement.Cam.length).map fun (j : Nat) => mkInt64S (((((accK mkA (k) x.Movement.Works.Arbors) + 4 * x.Movement.Works.Meshes.length) + 3 * x.Movement.Calendar.Months.length) + 3 * x.Movement.Calendar.Rules.length) + 1 * (j : Int))), x.Movement.Strike⟩, x.Start, x.First, x.Clock, ⟨((List.range x.Dial.Cam.length).map fun (j : Nat) => mkInt64S ((((((accK mkA (k) x.Movement.Works.Arbors) + 4 * x.Movement.Works.Meshes.length) + 3 * x.Movement.Calendar.Months.length) + 3 * x.Movement.Calendar.Rules.length) + 1 * x.Movement.Cam.length) + 1 * (j : Int))), x.Dial.Months, x.Dial.Teeth, x.Dial.At, x.Dial.Day, x.Dial.Week, x.Dial.Weekday⟩⟩ k = some ((((((accK mkA (k) x.Movement.Works.Arbors) + 4 * x.Movement.Works.Meshes.length) + 3 * x.Movement.Calendar.Months.length) + 3 * x.Movement.Calendar.Rules.length) + 1 * x.Movement.Cam.length) + 1 * x.Dial.Cam.length) := by
  have g0 := (h.1.2.1.1).1
  have b0 := endA_b (k := k) (h.1.2.1.1)
  have g1 := (h.1.2.1.2).1
  have g2 := (h.1.2.2.2.2.2.2.2.1.2.1).1
  have g3 := (h.1.2.2.2.2.2.2.2.1.2.2.1).1
  have g4 := (h.1.2.2.2.2.2.2.2.2.1).1
  have g5 := (h.2.2.2.2.1).1
  unfold l_heldSim_m
  simp only [heldMovement_eq (x := x.Movement) (k := k) (by omega) (by omega) (h.1), heldPerpetual_eq (x := x.Dial) (k := ((((accK mkA (k) x.Movement.Works.Arbors) + 4 * x.Movement.Works.Meshes.length) + 3 * x.Movement.Calendar.Months.length) + 3 * x.Movement.Calendar.Rules.length) + 1 * x.Movement.Cam.length) (by omega) (by omega) (h.2.2.2.2), Option.bind_some, List.length_map, List.length_range, accL_len, Int.not_lt.2 (show 0 ≤ ((((accK mkA (k) x.Movement.Works.Arbors) + 4 * x.Movement.Works.Meshes.length) + 3 * x.Movement.Calendar.Months.length) + 3 * x.Movement.Calendar.Rules.length) + 1 * x.Movement.Cam.length by omega), Int.not_lt.2 (show 0 ≤ (((((accK mkA (k) x.Movement.Works.Arbors) + 4 * x.Movement.Works.Meshes.length) + 3 * x.Movement.Calendar.Months.length) + 3 * x.Movement.Calendar.Rules.length) + 1 * x.Movement.Cam.length) + 1 * x.Dial.Cam.length by omega), if_false]
end Go.Proofs.YtlakbomkpnlidaaGreat
namespace Go.Proofs.YtlakbomkpnlidaaGreat
set_option linter.unusedVariables false
def perI (p : Perpetual_) : Prop := (0 ≤ p.At ∧ p.At < p.Cam.length ∧ p.Cam.length ≤ 260) ∧ (1 ≤ p.Day ∧ p.Day ≤ p.Teeth ∧ p.Teeth ≤ 60) ∧ (1 ≤ p.Week ∧ p.Week ≤ 12) ∧ 1 ≤ p.Weekday ∧ p.Weekday ≤ p.Week
theorem perI_of {p : Perpetual_} (h : perB p = true) : perI p := by
  unfold perB at h
  simp only [Bool.and_eq_true, decide_eq_true_eq] at h
  obtain ⟨h1, h2, h3, h4, h5, h6, h7, h8, h9⟩ := h
  have hl := (camB_iff h1).2.2
  unfold btw at h7 h8 h9
  simp only [decide_eq_true_eq] at h7 h8 h9
  exact ⟨⟨h6.1, h6.2, hl⟩, ⟨h7.1, h7.2, h4⟩, ⟨h8.1, h8.2⟩, h9.1, h9.2⟩
def moveR (p : Perpetual_) (n : Int) : Perpetual_ := if p.Teeth < p.Day + n then ⟨p.Cam, p.Months, p.Teeth, (p.At + 1).tmod p.Cam.length, p.Day + n - p.Teeth, p.Week, p.Weekday⟩ else ⟨p.Cam, p.Months, p.Teeth, p.At, p.Day + n, p.Week, p.Weekday⟩
def stepsR (p : Perpetual_) : Int := if p.Day = p.Cam.getD p.At.toNat 0 then p.Teeth + 1 - p.Day else 1
def monthR (p : Perpetual_) : Perpetual_ := ⟨p.Cam, p.Months, p.Teeth, (p.At + 1).tmod p.Cam.length, p.Day, p.Week, p.Weekday⟩
def wdayR (p : Perpetual_) : Perpetual_ := ⟨p.Cam, p.Months, p.Teeth, p.At, p.Day, p.Week, p.Weekday.tmod p.Week + 1⟩
def nightR (p : Perpetual_) : Perpetual_ := wdayR (moveR p (stepsR p))
theorem tmod_in {a n : Int} (h0 : 0 ≤ a) (hn : 0 < n) : 0 ≤ a.tmod n ∧ a.tmod n < n := by
  rw [Int.tmod_eq_emod_of_nonneg h0]
  exact ⟨Int.emod_nonneg _ (by omega), Int.emod_lt_of_pos _ hn⟩
theorem stepsR_in {p : Perpetual_} (h : perI p) : 1 ≤ stepsR p ∧ p.Day + stepsR p ≤ p.Teeth + 1 := by
  obtain ⟨_, h2, _⟩ := h
  unfold stepsR
  split <;> omega
theorem moveR_I {p : Perpetual_} {n : Int} (h : perI p) (h1 : 1 ≤ n) (h2 : p.Day + n ≤ p.Teeth + 1) : perI (moveR p n) := by
  obtain ⟨⟨a1, a2, a3⟩, ⟨b1, b2, b3⟩, hw⟩ := h
  have t := tmod_in (a := p.At + 1) (n := p.Cam.length) (by omega) (by omega)
  unfold moveR
  split
  · exact ⟨⟨t.1, t.2, a3⟩, ⟨by dsimp only; omega, by dsimp only; omega, b3⟩, hw⟩
  · exact ⟨⟨a1, a2, a3⟩, ⟨by dsimp only; omega, by dsimp only; omega, b3⟩, hw⟩
theorem wdayR_I {p : Perpetual_} (h : perI p) : perI (wdayR p) := by
  obtain ⟨ha, hb, hc, d1, d2⟩ := h
  have t := tmod_in (a := p.Weekday) (n := p.Week) (by omega) (by omega)
  exact ⟨ha, hb, hc, by unfold wdayR; dsimp only; omega, by unfold wdayR; dsimp only; omega⟩
theorem nightR_I {p : Perpetual_} (h : perI p) : perI (nightR p) := by
  have s := stepsR_in h
  exact wdayR_I (moveR_I h s.1 s.2)
def dialS (s : Sim_) (p : Perpetual_) : Sim_ := ⟨s.Movement, s.Start, s.First, s.Clock, p⟩
theorem steps_at {p : Perpetual_} (h : perI p) : atI p.Cam p.At = some (p.Cam.getD p.At.toNat 0) := by
  obtain ⟨⟨a1, a2, a3⟩, _⟩ := h
  unfold atI
  rw [if_pos a1, List.getElem?_eq_getElem (by omega)]
  simp [List.getD_eq_getElem?_getD, List.getElem?_eq_getElem (show p.At.toNat < p.Cam.length by omega)]
theorem i_midnightSteps_eq {p : Perpetual_} (h : perI p) : i_midnightSteps_m p = some (stepsR p) := by
  obtain ⟨_, ⟨b1, b2, b3⟩, _⟩ := id h
  unfold i_midnightSteps_m stepsR
  rw [steps_at h, Option.bind_some, w64_in (x := p.Teeth + 1) (by omega) (by omega), w64_in (x := p.Teeth + 1 - p.Day) (by omega) (by omega)]
  split <;> rfl
theorem s_l18Steps_eq {p : Perpetual_} (h : perI p) : s_l18Steps_m p = some (stepsR p) := by
  obtain ⟨_, ⟨b1, b2, b3⟩, _⟩ := id h
  unfold s_l18Steps_m stepsR
  rw [steps_at h, Option.bind_some, w64_in (x := p.Teeth + 1) (by omega) (by omega), w64_in (x := p.Teeth + 1 - p.Day) (by omega) (by omega)]
  split <;> rfl
theorem i_moveMonth_eq {s : Sim_} (h : 0 ≤ s.Dial.At ∧ s.Dial.At < s.Dial.Cam.length ∧ s.Dial.Cam.length ≤ 260) : Perpetual_moveMonth_Sim_4_m s = some (dialS s (monthR s.Dial)) := by
  unfold Perpetual_moveMonth_Sim_4_m dialS monthR
  rw [chk_t (by omega), w64_in (x := s.Dial.At + 1) (by omega) (by omega)]
theorem i_moveWeekday_eq {s : Sim_} (h : perI s.Dial) : Perpetual_moveWeekday_Sim_4_m s = some (dialS s (wdayR s.Dial)) := by
  obtain ⟨_, _, hc, d1, d2⟩ := h
  have t := tmod_in (a := s.Dial.Weekday) (n := s.Dial.Week) (by omega) (by omega)
  unfold Perpetual_moveWeekday_Sim_4_m dialS wdayR
  rw [chk_t (by omega), w64_in (by omega) (by omega)]
theorem i_moveDate_eq {s : Sim_} {n : Int} (h : perI s.Dial) (h1 : 1 ≤ n) (h2 : s.Dial.Day + n ≤ s.Dial.Teeth + 1) : Perpetual_moveDate_Sim_4_m s n = some (dialS s (moveR s.Dial n)) := by
  obtain ⟨ha, ⟨b1, b2, b3⟩, hw⟩ := h
  unfold Perpetual_moveDate_Sim_4_m moveR
  rw [w64_in (x := s.Dial.Day + n) (by omega) (by omega), w64_in (x := s.Dial.Day + n - s.Dial.Teeth) (by omega) (by omega)]
  split
  · rw [i_moveMonth_eq (by exact ha)]; rfl
  · rfl
theorem i_midnight_eq {s : Sim_} (h : perI s.Dial) : Perpetual_midnight_Sim_4_m s = some (dialS s (nightR s.Dial)) := by
  have hs := stepsR_in h
  unfold Perpetual_midnight_Sim_4_m
  rw [i_midnightSteps_eq h, Option.bind_some, i_moveDate_eq h hs.1 hs.2, Option.bind_some, i_moveWeekday_eq (by exact moveR_I h hs.1 hs.2)]; rfl
theorem s_l18Night_eq {s : Sim_} (h : perI s.Dial) : s_l18Night_Sim_4_m s = some (dialS s (nightR s.Dial)) := by
  have hs := stepsR_in h
  obtain ⟨ha, ⟨b1, b2, b3⟩, hw⟩ := id h
  have e : s_l18Move_Sim_4_m s (stepsR s.Dial) = some (dialS s (moveR s.Dial (stepsR s.Dial))) := by
    unfold s_l18Move_Sim_4_m moveR dialS
    rw [w64_in (x := s.Dial.Day + stepsR s.Dial) (by omega) (by omega), w64_in (x := s.Dial.Day + stepsR s.Dial - s.Dial.Teeth) (by omega) (by omega), chk_t (by omega), w64_in (x := s.Dial.At + 1) (by omega) (by omega)]
    split <;> rfl
  unfold s_l18Night_Sim_4_m
  have hI := moveR_I h hs.1 hs.2
  obtain ⟨_, _, hc, d1, d2⟩ := id hI
  have t := tmod_in (a := (moveR s.Dial (stepsR s.Dial)).Weekday) (n := (moveR s.Dial (stepsR s.Dial)).Week) (by omega) (by omega)
  rw [s_l18Steps_eq h, Option.bind_some, e, Option.bind_some]
  unfold nightR wdayR dialS
  dsimp only
  rw [chk_t (by omega), w64_in (by omega) (by omega)]
theorem s_l08Own_eq {w : Works_} (h : smWorks_ w) : s_l08Own_m w = some w := by
  unfold s_l08Own_m
  have hl := h.1.1
  have hm := h.2.1
  rw [chk_t (by simp; omega), buildF_ok (xs := w.Arbors) (f := fun a => [a]) (c := 1) (fun v _ => by simp) (fun i hi ys hy => ?_) (fun ys => by simp) (by omega)]
  · simp
  · have hi' : (i : Int) < w.Arbors.length := by omega
    have hw := (h.1.2 _ (List.getElem_mem hi)).2.1
    simp only [if_pos hi', atI_lt hi, Option.bind_some, w64_in (x := (i : Int) + 1) (by omega) (by omega)]
    rw [s_ownI hw, Option.bind_some, chk_t (by simp at hy ⊢; omega)]
theorem s_l26Own_eq {m : Movement_} (h : smMovement_ m) : s_l26Own_m m = some m := by
  obtain ⟨c1, c2, c3⟩ := smC h
  unfold s_l26Own_m s_l15Own_m
  rw [s_l08Own_eq h.2.1, Option.bind_some, chk_t (by simp; omega), chk_t (by simp; omega), Option.bind_some, s_ownI c3, Option.bind_some]
  simp
theorem s_l27Own_eq {s : Sim_} (h : smSim_ s) : s_l27Own_m s = some s := by
  have hd := h.2.2.2.2.1.1
  unfold s_l27Own_m s_l18Own_m
  rw [s_l26Own_eq h.1, Option.bind_some, s_ownI hd]; rfl
theorem i_copySim_eq {s : Sim_} (h : smSim_ s) : i_copySim_m s = some s := by
  have hd := h.2.2.2.2.1.1
  unfold i_copySim_m Perpetual_own_m
  rw [i_copyMovement_eq h.1, Option.bind_some, i_cloneI hd]; rfl
theorem dialS_sm {s : Sim_} (h : smSim_ s) {p : Perpetual_} (hp : p.Cam.length ≤ 1048576) : smSim_ (dialS s p) := by
  obtain ⟨h1, h2, h3, h4, h5⟩ := h
  exact ⟨h1, h2, h3, h4, ⟨hp, fun _ _ => trivial⟩, trivial, trivial, trivial, trivial, trivial, trivial⟩
theorem zeroS_sm : smSim_ zeroS := by
  unfold zeroS zeroM zeroP smSim_ smMovement_ smWorks_ smCalendar_ smPerpetual_ smDate_ smL smS
  simp [ByteArray.size]
theorem moveR_cam (p : Perpetual_) (n : Int) : (moveR p n).Cam = p.Cam := by unfold moveR; split <;> rfl
theorem nightR_cam (p : Perpetual_) : (nightR p).Cam = p.Cam := moveR_cam p _
def nightS (s : Sim_) : Sim_ := dialS s (nightR s.Dial)
def runN : Nat → Sim_ → Sim_
  | 0, s => s
  | n + 1, s => runN n (nightS s)
theorem runN_sm : ∀ (n : Nat) {s : Sim_}, smSim_ s → smSim_ (runN n s)
  | 0, _, h => h
  | n + 1, s, h => runN_sm n (dialS_sm h (by rw [nightR_cam]; exact h.2.2.2.2.1.1))
abbrev TupS : Type := ByteArray × Int × Int × Int × Int × Int × ByteArray × Int × Int × Date_ × Int × Int × Int × Int × Int × Int × Int × Int × List Arbor_ × List Mesh_ × List Month_ × List LeapRule_ × List Int × List Int
def tupS (s : Sim_) : TupS :=
  (s.Movement.Name, s.Movement.Minute, s.Movement.Hour, s.Movement.Escape, s.Movement.Teeth, s.Movement.Beats, s.Movement.Calendar.Name, s.Movement.Calendar.Week, s.Movement.Strike, s.Start, s.First, s.Clock, s.Dial.Months, s.Dial.Teeth, s.Dial.At, s.Dial.Day, s.Dial.Week, s.Dial.Weekday, s.Movement.Works.Arbors, s.Movement.Works.Meshes, s.Movement.Calendar.Months, s.Movement.Calendar.Rules, s.Movement.Cam, s.Dial.Cam)
def unS (x : TupS) : Sim_ := ⟨⟨x.1, ⟨x.2.2.2.2.2.2.2.2.2.2.2.2.2.2.2.2.2.2.1, x.2.2.2.2.2.2.2.2.2.2.2.2.2.2.2.2.2.2.2.1⟩, x.2.1, x.2.2.1, x.2.2.2.1, x.2.2.2.2.1, x.2.2.2.2.2.1, ⟨x.2.2.2.2.2.2.1, x.2.2.2.2.2.2.2.2.2.2.2.2.2.2.2.2.2.2.2.2.1, x.2.2.2.2.2.2.2.2.2.2.2.2.2.2.2.2.2.2.2.2.2.1, x.2.2.2.2.2.2.2.1⟩, x.2.2.2.2.2.2.2.2.2.2.2.2.2.2.2.2.2.2.2.2.2.2.1, x.2.2.2.2.2.2.2.2.1⟩, x.2.2.2.2.2.2.2.2.2.1, x.2.2.2.2.2.2.2.2.2.2.1, x.2.2.2.2.2.2.2.2.2.2.2.1, ⟨x.2.2.2.2.2.2.2.2.2.2.2.2.2.2.2.2.2.2.2.2.2.2.2, x.2.2.2.2.2.2.2.2.2.2.2.2.1, x.2.2.2.2.2.2.2.2.2.2.2.2.2.1, x.2.2.2.2.2.2.2.2.2.2.2.2.2.2.1, x.2.2.2.2.2.2.2.2.2.2.2.2.2.2.2.1, x.2.2.2.2.2.2.2.2.2.2.2.2.2.2.2.2.1, x.2.2.2.2.2.2.2.2.2.2.2.2.2.2.2.2.2.1⟩⟩
theorem night_loop {X : Type} {f : Sim_ → X} {C : Int} {c : Nat → Int} {step : Int × X → Option ((Int × X) ⊕ X)} (N : Nat) (hN : N < 1180591620717411303424) (hS : ∀ (j : Nat) s, j < N → perI s.Dial → s.Clock = C → step (c (j + 1), f s) = some (.inl (c j, f (nightS s)))) (hE : ∀ s, s.Clock = C → step (c 0, f s) = some (.inr (f s))) {s : Sim_} (hp : perI s.Dial) (hC : s.Clock = C) : loopM step (c N, f s) = some (f (runN N s)) := by
  have key : ∀ (n m : Nat) (s : Sim_), n < m → n ≤ N → perI s.Dial → s.Clock = C → loopN step m (c n, f s) = some (f (runN n s)) := by
    intro n
    induction n with
    | zero =>
      intro m s hm _ _ hC
      cases m with
      | zero => omega
      | succ m => simp only [loopN, hE s hC]; rfl
    | succ n ih =>
      intro m s hm hn hp hC
      cases m with
      | zero => omega
      | succ m =>
        simp only [loopN, hS n s (by omega) hp hC]
        exact ih m (nightS s) (by omega) (by omega) (nightR_I hp) hC
  exact key N fuel s hN (Nat.le_refl _) hp hC
def clockS (s : Sim_) (k : Int) : Sim_ := ⟨s.Movement, s.Start, s.First, k, s.Dial⟩
def nightsN (s : Sim_) (k : Int) : Nat := ((s.Clock + k) / 86400 - s.Clock / 86400).toNat
theorem blows_ok (a b c : Int) : ∃ r, s_BlowsBetween_m a b c = some r := by
  unfold s_BlowsBetween_m s_l27Blows_m
  simp only [s_l00In_eq, Option.bind_some]
  (repeat' split) <;> simp <;> (repeat' split) <;> exact ⟨_, _, rfl⟩
def iStep (st : Int × TupS) : Option ((Int × TupS) ⊕ TupS) := if 0 < st.1 then (Perpetual_midnight_Sim_4_m (unS st.2)).bind fun v => some (.inl (w64 (st.1 - 1), tupS v)) else some (.inr st.2)
def sStep (st : Int × TupS) : Option ((Int × TupS) ⊕ TupS) := if st.1 < w64 ((unS st.2).Clock.tdiv 86400) then (s_l18Night_Sim_4_m (unS st.2)).bind fun v => some (.inl (w64 (st.1 + 1), tupS v)) else some (.inr st.2)
theorem i_RunSim_eq (s : Sim_) (k : Int) : i_RunSim_m s k = (i_ValidSim_m s).bind fun v1 => if (!v1) = true then some (zeroS, 0, 1) else ((i_within_m k 0 3000000).bind fun v2 => if (!v2) = true then some true else some (decide (1000000000 < w64 (s.Clock + k)))).bind fun v3 => if v3 = true then some (zeroS, 0, 2) else
    (i_copySim_m s).bind fun v4 => (loopM iStep (w64 (w64 ((w64 (v4.Clock + k)).tdiv 86400) - w64 (s.Clock.tdiv 86400)), tupS (clockS v4 (w64 (v4.Clock + k))))).bind fun v11 => (i_BlowsBetween_m (unS v11).Movement.Strike s.Clock (unS v11).Clock).bind fun v12 => some (unS v11, v12.1, 0) := rfl
theorem s_RunSim_eq (s : Sim_) (k : Int) : s_RunSim_m s k = (s_l27Ok_m s).bind fun v1 => if (!v1) = true then some (zeroS, 0, 1) else ((s_l00In_m k 0 3000000).bind fun v2 => if (!v2) = true then some true else some (decide (1000000000 < w64 (s.Clock + k)))).bind fun v3 => if v3 = true then some (zeroS, 0, 2) else
    (s_l27Own_m s).bind fun v4 => (loopM sStep (w64 (s.Clock.tdiv 86400), tupS (clockS v4 (w64 (v4.Clock + k))))).bind fun v12 => (s_BlowsBetween_m s.Movement.Strike s.Clock (unS v12).Clock).bind fun v13 => some (unS v12, v13.1, 0) := rfl
theorem runN_keep : ∀ (n : Nat) (s : Sim_), (runN n s).Clock = s.Clock ∧ (runN n s).Movement = s.Movement
  | 0, _ => ⟨rfl, rfl⟩
  | n + 1, s => runN_keep n (nightS s)
theorem run_ok {s : Sim_} (h : smSim_ s) (k : Int) : ∃ x, smSim_ x.1 ∧ s_RunSim_m s k = some x ∧ i_RunSim_m s k = some x := by
  rw [s_RunSim_eq, i_RunSim_eq, s_l27Ok_eq h, i_ValidSim_eq h, Option.bind_some, Option.bind_some]
  by_cases hb : simB s = true
  · rw [hb]
    simp only [s_l00In_eq, i_within_eq, Option.bind_some, Bool.not_true, Bool.false_eq_true, if_false, s_l27Own_eq h, i_copySim_eq h]
    by_cases h1 : btw k 0 3000000 = true
    · obtain ⟨hc, hd, hf, hw, hk, hpb⟩ := simB_day hb
      have hp := perI_of hpb
      have h1' : 0 ≤ k ∧ k ≤ 3000000 := of_decide_eq_true h1
      rw [h1, w64_in (x := s.Clock + k) (by omega) (by omega)]
      simp only [Bool.not_true, Bool.false_eq_true, if_false, Option.bind_some]
      by_cases h2 : 1000000000 < s.Clock + k
      · simp only [decide_eq_true h2, if_true]
        exact ⟨(zeroS, 0, 2), zeroS_sm, rfl, rfl⟩
      · have q1 := quo_bd (a := s.Clock) (g := 86400) hk.1 (by omega)
        have q2 := quo_bd (a := s.Clock + k) (g := 86400) (by omega) (by omega)
        have q3 : s.Clock / 86400 ≤ (s.Clock + k) / 86400 := Int.ediv_le_ediv (by omega) (by omega)
        have e1 : s.Clock.tdiv 86400 = s.Clock / 86400 := Int.tdiv_eq_ediv_of_nonneg hk.1
        have e2 : (s.Clock + k).tdiv 86400 = (s.Clock + k) / 86400 := Int.tdiv_eq_ediv_of_nonneg (by omega)
        have w1 : w64 (s.Clock / 86400) = s.Clock / 86400 := w64_in (by omega) (by omega)
        have w2 : w64 ((s.Clock + k) / 86400) = (s.Clock + k) / 86400 := w64_in (by omega) (by omega)
        have hN : ((nightsN s k : Nat) : Int) = (s.Clock + k) / 86400 - s.Clock / 86400 := by unfold nightsN; omega
        have L1 : loopM iStep ((nightsN s k : Nat), tupS (clockS s (s.Clock + k))) = some (tupS (runN (nightsN s k) (clockS s (s.Clock + k)))) := by
          refine night_loop (f := tupS) (C := s.Clock + k) (c := fun j => (j : Int)) (nightsN s k) (by omega) (fun j u hj hu hc => ?_) (fun u hc => ?_) hp rfl
          · show (if 0 < ((j + 1 : Nat) : Int) then (Perpetual_midnight_Sim_4_m u).bind fun v => some (.inl (w64 (((j + 1 : Nat) : Int) - 1), tupS v)) else some (.inr (tupS u)) : Option ((Int × TupS) ⊕ TupS)) = _
            rw [if_pos (by omega), i_midnight_eq hu, Option.bind_some, w64_in (by omega) (by omega), show ((j + 1 : Nat) : Int) - 1 = (j : Int) by omega]; rfl
          · rfl
        have L2 : loopM sStep (s.Clock / 86400, tupS (clockS s (s.Clock + k))) = some (tupS (runN (nightsN s k) (clockS s (s.Clock + k)))) := by
          have e0 : s.Clock / 86400 = (s.Clock + k) / 86400 - ((nightsN s k : Nat) : Int) := by omega
          rw [e0]
          refine night_loop (f := tupS) (C := s.Clock + k) (c := fun j => (s.Clock + k) / 86400 - (j : Int)) (nightsN s k) (by omega) (fun j u hj hu hc => ?_) (fun u hc => ?_) hp rfl
          · show (if (s.Clock + k) / 86400 - ((j + 1 : Nat) : Int) < w64 (u.Clock.tdiv 86400) then (s_l18Night_Sim_4_m u).bind fun v => some (.inl (w64 ((s.Clock + k) / 86400 - ((j + 1 : Nat) : Int) + 1), tupS v)) else some (.inr (tupS u)) : Option ((Int × TupS) ⊕ TupS)) = _
            rw [hc, e2, w2, if_pos (by omega), s_l18Night_eq hu, Option.bind_some, w64_in (by omega) (by omega), show (s.Clock + k) / 86400 - ((j + 1 : Nat) : Int) + 1 = (s.Clock + k) / 86400 - (j : Int) by omega]; rfl
          · show (if (s.Clock + k) / 86400 - ((0 : Nat) : Int) < w64 (u.Clock.tdiv 86400) then (s_l18Night_Sim_4_m u).bind fun v => some (.inl (w64 ((s.Clock + k) / 86400 - ((0 : Nat) : Int) + 1), tupS v)) else some (.inr (tupS u)) : Option ((Int × TupS) ⊕ TupS)) = _
            rw [hc, e2, w2, if_neg (by omega)]
        obtain ⟨v, hv⟩ := blows_ok s.Movement.Strike s.Clock (s.Clock + k)
        have hiv : i_BlowsBetween_m s.Movement.Strike s.Clock (s.Clock + k) = some v := hv
        have kp := runN_keep (nightsN s k) (clockS s (s.Clock + k))
        have u1 : (unS (tupS (runN (nightsN s k) (clockS s (s.Clock + k))))).Clock = s.Clock + k := kp.1
        have u2 : (unS (tupS (runN (nightsN s k) (clockS s (s.Clock + k))))).Movement.Strike = s.Movement.Strike := by
          show (runN (nightsN s k) (clockS s (s.Clock + k))).Movement.Strike = _
          rw [kp.2]; rfl
        simp only [decide_eq_false h2, Bool.false_eq_true, if_false, e1, e2, w1, w2]
        rw [w64_in (x := _ - _) (by omega) (by omega), ← hN, L1, L2, Option.bind_some, Option.bind_some, u1, u2, hv, hiv]
        exact ⟨(runN (nightsN s k) (clockS s (s.Clock + k)), v.1, 0), runN_sm _ h, rfl, rfl⟩
    · rw [Bool.not_eq_true] at h1
      rw [h1]
      exact ⟨(zeroS, 0, 2), zeroS_sm, rfl, rfl⟩
  · rw [Bool.not_eq_true] at hb
    rw [hb]
    exact ⟨(zeroS, 0, 1), zeroS_sm, rfl, rfl⟩
theorem law_runSim (p0 : Sim_) (k0 : okSim_ p0) (p1 : Int) (k1 : osI p1) : l_FnExactRunSim_m p0 p1 = some true := by
  unfold l_FnExactRunSim_m
  obtain ⟨r, e, l, s⟩ := szSim_ok k0 1048576 (by omega) (by omega)
  rw [e, Option.bind_some]
  by_cases hr : r < 0
  · rw [if_pos hr]
  · rw [if_neg hr]
    have h0 := s (by omega)
    obtain ⟨x, h1, hs, hi⟩ := run_ok h0 p1
    have m0 := markSim_eq (x := p0) (k := 1) (by omega) (by omega) h0
    have m1 := markSim_eq (x := x.1) (k := 1) (by omega) (by omega) h1
    have d1 := heldSim_eq (x := x.1) (k := 1) (by omega) (by omega) h1
    have b0 := endA_b (k := 1) h0.1.2.1.1
    have b1 := endA_b (k := 1) h1.1.2.1.1
    simp only [toSim_eq h0, hs, hi, eqSim_refl h0, eqSim_refl h1, m0, m1, d1, Option.bind_some, Bool.not_true, Bool.false_eq_true, if_false, List.length_map, List.length_range, accL_len, chk_true, ne_eq, not_true_eq_false, decide_false]
    rw [if_neg (by omega)]
    simp only [Option.bind_some, Bool.false_eq_true, if_false]
    repeat rw [if_neg (by omega)]
end Go.Proofs.YtlakbomkpnlidaaGreat
