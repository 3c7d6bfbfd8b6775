/- Plain laws, Dw: the day of a simulation, and whether its dial is right. No program. -/
import Derived.Test.YtdchemiillekjaaGreatPDu
namespace Go.Proofs.YtdchemiillekjaaGreat
set_option linter.unusedVariables false
theorem simB_iff {s : Sim_} (h : simB s = true) : movB s.Movement = true ∧ faultsR s.Movement = [] ∧ (setR s.Movement.Calendar s.Movement.Cam s.Start s.First).2 = 0 ∧ (0 ≤ s.Clock ∧ s.Clock ≤ 1000000000) ∧ perB s.Dial = true := by
  unfold simB at h
  simp only [Bool.and_eq_true, decide_eq_true_eq] at h
  exact ⟨h.1, h.2.1, h.2.2.1, of_decide_eq_true h.2.2.2.1, h.2.2.2.2.1⟩
theorem setR_ok {c : Calendar_} {cam : List Int} {d : Date_} {wd : Int} (h : (setR c cam d wd).2 = 0) : askC c cam = 0 ∧ dateB c d = true ∧ 1 ≤ wd ∧ wd ≤ c.Week := by
  unfold setR at h
  split at h
  · rename_i h1
    split at h
    · rename_i h2
      rw [Bool.and_eq_true] at h2
      exact ⟨h1, h2.1, of_decide_eq_true h2.2⟩
    · cases h
  · rename_i h1; exact absurd h h1
theorem simB_day {s : Sim_} (h : simB s = true) : calB s.Movement.Calendar = true ∧ dateB s.Movement.Calendar s.Start = true ∧ (1 ≤ s.First ∧ s.First ≤ s.Movement.Calendar.Week) ∧ (1 ≤ s.Movement.Calendar.Week ∧ s.Movement.Calendar.Week ≤ 12) ∧ (0 ≤ s.Clock ∧ s.Clock ≤ 1000000000) ∧ perB s.Dial = true := by
  obtain ⟨h1, _, h3, h4, h5⟩ := simB_iff h
  obtain ⟨_, g2, g3⟩ := setR_ok h3
  have hc := (movB_cal h1).1
  exact ⟨hc, g2, g3, (calB_iff hc).2.2.2.1, h4, h5⟩
/-- the day of a valid simulation -/
def DayR (s : Sim_) (r : Option Date_) : Prop :=
  (dayN s.Movement.Calendar s.Start + s.Clock / 86400 < allD s.Movement.Calendar ∧ ∃ d, r = some d ∧ dateB s.Movement.Calendar d = true ∧ dayN s.Movement.Calendar d = dayN s.Movement.Calendar s.Start + s.Clock / 86400) ∨ (¬ dayN s.Movement.Calendar s.Start + s.Clock / 86400 < allD s.Movement.Calendar ∧ r = none)
theorem dayR_inj {s : Sim_} (h : simB s = true) {a b : Option Date_} (ha : DayR s a) (hb : DayR s b) : a = b := by
  have hc := (simB_day h).1
  rcases ha with ⟨h1, d, rfl, d1, d2⟩ | ⟨h1, rfl⟩
  · rcases hb with ⟨_, e, rfl, e1, e2⟩ | ⟨h2, rfl⟩
    · rw [dayN_inj hc d1 e1 (d2.trans e2.symm)]
    · exact absurd h1 h2
  · rcases hb with ⟨h2, _⟩ | ⟨_, rfl⟩
    · exact absurd h2 h1
    · rfl
def wdR (s : Sim_) : Int := w64 ((w64 (w64 (s.First - 1) + s.Clock / 86400)).tmod s.Movement.Calendar.Week + 1)
theorem i_dayOfSim_ok {s : Sim_} (hs : smSim_ s) (h : simB s = true) : ∃ r, DayR s r ∧ i_dayOfSim_m s = some (match r with
    | some d => (d, wdR s, 0)
    | none => (⟨0, 0, 0⟩, 0, 2)) := by
  obtain ⟨c1, c2, _⟩ := smC hs.1
  obtain ⟨hc, hd, hf, hw, hk, _⟩ := simB_day h
  have hb := dayN_bd hc hd
  have hq := quo_bd (a := s.Clock) (g := 86400) hk.1 (by omega)
  unfold i_dayOfSim_m i_AddDays_m i_DayOf_m i_shifted_m
  rw [Int.tdiv_eq_ediv_of_nonneg hk.1, w64_in (x := s.Clock / 86400) (by omega) (by omega), i_ValidCalendar_eq (by omega) (by omega), hc]
  simp only [Bool.not_true, Bool.false_eq_true, if_false, Option.bind_some, i_ValidDate_eq (show s.Movement.Calendar.Months.length ≤ 9223372036854775807 by omega) (show s.Movement.Calendar.Rules.length ≤ 9223372036854775807 by omega), hc, hd, Bool.and_self, i_dayOf_eq hc hd, ne_eq, not_true_eq_false, i_lastDay_eq hc, i_within_eq]
  rw [w64_in (x := -dayN _ _) (by omega) (by omega), w64_in (x := allD _ - 1 - dayN _ _) (by omega) (by omega)]
  by_cases hl : dayN s.Movement.Calendar s.Start + s.Clock / 86400 < allD s.Movement.Calendar
  · have e : btw (s.Clock / 86400) (-dayN s.Movement.Calendar s.Start) (allD s.Movement.Calendar - 1 - dayN s.Movement.Calendar s.Start) = true := decide_eq_true (by omega)
    obtain ⟨d, e1, e2, e3⟩ := i_dateOf_ok hc (day := dayN s.Movement.Calendar s.Start + s.Clock / 86400) (by omega) hl
    refine ⟨some d, .inl ⟨hl, d, rfl, e2, e3⟩, ?_⟩
    rw [e, Bool.not_true, if_neg (by decide), w64_in (x := dayN _ _ + _) (by omega) (by omega), e1]
    simp only [Option.bind_some, not_true_eq_false, if_false]
    rw [chk_t (by omega)]; rfl
  · have e : btw (s.Clock / 86400) (-dayN s.Movement.Calendar s.Start) (allD s.Movement.Calendar - 1 - dayN s.Movement.Calendar s.Start) = false := decide_eq_false (by omega)
    refine ⟨none, .inr ⟨hl, rfl⟩, ?_⟩
    rw [e]; rfl
theorem s_l27Day_ok {s : Sim_} (h : simB s = true) : ∃ r, DayR s r ∧ s_l27Day_m s = some (match r with
    | some d => (d, true)
    | none => (⟨0, 0, 0⟩, false)) := by
  obtain ⟨hc, hd, hf, hw, hk, _⟩ := simB_day h
  have hb := dayN_bd hc hd
  have hq := quo_bd (a := s.Clock) (g := 86400) hk.1 (by omega)
  unfold s_l27Day_m
  rw [s_l16Day_eq hc hd, Option.bind_some, Int.tdiv_eq_ediv_of_nonneg hk.1, w64_in (x := s.Clock / 86400) (by omega) (by omega), w64_in (by omega) (by omega)]
  obtain ⟨g1, g2⟩ := s_l16Date_ok hc (day := dayN s.Movement.Calendar s.Start + s.Clock / 86400)
  by_cases hl : dayN s.Movement.Calendar s.Start + s.Clock / 86400 < allD s.Movement.Calendar
  · obtain ⟨d, e1, e2, e3⟩ := g1 ⟨by omega, hl⟩
    exact ⟨some d, .inl ⟨hl, d, rfl, e2, e3⟩, by rw [e1]; rfl⟩
  · exact ⟨none, .inr ⟨hl, rfl⟩, by rw [g2 (by omega)]; rfl⟩
theorem eqDt_refl (d : Date_) : l_eqDate_m d d = some true := by unfold l_eqDate_m; simp
theorem law_dayOfSim (p0 : Sim_) (k0 : okSim_ p0) : l_FnExactDayOfSim_m p0 = some true := by
  unfold l_FnExactDayOfSim_m
  obtain ⟨r, e, l, s⟩ := szSim_ok k0 1048576 (by omega) (by omega)
  rw [e, Option.bind_some]
  by_cases hr : r < 0
  · rw [if_pos hr]
  · rw [if_neg hr]
    have h0 := s (by omega)
    have hx : ∃ x, s_DayOfSim_m p0 = some x ∧ i_DayOfSim_m p0 = some x := by
      unfold s_DayOfSim_m i_DayOfSim_m
      rw [s_l27Ok_eq h0, i_ValidSim_eq h0, Option.bind_some, Option.bind_some]
      by_cases hb : simB p0 = true
      · obtain ⟨a, a1, a2⟩ := i_dayOfSim_ok h0 hb
        obtain ⟨b, b1, b2⟩ := s_l27Day_ok hb
        have hab := dayR_inj hb a1 b1
        subst hab
        rw [hb, a2, b2]
        cases a with
        | none => exact ⟨(⟨0, 0, 0⟩, 2), rfl, rfl⟩
        | some d => exact ⟨(d, 0), rfl, rfl⟩
      · rw [Bool.not_eq_true] at hb
        rw [hb]
        exact ⟨_, rfl, rfl⟩
    obtain ⟨x, e1, e2⟩ := hx
    simp [toSim_eq h0, e1, e2, eqSim_refl h0, eqDt_refl]
theorem perB_months {p : Perpetual_} (h : perB p = true) : 1 ≤ p.Months := by
  unfold perB at h
  simp only [Bool.and_eq_true, decide_eq_true_eq] at h
  exact h.2.1
theorem shows_eq {p : Perpetual_} (m d : Int) : i_shows_m p m d = s_l18Shows_m p m d := by
  unfold i_shows_m s_l18Shows_m i_shownMonth_m chk
  by_cases h1 : p.Day = d <;> by_cases h2 : p.Months = 0 <;> simp [h1, h2]
theorem shows_ok {p : Perpetual_} (h : perB p = true) (m d : Int) : ∃ b, s_l18Shows_m p m d = some b := by
  have := perB_months h
  unfold s_l18Shows_m
  split
  · rw [chk_t (by omega)]; exact ⟨_, rfl⟩
  · exact ⟨_, rfl⟩
theorem s_l27Weekday_eq {s : Sim_} (h : simB s = true) : s_l27Weekday_m s = some (wdR s) := by
  obtain ⟨hc, hd, hf, hw, hk, _⟩ := simB_day h
  have hq := quo_bd (a := s.Clock) (g := 86400) hk.1 (by omega)
  unfold s_l27Weekday_m wdR
  rw [chk_t (by omega), Int.tdiv_eq_ediv_of_nonneg hk.1, w64_in (x := s.Clock / 86400) (by omega) (by omega)]
theorem law_dialRight (p0 : Sim_) (k0 : okSim_ p0) : l_FnExactDialRight_m p0 = some true := by
  unfold l_FnExactDialRight_m
  obtain ⟨r, e, l, s⟩ := szSim_ok k0 1048576 (by omega) (by omega)
  rw [e, Option.bind_some]
  by_cases hr : r < 0
  · rw [if_pos hr]
  · rw [if_neg hr]
    have h0 := s (by omega)
    have hx : ∃ x, s_DialRight_m p0 = some x ∧ i_DialRight_m p0 = some x := by
      unfold s_DialRight_m i_DialRight_m
      rw [s_l27Ok_eq h0, i_ValidSim_eq h0, Option.bind_some, Option.bind_some]
      by_cases hb : simB p0 = true
      · obtain ⟨a, a1, a2⟩ := i_dayOfSim_ok h0 hb
        obtain ⟨b, b1, b2⟩ := s_l27Day_ok hb
        have hab := dayR_inj hb a1 b1
        subst hab
        rw [hb, a2, b2]
        cases a with
        | none => exact ⟨false, rfl, rfl⟩
        | some d =>
          obtain ⟨v, hv⟩ := shows_ok (simB_day hb).2.2.2.2.2 d.Month d.Day
          simp only [Bool.not_true, Bool.false_eq_true, if_false, Option.bind_some, if_true, shows_eq, hv, s_l27Weekday_eq hb]
          cases v
          · exact ⟨false, rfl, rfl⟩
          · exact ⟨_, rfl, rfl⟩
      · rw [Bool.not_eq_true] at hb
        rw [hb]
        exact ⟨_, rfl, rfl⟩
    obtain ⟨x, e1, e2⟩ := hx
    simp [toSim_eq h0, e1, e2, eqSim_refl h0]
end Go.Proofs.YtdchemiillekjaaGreat
