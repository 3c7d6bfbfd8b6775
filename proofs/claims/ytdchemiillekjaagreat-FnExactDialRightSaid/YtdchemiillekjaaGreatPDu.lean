/- Plain laws, Du: the number of a day and the day with a number. No program. -/
import Derived.Test.YtdchemiillekjaaGreatPDt
import Derived.Test.YtdchemiillekjaaGreatPFa
namespace Go.Proofs.YtdchemiillekjaaGreat
set_option linter.unusedVariables false
/-- the days of a year ahead of a month (from 0 on) -/
def befM (c : Calendar_) (y : Int) (k : Nat) : Int := sumN (fun j => lenM c (leapB c y) (j : Int)) k
/-- the number of a day -/
def dayN (c : Calendar_) (d : Date_) : Int := bef c d.Year.toNat + (d.Day - 1) + befM c d.Year (d.Month - 1).toNat
theorem befM_mono {c : Calendar_} (h : calB c = true) (y : Int) {m n : Nat} (hm : m ≤ n) : befM c y m ≤ befM c y n := sumN_mono (fun k => lenM_nn h _ k) hm
theorem befM_all {c : Calendar_} (y : Int) (y0 : 0 ≤ y) : befM c y c.Months.length = lenY c y.toNat := by
  unfold befM lenY sumM
  rw [show ((y.toNat : Nat) : Int) = y by omega]
theorem befM_succ (c : Calendar_) (y : Int) (k : Nat) : befM c y (k + 1) = befM c y k + lenM c (leapB c y) k := rfl
theorem dateB_iff {c : Calendar_} {d : Date_} : dateB c d = true ↔ (0 ≤ d.Year ∧ d.Year ≤ 9999) ∧ (1 ≤ d.Month ∧ d.Month ≤ c.Months.length) ∧ 1 ≤ d.Day ∧ d.Day ≤ lenM c (leapB c d.Year) (d.Month - 1) := by
  unfold dateB btw
  simp only [Bool.and_eq_true, decide_eq_true_eq]
theorem day_in {c : Calendar_} (h : calB c = true) {d : Date_} (hd : dateB c d = true) : 0 ≤ befM c d.Year (d.Month - 1).toNat ∧ bef c d.Year.toNat ≤ dayN c d ∧ dayN c d < bef c (d.Year.toNat + 1) ∧ befM c d.Year (d.Month - 1).toNat + d.Day ≤ lenY c d.Year.toNat := by
  obtain ⟨⟨y0, y1⟩, ⟨m0, m1⟩, d0, d1⟩ := dateB_iff.1 hd
  have e : (((d.Month - 1).toNat : Nat) : Int) = d.Month - 1 := by omega
  have h1 := befM_mono h d.Year (m := 0) (n := (d.Month - 1).toNat) (by omega)
  have h0 : befM c d.Year 0 = 0 := rfl
  have h2 := befM_mono h d.Year (m := (d.Month - 1).toNat + 1) (n := c.Months.length) (by omega)
  rw [befM_succ, befM_all d.Year y0, e] at h2
  rw [bef_succ]
  unfold dayN
  omega
/-- a day is known by its number -/
theorem dayN_inj {c : Calendar_} (h : calB c = true) {d e : Date_} (hd : dateB c d = true) (he : dateB c e = true) (hn : dayN c d = dayN c e) : d = e := by
  have key : ∀ {d e : Date_}, dateB c d = true → dateB c e = true → dayN c d = dayN c e → ¬ d.Year < e.Year := by
    intro d e hd he hn hlt
    obtain ⟨⟨y0, y1⟩, _⟩ := dateB_iff.1 hd
    have a := day_in h hd
    have b := day_in h he
    have := bef_mono h (m := d.Year.toNat + 1) (n := e.Year.toNat) (by omega)
    omega
  have hy : d.Year = e.Year := by
    have h1 := key hd he hn
    have h2 := key he hd hn.symm
    omega
  have keyM : ∀ {d e : Date_}, dateB c d = true → dateB c e = true → d.Year = e.Year → dayN c d = dayN c e → ¬ d.Month < e.Month := by
    intro d e hd he hy hn hlt
    obtain ⟨_, ⟨m0, m1⟩, d0, d1⟩ := dateB_iff.1 hd
    obtain ⟨_, ⟨n0, n1⟩, e0, e1⟩ := dateB_iff.1 he
    have := befM_mono h d.Year (m := (d.Month - 1).toNat + 1) (n := (e.Month - 1).toNat) (by omega)
    rw [befM_succ, show (((d.Month - 1).toNat : Nat) : Int) = d.Month - 1 by omega] at this
    unfold dayN at hn
    rw [← hy] at hn
    omega
  have hm : d.Month = e.Month := by
    have h1 := keyM hd he hy hn
    have h2 := keyM he hd hy.symm hn.symm
    omega
  have hdd : d.Day = e.Day := by
    unfold dayN at hn
    rw [← hy, ← hm] at hn
    omega
  obtain ⟨a, b, k⟩ := d
  obtain ⟨a', b', k'⟩ := e
  simp_all
/-- days of all years -/
def yrs (c : Calendar_) : Nat := 10000 + 0 * c.Months.length
theorem yrs_eq (c : Calendar_) : yrs c = 10000 := by unfold yrs; omega
def allD (c : Calendar_) : Int := bef c (yrs c)
theorem dayN_bd {c : Calendar_} (h : calB c = true) {d : Date_} (hd : dateB c d = true) : 0 ≤ dayN c d ∧ dayN c d < allD c ∧ allD c ≤ 12000000 := by
  obtain ⟨⟨y0, y1⟩, _⟩ := dateB_iff.1 hd
  have a := day_in h hd
  have b := (bef_bd h d.Year.toNat).1
  have e := bef_mono h (m := d.Year.toNat + 1) (n := yrs c) (by rw [yrs_eq]; omega)
  have f := (bef_bd h (yrs c)).2
  have g := yrs_eq c
  unfold allD
  omega
theorem i_dayOf_eq {c : Calendar_} (h : calB c = true) {d : Date_} (hd : dateB c d = true) : i_dayOf_m c d = some (dayN c d) := by
  obtain ⟨⟨y0, y1⟩, ⟨m0, m1⟩, d0, d1⟩ := dateB_iff.1 hd
  have hc := (calB_iff h).2.1
  have b := bef_bd h d.Year.toNat
  have hl := lenM_in h (leapB c d.Year) (k := d.Month - 1) (by omega) (by omega)
  unfold i_dayOf_m
  rw [i_daysBefore_eq h y0 (by omega), Option.bind_some, i_isLeap_eq h y0, Option.bind_some, w64_in (x := bef c _ + _) (by omega) (by omega), w64_in (by omega) (by omega)]
  rw [countI (fun i (s : Int) => (s, i)) 1 (d.Month - 1).toNat (fun k s => s + lenM c (leapB c d.Year) k) id (fun i s => 0 ≤ s ∧ s ≤ 12001000 + 60 * i) (by omega) (fun i s hi hs => ?_) (fun i s hi hs => ?_) (fun s hs => ?_) _ ⟨by omega, by simp; omega⟩]
  · rw [fold_sum]
    unfold dayN befM
    simp only [id, Option.bind_some]
    congr 1; try omega
  · have hi' : 1 + (i : Int) < d.Month := by omega
    have hq := lenM_in h (leapB c d.Year) (k := i) (by omega) (by omega)
    simp only [if_pos hi', i_daysOfMonth_eq h _ (m := 1 + (i : Int)) (by omega) (by omega), Option.bind_some]
    rw [show 1 + (i : Int) - 1 = i by omega, w64_in (by omega) (by omega), w64_in (by omega) (by omega)]
    congr 3; try omega
  · have hq := lenM_in h (leapB c d.Year) (k := i) (by omega) (by omega)
    omega
  · have : ¬ (1 + ((d.Month - 1).toNat : Int) < d.Month) := by omega
    simp only [if_neg this]; rfl
theorem s_l16Day_eq {c : Calendar_} (h : calB c = true) {d : Date_} (hd : dateB c d = true) : s_l16Day_m c d = some (dayN c d) := by
  obtain ⟨⟨y0, y1⟩, ⟨m0, m1⟩, d0, d1⟩ := dateB_iff.1 hd
  have hc := (calB_iff h).2.1
  have b := bef_bd h d.Year.toNat
  have hl := lenM_in h (leapB c d.Year) (k := d.Month - 1) (by omega) (by omega)
  unfold s_l16Day_m
  rw [s_l16Before_eq h y0 (by omega), Option.bind_some, w64_in (x := bef c _ + _) (by omega) (by omega), w64_in (x := bef c _ + _ - 1) (by omega) (by omega), w64_in (x := d.Month - 1) (by omega) (by omega)]
  rw [countI (fun i (s : Int) => (s, i)) 0 (d.Month - 1).toNat (fun k s => s + lenM c (leapB c d.Year) k) id (fun i s => 0 ≤ s ∧ s ≤ 12001000 + 60 * i) (by omega) (fun i s hi hs => ?_) (fun i s hi hs => ?_) (fun s hs => ?_) _ ⟨by omega, by simp; omega⟩]
  · rw [fold_sum]
    unfold dayN befM
    simp only [id, Option.bind_some]
    congr 1; try omega
  · have hi' : (i : Int) < d.Month - 1 := by omega
    have hq := lenM_in h (leapB c d.Year) (k := i) (by omega) (by omega)
    simp only [Int.zero_add, if_pos hi', s_l15Days_eq h y0 (k := (i : Int)) (by omega) (by omega), Option.bind_some]
    rw [w64_in (by omega) (by omega), w64_in (by omega) (by omega)]
    congr 3
  · have hq := lenM_in h (leapB c d.Year) (k := i) (by omega) (by omega)
    omega
  · have : ¬ ((0 : Int) + ((d.Month - 1).toNat : Int) < d.Month - 1) := by omega
    simp only [if_neg this]; rfl
/-- the year of a day -/
def YearAt (c : Calendar_) (day : Int) (s : Int × Date_) : Prop := s.2.Month = 1 ∧ s.2.Day = 0 ∧ 0 ≤ s.2.Year ∧ 0 ≤ s.1 ∧ bef c s.2.Year.toNat + s.1 = day
theorem YearAt.bd {c : Calendar_} (h : calB c = true) {day : Int} {s : Int × Date_} (hs : YearAt c day s) (hd : day < allD c) : s.2.Year ≤ 9999 ∧ s.1 ≤ 12000000 := by
  obtain ⟨_, _, h3, h4, h5⟩ := hs
  have f := (bef_bd h (yrs c)).2
  have g := (bef_bd h s.2.Year.toNat).1
  have y := yrs_eq c
  unfold allD at hd
  refine ⟨?_, by omega⟩
  refine Classical.byContradiction fun hn => ?_
  have := bef_mono h (m := yrs c) (n := s.2.Year.toNat) (by omega)
  omega
/-- a loop over years -/
theorem year_loop {c : Calendar_} (h : calB c = true) {day : Int} (hd : day < allD c) {step : Int × Date_ → Option ((Int × Date_) ⊕ (Int × Date_))}
    (hS : ∀ s, YearAt c day s → step s = some (if lenY c s.2.Year.toNat ≤ s.1 then .inl (s.1 - lenY c s.2.Year.toNat, ⟨s.2.Year + 1, s.2.Month, s.2.Day⟩) else .inr (s.1, s.2))) (s0 : Int × Date_) (h0 : YearAt c day s0) :
    ∃ x, loopM step s0 = some x ∧ YearAt c day x ∧ x.1 < lenY c x.2.Year.toNat := by
  refine loopM_of (fun s => YearAt c day s) (fun s => s.1.toNat) (fun x => YearAt c day x ∧ x.1 < lenY c x.2.Year.toNat) (fun s hI => ?_) s0 h0 (by have := (h0.bd h hd).2; omega)
  rw [hS s hI]
  have hq := lenY_bd h s.2.Year.toNat
  obtain ⟨h1, h2, h3, h4, h5⟩ := hI
  by_cases hc : lenY c s.2.Year.toNat ≤ s.1
  · left
    refine ⟨(s.1 - lenY c s.2.Year.toNat, ⟨s.2.Year + 1, s.2.Month, s.2.Day⟩), by rw [if_pos hc], ⟨h1, h2, by dsimp only; omega, by dsimp only; omega, ?_⟩, by dsimp only; omega⟩
    dsimp only
    rw [show (s.2.Year + 1).toNat = s.2.Year.toNat + 1 by omega, bef_succ]
    omega
  · right
    exact ⟨(s.1, s.2), by rw [if_neg hc], ⟨h1, h2, h3, h4, h5⟩, by dsimp only; omega⟩
/-- the month of a day -/
def MonAt (c : Calendar_) (y r : Int) (s : Int × Date_) : Prop := s.2.Year = y ∧ 1 ≤ s.2.Month ∧ s.2.Month ≤ c.Months.length ∧ 0 ≤ s.1 ∧ befM c y (s.2.Month - 1).toNat + s.1 = r
theorem mon_loop {c : Calendar_} (h : calB c = true) {y r : Int} (y0 : 0 ≤ y) (hr : r < lenY c y.toNat) {step : Int × Date_ → Option ((Int × Date_) ⊕ (Int × Date_))}
    (hS : ∀ s, MonAt c y r s → step s = some (if lenM c (leapB c y) (s.2.Month - 1) ≤ s.1 then .inl (s.1 - lenM c (leapB c y) (s.2.Month - 1), ⟨s.2.Year, s.2.Month + 1, s.2.Day⟩) else .inr (s.1, s.2))) (s0 : Int × Date_) (h0 : MonAt c y r s0) :
    ∃ x, loopM step s0 = some x ∧ MonAt c y r x ∧ x.1 < lenM c (leapB c y) (x.2.Month - 1) := by
  have hl := lenY_bd h y.toNat
  have nn : ∀ k, 0 ≤ befM c y k := fun k => befM_mono h y (m := 0) (n := k) (by omega)
  refine loopM_of (fun s => MonAt c y r s) (fun s => s.1.toNat) (fun x => MonAt c y r x ∧ x.1 < lenM c (leapB c y) (x.2.Month - 1)) (fun s hI => ?_) s0 h0 (by obtain ⟨_, _, _, h4, h5⟩ := h0; have := nn (s0.2.Month - 1).toNat; omega)
  rw [hS s hI]
  obtain ⟨h1, h2, h3, h4, h5⟩ := hI
  have hq := lenM_in h (leapB c y) (k := s.2.Month - 1) (by omega) (by omega)
  by_cases hc : lenM c (leapB c y) (s.2.Month - 1) ≤ s.1
  · left
    have e : (s.2.Month + 1 - 1).toNat = (s.2.Month - 1).toNat + 1 := by omega
    have e2 : (((s.2.Month - 1).toNat : Nat) : Int) = s.2.Month - 1 := by omega
    refine ⟨(s.1 - lenM c (leapB c y) (s.2.Month - 1), ⟨s.2.Year, s.2.Month + 1, s.2.Day⟩), by rw [if_pos hc], ⟨h1, by dsimp only; omega, ?_, by dsimp only; omega, ?_⟩, by dsimp only; omega⟩
    · dsimp only
      refine Classical.byContradiction fun hn => ?_
      have e3 : (s.2.Month - 1).toNat + 1 = c.Months.length := by omega
      have := befM_succ c y (s.2.Month - 1).toNat
      rw [e3, befM_all y y0, e2] at this
      omega
    · dsimp only
      rw [e, befM_succ, e2]
      omega
  · right
    exact ⟨(s.1, s.2), by rw [if_neg hc], ⟨h1, h2, h3, h4, h5⟩, by dsimp only; omega⟩
theorem mon_date {c : Calendar_} {day : Int} {x : Int × Date_} (hx : YearAt c day x) (hy : x.2.Year ≤ 9999) {z : Int × Date_} (hz : MonAt c x.2.Year x.1 z) (hl : z.1 < lenM c (leapB c x.2.Year) (z.2.Month - 1)) : dateB c ⟨z.2.Year, z.2.Month, z.1 + 1⟩ = true ∧ dayN c ⟨z.2.Year, z.2.Month, z.1 + 1⟩ = day := by
  obtain ⟨h1, h2, h3, h4, h5⟩ := hx
  obtain ⟨g1, g2, g3, g4, g5⟩ := hz
  refine ⟨dateB_iff.2 ⟨⟨?_, ?_⟩, ⟨g2, g3⟩, ?_, ?_⟩, ?_⟩
  · dsimp only; omega
  · dsimp only; omega
  · dsimp only; omega
  · dsimp only; rw [g1]; omega
  · unfold dayN
    dsimp only
    rw [g1]; omega
theorem i_dateOf_ok {c : Calendar_} (h : calB c = true) {day : Int} (h0 : 0 ≤ day) (h1 : day < allD c) : ∃ d, i_dateOf_m c day = some d ∧ dateB c d = true ∧ dayN c d = day := by
  have hc := (calB_iff h).2.1
  have hA : allD c ≤ 12000000 := by have := (bef_bd h (yrs c)).2; have := yrs_eq c; unfold allD; omega
  unfold i_dateOf_m
  rw [i_yearLengths_eq h, Option.bind_some]
  obtain ⟨x, ex, hx, hxl⟩ := year_loop h h1 (step := fun (s5 : Int × Date_) => ((((i_isLeap_m c s5.2.Year).bind fun v6 => (if v6 = true then some (sumM c true) else some (sumM c false))) : Option Int).bind fun v7 => (if s5.1 < v7 then some (.inr (s5.1, s5.2)) else some (.inl (w64 (s5.1 - v7), (⟨w64 (s5.2.Year + 1), s5.2.Month, s5.2.Day⟩ : Date_)))))) (fun s hs => by
    have hb := hs.bd h h1
    obtain ⟨_, _, y0, r0, _⟩ := hs
    have hq := lenY_bd h s.2.Year.toNat
    have e : (if leapB c s.2.Year = true then some (sumM c true) else some (sumM c false)) = some (lenY c s.2.Year.toNat) := by
      unfold lenY
      rw [show ((s.2.Year.toNat : Nat) : Int) = s.2.Year by omega]
      cases leapB c s.2.Year <;> rfl
    simp only [i_isLeap_eq h y0, Option.bind_some, e]
    by_cases hl : s.1 < lenY c s.2.Year.toNat
    · rw [if_pos hl, if_neg (by omega)]
    · rw [if_neg hl, if_pos (by omega), w64_in (by omega) (by omega), w64_in (by omega) (by omega)]) (day, ⟨0, 1, 0⟩) ⟨rfl, rfl, by simp, h0, by simp [bef, sumN]⟩
  have hxb := hx.bd h h1
  have hx' := hx
  obtain ⟨x1, x2, x3, x4, x5⟩ := hx'
  rw [ex, Option.bind_some, i_isLeap_eq h x3]
  simp only [Option.bind_some]
  obtain ⟨z, ez, hz, hzl⟩ := mon_loop h x3 hxl (step := fun (s13 : Int × Date_) => ((i_daysOfMonth_m c (leapB c x.2.Year) s13.2.Month).bind fun v14 => (if v14 ≤ s13.1 then ((i_daysOfMonth_m c (leapB c x.2.Year) s13.2.Month).bind fun v15 => some (.inl (w64 (s13.1 - v15), (⟨s13.2.Year, w64 (s13.2.Month + 1), s13.2.Day⟩ : Date_)))) else some (.inr (s13.1, s13.2))))) (fun s hs => by
    obtain ⟨s1, s2, s3, s4, s5⟩ := hs
    have hq := lenM_in h (leapB c x.2.Year) (k := s.2.Month - 1) (by omega) (by omega)
    have nn : 0 ≤ befM c x.2.Year (s.2.Month - 1).toNat := befM_mono h x.2.Year (m := 0) (n := (s.2.Month - 1).toNat) (by omega)
    simp only [i_daysOfMonth_eq h (leapB c x.2.Year) s2 s3, Option.bind_some]
    by_cases hl : lenM c (leapB c x.2.Year) (s.2.Month - 1) ≤ s.1
    · rw [if_pos hl, if_pos hl, w64_in (by omega) (by omega), w64_in (by omega) (by omega)]
    · rw [if_neg hl, if_neg hl]) (x.1, x.2) ⟨rfl, by dsimp only; omega, by dsimp only; omega, x4, by
      rw [x1]
      show befM c x.2.Year 0 + x.1 = x.1
      have : befM c x.2.Year 0 = 0 := rfl
      omega⟩
  rw [ez, Option.bind_some]
  obtain ⟨m1, m2, m3, m4, m5⟩ := hz
  have hq := lenM_in h (leapB c x.2.Year) (k := z.2.Month - 1) (by omega) (by omega)
  rw [w64_in (by omega) (by omega)]
  exact ⟨_, rfl, mon_date hx hxb.1 ⟨m1, m2, m3, m4, m5⟩ hzl⟩
theorem s_l16Last_eq {c : Calendar_} (h : calB c = true) : s_l16Last_m c = some (allD c - 1) := by
  have hA := bef_bd h (yrs c)
  have hy := yrs_eq c
  unfold s_l16Last_m
  have e : (10000 : Int).toNat = yrs c := by rw [yrs_eq]; rfl
  have := s_l16Before_eq h (y := 10000) (by omega) (by omega)
  rw [e] at this
  rw [this, Option.bind_some, w64_in (by omega) (by omega)]; rfl
theorem i_lastDay_eq {c : Calendar_} (h : calB c = true) : i_lastDay_m c = some (allD c - 1) := by
  have hA := bef_bd h (yrs c)
  have hy := yrs_eq c
  unfold i_lastDay_m
  have e : (10000 : Int).toNat = yrs c := by rw [yrs_eq]; rfl
  have := i_daysBefore_eq h (y := 10000) (by omega) (by omega)
  rw [e] at this
  rw [this, Option.bind_some, w64_in (by omega) (by omega)]; rfl
theorem s_l16Date_ok {c : Calendar_} (h : calB c = true) {day : Int} : (0 ≤ day ∧ day < allD c → ∃ d, s_l16Date_m c day = some (d, true) ∧ dateB c d = true ∧ dayN c d = day) ∧ (¬ (0 ≤ day ∧ day < allD c) → s_l16Date_m c day = some (⟨0, 0, 0⟩, false)) := by
  have hc := (calB_iff h).2.1
  have hA : allD c ≤ 12000000 := by have := (bef_bd h (yrs c)).2; have := yrs_eq c; unfold allD; omega
  obtain ⟨_, n0, n1, _⟩ := cycN_ok h
  unfold s_l16Date_m
  rw [s_l16Last_eq h, Option.bind_some, s_l00In_eq, Option.bind_some]
  refine ⟨fun hd => ?_, fun hd => ?_⟩
  · obtain ⟨h0, h1⟩ := hd
    have e : btw day 0 (allD c - 1) = true := decide_eq_true (by omega)
    have bc := bef_bd h (cycN c)
    rw [e, Bool.not_true, if_neg (by decide), s_l15Cycle_eq h, Option.bind_some, chk_t (by dsimp only; omega), chk_t (by dsimp only; omega)]
    dsimp only
    have hmod := Int.emod_nonneg day (show bef c (cycN c) ≠ 0 by omega)
    have hdiv := Int.emod_add_mul_ediv day (bef c (cycN c))
    have hq := quo_bd (a := day) (g := bef c (cycN c)) h0 (by omega)
    obtain ⟨q, eq⟩ : ∃ q : Nat, day / bef c (cycN c) = q := ⟨(day / bef c (cycN c)).toNat, by omega⟩
    have qc : 0 ≤ (q : Int) * (cycN c : Int) ∧ (q : Int) * (cycN c : Int) ≤ 12000000 := by
      refine ⟨Int.mul_nonneg (by omega) (by omega), ?_⟩
      have h3 : (q : Int) * (cycN c : Int) ≤ (q : Int) * bef c (cycN c) := Int.mul_le_mul_of_nonneg_left bc.1 (by omega)
      rw [eq, Int.mul_comm] at hdiv
      omega
    rw [Int.tdiv_eq_ediv_of_nonneg h0, Int.tmod_eq_emod_of_nonneg h0, eq, w64_in (x := (q : Int)) (by omega) (by omega), w64_in (x := (q : Int) * _) (by omega) (by omega)]
    obtain ⟨x, ex, hx, hxl⟩ := year_loop h h1 (step := fun (s9 : Int × Date_) => ((s_l15All_m c s9.2.Year).bind fun v10 => (if v10 ≤ s9.1 then ((s_l15All_m c s9.2.Year).bind fun v11 => some (.inl (w64 (s9.1 - v11), (⟨w64 (s9.2.Year + 1), s9.2.Month, s9.2.Day⟩ : Date_)))) else some (.inr (s9.1, s9.2))))) (fun s hs => by
      have hb := hs.bd h h1
      obtain ⟨_, _, y0, r0, _⟩ := hs
      have hq := lenY_bd h s.2.Year.toNat
      simp only [s_l15All_eq h y0, Option.bind_some]
      by_cases hl : lenY c s.2.Year.toNat ≤ s.1
      · rw [if_pos hl, if_pos hl, w64_in (by omega) (by omega), w64_in (by omega) (by omega)]
      · rw [if_neg hl, if_neg hl]) (day % bef c (cycN c), ⟨(q : Int) * (cycN c : Int), 1, 0⟩) ⟨rfl, rfl, qc.1, hmod, by
        have e4 : ((q : Int) * (cycN c : Int)).toNat = q * cycN c + 0 := by
          rw [← Int.natCast_mul, Int.toNat_natCast]; omega
        dsimp only
        rw [e4, bef_cyc h]
        have : bef c 0 = 0 := rfl
        rw [eq, Int.mul_comm] at hdiv
        omega⟩
    have hxb := hx.bd h h1
    have hx' := hx
    obtain ⟨x1, x2, x3, x4, x5⟩ := hx'
    rw [ex, Option.bind_some]
    obtain ⟨z, ez, hz, hzl⟩ := mon_loop h x3 hxl (step := fun (s16 : Int × Date_) => ((s_l15Days_m c s16.2.Year (w64 (s16.2.Month - 1))).bind fun v17 => (if v17 ≤ s16.1 then ((s_l15Days_m c s16.2.Year (w64 (s16.2.Month - 1))).bind fun v18 => some (.inl (w64 (s16.1 - v18), (⟨s16.2.Year, w64 (s16.2.Month + 1), s16.2.Day⟩ : Date_)))) else some (.inr (s16.1, s16.2))))) (fun s hs => by
      obtain ⟨s1, s2, s3, s4, s5⟩ := hs
      have hq := lenM_in h (leapB c x.2.Year) (k := s.2.Month - 1) (by omega) (by omega)
      have nn : 0 ≤ befM c x.2.Year (s.2.Month - 1).toNat := befM_mono h x.2.Year (m := 0) (n := (s.2.Month - 1).toNat) (by omega)
      rw [w64_in (x := s.2.Month - 1) (by omega) (by omega), s1]
      simp only [s_l15Days_eq h x3 (k := s.2.Month - 1) (by omega) (by omega), Option.bind_some]
      by_cases hl : lenM c (leapB c x.2.Year) (s.2.Month - 1) ≤ s.1
      · rw [if_pos hl, if_pos hl, w64_in (by omega) (by omega), w64_in (by omega) (by omega)]
      · rw [if_neg hl, if_neg hl]) (x.1, x.2) ⟨rfl, by dsimp only; omega, by dsimp only; omega, x4, by
        rw [x1]
        show befM c x.2.Year 0 + x.1 = x.1
        have : befM c x.2.Year 0 = 0 := rfl
        omega⟩
    rw [ez, Option.bind_some]
    obtain ⟨m1, m2, m3, m4, m5⟩ := hz
    have hq := lenM_in h (leapB c x.2.Year) (k := z.2.Month - 1) (by omega) (by omega)
    rw [w64_in (by omega) (by omega)]
    exact ⟨_, rfl, mon_date hx hxb.1 ⟨m1, m2, m3, m4, m5⟩ hzl⟩
  · have e : btw day 0 (allD c - 1) = false := decide_eq_false (by omega)
    rw [e]; rfl
end Go.Proofs.YtdchemiillekjaaGreat
