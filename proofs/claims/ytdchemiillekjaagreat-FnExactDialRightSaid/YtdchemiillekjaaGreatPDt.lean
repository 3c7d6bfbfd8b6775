/- Plain laws, Dt: the numbers of days. No program. -/
import Derived.Test.YtdchemiillekjaaGreatPPp
namespace Go.Proofs.YtdchemiillekjaaGreat
set_option linter.unusedVariables false
def sumN (g : Nat → Int) : Nat → Int
  | 0 => 0
  | n + 1 => sumN g n + g n
theorem fold_sum (g : Nat → Int) : ∀ (n : Nat) (a : Int), (List.range n).foldl (fun s k => s + g k) a = a + sumN g n
  | 0, a => by simp [sumN]
  | n + 1, a => by rw [List.range_succ, List.foldl_append, fold_sum g n]; simp only [List.foldl_cons, List.foldl_nil, sumN]; omega
theorem sumN_bd {g : Nat → Int} {lo hi : Int} {n : Nat} (h : ∀ k, k < n → lo ≤ g k ∧ g k ≤ hi) : lo * n ≤ sumN g n ∧ sumN g n ≤ hi * n := by
  induction n with
  | zero => simp [sumN]
  | succ n ih =>
    have h1 := ih fun k hk => h k (by omega)
    have h2 := h n (by omega)
    have e1 : lo * ((n + 1 : Nat) : Int) = lo * n + lo := by push_cast; rw [Int.mul_add]; omega
    have e2 : hi * ((n + 1 : Nat) : Int) = hi * n + hi := by push_cast; rw [Int.mul_add]; omega
    rw [e1, e2]
    unfold sumN
    omega
theorem sumN_add (g : Nat → Int) (m : Nat) : ∀ n, sumN g (m + n) = sumN g m + sumN (fun k => g (m + k)) n
  | 0 => by simp [sumN]
  | n + 1 => by
    show sumN g (m + n) + g (m + n) = _
    rw [sumN_add g m n]
    simp only [sumN]; omega
theorem sumN_congr {g h : Nat → Int} {n : Nat} (e : ∀ k, k < n → g k = h k) : sumN g n = sumN h n := by
  induction n with
  | zero => rfl
  | succ n ih => simp only [sumN]; rw [ih fun k hk => e k (by omega), e n (by omega)]
theorem sumN_mono {g : Nat → Int} (h : ∀ k, 0 ≤ g k) {m n : Nat} (hm : m ≤ n) : sumN g m ≤ sumN g n := by
  obtain ⟨k, rfl⟩ : ∃ k, n = m + k := ⟨n - m, by omega⟩
  rw [sumN_add]
  have := (sumN_bd (g := fun k => g (m + k)) (lo := 0) (hi := 0 + 1) (n := 0) fun k hk => by omega)
  have h2 : ∀ j, 0 ≤ sumN (fun k => g (m + k)) j := fun j => by
    induction j with
    | zero => simp [sumN]
    | succ j ih => have := h (m + j); simp only [sumN]; omega
  have := h2 k
  omega
theorem sumN_mul {g : Nat → Int} {p : Nat} (h : ∀ k, g (p + k) = g k) : ∀ q : Nat, sumN g (q * p) = q * sumN g p
  | 0 => by simp [sumN]
  | q + 1 => by
    rw [show (q + 1) * p = p + q * p by rw [Nat.add_mul]; omega, sumN_add, sumN_congr (h := g) fun k _ => h k, sumN_mul h q]
    push_cast
    rw [Int.add_mul]; omega
/-! lengths -/
def sumM (c : Calendar_) (l : Bool) : Int := sumN (fun k => lenM c l (k : Int)) c.Months.length
def lenY (c : Calendar_) (y : Nat) : Int := sumM c (leapB c y)
/-- the days ahead of a year -/
def bef (c : Calendar_) (y : Nat) : Int := sumN (lenY c) y
theorem lenM_nn {c : Calendar_} (h : calB c = true) (l : Bool) (k : Nat) : 0 ≤ lenM c l k := by
  by_cases hk : k < c.Months.length
  · have := lenM_in h l (k := k) (by omega) (by omega); omega
  · unfold lenM monAt
    rw [List.getD_eq_getElem?_getD, List.getElem?_eq_none (by simpa using hk)]
    cases l <;> simp
theorem sumM_bd {c : Calendar_} (h : calB c = true) (l : Bool) : 1 ≤ sumM c l ∧ sumM c l ≤ 1200 := by
  have hc := (calB_iff h).2.1
  have := sumN_bd (g := fun k => lenM c l (k : Int)) (lo := 1) (hi := 60) (n := c.Months.length) fun k hk => lenM_in h l (by omega) (by omega)
  unfold sumM
  omega
theorem lenY_bd {c : Calendar_} (h : calB c = true) (y : Nat) : 1 ≤ lenY c y ∧ lenY c y ≤ 1200 := sumM_bd h _
theorem bef_bd {c : Calendar_} (h : calB c = true) (y : Nat) : (y : Int) ≤ bef c y ∧ bef c y ≤ 1200 * y := by
  have := sumN_bd (g := lenY c) (lo := 1) (hi := 1200) (n := y) fun k _ => lenY_bd h k
  unfold bef
  omega
theorem bef_mono {c : Calendar_} (h : calB c = true) {m n : Nat} (hm : m ≤ n) : bef c m ≤ bef c n := sumN_mono (fun k => by have := (lenY_bd h k).1; omega) hm
theorem bef_succ (c : Calendar_) (y : Nat) : bef c (y + 1) = bef c y + lenY c y := rfl
/-! the cycle -/
theorem cyc_dvd {rs : List LeapRule_} : ∀ {y : Int}, 1 ≤ y → y ≤ 2000 → rs.all ruleB = true → rs.foldl cycF y ≤ 2000 → y ∣ rs.foldl cycF y ∧ (∀ r ∈ rs, r.Every ∣ rs.foldl cycF y) ∧ 1 ≤ rs.foldl cycF y := by
  induction rs with
  | nil => intro y h0 h1 _ _; exact ⟨Int.dvd_refl _, fun r hr => by simp at hr, h0⟩
  | cons r rs ih =>
    intro y h0 h1 hb hc
    rw [List.all_cons, Bool.and_eq_true] at hb
    rw [List.foldl_cons] at hc ⊢
    have hq := ruleB_iff.1 hb.1
    have hs := cyc_step h0 h1 hq.1.1 hq.1.2
    have e : cycF y r = y / (Int.gcd y r.Every : Int) * r.Every := by unfold cycF; rw [if_pos h1]
    rw [e] at hc ⊢
    have hle : y / (Int.gcd y r.Every : Int) * r.Every ≤ 2000 := by
      refine Classical.byContradiction fun hn => ?_
      rw [cyc_high (Int.not_le.1 hn)] at hc
      exact hn hc
    obtain ⟨d1, d2, d3⟩ := ih hs.2.2.1 hle hb.2 hc
    have hy : y ∣ y / (Int.gcd y r.Every : Int) * r.Every := by
      obtain ⟨a, ha⟩ : (Int.gcd y r.Every : Int) ∣ y := Int.gcd_dvd_left ..
      obtain ⟨b, hb⟩ : (Int.gcd y r.Every : Int) ∣ r.Every := Int.gcd_dvd_right ..
      have hg := gcd_pos (n := y) (d := r.Every) (by omega)
      refine ⟨b, ?_⟩
      have hg0 : (Int.gcd y r.Every : Int) ≠ 0 := by omega
      generalize (Int.gcd y r.Every : Int) = g at *
      have e1 : y / g = a := by rw [ha]; exact Int.mul_ediv_cancel_left a hg0
      rw [e1, hb, ha]
      grind
    refine ⟨Int.dvd_trans hy d1, fun r' hr' => ?_, d3⟩
    rcases List.mem_cons.1 hr' with rfl | hr'
    · exact Int.dvd_trans (Int.dvd_mul_left ..) d1
    · exact d2 r' hr'
/-- the years of the cycle -/
def cycN (c : Calendar_) : Nat := (cyc c.Rules).toNat
theorem cycN_ok {c : Calendar_} (h : calB c = true) : (cycN c : Int) = cyc c.Rules ∧ 1 ≤ cycN c ∧ cycN c ≤ 2000 ∧ ∀ r ∈ c.Rules, r.Every ∣ (cycN c : Int) := by
  obtain ⟨_, _, _, _, _, hb, hc⟩ := calB_iff h
  obtain ⟨_, d2, d3⟩ := cyc_dvd (y := 1) (by omega) (by omega) hb hc
  have e : (cycN c : Int) = cyc c.Rules := by unfold cycN; have : 1 ≤ cyc c.Rules := d3; omega
  refine ⟨e, ?_, ?_, fun r hr => by rw [e]; exact d2 r hr⟩
  · have : 1 ≤ cyc c.Rules := d3; omega
  · omega
theorem leap_fold {rs : List LeapRule_} {y z : Int} (h : ∀ r ∈ rs, y % r.Every = z % r.Every) : ∀ b, rs.foldl (leapF y) b = rs.foldl (leapF z) b := by
  induction rs with
  | nil => intro b; rfl
  | cons r rs ih =>
    intro b
    rw [List.foldl_cons, List.foldl_cons]
    have : leapF y b r = leapF z b r := by unfold leapF; rw [h r (List.mem_cons_self ..)]
    rw [this]
    exact ih (fun r hr => h r (List.mem_cons_of_mem _ hr)) _
theorem leap_cyc {c : Calendar_} (h : calB c = true) (k : Nat) : lenY c (cycN c + k) = lenY c k := by
  unfold lenY leapB
  rw [leap_fold (y := ((cycN c + k : Nat) : Int)) (z := (k : Int)) fun r hr => ?_]
  obtain ⟨q, e⟩ := (cycN_ok h).2.2.2 r hr
  push_cast
  rw [e, Int.add_comm, Int.add_mul_emod_self_left]
theorem leap_cycs {c : Calendar_} (h : calB c = true) (k : Nat) : ∀ q : Nat, lenY c (q * cycN c + k) = lenY c k
  | 0 => by simp
  | q + 1 => by
    rw [show (q + 1) * cycN c + k = cycN c + (q * cycN c + k) by rw [Nat.add_mul]; omega, leap_cyc h]
    exact leap_cycs h k q
theorem bef_cyc {c : Calendar_} (h : calB c = true) (q r : Nat) : bef c (q * cycN c + r) = q * bef c (cycN c) + bef c r := by
  unfold bef
  rw [sumN_add, sumN_mul (leap_cyc h), sumN_congr (h := lenY c) fun k _ => leap_cycs h k q]
/-! the models -/
theorem i_yearLengths_eq {c : Calendar_} (h : calB c = true) : i_yearLengths_m c = some (sumM c false, sumM c true) := by
  have hc := (calB_iff h).2.1
  unfold i_yearLengths_m
  rw [countI (fun i (s : Int × Int) => (s.1, s.2, i)) 0 c.Months.length (fun k s => (s.1 + lenM c false k, s.2 + lenM c true k)) id (fun i s => 0 ≤ s.1 ∧ s.1 ≤ 60 * i ∧ 0 ≤ s.2 ∧ s.2 ≤ 60 * i) (by omega) (fun i s hi hs => ?_) (fun i s hi hs => ?_) (fun s hs => by simp) (0, 0) ⟨by simp, by simp, by simp, by simp⟩]
  · have : ∀ (n : Nat) (a b : Int), (List.range n).foldl (fun (s : Int × Int) (k : Nat) => (s.1 + lenM c false (k : Int), s.2 + lenM c true (k : Int))) (a, b) = (a + sumN (fun k => lenM c false (k : Int)) n, b + sumN (fun k => lenM c true (k : Int)) n) := by
      intro n
      induction n with
      | zero => intro a b; simp [sumN]
      | succ n ih =>
        intro a b
        rw [List.range_succ, List.foldl_append, ih]
        simp only [List.foldl_cons, List.foldl_nil, sumN]
        congr 1 <;> omega
    rw [this]
    simp [sumM]
  · have hi' : (i : Int) < c.Months.length := by omega
    have hm := monAt_ok (c := c) (k := i) (by omega) hi'
    have hq := mon_in h hm.2
    have e1 : (monAt c (i : Int)).Days = lenM c false i := rfl
    have e2 : (monAt c (i : Int)).Leap = lenM c true i := rfl
    simp only [Int.zero_add, if_pos hi', hm.1, Option.bind_some]
    rw [w64_in (by omega) (by omega), w64_in (by omega) (by omega), w64_in (by omega) (by omega), e1, e2]
    congr 3
  · have hm := monAt_ok (c := c) (k := i) (by omega) (by omega)
    have hq := mon_in h hm.2
    have e1 : (monAt c (i : Int)).Days = lenM c false i := rfl
    have e2 : (monAt c (i : Int)).Leap = lenM c true i := rfl
    dsimp only
    rw [← e1, ← e2]
    omega
theorem i_daysBefore_eq {c : Calendar_} (h : calB c = true) {y : Int} (y0 : 0 ≤ y) (y1 : y ≤ 10000) : i_daysBefore_m c y = some (bef c y.toNat) := by
  unfold i_daysBefore_m
  rw [i_yearLengths_eq h, Option.bind_some]
  rw [countI (fun i (s : Int) => (s, i)) 0 y.toNat (fun k s => s + lenY c k) id (fun i s => 0 ≤ s ∧ s ≤ 1200 * i) (by omega) (fun i s hi hs => ?_) (fun i s hi hs => ?_) (fun s hs => ?_) 0 ⟨by simp, by simp⟩]
  · rw [fold_sum]; simp [bef]
  · have hi' : (i : Int) < y := by omega
    have hq := lenY_bd h i
    have e : (if leapB c (i : Int) = true then some (w64 (s + sumM c true)) else some (w64 (s + sumM c false))) = some (s + lenY c i) := by
      unfold lenY at hq ⊢
      cases hl : leapB c (i : Int)
      · rw [hl] at hq; rw [if_neg (by decide), w64_in (by omega) (by omega)]
      · rw [hl] at hq; rw [if_pos rfl, w64_in (by omega) (by omega)]
    simp only [Int.zero_add, if_pos hi', i_isLeap_eq h (y := (i : Int)) (by omega), Option.bind_some, e]
    rw [w64_in (by omega) (by omega)]
    congr 3
  · have hq := lenY_bd h i
    omega
  · have : ¬ ((0 : Int) + (y.toNat : Int) < y) := by omega
    simp only [if_neg this]; rfl
theorem s_l15All_eq {c : Calendar_} (h : calB c = true) {y : Int} (y0 : 0 ≤ y) : s_l15All_m c y = some (lenY c y.toNat) := by
  have hc := (calB_iff h).2.1
  have ey : ((y.toNat : Nat) : Int) = y := by omega
  unfold s_l15All_m
  rw [countI (fun i (s : Int) => (s, i)) 0 c.Months.length (fun k s => s + lenM c (leapB c y) k) id (fun i s => 0 ≤ s ∧ s ≤ 60 * i) (by omega) (fun i s hi hs => ?_) (fun i s hi hs => ?_) (fun s hs => by simp) 0 ⟨by simp, by simp⟩]
  · rw [fold_sum]
    unfold lenY sumM
    rw [ey]; simp
  · have hi' : (i : Int) < c.Months.length := by omega
    have hq := lenM_in h (leapB c y) (k := i) (by omega) hi'
    simp only [Int.zero_add, if_pos hi', s_l15Days_eq h y0 (k := (i : Int)) (by omega) hi', Option.bind_some]
    rw [w64_in (by omega) (by omega), w64_in (by omega) (by omega)]
    congr 3
  · have hq := lenM_in h (leapB c y) (k := i) (by omega) (by omega)
    omega
theorem s_l15Cycle_eq {c : Calendar_} (h : calB c = true) : s_l15Cycle_m c = some ((cycN c : Int), bef c (cycN c)) := by
  obtain ⟨_, _, hr, _, _, hb, hc⟩ := calB_iff h
  obtain ⟨e, n0, n1, _⟩ := cycN_ok h
  unfold s_l15Cycle_m
  rw [s_l15Years_eq (by omega), if_pos ⟨hb, hc⟩, Option.bind_some, ← e]
  rw [countI (fun i (s : Int) => (s, i)) 0 (cycN c) (fun k s => s + lenY c k) id (fun i s => 0 ≤ s ∧ s ≤ 1200 * i) (by omega) (fun i s hi hs => ?_) (fun i s hi hs => ?_) (fun s hs => by simp) 0 ⟨by simp, by simp⟩]
  · rw [fold_sum]; simp [bef]
  · have hi' : (i : Int) < (cycN c : Int) := by omega
    have hq := lenY_bd h i
    have := s_l15All_eq h (y := (i : Int)) (by omega)
    rw [Int.toNat_natCast] at this
    simp only [Int.zero_add, if_pos hi', this, Option.bind_some]
    rw [w64_in (by omega) (by omega), w64_in (by omega) (by omega)]
    congr 3
  · have hq := lenY_bd h i
    omega
theorem s_l16Before_eq {c : Calendar_} (h : calB c = true) {y : Int} (y0 : 0 ≤ y) (y1 : y ≤ 10000) : s_l16Before_m c y = some (bef c y.toNat) := by
  obtain ⟨e, n0, n1, _⟩ := cycN_ok h
  unfold s_l16Before_m
  rw [s_l15Cycle_eq h, Option.bind_some, chk_t (by omega), chk_t (by omega)]
  dsimp only
  have hmod := Int.emod_nonneg y (show (cycN c : Int) ≠ 0 by omega)
  have hlt := Int.emod_lt_of_pos y (show 0 < (cycN c : Int) by omega)
  have hdiv := Int.emod_add_mul_ediv y (cycN c)
  have hq := quo_bd (a := y) (g := (cycN c : Int)) y0 (by omega)
  obtain ⟨q, eq⟩ : ∃ q : Nat, y / (cycN c : Int) = q := ⟨(y / (cycN c : Int)).toNat, by omega⟩
  obtain ⟨r, er⟩ : ∃ r : Nat, y % (cycN c : Int) = r := ⟨(y % (cycN c : Int)).toNat, by omega⟩
  have ey : y = ((q * cycN c + r : Nat) : Int) := by rw [eq, er] at hdiv; push_cast; rw [Int.mul_comm (q : Int)]; omega
  have eb : bef c y.toNat = q * bef c (cycN c) + bef c r := by rw [← bef_cyc h, ey]; congr 1
  have b1 := bef_bd h (cycN c)
  have b2 := bef_bd h y.toNat
  have b3 := bef_bd h r
  have hqb : 0 ≤ (q : Int) * bef c (cycN c) ∧ (q : Int) * bef c (cycN c) ≤ 12000000 := by
    refine ⟨Int.mul_nonneg (by omega) (by omega), by omega⟩
  rw [Int.tdiv_eq_ediv_of_nonneg y0, Int.tmod_eq_emod_of_nonneg y0, eq, er, w64_in (x := (q : Int)) (by omega) (by omega), w64_in (x := (q : Int) * _) (by omega) (by omega), w64_in (x := y - r) (by omega) (by omega)]
  rw [countI (fun i (s : Int) => (s, i)) (y - r) r (fun k s => s + lenY c k) id (fun i s => 0 ≤ s ∧ s ≤ 12000000 + 1200 * i) (by omega) (fun i s hi hs => ?_) (fun i s hi hs => ?_) (fun s hs => ?_) _ ⟨hqb.1, by simp; omega⟩]
  · rw [fold_sum, eb]; rfl
  · have hi' : y - r + (i : Int) < y := by omega
    have hq := lenY_bd h i
    have := s_l15All_eq h (y := y - r + (i : Int)) (by omega)
    have et : (y - (r : Int) + (i : Int)).toNat = q * cycN c + i := by omega
    rw [et, leap_cycs h] at this
    simp only [if_pos hi', this, Option.bind_some]
    rw [w64_in (by omega) (by omega), w64_in (by omega) (by omega)]
    congr 3
    push_cast; omega
  · have hq := lenY_bd h i
    omega
  · have : ¬ (y - (r : Int) + (r : Int) < y) := by omega
    simp only [if_neg this]; rfl
end Go.Proofs.YtdchemiillekjaaGreat
