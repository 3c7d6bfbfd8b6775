/- Contracts of functions that only compute with integers. -/
import Derived.Test.YtacnijnilopckaaRows
import Derived.Test.YtacnijnilopckaaBase
namespace Go.Proofs.Ytacnijnilopckaa
open Go.RowKit
set_option linter.unusedVariables false

set_option maxHeartbeats 400000 in
theorem within_t (n l h : Int) (w : World) (a : l ≤ n) (b : n ≤ h) :
    Calls Try.prog 29 #[.int .i64 n, .int .i64 l, .int .i64 h] w fun e w' => e = .returned (.bool true) ∧ w = w' := by
  go_enter Try.func29, Try.ntmps29
  go_wp2
  go_ret
  exact ⟨rfl, rfl⟩
set_option maxHeartbeats 400000 in
theorem within_f (n l h : Int) (w : World) (a : n < l ∨ h < n) :
    Calls Try.prog 29 #[.int .i64 n, .int .i64 l, .int .i64 h] w fun e w' => e = .returned (.bool false) ∧ w = w' := by
  by_cases c : l ≤ n
  · have c2 : ¬ n ≤ h := by omega
    clear a
    go_enter Try.func29, Try.ntmps29
    go_wp2
    go_ret
    exact ⟨rfl, rfl⟩
  · clear a
    go_enter Try.func29, Try.ntmps29
    go_wp2
    go_ret
    exact ⟨rfl, rfl⟩
theorem within_c (n l h : Int) (w : World) :
    Calls Try.prog 29 #[.int .i64 n, .int .i64 l, .int .i64 h] w fun e w' => e = .returned (.bool (inB n l h)) ∧ w = w' := by
  by_cases c : l ≤ n ∧ n ≤ h
  · rw [inB_t c.1 c.2]; exact within_t n l h w c.1 c.2
  · have c' : n < l ∨ h < n := by omega
    rw [inB_f c']; exact within_f n l h w c'

set_option maxHeartbeats 400000 in
theorem l00In_t (n l h : Int) (w : World) (a : l ≤ n) (b : n ≤ h) :
    Calls Try.prog 31 #[.int .i64 n, .int .i64 l, .int .i64 h] w fun e w' => e = .returned (.bool true) ∧ w = w' := by
  go_enter Try.func31, Try.ntmps31
  go_wp2
  go_ret
  exact ⟨rfl, rfl⟩
set_option maxHeartbeats 400000 in
theorem l00In_f (n l h : Int) (w : World) (a : n < l ∨ h < n) :
    Calls Try.prog 31 #[.int .i64 n, .int .i64 l, .int .i64 h] w fun e w' => e = .returned (.bool false) ∧ w = w' := by
  by_cases c : l ≤ n
  · have c2 : ¬ n ≤ h := by omega
    clear a
    go_enter Try.func31, Try.ntmps31
    go_wp2
    go_ret
    exact ⟨rfl, rfl⟩
  · clear a
    go_enter Try.func31, Try.ntmps31
    go_wp2
    go_ret
    exact ⟨rfl, rfl⟩
theorem l00In_c (n l h : Int) (w : World) :
    Calls Try.prog 31 #[.int .i64 n, .int .i64 l, .int .i64 h] w fun e w' => e = .returned (.bool (inB n l h)) ∧ w = w' := by
  by_cases c : l ≤ n ∧ n ≤ h
  · rw [inB_t c.1 c.2]; exact l00In_t n l h w c.1 c.2
  · have c' : n < l ∨ h < n := by omega
    rw [inB_f c']; exact l00In_f n l h w c'

def blows (n : Int) : Int := n / 12 * 78 + n % 12 * (n % 12 + 1) / 2
theorem blows_eq (n : Int) (h0 : 0 ≤ n) (h1 : n ≤ 100000000000) : wrap64 (n / 12 * 78 + wrap64 ((wrap64 (n % 12 * (n % 12 + 1))).tdiv 2)) = blows n := by
  have hb := mul_bd (a := n % 12) (b := n % 12 + 1) (A := 11) (B := 12) (by omega) (by omega) (by omega) (by omega)
  unfold blows
  generalize n % 12 * (n % 12 + 1) = p at *
  rw [wr64 (x := p) (by omega) (by omega), td_nn (by omega), wr64 (x := p / 2) (by omega) (by omega), wr64 (by omega) (by omega)]
theorem blows_bd (n : Int) (h0 : 0 ≤ n) (h1 : n ≤ 100000000000) : 0 ≤ blows n ∧ blows n ≤ n / 12 * 78 + 66 := by
  have hb := mul_bd (a := n % 12) (b := n % 12 + 1) (A := 11) (B := 12) (by omega) (by omega) (by omega) (by omega)
  unfold blows
  generalize n % 12 * (n % 12 + 1) = p at *
  omega
set_option maxHeartbeats 400000 in
theorem blowsUntil_c (n : Int) (w : World) (h0 : 0 ≤ n) (h1 : n ≤ 100000000000) :
    Calls Try.prog 30 #[.int .i64 n] w fun e w' => e = .returned (.int .i64 (blows n)) ∧ w = w' := by
  go_enter Try.func30, Try.ntmps30
  go_wp2
  go_ret
  exact ⟨ret_int (blows_eq n h0 h1), rfl⟩
set_option maxHeartbeats 400000 in
theorem l27Blows_c (n : Int) (w : World) (h0 : 0 ≤ n) (h1 : n ≤ 100000000000) :
    Calls Try.prog 32 #[.int .i64 n] w fun e w' => e = .returned (.int .i64 (blows n)) ∧ w = w' := by
  go_enter Try.func32, Try.ntmps32
  go_wp2
  go_ret
  exact ⟨ret_int (blows_eq n h0 h1), rfl⟩
def bbOk (s f t : Int) : Bool := inB s 0 2 && inB f 0 t && decide (t ≤ 1000000000)
def bb1 (s f t : Int) : Int := if bbOk s f t = true ∧ s ≠ 0 then blows (t / 3600) - blows (f / 3600) else 0
def bb2 (s f t : Int) : Int := if bbOk s f t = true then 0 else 2
theorem bbOk_iff {s f t : Int} : bbOk s f t = true ↔ (0 ≤ s ∧ s ≤ 2) ∧ (0 ≤ f ∧ f ≤ t) ∧ t ≤ 1000000000 := by
  simp [bbOk, inB_iff, and_assoc] --#
set_option maxHeartbeats 400000 in
theorem BlowsBetween_c (s f t : Int) (w : World) :
    Calls Try.prog 11 #[.int .i64 s, .int .i64 f, .int .i64 t] w fun e w' => e = .returned (.tuple #[.int .i64 (bb1 s f t), .int .i64 (bb2 s f t)]) ∧ w = w' := by
  by_cases c1 : 0 ≤ s ∧ s ≤ 2
  · by_cases c2 : 0 ≤ f ∧ f ≤ t
    · by_cases c3 : t ≤ 1000000000
      · have hok : bbOk s f t = true := bbOk_iff.2 ⟨c1, c2, c3⟩
        obtain ⟨c1a, c1b⟩ := c1
        obtain ⟨c2a, c2b⟩ := c2
        by_cases c4 : s = 0
        · have h1 : bb1 s f t = 0 := by simp [bb1, c4]
          have h2 : bb2 s f t = 0 := by simp [bb2, hok]
          rw [h1, h2]
          clear h1 h2 hok
          subst c4
          go_enter Try.func11, Try.ntmps11
          go_wp2_with (first | (go_at_call 29; refine (within_t _ _ _ _ (by omega) (by omega)).mono ?_; rintro e w' ⟨rfl, rfl⟩))
          go_ret2
          exact ⟨rfl, rfl⟩
        · have h1 : bb1 s f t = blows (t / 3600) - blows (f / 3600) := by simp [bb1, hok, c4]
          have h2 : bb2 s f t = 0 := by simp [bb2, hok]
          rw [h1, h2]
          clear h1 h2 hok
          have b1 := blows_bd (t / 3600) (by omega) (by omega)
          have b2 := blows_bd (f / 3600) (by omega) (by omega)
          obtain ⟨b1a, b1b⟩ := b1
          obtain ⟨b2a, b2b⟩ := b2
          go_enter Try.func11, Try.ntmps11
          go_wp2_with (first | (go_at_call 29; refine (within_t _ _ _ _ (by omega) (by omega)).mono ?_; rintro e w' ⟨rfl, rfl⟩) | (go_at_call 30; refine (blowsUntil_c _ _ (by omega) (by omega)).mono ?_; rintro e w' ⟨rfl, rfl⟩))
          go_ret2
          exact ⟨rfl, rfl⟩
      · have hok : bbOk s f t = false := by rw [← Bool.not_eq_true, bbOk_iff]; omega
        have h1 : bb1 s f t = 0 := by simp [bb1, hok]
        have h2 : bb2 s f t = 2 := by simp [bb2, hok]
        rw [h1, h2]
        clear h1 h2 hok
        obtain ⟨c1a, c1b⟩ := c1
        obtain ⟨c2a, c2b⟩ := c2
        go_enter Try.func11, Try.ntmps11
        go_wp2_with (first | (go_at_call 29; refine (within_t _ _ _ _ (by omega) (by omega)).mono ?_; rintro e w' ⟨rfl, rfl⟩))
        go_ret2
        exact ⟨rfl, rfl⟩
    · have hok : bbOk s f t = false := by rw [← Bool.not_eq_true, bbOk_iff]; omega
      have h1 : bb1 s f t = 0 := by simp [bb1, hok]
      have h2 : bb2 s f t = 2 := by simp [bb2, hok]
      rw [h1, h2]
      clear h1 h2 hok
      obtain ⟨c1a, c1b⟩ := c1
      go_enter Try.func11, Try.ntmps11
      go_wp2_with (first | (go_at_call 29; refine (within_t _ _ _ _ (by omega) (by omega)).mono ?_; rintro e w' ⟨rfl, rfl⟩) | (go_at_call 29; refine (within_f _ _ _ _ (by omega)).mono ?_; rintro e w' ⟨rfl, rfl⟩))
      go_ret2
      exact ⟨rfl, rfl⟩
  · have hok : bbOk s f t = false := by rw [← Bool.not_eq_true, bbOk_iff]; omega
    have h1 : bb1 s f t = 0 := by simp [bb1, hok]
    have h2 : bb2 s f t = 2 := by simp [bb2, hok]
    rw [h1, h2]
    clear h1 h2 hok
    go_enter Try.func11, Try.ntmps11
    go_wp2_with (first | (go_at_call 29; refine (within_f _ _ _ _ (by omega)).mono ?_; rintro e w' ⟨rfl, rfl⟩))
    go_ret2
    exact ⟨rfl, rfl⟩
set_option maxHeartbeats 400000 in
theorem sBlowsBetween_c (s f t : Int) (w : World) :
    Calls Try.prog 12 #[.int .i64 s, .int .i64 f, .int .i64 t] w fun e w' => e = .returned (.tuple #[.int .i64 (bb1 s f t), .int .i64 (bb2 s f t)]) ∧ w = w' := by
  by_cases c1 : 0 ≤ s ∧ s ≤ 2
  · by_cases c2 : 0 ≤ f ∧ f ≤ t
    · by_cases c3 : t ≤ 1000000000
      · have hok : bbOk s f t = true := bbOk_iff.2 ⟨c1, c2, c3⟩
        obtain ⟨c1a, c1b⟩ := c1
        obtain ⟨c2a, c2b⟩ := c2
        by_cases c4 : s = 0
        · have h1 : bb1 s f t = 0 := by simp [bb1, c4]
          have h2 : bb2 s f t = 0 := by simp [bb2, hok]
          rw [h1, h2]
          clear h1 h2 hok
          subst c4
          go_enter Try.func12, Try.ntmps12
          go_wp2_with (first | (go_at_call 31; refine (l00In_t _ _ _ _ (by omega) (by omega)).mono ?_; rintro e w' ⟨rfl, rfl⟩))
          go_ret2
          exact ⟨rfl, rfl⟩
        · have h1 : bb1 s f t = blows (t / 3600) - blows (f / 3600) := by simp [bb1, hok, c4]
          have h2 : bb2 s f t = 0 := by simp [bb2, hok]
          rw [h1, h2]
          clear h1 h2 hok
          have b1 := blows_bd (t / 3600) (by omega) (by omega)
          have b2 := blows_bd (f / 3600) (by omega) (by omega)
          obtain ⟨b1a, b1b⟩ := b1
          obtain ⟨b2a, b2b⟩ := b2
          go_enter Try.func12, Try.ntmps12
          go_wp2_with (first | (go_at_call 31; refine (l00In_t _ _ _ _ (by omega) (by omega)).mono ?_; rintro e w' ⟨rfl, rfl⟩) | (go_at_call 32; refine (l27Blows_c _ _ (by omega) (by omega)).mono ?_; rintro e w' ⟨rfl, rfl⟩))
          go_ret2
          exact ⟨rfl, rfl⟩
      · have hok : bbOk s f t = false := by rw [← Bool.not_eq_true, bbOk_iff]; omega
        have h1 : bb1 s f t = 0 := by simp [bb1, hok]
        have h2 : bb2 s f t = 2 := by simp [bb2, hok]
        rw [h1, h2]
        clear h1 h2 hok
        obtain ⟨c1a, c1b⟩ := c1
        obtain ⟨c2a, c2b⟩ := c2
        go_enter Try.func12, Try.ntmps12
        go_wp2_with (first | (go_at_call 31; refine (l00In_t _ _ _ _ (by omega) (by omega)).mono ?_; rintro e w' ⟨rfl, rfl⟩))
        go_ret2
        exact ⟨rfl, rfl⟩
    · have hok : bbOk s f t = false := by rw [← Bool.not_eq_true, bbOk_iff]; omega
      have h1 : bb1 s f t = 0 := by simp [bb1, hok]
      have h2 : bb2 s f t = 2 := by simp [bb2, hok]
      rw [h1, h2]
      clear h1 h2 hok
      obtain ⟨c1a, c1b⟩ := c1
      go_enter Try.func12, Try.ntmps12
      go_wp2_with (first | (go_at_call 31; refine (l00In_t _ _ _ _ (by omega) (by omega)).mono ?_; rintro e w' ⟨rfl, rfl⟩) | (go_at_call 31; refine (l00In_f _ _ _ _ (by omega)).mono ?_; rintro e w' ⟨rfl, rfl⟩))
      go_ret2
      exact ⟨rfl, rfl⟩
  · have hok : bbOk s f t = false := by rw [← Bool.not_eq_true, bbOk_iff]; omega
    have h1 : bb1 s f t = 0 := by simp [bb1, hok]
    have h2 : bb2 s f t = 2 := by simp [bb2, hok]
    rw [h1, h2]
    clear h1 h2 hok
    go_enter Try.func12, Try.ntmps12
    go_wp2_with (first | (go_at_call 31; refine (l00In_f _ _ _ _ (by omega)).mono ?_; rintro e w' ⟨rfl, rfl⟩))
    go_ret2
    exact ⟨rfl, rfl⟩
end Go.Proofs.Ytacnijnilopckaa
