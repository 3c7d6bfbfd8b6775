/- Contracts of rounding divisions and of spots of a circle. -/
import Derived.Test.YtplnohfjeilodaaRows
import Derived.Test.YtplnohfjeilodaaBase
import Derived.Test.YtplnohfjeilodaaAr
import Derived.Test.YtplnohfjeilodaaMem
import Derived.Below
import Derived.Deep.RegionWith
import Derived.StillTailTactics
namespace Go.Proofs.Ytplnohfjeilodaa
open Go.RowKit
set_option linter.unusedVariables false
set_option maxRecDepth 100000

theorem td_neg {n d : Int} (hd : 1 ≤ d) (h : n.tmod d < 0) : n.tdiv d - 1 = n / d := by
  have h1 := Int.mul_tdiv_add_tmod n d
  have h2 : -d < n.tmod d := by
    have := Int.lt_tmod_of_pos n (show 0 < d by omega); omega
  have e : n = d * (n.tdiv d - 1) + (n.tmod d + d) := by rw [Int.mul_sub]; omega
  have := Int.ediv_emod_unique (a := n) (b := d) (r := n.tmod d + d) (q := n.tdiv d - 1) (by omega)
  exact (this.2 ⟨by omega, by omega, by omega⟩).1.symm
theorem td_pos {n d : Int} (hd : 1 ≤ d) (h : ¬ n.tmod d < 0) : n.tdiv d = n / d := by
  have h1 := Int.mul_tdiv_add_tmod n d
  have h2 : n.tmod d < d := Int.tmod_lt_of_pos n (by omega)
  have := Int.ediv_emod_unique (a := n) (b := d) (r := n.tmod d) (q := n.tdiv d) (by omega)
  exact (this.2 ⟨by omega, by omega, by omega⟩).1.symm
theorem ediv_bd {n d : Int} (hd : 1 ≤ d) {L : Int} (hL : 0 ≤ L) (h0 : -L ≤ n) (h1 : n ≤ L) : -L ≤ n / d ∧ n / d ≤ L := by
  constructor
  · rw [Int.le_ediv_iff_mul_le (by omega)]
    have : L * 1 ≤ L * d := Int.mul_le_mul_of_nonneg_left hd hL
    rw [Int.neg_mul]; omega
  · refine Int.le_trans (Int.ediv_le_ediv (by omega) h1) ?_
    exact Int.ediv_le_self _ hL
theorem tdiv_bd {n d : Int} (hd : 1 ≤ d) {L : Int} (hL : 0 ≤ L) (h0 : -L ≤ n) (h1 : n ≤ L) : -L ≤ n.tdiv d ∧ n.tdiv d ≤ L := by
  rcases Int.le_total 0 n with h | h
  · rw [td_nn h]; exact ediv_bd hd hL h0 h1
  · have := ediv_bd (n := -n) hd hL (by omega) (by omega)
    have e : n.tdiv d = -((-n) / d) := by rw [← td_nn (by omega), Int.neg_tdiv, Int.neg_neg]
    rw [e]; omega

/-- the integer nearest to n / d, halves up -/
def near (n d : Int) : Int := (2 * n + d) / (2 * d)
theorem near_up {n d : Int} (hd : 1 ≤ d) (h : d - (n - n / d * d) ≤ n - n / d * d) : n / d + 1 = near n d := by
  have h1 := Int.mul_ediv_add_emod n d
  have h2 := Int.emod_lt_of_pos n (show 0 < d by omega)
  have h3 := Int.emod_nonneg n (show d ≠ 0 by omega)
  have hc := Int.mul_comm (n / d) d
  unfold near
  have := Int.ediv_emod_unique (a := 2 * n + d) (b := 2 * d) (r := 2 * (n % d) - d) (q := n / d + 1) (by omega)
  refine (this.2 ⟨?_, by omega, by omega⟩).1.symm
  rw [Int.mul_add, Int.mul_assoc]; omega
theorem near_down {n d : Int} (hd : 1 ≤ d) (h : ¬ d - (n - n / d * d) ≤ n - n / d * d) : n / d = near n d := by
  have h1 := Int.mul_ediv_add_emod n d
  have h2 := Int.emod_lt_of_pos n (show 0 < d by omega)
  have h3 := Int.emod_nonneg n (show d ≠ 0 by omega)
  have hc := Int.mul_comm (n / d) d
  unfold near
  have := Int.ediv_emod_unique (a := 2 * n + d) (b := 2 * d) (r := 2 * (n % d) + d) (q := n / d) (by omega)
  refine (this.2 ⟨?_, by omega, by omega⟩).1.symm
  rw [Int.mul_assoc]; omega
set_option maxHeartbeats 400000 in
theorem floorDiv_c (n d : Int) (w : World) (hd : 1 ≤ d) (n0 : -4000000000000000000 ≤ n) (n1 : n ≤ 4000000000000000000) :
    Calls Try.prog 136 #[.int .i64 n, .int .i64 d] w fun e w' => e = .returned (.int .i64 (n / d)) ∧ w = w' := by
  have hb := tdiv_bd hd (show (0:Int) ≤ 4000000000000000000 by omega) n0 n1
  obtain ⟨b0, b1⟩ := hb
  have hw : wrap64 (n.tdiv d) = n.tdiv d := wr64 (by omega) (by omega)
  by_cases h : n.tmod d < 0
  · have HE := Lib.hid (td_neg hd h)
    go_enter Try.func136, Try.ntmps136
    go_wp2
    all_goals
      go_ret
      exact ⟨ret_int HE.out, rfl⟩
  · have HE := Lib.hid (td_pos hd h)
    go_enter Try.func136, Try.ntmps136
    go_wp2
    all_goals
      go_ret
      exact ⟨ret_int HE.out, rfl⟩
set_option maxHeartbeats 400000 in
theorem l02Down_c (n d : Int) (w : World) (hd : 1 ≤ d) (n0 : -4000000000000000000 ≤ n) (n1 : n ≤ 4000000000000000000) :
    Calls Try.prog 135 #[.int .i64 n, .int .i64 d] w fun e w' => e = .returned (.int .i64 (n / d)) ∧ w = w' := by
  have hb := tdiv_bd hd (show (0:Int) ≤ 4000000000000000000 by omega) n0 n1
  obtain ⟨b0, b1⟩ := hb
  have hw : wrap64 (n.tdiv d) = n.tdiv d := wr64 (by omega) (by omega)
  by_cases h : n.tmod d < 0
  · have HE := Lib.hid (td_neg hd h)
    go_enter Try.func135, Try.ntmps135
    go_wp2
    all_goals
      go_ret
      exact ⟨ret_int HE.out, rfl⟩
  · have HE := Lib.hid (td_pos hd h)
    go_enter Try.func135, Try.ntmps135
    go_wp2
    all_goals
      go_ret
      exact ⟨ret_int HE.out, rfl⟩
set_option maxHeartbeats 400000 in
theorem l02Near_c (n d : Int) (w : World) (hd : 1 ≤ d) (d1 : d ≤ 1000000000000000000) (n0 : -1000000000000000000 ≤ n) (n1 : n ≤ 1000000000000000000) :
    Calls Try.prog 124 #[.int .i64 n, .int .i64 d] w fun e w' => e = .returned (.int .i64 (near n d)) ∧ w = w' := by
  go_enter Try.func124, Try.ntmps124
  go_wp2_with (go_at_call 135; refine (l02Down_c _ _ _ (by omega) (by omega) (by omega)).mono ?_; rintro e w' ⟨rfl, rfl⟩)
  go_ret
  exact ⟨rfl, rfl⟩
set_option maxHeartbeats 400000 in
theorem nearestDiv_c (n d : Int) (w : World) (hd : 1 ≤ d) (d1 : d ≤ 1000000000000000000) (n0 : -1000000000000000000 ≤ n) (n1 : n ≤ 1000000000000000000) :
    Calls Try.prog 125 #[.int .i64 n, .int .i64 d] w fun e w' => e = .returned (.int .i64 (near n d)) ∧ w = w' := by
  have h1 := Int.mul_ediv_add_emod n d
  have h2 := Int.emod_lt_of_pos n (show 0 < d by omega)
  have h3 := Int.emod_nonneg n (show d ≠ 0 by omega)
  have hc := Int.mul_comm (n / d) d
  have hb := ediv_bd hd (show (0:Int) ≤ 1000000000000000000 by omega) n0 n1
  obtain ⟨b0, b1⟩ := hb
  have q0 : n / d * d ≤ n := by omega
  have q1 : n - d < n / d * d := by omega
  clear h1 h2 h3 hc
  by_cases h : d - (n - n / d * d) ≤ n - n / d * d
  · have HE := Lib.hid (near_up hd h)
    rw [← HE.out]
    go_enter Try.func125, Try.ntmps125
    go_wp2_with (go_at_call 136; refine (floorDiv_c _ _ _ (by omega) (by omega) (by omega)).mono ?_; rintro e w' ⟨rfl, rfl⟩)
    go_ret
    exact ⟨rfl, rfl⟩
  · have HE := Lib.hid (near_down hd h)
    rw [← HE.out]
    go_enter Try.func125, Try.ntmps125
    go_wp2_with (go_at_call 136; refine (floorDiv_c _ _ _ (by omega) (by omega) (by omega)).mono ?_; rintro e w' ⟨rfl, rfl⟩)
    go_ret
    exact ⟨rfl, rfl⟩
/-- the rounded sine of the first half of a turn -/
def sinB (r k n : Int) : Int := near (r * 16 * (2 * k * (n - 2 * k))) (5 * n * n - 4 * (2 * k * (n - 2 * k)))
def sinV (r k n : Int) : Int := if n < 2 * k then - sinB r (2 * k - n) (2 * n) else sinB r k n
structure SinOk (r k n : Int) : Prop where
  p0 : 0 ≤ 2 * k * (n - 2 * k)
  p1 : 2 * k * (n - 2 * k) ≤ 64000000
  r0 : 0 ≤ r * 16 * (2 * k * (n - 2 * k))
  r1 : r * 16 * (2 * k * (n - 2 * k)) ≤ 102400000000000
  n0 : 1 ≤ 5 * n * n - 4 * (2 * k * (n - 2 * k))
  n1 : 5 * n * n ≤ 1280000000
theorem sin_ok {r k n : Int} (r0 : 0 ≤ r) (r1 : r ≤ 100000) (n0 : 1 ≤ n) (n1 : n ≤ 16000) (k0 : 0 ≤ k) (k1 : 2 * k ≤ n) : SinOk r k n := by
  have hp : 0 ≤ 2 * k * (n - 2 * k) := Int.mul_nonneg (by omega) (by omega)
  have hn : n * n ≤ 16000 * 16000 := Int.mul_le_mul n1 n1 (by omega) (by omega)
  have hn1 : 1 * 1 ≤ n * n := Int.mul_le_mul n0 n0 (by omega) (by omega)
  -- 4 p = n^2 - (n - 4k)^2
  have hsq : 0 ≤ (n - 4 * k) * (n - 4 * k) := by
    rcases Int.le_total 0 (n - 4 * k) with h | h
    · exact Int.mul_nonneg h h
    · exact Int.mul_nonneg_of_nonpos_of_nonpos h h
  have he : 4 * (2 * k * (n - 2 * k)) = n * n - (n - 4 * k) * (n - 4 * k) := by
    have e1 : (n - 4 * k) * (n - 4 * k) = n * n - 8 * (k * n) + 16 * (k * k) := by
      rw [Int.sub_mul, Int.mul_sub, Int.mul_sub]
      have a1 : 4 * k * n = 4 * (k * n) := Int.mul_assoc ..
      have a2 : n * (4 * k) = 4 * (k * n) := by rw [Int.mul_left_comm, Int.mul_comm n k]
      have a3 : 4 * k * (4 * k) = 16 * (k * k) := by rw [Int.mul_assoc, Int.mul_left_comm k 4 k]; omega
      omega
    have e2 : 2 * k * (n - 2 * k) = 2 * (k * n) - 4 * (k * k) := by
      rw [Int.mul_sub]
      have a1 : 2 * k * n = 2 * (k * n) := Int.mul_assoc ..
      have a3 : 2 * k * (2 * k) = 4 * (k * k) := by rw [Int.mul_assoc, Int.mul_left_comm k 2 k]; omega
      omega
    omega
  have hp1 : 2 * k * (n - 2 * k) ≤ 64000000 := by omega
  have hm := mul_bd (a := r * 16) (b := 2 * k * (n - 2 * k)) (A := 1600000) (B := 64000000) (by omega) (by omega) hp hp1
  have h5 : 5 * n * n = 5 * (n * n) := Int.mul_assoc ..
  exact ⟨hp, hp1, hm.1, by omega, by omega, by omega⟩
theorem r16 (r x : Int) : 16 * r * x = r * 16 * x := by rw [Int.mul_comm 16 r]
set_option maxHeartbeats 400000 in
theorem sineOf_b (r k n : Int) (w : World) (r0 : 0 ≤ r) (r1 : r ≤ 100000) (n0 : 1 ≤ n) (n1 : n ≤ 16000) (k0 : 0 ≤ k) (k1 : 2 * k ≤ n) :
    Calls Try.prog 99 #[.int .i64 r, .int .i64 k, .int .i64 n] w fun e w' => e = .returned (.int .i64 (sinB r k n)) ∧ w = w' := by
  obtain ⟨o1, o2, o3, o4, o5, o6⟩ := sin_ok r0 r1 n0 n1 k0 k1
  have ht : ¬ n < 2 * k := by omega
  go_enter Try.func99, Try.ntmps99
  go_wp2_with (go_at_call 125; refine (nearestDiv_c _ _ _ (by omega) (by omega) (by omega) (by omega)).mono ?_; rintro e w' ⟨rfl, rfl⟩)
  go_ret
  exact ⟨rfl, rfl⟩
set_option maxHeartbeats 400000 in
theorem sineOf_c (r k n : Int) (w : World) (r0 : 0 ≤ r) (r1 : r ≤ 100000) (n0 : 1 ≤ n) (n1 : n ≤ 8000) (k0 : 0 ≤ k) (k1 : k ≤ n) :
    Calls Try.prog 99 #[.int .i64 r, .int .i64 k, .int .i64 n] w fun e w' => e = .returned (.int .i64 (sinV r k n)) ∧ w = w' := by
  by_cases h : n < 2 * k
  · have e : sinV r k n = - sinB r (2 * k - n) (2 * n) := if_pos h
    rw [e]
    clear e
    have hb : -1000000000000000 ≤ sinB r (2 * k - n) (2 * n) ∧ sinB r (2 * k - n) (2 * n) ≤ 1000000000000000 := by
      obtain ⟨o1, o2, o3, o4, o5, o6⟩ := sin_ok (k := 2 * k - n) (n := 2 * n) r0 r1 (by omega) (by omega) (by omega) (by omega)
      unfold sinB near
      exact ediv_bd (by omega) (by omega) (by omega) (by omega)
    obtain ⟨b0, b1⟩ := hb
    go_enter Try.func99, Try.ntmps99
    go_wp2_with (go_at_call 99; refine (sineOf_b _ _ _ _ (by omega) (by omega) (by omega) (by omega) (by omega) (by omega)).mono ?_; rintro e w' ⟨rfl, rfl⟩)
    go_ret
    exact ⟨rfl, rfl⟩
  · have e : sinV r k n = sinB r k n := if_neg h
    rw [e]
    exact sineOf_b r k n w r0 r1 n0 (by omega) k0 (by omega)
set_option maxHeartbeats 400000 in
theorem l25Sine_b (r k n : Int) (w : World) (r0 : 0 ≤ r) (r1 : r ≤ 100000) (n0 : 1 ≤ n) (n1 : n ≤ 16000) (k0 : 0 ≤ k) (k1 : 2 * k ≤ n) :
    Calls Try.prog 98 #[.int .i64 r, .int .i64 k, .int .i64 n] w fun e w' => e = .returned (.int .i64 (sinB r k n)) ∧ w = w' := by
  obtain ⟨o1, o2, o3, o4, o5, o6⟩ := sin_ok r0 r1 n0 n1 k0 k1
  have ht : ¬ n < 2 * k := by omega
  unfold sinB
  rw [← r16] at *
  go_enter Try.func98, Try.ntmps98
  go_wp2_with (go_at_call 124; refine (l02Near_c _ _ _ (by omega) (by omega) (by omega) (by omega)).mono ?_; rintro e w' ⟨rfl, rfl⟩)
  go_ret
  exact ⟨rfl, rfl⟩
set_option maxHeartbeats 400000 in
theorem l25Sine_c (r k n : Int) (w : World) (r0 : 0 ≤ r) (r1 : r ≤ 100000) (n0 : 1 ≤ n) (n1 : n ≤ 8000) (k0 : 0 ≤ k) (k1 : k ≤ n) :
    Calls Try.prog 98 #[.int .i64 r, .int .i64 k, .int .i64 n] w fun e w' => e = .returned (.int .i64 (sinV r k n)) ∧ w = w' := by
  by_cases h : n < 2 * k
  · have e : sinV r k n = - sinB r (2 * k - n) (2 * n) := if_pos h
    rw [e]
    clear e
    have hb : -1000000000000000 ≤ sinB r (2 * k - n) (2 * n) ∧ sinB r (2 * k - n) (2 * n) ≤ 1000000000000000 := by
      obtain ⟨o1, o2, o3, o4, o5, o6⟩ := sin_ok (k := 2 * k - n) (n := 2 * n) r0 r1 (by omega) (by omega) (by omega) (by omega)
      unfold sinB near
      exact ediv_bd (by omega) (by omega) (by omega) (by omega)
    obtain ⟨b0, b1⟩ := hb
    go_enter Try.func98, Try.ntmps98
    go_wp2_with (go_at_call 98; refine (l25Sine_b _ _ _ _ (by omega) (by omega) (by omega) (by omega) (by omega) (by omega)).mono ?_; rintro e w' ⟨rfl, rfl⟩)
    go_ret
    exact ⟨rfl, rfl⟩
  · have e : sinV r k n = sinB r k n := if_neg h
    rw [e]
    exact l25Sine_b r k n w r0 r1 n0 (by omega) k0 (by omega)
abbrev spotV (x y : Int) : Value := .agg #[.int .i64 x, .int .i64 y]
def spotX (r k n : Int) : Int := sinV r k n
def spotY (r k n : Int) : Int := sinV r ((4 * k + n) % (4 * n)) (4 * n)
set_option maxHeartbeats 400000 in
theorem roundSpot_c (r k n : Int) (w : World) (r0 : 0 ≤ r) (r1 : r ≤ 100000) (n0 : 1 ≤ n) (n1 : n ≤ 2000) (k0 : 0 ≤ k) (k1 : k < n) :
    Calls Try.prog 58 #[.int .i64 r, .int .i64 k, .int .i64 n] w fun e w' => e = .returned (spotV (spotX r k n) (spotY r k n)) ∧ Below w.heap.size w w' := by
  have m0 : 0 ≤ (4 * k + n) % (4 * n) := Int.emod_nonneg _ (by omega)
  have m1 : (4 * k + n) % (4 * n) < 4 * n := Int.emod_lt_of_pos _ (by omega)
  have e1 : IntKind.i64.wrap (4 * n) = 4 * n := IntWalk.i64_in _ ⟨by omega, by omega⟩
  have e2 : IntKind.i64.wrap (4 * k) = 4 * k := IntWalk.i64_in _ ⟨by omega, by omega⟩
  have e3 : IntKind.i64.wrap (4 * k + n) = 4 * k + n := IntWalk.i64_in _ ⟨by omega, by omega⟩
  have e4 : ¬ n = 0 := by omega
  have e7 : ¬ 4 * n = 0 := by omega
  have e5 : (4 * k + n).tmod (4 * n) = (4 * k + n) % (4 * n) := tm_nn (by omega)
  go_enter Try.func58, Try.ntmps58
  go_wp2_with fail
  refine still_tail 16 (by kernel_rfl) (by kernel_rfl) ?_
  simp only [List.take_succ_cons, List.take_zero, List.drop_succ_cons, List.drop_zero]
  repeat (first | still_call (still_of (sineOf_c _ _ _ _ (by omega) (by omega) (by omega) (by omega) (by omega) (by omega))) | still_step)
  refine wpStill_nil ?_
  go_wp2
  refine bodyPost_ret (v := spotV (spotX r k n) (spotY r k n)) (by simp [results, Try.results58, go_sem, spotX, spotY]) rfl ⟨rfl, ?_⟩
  exact ((Below.refl _ _).alloc (Nat.le_refl _) _).drew
set_option maxHeartbeats 400000 in
theorem l25Round_c (r k n : Int) (w : World) (r0 : 0 ≤ r) (r1 : r ≤ 100000) (n0 : 1 ≤ n) (n1 : n ≤ 2000) (k0 : 0 ≤ k) (k1 : k < n) :
    Calls Try.prog 54 #[.int .i64 r, .int .i64 k, .int .i64 n] w fun e w' => e = .returned (spotV (spotX r k n) (spotY r k n)) ∧ Below w.heap.size w w' := by
  have m0 : 0 ≤ (4 * k + n) % (4 * n) := Int.emod_nonneg _ (by omega)
  have m1 : (4 * k + n) % (4 * n) < 4 * n := Int.emod_lt_of_pos _ (by omega)
  have m2 : k % n = k := Int.emod_eq_of_lt k0 k1
  have e1 : IntKind.i64.wrap (4 * n) = 4 * n := IntWalk.i64_in _ ⟨by omega, by omega⟩
  have e2 : IntKind.i64.wrap (4 * k) = 4 * k := IntWalk.i64_in _ ⟨by omega, by omega⟩
  have e3 : IntKind.i64.wrap (4 * k + n) = 4 * k + n := IntWalk.i64_in _ ⟨by omega, by omega⟩
  have e4 : ¬ n = 0 := by omega
  have e7 : ¬ 4 * n = 0 := by omega
  have e5 : (4 * k + n).tmod (4 * n) = (4 * k + n) % (4 * n) := tm_nn (by omega)
  have e6 : k.tmod n = k := (tm_nn k0).trans m2
  go_enter Try.func54, Try.ntmps54
  go_wp2_with fail
  refine still_tail 18 (by kernel_rfl) (by kernel_rfl) ?_
  simp only [List.take_succ_cons, List.take_zero, List.drop_succ_cons, List.drop_zero]
  repeat (first | still_call (still_of (l25Sine_c _ _ _ _ (by omega) (by omega) (by omega) (by omega) (by omega) (by omega))) | still_step)
  refine wpStill_nil ?_
  go_wp2
  refine bodyPost_ret (v := spotV (spotX r k n) (spotY r k n)) (by simp [results, Try.results54, go_sem, spotX, spotY]) rfl ⟨rfl, ?_⟩
  exact ((Below.refl _ _).alloc (Nat.le_refl _) _).drew
def rsOk (r k n : Int) : Prop := (0 ≤ r ∧ r ≤ 100000) ∧ (1 ≤ n ∧ n ≤ 2000) ∧ (0 ≤ k ∧ k ≤ n - 1)
instance (r k n : Int) : Decidable (rsOk r k n) := by unfold rsOk; infer_instance
def rs0 (r k n : Int) : Value := if rsOk r k n then spotV (spotX r k n) (spotY r k n) else spotV 0 0
def rs1 (r k n : Int) : Int := if rsOk r k n then 0 else 2
theorem rs0_y {r k n : Int} (h : rsOk r k n) : rs0 r k n = spotV (spotX r k n) (spotY r k n) := if_pos h
theorem rs0_n {r k n : Int} (h : ¬ rsOk r k n) : rs0 r k n = spotV 0 0 := if_neg h
theorem rs1_y {r k n : Int} (h : rsOk r k n) : rs1 r k n = 0 := if_pos h
theorem rs1_n {r k n : Int} (h : ¬ rsOk r k n) : rs1 r k n = 2 := if_neg h
end Go.Proofs.Ytplnohfjeilodaa
