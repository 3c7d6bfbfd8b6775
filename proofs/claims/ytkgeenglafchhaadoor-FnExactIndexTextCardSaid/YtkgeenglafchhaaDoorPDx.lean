/- Plain laws: dividers and indexes that are valid. No program. -/
import Derived.Test.YtkgeenglafchhaaDoorPR
import Derived.Test.YtkgeenglafchhaaDoorXOK
import Derived.Test.YtkgeenglafchhaaDoorPC
import Derived.Test.YtkgeenglafchhaaDoorXHP
namespace Go.Proofs.YtkgeenglafchhaaDoor
set_option linter.unusedVariables false
def riseB (xs : List Int) (lo hi : Int) : Bool := allI xs fun i c => btw c lo hi && (decide (i = 0) || decide (xs.getD (i - 1) 0 < c))
def hasB (xs : List Int) (c : Int) : Bool := xs.any fun v => decide (v = c)
def divB (d : Divider_) : Bool := btw d.Worm 1 360 && (decide (1 ≤ d.Circles.length ∧ d.Circles.length ≤ 20) && riseB d.Circles 2 200)
def stepX (x : Index_) : Int := x.Turns * x.Circle + x.Holes
def idxB (d : Divider_) (x : Index_) : Bool := divB d && (hasB d.Circles x.Circle && (btw x.Turns 0 d.Worm && (btw x.Holes 0 (x.Circle - 1) && btw (stepX x) 1 (d.Worm * x.Circle))))
theorem divB_iff {d : Divider_} (h : divB d = true) : (1 ≤ d.Worm ∧ d.Worm ≤ 360) ∧ (1 ≤ d.Circles.length ∧ d.Circles.length ≤ 20) ∧ ∀ c ∈ d.Circles, 2 ≤ c ∧ c ≤ 200 := by
  unfold divB btw riseB at h
  simp only [Bool.and_eq_true, decide_eq_true_eq, allI_iff] at h
  refine ⟨h.1, h.2.1, fun c hc => ?_⟩
  obtain ⟨i, hi, rfl⟩ := List.getElem_of_mem hc
  have := (h.2.2 i hi).1
  unfold btw at this
  exact of_decide_eq_true this
theorem rise_step {xs : List Int} {lo hi : Int} {i : Nat} (hi' : i < xs.length) (hl : xs.length ≤ 9223372036854775807) {b : Bool} (hb : b = btw xs[i] lo hi) :
    ((if (!b) = true then some true else (if 0 < (i : Int) then ((atI xs (w64 ((i : Int) - 1))).bind fun v9 => some (decide (xs[i] ≤ v9))) else some false)) : Option Bool) = some (!(btw xs[i] lo hi && (decide (i = 0) || decide (xs.getD (i - 1) 0 < xs[i])))) := by
  subst hb
  cases btw xs[i] lo hi
  · rfl
  · by_cases h0 : i = 0
    · subst h0; simp
    · have e : w64 ((i : Int) - 1) = ((i - 1 : Nat) : Int) := by rw [w64_in (by omega) (by omega)]; omega
      have hg : xs.getD (i - 1) 0 = xs[i - 1] := by rw [List.getD_eq_getElem?_getD, List.getElem?_eq_getElem (by omega)]; rfl
      rw [if_neg (by decide), if_pos (by omega), e, atI_lt (show i - 1 < xs.length by omega), Option.bind_some, hg, decide_eq_false h0, Bool.true_and, Bool.false_or]
      congr 1
      by_cases q : xs[i] ≤ xs[i - 1]
      · rw [decide_eq_true q, decide_eq_false (by omega)]; rfl
      · rw [decide_eq_false q, decide_eq_true (by omega)]; rfl
theorem len20 {α : Type} {xs : List α} : (if 1 ≤ (xs.length : Int) then some (decide ((xs.length : Int) ≤ 20)) else some false) = some (decide (1 ≤ xs.length ∧ xs.length ≤ 20)) := by
  rw [itAp, ← Bool.decide_and]
  congr 1
  rw [decide_eq_decide]; omega
theorem i_ValidDivider_eq {d : Divider_} (hl : d.Circles.length ≤ 9223372036854775807) : i_ValidDivider_m d = some (divB d) := by
  unfold i_ValidDivider_m divB riseB
  rw [scanG (e := .inr false) (fun i c => btw c 2 200 && (decide (i = 0) || decide (d.Circles.getD (i - 1) 0 < c))) hl fun i hi => ?_, Option.bind_some, i_within_eq, Option.bind_some, len20, itA, scan_and rfl]
  · congr 1; ac_rfl
  · rw [atI_lt hi, Option.bind_some, i_within_eq, Option.bind_some, rise_step hi hl rfl, Option.bind_some]
    cases (btw d.Circles[i] 2 200 && (decide (i = 0) || decide (d.Circles.getD (i - 1) 0 < d.Circles[i]))) <;> rfl
theorem s_l00Rises_eq {xs : List Int} (lo hi : Int) (hl : xs.length ≤ 9223372036854775807) : s_l00Rises_m xs lo hi = some (riseB xs lo hi) := by
  unfold s_l00Rises_m riseB
  rw [scanG (e := .inr false) (fun i c => btw c lo hi && (decide (i = 0) || decide (xs.getD (i - 1) 0 < c))) hl fun i hi' => ?_, Option.bind_some, scan_and rfl, Bool.and_true]
  simp only [atI_lt hi', Option.bind_some, s_l00In_eq]
  rw [rise_step hi' hl rfl, Option.bind_some]
  cases (btw xs[i] lo hi && (decide (i = 0) || decide (xs.getD (i - 1) 0 < xs[i]))) <;> rfl
theorem s_l24Ok_eq {d : Divider_} (hl : d.Circles.length ≤ 9223372036854775807) : s_l24Ok_m d = some (divB d) := by
  unfold s_l24Ok_m divB
  have e : btw (d.Circles.length : Int) 1 20 = decide (1 ≤ d.Circles.length ∧ d.Circles.length ≤ 20) := by unfold btw; rw [decide_eq_decide]; omega
  simp only [s_l00In_eq, Option.bind_some, s_l00Rises_eq 2 200 hl, itA, e]
theorem s_l00Has_eq {xs : List Int} (c : Int) (hl : xs.length ≤ 9223372036854775807) : s_l00Has_m xs c = some (hasB xs c) := by
  unfold s_l00Has_m hasB
  rw [scanG (e := .inr true) (fun _ v => !decide (v = c)) hl fun i hi => by rw [atI_lt hi, Option.bind_some]; by_cases q : xs[i] = c <;> simp [q], allI_all, Option.bind_some]
  have e : (xs.all fun v => !decide (v = c)) = !(xs.any fun v => decide (v = c)) := by rw [Bool.eq_iff_iff]; simp
  rw [e]
  cases (xs.any fun v => decide (v = c)) <;> rfl
theorem i_has_eq {xs : List Int} (c : Int) (hl : xs.length ≤ 9223372036854775807) : slices_Contains_Lint64_int64_m xs c = some (hasB xs c) := by
  unfold slices_Contains_Lint64_int64_m slices_Index_Lint64_int64_m hasB
  rw [findG (fun v => decide (v = c)) hl fun i hi => by
    rw [atI_lt hi, Option.bind_some]
    by_cases q : c = xs[i]
    · rw [if_pos q, decide_eq_true q.symm]; rfl
    · rw [if_neg q, decide_eq_false (Ne.symm q)]; rfl, Option.bind_some, posOf_nn]
theorem has_in {d : Divider_} (h : divB d = true) {c : Int} (hc : hasB d.Circles c = true) : 2 ≤ c ∧ c ≤ 200 := by
  unfold hasB at hc
  obtain ⟨v, hv, e⟩ := List.any_eq_true.1 hc
  have e := of_decide_eq_true e
  rw [← e]; exact (divB_iff h).2.2 v hv
theorem prod_in {a b A B : Int} (a0 : 0 ≤ a) (a1 : a ≤ A) (b0 : 0 ≤ b) (b1 : b ≤ B) : 0 ≤ a * b ∧ a * b ≤ A * B := ⟨Int.mul_nonneg a0 b0, Int.mul_le_mul a1 b1 b0 (by omega)⟩
theorem idxB_iff {d : Divider_} {x : Index_} (h : idxB d x = true) : divB d = true ∧ (2 ≤ x.Circle ∧ x.Circle ≤ 200) ∧ (0 ≤ x.Turns ∧ x.Turns ≤ d.Worm) ∧ (0 ≤ x.Holes ∧ x.Holes ≤ x.Circle - 1) ∧ 1 ≤ stepX x ∧ stepX x ≤ d.Worm * x.Circle := by
  unfold idxB btw at h
  simp only [Bool.and_eq_true, decide_eq_true_eq] at h
  exact ⟨h.1, has_in h.1 h.2.1, h.2.2.1, h.2.2.2.1, h.2.2.2.2⟩
theorem idx_tail {d : Divider_} {x : Index_} (h1 : divB d = true) (h2 : hasB d.Circles x.Circle = true) (h3 : btw x.Turns 0 d.Worm = true) (h4 : btw x.Holes 0 (x.Circle - 1) = true) : w64 (w64 (x.Turns * x.Circle) + x.Holes) = stepX x ∧ w64 (d.Worm * x.Circle) = d.Worm * x.Circle ∧ w64 (x.Circle - 1) = x.Circle - 1 := by
  have a := divB_iff h1
  have b := has_in h1 h2
  have c := of_decide_eq_true h3
  have e := of_decide_eq_true h4
  have p1 := prod_in (a := x.Turns) (b := x.Circle) (A := 360) (B := 200) c.1 (by omega) (by omega) b.2
  have p2 := prod_in (a := d.Worm) (b := x.Circle) (A := 360) (B := 200) (by omega) (by omega) (by omega) b.2
  refine ⟨?_, w64_in (by omega) (by omega), w64_in (by omega) (by omega)⟩
  rw [w64_in (x := x.Turns * x.Circle) (by omega) (by omega), w64_in (by omega) (by omega)]; rfl
theorem circ1 {d : Divider_} {c : Int} (h1 : divB d = true) (h2 : hasB d.Circles c = true) : w64 (c - 1) = c - 1 := by
  have b := has_in h1 h2
  exact w64_in (by omega) (by omega)
theorem i_ValidIndex_eq {d : Divider_} {x : Index_} (hl : d.Circles.length ≤ 9223372036854775807) : i_ValidIndex_m d x = some (idxB d x) := by
  unfold i_ValidIndex_m idxB
  simp only [i_ValidDivider_eq hl, i_has_eq _ hl, i_within_eq, Option.bind_some, itO, i_stepOf_m]
  cases h1 : divB d
  · rfl
  · cases h2 : hasB d.Circles x.Circle
    · rfl
    · rw [circ1 h1 h2]
      cases h3 : btw x.Turns 0 d.Worm
      · rfl
      · cases h4 : btw x.Holes 0 (x.Circle - 1)
        · rfl
        · obtain ⟨e1, e2, _⟩ := idx_tail h1 h2 h3 h4
          rw [e1, e2]; rfl
theorem s_l24Index_eq {d : Divider_} {x : Index_} (hl : d.Circles.length ≤ 9223372036854775807) : s_l24Index_m d x = some (idxB d x) := by
  unfold s_l24Index_m idxB
  simp only [s_l24Ok_eq hl, s_l00Has_eq _ hl, s_l00In_eq, Option.bind_some, itO, s_l24Step_m]
  cases h1 : divB d
  · rfl
  · cases h2 : hasB d.Circles x.Circle
    · rfl
    · rw [circ1 h1 h2]
      cases h3 : btw x.Turns 0 d.Worm
      · rfl
      · cases h4 : btw x.Holes 0 (x.Circle - 1)
        · rfl
        · obtain ⟨e1, e2, _⟩ := idx_tail h1 h2 h3 h4
          rw [e1, e2]; rfl
end Go.Proofs.YtkgeenglafchhaaDoor
