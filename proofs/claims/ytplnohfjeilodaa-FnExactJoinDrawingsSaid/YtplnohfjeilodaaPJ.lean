/- Plain laws, J: joined drawings. No program. -/
import Derived.Test.YtplnohfjeilodaaPW
import Derived.Test.YtplnohfjeilodaaXHP
namespace Go.Proofs.Ytplnohfjeilodaa
set_option linter.unusedVariables false
theorem grow_eq {n : Int} (h0 : 0 ≤ n) (h1 : n ≤ 100000000) : slices_Grow_LShape_Shape_n_m n = some [] := by
  unfold slices_Grow_LShape_Shape_n_m
  rw [if_neg (by omega)]
  have e : w64 (n - (w64 ((0 : Int) - ((0 : Nat) : Int)))) = n := by rw [w64_in (x := (0 : Int) - ((0 : Nat) : Int)) (by omega) (by omega)]; exact (w64_in (by omega) (by omega)).trans (by omega)
  simp only [Option.bind_some, e]
  by_cases h : 0 < n
  · rw [if_pos h, chk_t (by omega), chk_t ⟨by omega, by simp; omega⟩]; rfl
  · rw [if_neg h]; rfl
theorem concat_eq {xss : List (List Shape_)} {c : Nat} (hc : ∀ v ∈ xss, v.length ≤ c) (hb : c * xss.length ≤ 10000000) (hn : xss.length ≤ 10000000) : slices_Concat_LShape_Shape_m xss = some (xss.flatMap id) := by
  unfold slices_Concat_LShape_Shape_m
  obtain ⟨t, ht, t0, t1⟩ := loopM_of (S := Int × Int) (X := Int) (step := fun s4 => (if s4.2 < (xss.length : Int) then ((((atI xss s4.2).bind fun v5 => (if (w64 (s4.1 + (v5.length : Int))) < 0 then none else some (w64 (s4.1 + (v5.length : Int))))) : Option Int).bind fun v6 => some (.inl (v6, w64 (s4.2 + 1)))) else some (.inr s4.1)))
    (fun (s : Int × Int) => 0 ≤ s.2 ∧ s.2 ≤ xss.length ∧ 0 ≤ s.1 ∧ s.1 ≤ c * s.2) (fun (s : Int × Int) => ((xss.length : Int) - s.2).toNat) (fun x => 0 ≤ x ∧ x ≤ 10000000) (fun s hI => by
      obtain ⟨a, i⟩ := s
      obtain ⟨q0, q1, q2, q3⟩ := hI
      dsimp only at q0 q1 q2 q3 ⊢
      have hci : (c : Int) * i ≤ c * xss.length := Int.mul_le_mul_of_nonneg_left q1 (by omega)
      have hb' : (c : Int) * (xss.length : Int) ≤ 10000000 := by
        have : ((c * xss.length : Nat) : Int) ≤ 10000000 := by omega
        rwa [Int.natCast_mul] at this
      by_cases hs : i < xss.length
      · left
        obtain ⟨e, he, hm, _⟩ := atI_some q0 hs
        have hl := hc e hm
        have hw : w64 (a + (e.length : Int)) = a + e.length := w64_in (by omega) (by
          have : (c : Int) * i + c ≤ 10000000 := by
            have h2 : (c : Int) * (i + 1) ≤ c * xss.length := Int.mul_le_mul_of_nonneg_left (by omega) (by omega)
            rw [Int.mul_add] at h2; omega
          omega)
        refine ⟨(a + e.length, i + 1), ?_, ⟨by dsimp only; omega, by dsimp only; omega, by dsimp only; omega, ?_⟩, by dsimp only; omega⟩
        · simp only [if_pos hs, he, Option.bind_some, hw]
          rw [if_neg (by omega), w64_in (x := i + 1) (by omega) (by omega)]; rfl
        · dsimp only
          rw [Int.mul_add]; omega
      · right; exact ⟨a, by simp [hs], q2, by omega⟩) (0, 0) (by simp) (by simp; omega)
  rw [ht, Option.bind_some, grow_eq t0 (by omega), Option.bind_some, buildF_ok (xs := xss) (f := id) (c := c) hc (fun i hi ys hy => ?_) (fun ys => by simp) (by omega)]
  · simp
  · have e1 : w64 ((i : Int) + 1) = i + 1 := w64_in (by omega) (by omega)
    have hi' : (i : Int) < xss.length := by omega
    have hl := hc xss[i] (List.getElem_mem hi)
    have h2 : c * (i + 1) ≤ c * xss.length := Nat.mul_le_mul_left _ (by omega)
    rw [Nat.mul_add] at h2
    simp only [List.length_nil] at hy
    simp only [if_pos hi', atI_lt hi, Option.bind_some, e1]
    rw [chk_t (by omega)]; rfl
def joinR (x y : Drawing_) : Drawing_ × Int := if drB x = true ∧ drB y = true then (if 1200 < (x.Shapes.length : Int) + (y.Shapes.length : Int) then (⟨[]⟩, 5) else (⟨x.Shapes ++ y.Shapes⟩, 0)) else (⟨[]⟩, 1)
theorem join_eq {x y : Drawing_} (hx : smDrawing_ x) (hy : smDrawing_ y) : s_JoinDrawings_m x y = some (joinR x y) ∧ i_JoinDrawings_m x y = some (joinR x y) := by
  have l1 : x.Shapes.length ≤ 1048576 := hx.1
  have l2 : y.Shapes.length ≤ 1048576 := hy.1
  have e : w64 ((x.Shapes.length : Int) + (y.Shapes.length : Int)) = x.Shapes.length + y.Shapes.length := w64_in (by omega) (by omega)
  unfold s_JoinDrawings_m i_JoinDrawings_m joinR
  simp only [s_l25Ok_eq (x := x) (by omega), s_l25Ok_eq (x := y) (by omega), i_ValidDrawing_eq, Option.bind_some, e]
  rcases Bool.eq_false_or_eq_true (drB x) with h1 | h1
  · rcases Bool.eq_false_or_eq_true (drB y) with h2 | h2
    · have g1 := drB_len h1
      have g2 := drB_len h2
      simp only [h1, h2, Bool.not_true, Bool.false_eq_true, if_false, Option.bind_some, and_self, if_true]
      by_cases h3 : 1200 < (x.Shapes.length : Int) + (y.Shapes.length : Int)
      · simp [h3]
      · rw [if_neg h3, if_neg h3, if_neg h3, chk_t (by simp; omega), chk_t (by simp; omega), concat_eq (c := 1200) (by simp; omega) (by simp) (by simp)]
        simp
    · simp [h1, h2]
  · simp [h1]
theorem joinR_sm {x y : Drawing_} (hx : smDrawing_ x) (hy : smDrawing_ y) : smDrawing_ (joinR x y).1 := by
  have nil : smDrawing_ ⟨[]⟩ := ⟨by show 0 ≤ _; omega, fun m hm => by simp at hm⟩
  unfold joinR
  split
  · split
    · exact nil
    · refine ⟨by simp; omega, fun m hm => ?_⟩
      rcases List.mem_append.1 hm with h | h
      · exact hx.2 m h
      · exact hy.2 m h
  · exact nil
theorem law_join (x : Drawing_) (hx : okDrawing_ x) (y : Drawing_) (hy : okDrawing_ y) : l_FnExactJoinDrawings_m x y = some true := by
  unfold l_FnExactJoinDrawings_m
  obtain ⟨r, e, f, s⟩ := szDrawing_ok hx 1048576 (by omega) (by omega)
  rw [e, Option.bind_some]
  by_cases hr : r < 0
  · rw [if_pos hr]
  · rw [if_neg hr]
    obtain ⟨r2, e2, _, s2⟩ := szDrawing_ok hy r (by omega) (by omega)
    rw [e2, Option.bind_some]
    by_cases hr2 : r2 < 0
    · rw [if_pos hr2]
    · rw [if_neg hr2]
      have h1 := s (by omega)
      have h2 := s2 (by omega)
      obtain ⟨q1, q2⟩ := join_eq h1 h2
      have h3 := joinR_sm h1 h2
      have l1 : x.Shapes.length ≤ 1048576 := h1.1
      have l2 : y.Shapes.length ≤ 1048576 := h2.1
      simp [toDrawing_eq h1, toDrawing_eq h2, q1, q2, eqDrawing_refl h1, eqDrawing_refl h2, eqDrawing_refl h3, markDrawing_eq (k := 1) (by omega) (by omega) h1, markDrawing_eq (x := y) (k := 1 + 7 * x.Shapes.length) (by omega) (by omega) h2, markDrawing_eq (k := 1) (by omega) (by omega) h3, heldDrawing_eq (k := 1) (by omega) (by omega) h3, chk_true,
        Int.not_lt.2 (show 0 ≤ 1 + 7 * (x.Shapes.length : Int) + 7 * (y.Shapes.length : Int) by omega), Int.not_lt.2 (show 0 ≤ 1 + 7 * ((joinR x y).1.Shapes.length : Int) by omega)]
end Go.Proofs.Ytplnohfjeilodaa
