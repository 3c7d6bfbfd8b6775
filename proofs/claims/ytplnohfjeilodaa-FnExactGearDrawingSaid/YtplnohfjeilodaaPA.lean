/- Plain laws, A: loops over rows, as models write them. No program, no machine. -/
import Derived.Test.YtplnohfjeilodaaAmU
namespace Go.Proofs.Ytplnohfjeilodaa
set_option linter.unusedVariables false
theorem atI_some {α : Type} {xs : List α} {i : Int} (h0 : 0 ≤ i) (h1 : i < xs.length) : ∃ e, atI xs i = some e ∧ e ∈ xs ∧ xs[i.toNat]? = some e := by
  have hl : i.toNat < xs.length := by omega
  refine ⟨xs[i.toNat], ?_, List.getElem_mem hl, List.getElem?_eq_getElem hl⟩
  unfold atI; rw [if_pos h0]; exact List.getElem?_eq_getElem hl
theorem atI_set {α : Type} {xs : List α} {i : Int} {x : α} (h0 : 0 ≤ i) (h1 : i < xs.length) : atI (List.set xs i.toNat x) i = some x := by
  unfold atI; rw [if_pos h0]; exact List.getElem?_set_self (by omega)
theorem chk_true {α : Type} {k : Option α} : chk True k = k := if_pos trivial
theorem w64_inc {i : Int} {n : Nat} (h0 : 0 ≤ i) (h1 : i < n) (hn : n ≤ 9223372036854775807) : w64 (i + 1) = i + 1 := w64_in (by omega) (by omega)
theorem take_set {α : Type} {xs ys : List α} {k : Nat} {e : α} (h : xs[k]? = some e) (hl : ys.length = xs.length) (hy : ys.take k = xs.take k) : (ys.set k e).take (k + 1) = xs.take (k + 1) := by
  have hk : k < xs.length := (List.getElem?_eq_some_iff.1 h).1
  rw [List.take_add_one, List.take_add_one, h, List.getElem?_set_self (by omega), List.take_set_of_le (Nat.le_refl _), hy]
/-- a row held against itself by a function -/
theorem eqS_refl {α : Type} {f : α → α → Option Bool} {xs : List α} (hl : xs.length ≤ 9223372036854775807) (h : ∀ v ∈ xs, f v v = some true) :
    loopM (S := Int) (X := Unit ⊕ Bool) (fun s => (if s < (xs.length : Int) then ((atI xs s).bind fun v => ((atI xs s).bind fun u => ((f v u).bind fun b => (if (!b) = true then some (.inr (.inr false)) else some (.inl (w64 (s + 1))))))) else some (.inr (.inl ())))) 0 = some (.inl ()) := by
  refine loopM_eq (fun (s : Int) => 0 ≤ s ∧ s ≤ xs.length) (fun (s : Int) => ((xs.length : Int) - s).toNat) (fun s hI => ?_) (by omega) (by omega)
  by_cases hs : s < xs.length
  · obtain ⟨e, he, hm, _⟩ := atI_some hI.1 hs
    left
    refine ⟨s + 1, ?_, by omega, by omega⟩
    simp [hs, he, h e hm, w64_inc hI.1 hs hl]
  · right; simp [hs]
/-- a row held against itself, element by element -/
theorem eqS_refl' {α : Type} [DecidableEq α] {xs : List α} (hl : xs.length ≤ 9223372036854775807) :
    loopM (S := Int) (X := Unit ⊕ Bool) (fun s => (if s < (xs.length : Int) then ((atI xs s).bind fun v => ((atI xs s).bind fun u => (if v ≠ u then some (.inr (.inr false)) else some (.inl (w64 (s + 1)))))) else some (.inr (.inl ())))) 0 = some (.inl ()) := by
  refine loopM_eq (fun (s : Int) => 0 ≤ s ∧ s ≤ xs.length) (fun (s : Int) => ((xs.length : Int) - s).toNat) (fun s hI => ?_) (by omega) (by omega)
  by_cases hs : s < xs.length
  · obtain ⟨e, he, hm, _⟩ := atI_some hI.1 hs
    left
    refine ⟨s + 1, ?_, by omega, by omega⟩
    simp [hs, he, w64_inc hI.1 hs hl]
  · right; simp [hs]
/-- a row written over, element by element -/
theorem toS_id {α : Type} {f : α → Option α} {xs : List α} {z : α} (hl : xs.length ≤ 9223372036854775807) (h : ∀ v ∈ xs, f v = some v) :
    loopM (S := Int × List α) (X := List α) (fun s => (if s.1 < (xs.length : Int) then ((atI xs s.1).bind fun v => ((f v).bind fun u => ((atI s.2 s.1).bind fun _ => some (.inl (w64 (s.1 + 1), List.set s.2 (s.1).toNat u))))) else some (.inr s.2))) (0, List.replicate ((xs.length : Int)).toNat z) = some xs := by
  refine loopM_eq (fun (s : Int × List α) => 0 ≤ s.1 ∧ s.1 ≤ xs.length ∧ s.2.length = xs.length ∧ s.2.take s.1.toNat = xs.take s.1.toNat) (fun (s : Int × List α) => ((xs.length : Int) - s.1).toNat) (fun s hI => ?_) (by simp) (by simp; omega)
  obtain ⟨i, ys⟩ := s
  obtain ⟨h0, h1, h2, h3⟩ := hI
  dsimp only at h0 h1 h2 h3 ⊢
  by_cases hs : i < xs.length
  · obtain ⟨e, he, hm, hg⟩ := atI_some h0 hs
    obtain ⟨e2, he2, _, _⟩ := atI_some (xs := ys) h0 (by omega)
    left
    refine ⟨(i + 1, ys.set i.toNat e), ?_, ⟨by omega, by omega, by simpa using h2, ?_⟩, by dsimp only; omega⟩
    · simp [hs, he, he2, h e hm, w64_inc h0 hs hl]
    · have : (i + 1).toNat = i.toNat + 1 := by omega
      dsimp only
      rw [this]
      exact take_set hg h2 h3
  · right
    have hi : i.toNat = xs.length := by omega
    rw [hi, List.take_length, List.take_of_length_le (by omega)] at h3
    simp [hs, h3]
theorem toS_id' {α : Type} {xs : List α} {z : α} (hl : xs.length ≤ 9223372036854775807) :
    loopM (S := Int × List α) (X := List α) (fun s => (if s.1 < (xs.length : Int) then ((atI xs s.1).bind fun v => ((atI s.2 s.1).bind fun _ => some (.inl (w64 (s.1 + 1), List.set s.2 (s.1).toNat v)))) else some (.inr s.2))) (0, List.replicate ((xs.length : Int)).toNat z) = some xs := by
  have := toS_id (f := fun x => some x) (z := z) hl (fun v _ => rfl)
  simpa using this
/-- the sizes of a row's elements -/
theorem szS_ok {α : Type} {f : α → Int → Option Int} {sm : α → Prop} {xs : List α} (hl : xs.length ≤ 9223372036854775807) (h : ∀ v ∈ xs, ∀ l, 0 ≤ l → l ≤ 1048576 → ∃ r, f v l = some r ∧ r ≤ l ∧ (0 ≤ r → sm v)) (l0 : Int) (h0 : 0 ≤ l0) (h1 : l0 ≤ 1048576) :
    ∃ x, loopM (S := Int × Int) (X := Int ⊕ Int) (fun s => (if s.2 < (xs.length : Int) then ((atI xs s.2).bind fun v => ((f v s.1).bind fun u => (if u < 0 then some (.inr (.inr (-1))) else some (.inl (u, w64 (s.2 + 1)))))) else some (.inr (.inl s.1)))) (l0, 0) = some x ∧ (x = .inr (-1) ∨ ∃ r, x = .inl r ∧ 0 ≤ r ∧ r ≤ l0 ∧ ∀ v ∈ xs, sm v) := by
  refine loopM_of (fun (s : Int × Int) => 0 ≤ s.2 ∧ s.2 ≤ xs.length ∧ 0 ≤ s.1 ∧ s.1 ≤ l0 ∧ ∀ v ∈ xs.take s.2.toNat, sm v) (fun (s : Int × Int) => ((xs.length : Int) - s.2).toNat) _ (fun s hI => ?_) _ (by simp; omega) (by simp; omega)
  obtain ⟨l, i⟩ := s
  obtain ⟨q0, q1, q2, q3, q4⟩ := hI
  dsimp only at q0 q1 q2 q3 q4 ⊢
  by_cases hs : i < xs.length
  · obtain ⟨e, he, hm, hg⟩ := atI_some q0 hs
    obtain ⟨r, hr, hrl, hsm⟩ := h e hm l q2 (by omega)
    by_cases hneg : r < 0
    · right
      exact ⟨.inr (-1), by simp [hs, he, hr, hneg], .inl rfl⟩
    · left
      refine ⟨(r, i + 1), by simp [hs, he, hr, hneg, w64_inc q0 hs hl], ⟨by omega, by omega, by omega, by omega, fun v hv => ?_⟩, by dsimp only; omega⟩
      have : (i + 1).toNat = i.toNat + 1 := by omega
      dsimp only at hv
      rw [this, List.take_add_one, hg] at hv
      simp only [Option.toList_some, List.mem_append, List.mem_singleton] at hv
      rcases hv with hv | rfl
      · exact q4 v hv
      · exact hsm (by omega)
  · right
    have hi : i.toNat = xs.length := by omega
    rw [hi, List.take_length] at q4
    exact ⟨.inl l, by simp [hs], .inr ⟨l, rfl, q2, q3, q4⟩⟩
/-- marks written into a row -/
theorem markS_ok {α : Type} {c : Int} {B : Int} {M : Int → α} {step : Int × Int × List α → Option ((Int × Int × List α) ⊕ (Int × List α))} (hc : 0 ≤ c)
    (hM : ∀ k i ys, 0 ≤ k → k ≤ B → 0 ≤ i → i < ys.length → ys.length ≤ 1048576 → step (k, i, ys) = some (.inl (k + c, i + 1, List.set ys i.toNat (M k)))) (hE : ∀ k i ys, ¬ i < ys.length → step (k, i, ys) = some (.inr (k, ys)))
    {xs : List α} {k0 : Int} (h0 : 0 ≤ k0) (hl : xs.length ≤ 1048576) (hB : k0 + c * xs.length ≤ B) : loopM step (k0, 0, xs) = some (k0 + c * xs.length, (List.range xs.length).map fun (j : Nat) => M (k0 + c * (j : Int))) := by
  refine loopM_eq (fun (s : Int × Int × List α) => 0 ≤ s.2.1 ∧ s.2.1 ≤ xs.length ∧ s.1 = k0 + c * s.2.1 ∧ s.2.2 = ((List.range s.2.1.toNat).map fun (j : Nat) => M (k0 + c * (j : Int))) ++ xs.drop s.2.1.toNat) (fun (s : Int × Int × List α) => ((xs.length : Int) - s.2.1).toNat) (fun s hI => ?_) (by simp) (by simp; omega)
  obtain ⟨k, i, ys⟩ := s
  obtain ⟨q0, q1, q2, q3⟩ := hI
  dsimp only at q0 q1 q2 q3 ⊢
  have hyl : ys.length = xs.length := by rw [q3]; simp; omega
  by_cases hs : i < xs.length
  · left
    have hci : 0 ≤ c * i := Int.mul_nonneg hc q0
    have hcl : c * i ≤ c * xs.length := Int.mul_le_mul_of_nonneg_left (by omega) hc
    refine ⟨_, hM k i ys (by omega) (by omega) q0 (by omega) (by omega), ⟨by dsimp only; omega, by dsimp only; omega, ?_, ?_⟩, by dsimp only; omega⟩
    · dsimp only
      rw [q2, Int.mul_add]; omega
    · have e1 : (i + 1).toNat = i.toNat + 1 := by omega
      dsimp only
      rw [e1, q3, List.set_append_right _ _ (by simp), List.range_succ, List.map_append, List.length_map, List.length_range, Nat.sub_self, List.drop_eq_getElem_cons (show i.toNat < xs.length by omega), List.set_cons_zero]
      have e2 : ((i.toNat : Nat) : Int) = i := by omega
      simp [q2, e2]
  · right
    have hi : i = xs.length := by omega
    rw [hE k i ys (by omega), q3, q2, hi]
    simp
/-- marks that are held -/
theorem heldS_ok {α : Type} {c : Int} {B : Int} {M : Int → α} {n : Nat} {step : Int × Int → Option ((Int × Int) ⊕ (Int ⊕ Int))} (hc : 0 ≤ c)
    {k0 : Int} (hM : ∀ k i : Int, 0 ≤ k → k ≤ B → 0 ≤ i → i < n → k = k0 + c * i → step (k, i) = some (.inl (k + c, i + 1))) (hE : ∀ k i, ¬ i < (n : Int) → step (k, i) = some (.inr (.inl k)))
    (h0 : 0 ≤ k0) (hl : n ≤ 1048576) (hB : k0 + c * n ≤ B) : loopM step (k0, 0) = some (.inl (k0 + c * n)) := by
  refine loopM_eq (fun (s : Int × Int) => 0 ≤ s.2 ∧ s.2 ≤ n ∧ s.1 = k0 + c * s.2) (fun (s : Int × Int) => ((n : Int) - s.2).toNat) (fun s hI => ?_) (by simp) (by simp; omega)
  obtain ⟨k, i⟩ := s
  obtain ⟨q0, q1, q2⟩ := hI
  dsimp only at q0 q1 q2 ⊢
  by_cases hs : i < n
  · left
    have hci : 0 ≤ c * i := Int.mul_nonneg hc q0
    have hcl : c * i ≤ c * n := Int.mul_le_mul_of_nonneg_left (by omega) hc
    refine ⟨_, hM k i (by omega) (by omega) q0 hs q2, ⟨by dsimp only; omega, by dsimp only; omega, by dsimp only; rw [q2, Int.mul_add]; omega⟩, by dsimp only; omega⟩
  · right
    have hi : i = n := by omega
    rw [hE k i (by omega), q2, hi]
theorem marked_get {α : Type} {M : Int → α} {k0 c : Int} {n : Nat} {i : Int} (h0 : 0 ≤ i) (h1 : i < n) : atI ((List.range n).map fun (j : Nat) => M (k0 + c * (j : Int))) i = some (M (k0 + c * i)) := by
  unfold atI
  rw [if_pos h0, List.getElem?_map, List.getElem?_range (by omega)]
  have : ((i.toNat : Nat) : Int) = i := by omega
  simp [this]
/-- a row built element by element -/
theorem buildS_ok {α : Type} {n : Nat} {g : Nat → α} {step : Int × List α → Option ((Int × List α) ⊕ List α)} (hS : ∀ (i : Nat) ys, i < n → ys.length = i → step ((i : Int), ys) = some (.inl ((i : Int) + 1, ys ++ [g i]))) (hE : ∀ ys, step ((n : Int), ys) = some (.inr ys)) (hn : n ≤ 9223372036854775807) :
    loopM step (0, []) = some ((List.range n).map g) := by
  refine loopM_eq (fun (s : Int × List α) => 0 ≤ s.1 ∧ s.1 ≤ n ∧ s.2 = (List.range s.1.toNat).map g) (fun (s : Int × List α) => ((n : Int) - s.1).toNat) (fun s hI => ?_) (by simp) (by simp; omega)
  obtain ⟨i, ys⟩ := s
  obtain ⟨q0, q1, q2⟩ := hI
  dsimp only at q0 q1 q2 ⊢
  obtain ⟨j, rfl⟩ : ∃ j : Nat, i = j := ⟨i.toNat, by omega⟩
  by_cases hs : (j : Int) < n
  · left
    refine ⟨_, hS j ys (by omega) (by rw [q2]; simp), ⟨by dsimp only; omega, by dsimp only; omega, ?_⟩, by dsimp only; omega⟩
    have e : ((j : Int) + 1).toNat = j + 1 := by omega
    have e2 : ((j : Int)).toNat = j := by omega
    dsimp only
    rw [e, q2, e2, List.range_succ, List.map_append]; rfl
  · right
    have : j = n := by omega
    subst this
    rw [hE ys, q2]
    have e2 : ((j : Int)).toNat = j := by omega
    rw [e2]
end Go.Proofs.Ytplnohfjeilodaa
