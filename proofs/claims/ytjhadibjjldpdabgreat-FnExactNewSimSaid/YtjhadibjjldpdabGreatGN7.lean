/- Texts of this claim, one behind the other (merged by a program of mine). -/
import Derived.Test.YtjhadibjjldpdabGreatGN6
set_option linter.unusedSimpArgs false
set_option linter.unusedVariables false
namespace Go.Proofs.YtjhadibjjldpdabGreat
set_option linter.unusedVariables false
section
variable {α : Type} (f : Int → α → α × Int)
def accL : Int → List α → List α
  | _, [] => []
  | k, a :: l => (f k a).1 :: accL (f k a).2 l
def accK : Int → List α → Int
  | k, [] => k
  | k, a :: l => accK (f k a).2 l
theorem accL_len : ∀ (xs : List α) (k : Int), (accL f k xs).length = xs.length
  | [], _ => rfl
  | a :: l, k => by simp [accL, accL_len l]
theorem accK_app : ∀ (xs ys : List α) (k : Int), accK f k (xs ++ ys) = accK f (accK f k xs) ys
  | [], _, _ => rfl
  | a :: l, ys, k => by simp [accK, accK_app l ys]
theorem accL_app : ∀ (xs ys : List α) (k : Int), accL f k (xs ++ ys) = accL f k xs ++ accL f (accK f k xs) ys
  | [], _, _ => rfl
  | a :: l, ys, k => by simp [accL, accK, accL_app l ys]
end
section
variable {α : Type} {f : Int → α → α × Int} {sm : α → Prop} {C : Int}
theorem accK_b (hC : 0 ≤ C) (hf : ∀ k a, sm a → k ≤ (f k a).2 ∧ (f k a).2 ≤ k + C) : ∀ {xs : List α} {k : Int}, (∀ a ∈ xs, sm a) → k ≤ accK f k xs ∧ accK f k xs ≤ k + C * xs.length
  | [], k, _ => by simp [accK]
  | a :: l, k, h => by
    have h1 := hf k a (h a (by simp))
    have h2 := accK_b hC hf (xs := l) (k := (f k a).2) fun b hb => h b (by simp [hb])
    simp only [accK, List.length_cons]
    have : C * ((l.length + 1 : Nat) : Int) = C * l.length + C := by push_cast; rw [Int.mul_add]; omega
    omega
theorem accK_pre (hC : 0 ≤ C) (hf : ∀ k a, sm a → k ≤ (f k a).2 ∧ (f k a).2 ≤ k + C) {xs pre : List α} {a : α} {suf : List α} {k0 B : Int} (hsm : ∀ a ∈ xs, sm a) (hB : k0 + C * xs.length ≤ B) (e : xs = pre ++ a :: suf) : k0 ≤ accK f k0 pre ∧ accK f k0 pre ≤ B := by
  have := accK_b hC hf (xs := pre) (k := k0) fun b hb => hsm b (by rw [e]; simp [hb])
  have h2 : C * (pre.length : Int) ≤ C * xs.length := Int.mul_le_mul_of_nonneg_left (by rw [e]; simp; omega) hC
  omega
theorem markF_ok {B : Int} (hC : 0 ≤ C) (hf : ∀ k a, sm a → k ≤ (f k a).2 ∧ (f k a).2 ≤ k + C) {step : Int × Int × List α → Option ((Int × Int × List α) ⊕ (Int × List α))} {xs : List α} (hsm : ∀ a ∈ xs, sm a) (hl : xs.length ≤ 1048576)
    (hM : ∀ k (i : Nat) ys a, 0 ≤ k → k ≤ B → ys[i]? = some a → sm a → ys.length = xs.length → step (k, (i : Int), ys) = some (.inl ((f k a).2, (i : Int) + 1, ys.set i (f k a).1))) (hE : ∀ k (i : Nat) ys, ys.length ≤ i → step (k, (i : Int), ys) = some (.inr (k, ys)))
    {k0 : Int} (h0 : 0 ≤ k0) (hB : k0 + C * xs.length ≤ B) : loopM step (k0, 0, xs) = some (accK f k0 xs, accL f k0 xs) := by
  refine loopM_eq (fun (s : Int × Int × List α) => ∃ pre suf, xs = pre ++ suf ∧ s = (accK f k0 pre, (pre.length : Int), accL f k0 pre ++ suf)) (fun (s : Int × Int × List α) => ((xs.length : Int) - s.2.1).toNat) (fun s hI => ?_) ⟨[], xs, rfl, rfl⟩ (by simp; omega)
  obtain ⟨pre, suf, e, rfl⟩ := hI
  cases suf with
  | nil =>
    right
    rw [List.append_nil] at e
    subst e
    rw [hE _ _ _ (by simp [accL_len]), List.append_nil]
  | cons a suf =>
    left
    have hb := accK_pre hC hf hsm hB e
    have hlen : (accL f k0 pre ++ a :: suf).length = xs.length := by rw [e]; simp [accL_len]
    refine ⟨_, hM _ pre.length _ a (by omega) hb.2 (by rw [List.getElem?_append_right (by rw [accL_len]; exact Nat.le_refl _), accL_len]; simp) (hsm a (by rw [e]; simp)) hlen, ⟨pre ++ [a], suf, by rw [e]; simp, ?_⟩, ?_⟩
    · rw [accK_app, accL_app, List.set_append_right _ _ (by rw [accL_len]; exact Nat.le_refl _), accL_len, Nat.sub_self, List.set_cons_zero]
      simp [accK, accL]
    · have : pre.length < xs.length := by rw [e]; simp
      dsimp only
      omega
theorem heldF_ok {B : Int} (hC : 0 ≤ C) (hf : ∀ k a, sm a → k ≤ (f k a).2 ∧ (f k a).2 ≤ k + C) {step : Int × Int → Option ((Int × Int) ⊕ (Int ⊕ Int))} {xs : List α} {k0 : Int} (hsm : ∀ a ∈ xs, sm a) (hl : xs.length ≤ 1048576)
    (hM : ∀ k (i : Nat) a, 0 ≤ k → k ≤ B → (accL f k0 xs)[i]? = some (f k a).1 → sm a → i < xs.length → step (k, (i : Int)) = some (.inl ((f k a).2, (i : Int) + 1))) (hE : ∀ k, step (k, (xs.length : Int)) = some (.inr (.inl k)))
    (h0 : 0 ≤ k0) (hB : k0 + C * xs.length ≤ B) : loopM step (k0, 0) = some (.inl (accK f k0 xs)) := by
  refine loopM_eq (fun (s : Int × Int) => ∃ pre suf, xs = pre ++ suf ∧ s = (accK f k0 pre, (pre.length : Int))) (fun (s : Int × Int) => ((xs.length : Int) - s.2).toNat) (fun s hI => ?_) ⟨[], xs, rfl, rfl⟩ (by simp; omega)
  obtain ⟨pre, suf, e, rfl⟩ := hI
  cases suf with
  | nil =>
    right
    rw [List.append_nil] at e
    subst e
    rw [hE]
  | cons a suf =>
    left
    have hb := accK_pre hC hf hsm hB e
    have hlt : pre.length < xs.length := by rw [e]; simp
    refine ⟨_, hM _ pre.length a (by omega) hb.2 ?_ (hsm a (by rw [e]; simp)) hlt, ⟨pre ++ [a], suf, by rw [e]; simp, ?_⟩, ?_⟩
    · rw [e, accL_app, List.getElem?_append_right (by rw [accL_len]; exact Nat.le_refl _), accL_len]
      simp [accL]
    · rw [accK_app]; simp [accK]
    · dsimp only
      omega
end
def mkA (k : Int) (a : Arbor_) : Arbor_ × Int := (⟨mkT k, (List.range a.Wheels.length).map fun (j : Nat) => mkInt64S (k + 1 + 1 * (j : Int))⟩, k + 1 + 1 * a.Wheels.length)
theorem mkA_b : ∀ k a, smArbor_ a → k ≤ (mkA k a).2 ∧ (mkA k a).2 ≤ k + 1048577 := fun k a h => by
  have := h.2.1
  unfold mkA
  dsimp only
  omega
theorem endA_b {x : List Arbor_} {k : Int} (h : smL smArbor_ x) : k ≤ accK mkA k x ∧ accK mkA k x ≤ k + 1099512676352 := by
  have := accK_b (by omega) mkA_b (k := k) h.2
  have := h.1
  omega
theorem markArborS_eq {x : List Arbor_} {k : Int} (h0 : 0 ≤ k) (hk : k ≤ 10000000000000) (h : smL smArbor_ x) : l_markArborS_o_m x k = some (accK mkA k x, accL mkA k x) := by
  unfold l_markArborS_o_m
  have hl := h.1
  rw [markF_ok (f := mkA) (sm := smArbor_) (C := 1048577) (B := 12000000000000) (by omega) mkA_b h.2 h.1 (fun k i ys a a1 a2 a3 a4 a5 => ?_) (fun k i ys a => ?_) h0 (by omega)]
  · rfl
  · have hil := (List.getElem?_eq_some_iff.1 a3).1
    have hw := a4.2.1
    have e1 : atI ys (i : Int) = some a := by rw [atI_nat]; exact a3
    have e2 : ∀ b : Arbor_, atI (ys.set i b) (i : Int) = some b := fun b => by rw [atI_nat]; exact List.getElem?_set_self hil
    have h7 := markInt64S_eq (x := a.Wheels) (k := k + 1) (by omega) (by omega) hw
    simp only [if_pos (show (i : Int) < (ys.length : Int) by omega), markText_eq a1 (show k ≤ 1000000000000000000 by omega), e1, e2, Option.bind_some, Int.toNat_natCast, w64_in (x := k + 1) (by omega) (by omega), h7, List.set_set, w64_in (x := (i : Int) + 1) (by omega) (by omega), mkA]
    rw [chk_t (by simp)]
  · simp only [if_neg (show ¬ (i : Int) < (ys.length : Int) by omega)]
theorem heldArborS_eq {x : List Arbor_} {k : Int} (h0 : 0 ≤ k) (hk : k ≤ 10000000000000) (h : smL smArbor_ x) : l_heldArborS_m (accL mkA k x) k = some (accK mkA k x) := by
  unfold l_heldArborS_m
  have hl := h.1
  rw [heldF_ok (f := mkA) (sm := smArbor_) (C := 1048577) (B := 12000000000000) (xs := x) (by omega) mkA_b h.2 h.1 (fun k' i a a1 a2 a3 a4 a5 => ?_) (fun k' => ?_) h0 (by omega)]
  · rfl
  · have hw := a4.2.1
    have e1 : atI (accL mkA k x) (i : Int) = some (mkA k' a).1 := by rw [atI_nat]; exact a3
    have h7 := heldInt64S_eq (n := a.Wheels.length) (k := k' + 1) (by omega) (by omega) hw
    simp only [accL_len, if_pos (show (i : Int) < (x.length : Int) by omega), markText_eq a1 (show k' ≤ 1000000000000000000 by omega), e1, Option.bind_some, w64_in (x := k' + 1) (by omega) (by omega), mkA, ne_eq, not_true_eq_false, if_false, h7, Int.not_lt.2 (show 0 ≤ k' + 1 + 1 * (a.Wheels.length : Int) by omega), w64_in (x := (i : Int) + 1) (by omega) (by omega)]
  · simp only [accL_len, if_neg (show ¬ (x.length : Int) < (x.length : Int) by omega)]
end Go.Proofs.YtjhadibjjldpdabGreat
namespace Go.Proofs.YtjhadibjjldpdabGreat
open Go.RowKit
set_option linter.unusedVariables false
set_option maxRecDepth 100000
set_option maxHeartbeats 2000000
theorem markWorks_eq {x : Works_} {k : Int} (h0 : 0 ≤ k) (hk : k ≤ 8000000000000) (h : smWorks_ x) : l_markWorks_o_m x k = some ((accK mkA (k) x.Arbors) + 4 * x.Meshes.length, (accL mkA (k) x.Arbors), ((List.range x.Meshes.length).map fun (j : Nat) => mkMeshS ((accK mkA (k) x.Arbors) + 4 * (j : Int)))) := by
  have g0 := (h.1).1
  have b0 := endA_b (k := k) (h.1)
  have g1 := (h.2).1
  unfold l_markWorks_o_m
  simp only [markArborS_eq (x := x.Arbors) (k := k) (by omega) (by omega) (h.1), markMeshS_eq (x := x.Meshes) (k := accK mkA (k) x.Arbors) (by omega) (by omega) (h.2).1, Option.bind_some, List.length_map, List.length_range, accL_len, chk_true]
theorem heldWorks_eq {x : Works_} {k : Int} (h0 : 0 ≤ k) (hk : k ≤ 8000000000000) (h : smWorks_ x) : l_heldWorks_m ⟨(accL mkA (k) x.Arbors), ((List.range x.Meshes.length).map fun (j : Nat) => mkMeshS ((accK mkA (k) x.Arbors) + 4 * (j : Int)))⟩ k = some ((accK mkA (k) x.Arbors) + 4 * x.Meshes.length) := by
  have g0 := (h.1).1
  have b0 := endA_b (k := k) (h.1)
  have g1 := (h.2).1
  unfold l_heldWorks_m
  simp only [heldArborS_eq (x := x.Arbors) (k := k) (by omega) (by omega) (h.1), heldMeshS_eq (n := x.Meshes.length) (k := accK mkA (k) x.Arbors) (by omega) (by omega) (h.2).1, Option.bind_some, List.length_map, List.length_range, accL_len, Int.not_lt.2 (show 0 ≤ accK mkA (k) x.Arbors by omega), Int.not_lt.2 (show 0 ≤ (accK mkA (k) x.Arbors) + 4 * x.Meshes.length by omega), if_false]
theorem markCalendar_eq {x : Calendar_} {k : Int} (h0 : 0 ≤ k) (hk : k ≤ 8000000000000) (h : smCalendar_ x) : l_markCalendar_o_m x k = some ((k + 3 * x.Months.length) + 3 * x.Rules.length, ((List.range x.Months.length).map fun (j : Nat) => mkMonthS (k + 3 * (j : Int))), ((List.range x.Rules.length).map fun (j : Nat) => mkLeapRuleS ((k + 3 * x.Months.length) + 3 * (j : Int)))) := by
  have g0 := (h.2.1).1
  have g1 := (h.2.2.1).1
  unfold l_markCalendar_o_m
  simp only [markMonthS_eq (x := x.Months) (k := k) (by omega) (by omega) (h.2.1).1, markLeapRuleS_eq (x := x.Rules) (k := k + 3 * x.Months.length) (by omega) (by omega) (h.2.2.1).1, Option.bind_some, List.length_map, List.length_range, chk_true]
theorem heldCalendar_eq {x : Calendar_} {k : Int} (h0 : 0 ≤ k) (hk : k ≤ 8000000000000) (h : smCalendar_ x) : l_heldCalendar_m ⟨x.Name, ((List.range x.Months.length).map fun (j : Nat) => mkMonthS (k + 3 * (j : Int))), ((List.range x.Rules.length).map fun (j : Nat) => mkLeapRuleS ((k + 3 * x.Months.length) + 3 * (j : Int))), x.Week⟩ k = some ((k + 3 * x.Months.length) + 3 * x.Rules.length) := by
  have g0 := (h.2.1).1
  have g1 := (h.2.2.1).1
  unfold l_heldCalendar_m
  simp only [heldMonthS_eq (n := x.Months.length) (k := k) (by omega) (by omega) (h.2.1).1, heldLeapRuleS_eq (n := x.Rules.length) (k := k + 3 * x.Months.length) (by omega) (by omega) (h.2.2.1).1, Option.bind_some, List.length_map, List.length_range, Int.not_lt.2 (show 0 ≤ k + 3 * x.Months.length by omega), Int.not_lt.2 (show 0 ≤ (k + 3 * x.Months.length) + 3 * x.Rules.length by omega), if_false]
theorem markMovement_eq {x : Movement_} {k : Int} (h0 : 0 ≤ k) (hk : k ≤ 6000000000000) (h : smMovement_ x) : l_markMovement_o_m x k = some (((((accK mkA (k) x.Works.Arbors) + 4 * x.Works.Meshes.length) + 3 * x.Calendar.Months.length) + 3 * x.Calendar.Rules.length) + 1 * x.Cam.length, (accL mkA (k) x.Works.Arbors), ((List.range x.Works.Meshes.length).map fun (j : Nat) => mkMeshS ((accK mkA (k) x.Works.Arbors) + 4 * (j : Int))), ((List.range x.Calendar.Months.length).map fun (j : Nat) => mkMonthS (((accK mkA (k) x.Works.Arbors) + 4 * x.Works.Meshes.length) + 3 * (j : Int))), ((List.range x.Calendar.Rules.length).map fun (j : Nat) => mkLeapRuleS ((((accK mkA (k) x.Works.Arbors) + 4 * x.Works.Meshes.length) + 3 * x.Calendar.Months.length) + 3 * (j : Int))), ((List.range x.Cam.length).map fun (j : Nat) => mkInt64S (((((accK mkA (k) x.Works.Arbors) + 4 * x.Works.Meshes.length) + 3 * x.Calendar.Months.length) + 3 * x.Calendar.Rules.length) + 1 * (j : Int)))) := by
  have g0 := (h.2.1.1).1
  have b0 := endA_b (k := k) (h.2.1.1)
  have g1 := (h.2.1.2).1
  have g2 := (h.2.2.2.2.2.2.2.1.2.1).1
  have g3 := (h.2.2.2.2.2.2.2.1.2.2.1).1
  have g4 := (h.2.2.2.2.2.2.2.2.1).1
  unfold l_markMovement_o_m
  simp only [markWorks_eq (x := x.Works) (k := k) (by omega) (by omega) (h.2.1), markCalendar_eq (x := x.Calendar) (k := (accK mkA (k) x.Works.Arbors) + 4 * x.Works.Meshes.length) (by omega) (by omega) (h.2.2.2.2.2.2.2.1), markInt64S_eq (x := x.Cam) (k := (((accK mkA (k) x.Works.Arbors) + 4 * x.Works.Meshes.length) + 3 * x.Calendar.Months.length) + 3 * x.Calendar.Rules.length) (by omega) (by omega) (h.2.2.2.2.2.2.2.2.1).1, Option.bind_some, List.length_map, List.length_range, accL_len, chk_true]
theorem heldMovement_eq {x : Movement_} {k : Int} (h0 : 0 ≤ k) (hk : k ≤ 6000000000000) (h : smMovement_ x) : l_heldMovement_m ⟨x.Name, ⟨(accL mkA (k) x.Works.Arbors), ((List.range x.Works.Meshes.length).map fun (j : Nat) => mkMeshS ((accK mkA (k) x.Works.Arbors) + 4 * (j : Int)))⟩, x.Minute, x.Hour, x.Escape, x.Teeth, x.Beats, ⟨x.Calendar.Name, ((List.range x.Calendar.Months.length).map fun (j : Nat) => mkMonthS (((accK mkA (k) x.Works.Arbors) + 4 * x.Works.Meshes.length) + 3 * (j : Int))), ((List.range x.Calendar.Rules.length).map fun (j : Nat) => mkLeapRuleS ((((accK mkA (k) x.Works.Arbors) + 4 * x.Works.Meshes.length) + 3 * x.Calendar.Months.length) + 3 * (j : Int))), x.Calendar.Week⟩, ((List.range x.Cam.length).map fun (j : Nat) => mkInt64S (((((accK mkA (k) x.Works.Arbors) + 4 * x.Works.Meshes.length) + 3 * x.Calendar.Months.length) + 3 * x.Calendar.Rules.length) + 1 * (j : Int))), x.Strike⟩ k = some (((((accK mkA (k) x.Works.Arbors) + 4 * x.Works.Meshes.length) + 3 * x.Calendar.Months.length) + 3 * x.Calendar.Rules.length) + 1 * x.Cam.length) := by
  have g0 := (h.2.1.1).1
  have b0 := endA_b (k := k) (h.2.1.1)
  have g1 := (h.2.1.2).1
  have g2 := (h.2.2.2.2.2.2.2.1.2.1).1
  have g3 := (h.2.2.2.2.2.2.2.1.2.2.1).1
  have g4 := (h.2.2.2.2.2.2.2.2.1).1
  unfold l_heldMovement_m
  simp only [heldWorks_eq (x := x.Works) (k := k) (by omega) (by omega) (h.2.1), heldCalendar_eq (x := x.Calendar) (k := (accK mkA (k) x.Works.Arbors) + 4 * x.Works.Meshes.length) (by omega) (by omega) (h.2.2.2.2.2.2.2.1), heldInt64S_eq (n := x.Cam.length) (k := (((accK mkA (k) x.Works.Arbors) + 4 * x.Works.Meshes.length) + 3 * x.Calendar.Months.length) + 3 * x.Calendar.Rules.length) (by omega) (by omega) (h.2.2.2.2.2.2.2.2.1).1, Option.bind_some, List.length_map, List.length_range, accL_len, Int.not_lt.2 (show 0 ≤ (accK mkA (k) x.Works.Arbors) + 4 * x.Works.Meshes.length by omega), Int.not_lt.2 (show 0 ≤ (((accK mkA (k) x.Works.Arbors) + 4 * x.Works.Meshes.length) + 3 * x.Calendar.Months.length) + 3 * x.Calendar.Rules.length by omega), Int.not_lt.2 (show 0 ≤ ((((accK mkA (k) x.Works.Arbors) + 4 * x.Works.Meshes.length) + 3 * x.Calendar.Months.length) + 3 * x.Calendar.Rules.length) + 1 * x.Cam.length by omega), if_false]
theorem markSim_eq {x : Sim_} {k : Int} (h0 : 0 ≤ k) (hk : k ≤ 4000000000000) (h : smSim_ x) : l_markSim_o_m x k = some ((((((accK mkA (k) x.Movement.Works.Arbors) + 4 * x.Movement.Works.Meshes.length) + 3 * x.Movement.Calendar.Months.length) + 3 * x.Movement.Calendar.Rules.length) + 1 * x.Movement.Cam.length) + 1 * x.Dial.Cam.length, (accL mkA (k) x.Movement.Works.Arbors), ((List.range x.Movement.Works.Meshes.length).map fun (j : Nat) => mkMeshS ((accK mkA (k) x.Movement.Works.Arbors) + 4 * (j : Int))), ((List.range x.Movement.Calendar.Months.length).map fun (j : Nat) => mkMonthS (((accK mkA (k) x.Movement.Works.Arbors) + 4 * x.Movement.Works.Meshes.length) + 3 * (j : Int))), ((List.range x.Movement.Calendar.Rules.length).map fun (j : Nat) => mkLeapRuleS ((((accK mkA (k) x.Movement.Works.Arbors) + 4 * x.Movement.Works.Meshes.length) + 3 * x.Movement.Calendar.Months.length) + 3 * (j : Int))), ((List.range x.Movement.Cam.length).map fun (j : Nat) => mkInt64S (((((accK mkA (k) x.Movement.Works.Arbors) + 4 * x.Movement.Works.Meshes.length) + 3 * x.Movement.Calendar.Months.length) + 3 * x.Movement.Calendar.Rules.length) + 1 * (j : Int))), ((List.range x.Dial.Cam.length).map fun (j : Nat) => mkInt64S ((((((accK mkA (k) x.Movement.Works.Arbors) + 4 * x.Movement.Works.Meshes.length) + 3 * x.Movement.Calendar.Months.length) + 3 * x.Movement.Calendar.Rules.length) + 1 * x.Movement.Cam.length) + 1 * (j : Int)))) := by
  have g0 := (h.1.2.1.1).1
  have b0 := endA_b (k := k) (h.1.2.1.1)
  have g1 := (h.1.2.1.2).1
  have g2 := (h.1.2.2.2.2.2.2.2.1.2.1).1
  have g3 := (h.1.2.2.2.2.2.2.2.1.2.2.1).1
  have g4 := (h.1.2.2.2.2.2.2.2.2.1).1
  have g5 := (h.2.2.2.2.1).1
  unfold l_markSim_o_m
  simp only [markMovement_eq (x := x.Movement) (k := k) (by omega) (by omega) (h.1), markPerpetual_eq (x := x.Dial) (k := ((((accK mkA (k) x.Movement.Works.Arbors) + 4 * x.Movement.Works.Meshes.length) + 3 * x.Movement.Calendar.Months.length) + 3 * x.Movement.Calendar.Rules.length) + 1 * x.Movement.Cam.length) (by omega) (by omega) (h.2.2.2.2), Option.bind_some, List.length_map, List.length_range, accL_len, chk_true]
theorem heldSim_eq {x : Sim_} {k : Int} (h0 : 0 ≤ k) (hk : k ≤ 4000000000000) (h : smSim_ x) : l_heldSim_m ⟨⟨x.Movement.Name, ⟨(accL mkA (k) x.Movement.Works.Arbors), ((List.range x.Movement.Works.Meshes.length).map fun (j : Nat) => mkMeshS ((accK mkA (k) x.Movement.Works.Arbors) + 4 * (j : Int)))⟩, x.Movement.Minute, x.Movement.Hour, x.Movement.Escape, x.Movement.Teeth, x.Movement.Beats, ⟨x.Movement.Calendar.Name, ((List.range x.Movement.Calendar.Months.length).map fun (j : Nat) => mkMonthS (((accK mkA (k) x.Movement.Works.Arbors) + 4 * x.Movement.Works.Meshes.length) + 3 * (j : Int))), ((List.range x.Movement.Calendar.Rules.length).map fun (j : Nat) => mkLeapRuleS ((((accK mkA (k) x.Movement.Works.Arbors) + 4 * x.Movement.Works.Meshes.length) + 3 * x.Movement.Calendar.Months.length) + 3 * (j : Int))), x.Movement.Calendar.Week⟩, ((List.range x.Movement.Cam.length).map fun (j : Nat) => mkInt64S (((((accK mkA (k) x.Movement.Works.Arbors) + 4 * x.Movement.Works.Meshes.length) + 3 * x.Movement.Calendar.Months.length) + 3 * x.Movement.Calendar.Rules.length) + 1 * (j : Int))), x.Movement.Strike⟩, x.Start, x.First, x.Clock, ⟨((List.range x.Dial.Cam.length).map fun (j : Nat) => mkInt64S ((((((accK mkA (k) x.Movement.Works.Arbors) + 4 * x.Movement.Works.Meshes.length) + 3 * x.Movement.Calendar.Months.length) + 3 * x.Movement.Calendar.Rules.length) + 1 * x.Movement.Cam.length) + 1 * (j : Int))), x.Dial.Months, x.Dial.Teeth, x.Dial.At, x.Dial.Day, x.Dial.Week, x.Dial.Weekday⟩⟩ k = some ((((((accK mkA (k) x.Movement.Works.Arbors) + 4 * x.Movement.Works.Meshes.length) + 3 * x.Movement.Calendar.Months.length) + 3 * x.Movement.Calendar.Rules.length) + 1 * x.Movement.Cam.length) + 1 * x.Dial.Cam.length) := by
  have g0 := (h.1.2.1.1).1
  have b0 := endA_b (k := k) (h.1.2.1.1)
  have g1 := (h.1.2.1.2).1
  have g2 := (h.1.2.2.2.2.2.2.2.1.2.1).1
  have g3 := (h.1.2.2.2.2.2.2.2.1.2.2.1).1
  have g4 := (h.1.2.2.2.2.2.2.2.2.1).1
  have g5 := (h.2.2.2.2.1).1
  unfold l_heldSim_m
  simp only [heldMovement_eq (x := x.Movement) (k := k) (by omega) (by omega) (h.1), heldPerpetual_eq (x := x.Dial) (k := ((((accK mkA (k) x.Movement.Works.Arbors) + 4 * x.Movement.Works.Meshes.length) + 3 * x.Movement.Calendar.Months.length) + 3 * x.Movement.Calendar.Rules.length) + 1 * x.Movement.Cam.length) (by omega) (by omega) (h.2.2.2.2), Option.bind_some, List.length_map, List.length_range, accL_len, Int.not_lt.2 (show 0 ≤ ((((accK mkA (k) x.Movement.Works.Arbors) + 4 * x.Movement.Works.Meshes.length) + 3 * x.Movement.Calendar.Months.length) + 3 * x.Movement.Calendar.Rules.length) + 1 * x.Movement.Cam.length by omega), Int.not_lt.2 (show 0 ≤ (((((accK mkA (k) x.Movement.Works.Arbors) + 4 * x.Movement.Works.Meshes.length) + 3 * x.Movement.Calendar.Months.length) + 3 * x.Movement.Calendar.Rules.length) + 1 * x.Movement.Cam.length) + 1 * x.Dial.Cam.length by omega), if_false]
end Go.Proofs.YtjhadibjjldpdabGreat
namespace Go.Proofs.YtjhadibjjldpdabGreat
set_option linter.unusedVariables false
theorem s_l08Own_eq {w : Works_} (h : smWorks_ w) : s_l08Own_m w = some w := by
  unfold s_l08Own_m
  have hl := h.1.1
  have hm := h.2.1
  rw [chk_t (by simp; omega), buildF_ok (xs := w.Arbors) (f := fun a => [a]) (c := 1) (fun v _ => by simp) (fun i hi ys hy => ?_) (fun ys => by simp) (by omega)]
  · simp
  · have hi' : (i : Int) < w.Arbors.length := by omega
    have hw := (h.1.2 _ (List.getElem_mem hi)).2.1
    simp only [if_pos hi', atI_lt hi, Option.bind_some, w64_in (x := (i : Int) + 1) (by omega) (by omega)]
    rw [s_ownI hw, Option.bind_some, chk_t (by simp at hy ⊢; omega)]
theorem s_l26Own_eq {m : Movement_} (h : smMovement_ m) : s_l26Own_m m = some m := by
  obtain ⟨c1, c2, c3⟩ := smC h
  unfold s_l26Own_m s_l15Own_m
  rw [s_l08Own_eq h.2.1, Option.bind_some, chk_t (by simp; omega), chk_t (by simp; omega), Option.bind_some, s_ownI c3, Option.bind_some]
  simp
theorem zeroS_sm : smSim_ zeroS := by
  unfold zeroS zeroM zeroP smSim_ smMovement_ smWorks_ smCalendar_ smPerpetual_ smDate_ smL smS
  simp [ByteArray.size]
theorem setR_len {c : Calendar_} {cam : List Int} (h : cam.length ≤ 1048576) (d : Date_) (wd : Int) : (setR c cam d wd).1.Cam.length ≤ 1048576 := by
  unfold setR
  (repeat' split) <;> first | exact h | simp
end Go.Proofs.YtjhadibjjldpdabGreat
namespace Go.Proofs.YtjhadibjjldpdabGreat
set_option linter.unusedVariables false
theorem s_NewSim_eq {m : Movement_} (h : smMovement_ m) (d : Date_) (wd : Int) : s_NewSim_m m d wd = some (newR m d wd) := by
  obtain ⟨c1, c2, c3⟩ := smC h
  unfold s_NewSim_m newR s_l27Dial_m
  rw [s_l26Ok_eq h, Option.bind_some]
  cases hv : movB m
  · rfl
  · rw [s_l26Faults_eq h hv]
    simp only [Bool.not_true, Bool.false_eq_true, if_false, if_true, Option.bind_some, len_nil]
    by_cases hf : faultsR m = []
    · rw [if_neg (by simp [hf]), if_pos hf, s_SetPerpetual_eq (by omega) (by omega) c3, Option.bind_some, Option.bind_some]
      by_cases hs : (setR m.Calendar m.Cam d wd).2 = 0
      · rw [if_neg (by simp [hs]), if_pos hs, s_l26Own_eq h, Option.bind_some]
      · rw [if_pos hs, if_neg hs]; rfl
    · rw [if_pos hf, if_neg hf]; rfl
theorem newR_sm {m : Movement_} (h : smMovement_ m) (d : Date_) (wd : Int) : smSim_ (newR m d wd).1 := by
  have hl := setR_len (c := m.Calendar) (smC h).2.2 d wd
  unfold newR
  (repeat' split) <;> first | exact zeroS_sm | exact ⟨h, ⟨trivial, trivial, trivial⟩, trivial, trivial, ⟨hl, fun _ _ => trivial⟩, trivial, trivial, trivial, trivial, trivial, trivial⟩
theorem law_newSim (p0 : Movement_) (k0 : okMovement_ p0) (p1 : Date_) (k1 : okDate_ p1) (p2 : Int) (k2 : osI p2) : l_FnExactNewSim_m p0 p1 p2 = some true := by
  unfold l_FnExactNewSim_m
  obtain ⟨r, e, l, s⟩ := szMovement_ok k0 1048576 (by omega) (by omega)
  rw [e, Option.bind_some]
  by_cases hr : r < 0
  · rw [if_pos hr]
  · rw [if_neg hr]
    have h0 := s (by omega)
    have hd : smDate_ p1 := ⟨trivial, trivial, trivial⟩
    have h1 := newR_sm h0 p1 p2
    have hs := s_NewSim_eq h0 p1 p2
    have hi := i_NewSim_eq h0 p1 p2
    generalize newR p0 p1 p2 = x at h1 hs hi
    have m0 := markMovement_eq (x := p0) (k := 1) (by omega) (by omega) h0
    have m1 := markSim_eq (x := x.1) (k := 1) (by omega) (by omega) h1
    have d1 := heldSim_eq (x := x.1) (k := 1) (by omega) (by omega) h1
    have b0 := endA_b (k := 1) h0.2.1.1
    have b1 := endA_b (k := 1) h1.1.2.1.1
    simp only [toMovement_eq h0, toDate_eq hd, hs, hi, eqMovement_refl h0, eqSim_refl h1, m0, m1, d1, Option.bind_some, Bool.not_true, Bool.false_eq_true, if_false, List.length_map, List.length_range, accL_len, chk_true, ne_eq, not_true_eq_false, decide_false]
    rw [if_neg (by omega)]
    simp only [Option.bind_some, Bool.false_eq_true, if_false]
    repeat rw [if_neg (by omega)]
end Go.Proofs.YtjhadibjjldpdabGreat
