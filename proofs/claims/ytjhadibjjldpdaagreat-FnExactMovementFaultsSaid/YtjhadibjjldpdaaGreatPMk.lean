/- Plain laws, Mk: marks of arbors, each with its wheels. No program. -/
import Derived.Test.YtjhadibjjldpdaaGreatXHP
namespace Go.Proofs.YtjhadibjjldpdaaGreat
set_option linter.unusedVariables false
section
variable {α : Type} (f : Int → α → α × Int)
def accL : Int → List α → List α
  | _, [] => []
  | k, a :: l => (f k a).1 :: accL (f k a).2 l
def accK : Int → List α → Int
  | k, [] => k
  | k, a :: l => accK (f k a).2 l
theorem accL_len : ∀ (xs : List α) (k : Int), (accL f k xs).length = xs.length
  | [], _ => rfl
  | a :: l, k => by simp [accL, accL_len l]
theorem accK_app : ∀ (xs ys : List α) (k : Int), accK f k (xs ++ ys) = accK f (accK f k xs) ys
  | [], _, _ => rfl
  | a :: l, ys, k => by simp [accK, accK_app l ys]
theorem accL_app : ∀ (xs ys : List α) (k : Int), accL f k (xs ++ ys) = accL f k xs ++ accL f (accK f k xs) ys
  | [], _, _ => rfl
  | a :: l, ys, k => by simp [accL, accK, accL_app l ys]
end
section
variable {α : Type} {f : Int → α → α × Int} {sm : α → Prop} {C : Int}
theorem accK_b (hC : 0 ≤ C) (hf : ∀ k a, sm a → k ≤ (f k a).2 ∧ (f k a).2 ≤ k + C) : ∀ {xs : List α} {k : Int}, (∀ a ∈ xs, sm a) → k ≤ accK f k xs ∧ accK f k xs ≤ k + C * xs.length
  | [], k, _ => by simp [accK]
  | a :: l, k, h => by
    have h1 := hf k a (h a (by simp))
    have h2 := accK_b hC hf (xs := l) (k := (f k a).2) fun b hb => h b (by simp [hb])
    simp only [accK, List.length_cons]
    have : C * ((l.length + 1 : Nat) : Int) = C * l.length + C := by push_cast; rw [Int.mul_add]; omega
    omega
theorem accK_pre (hC : 0 ≤ C) (hf : ∀ k a, sm a → k ≤ (f k a).2 ∧ (f k a).2 ≤ k + C) {xs pre : List α} {a : α} {suf : List α} {k0 B : Int} (hsm : ∀ a ∈ xs, sm a) (hB : k0 + C * xs.length ≤ B) (e : xs = pre ++ a :: suf) : k0 ≤ accK f k0 pre ∧ accK f k0 pre ≤ B := by
  have := accK_b hC hf (xs := pre) (k := k0) fun b hb => hsm b (by rw [e]; simp [hb])
  have h2 : C * (pre.length : Int) ≤ C * xs.length := Int.mul_le_mul_of_nonneg_left (by rw [e]; simp; omega) hC
  omega
/-- marks written into rows whose elements have parts of different lengths -/
theorem markF_ok {B : Int} (hC : 0 ≤ C) (hf : ∀ k a, sm a → k ≤ (f k a).2 ∧ (f k a).2 ≤ k + C) {step : Int × Int × List α → Option ((Int × Int × List α) ⊕ (Int × List α))} {xs : List α} (hsm : ∀ a ∈ xs, sm a) (hl : xs.length ≤ 1048576)
    (hM : ∀ k (i : Nat) ys a, 0 ≤ k → k ≤ B → ys[i]? = some a → sm a → ys.length = xs.length → step (k, (i : Int), ys) = some (.inl ((f k a).2, (i : Int) + 1, ys.set i (f k a).1))) (hE : ∀ k (i : Nat) ys, ys.length ≤ i → step (k, (i : Int), ys) = some (.inr (k, ys)))
    {k0 : Int} (h0 : 0 ≤ k0) (hB : k0 + C * xs.length ≤ B) : loopM step (k0, 0, xs) = some (accK f k0 xs, accL f k0 xs) := by
  refine loopM_eq (fun (s : Int × Int × List α) => ∃ pre suf, xs = pre ++ suf ∧ s = (accK f k0 pre, (pre.length : Int), accL f k0 pre ++ suf)) (fun (s : Int × Int × List α) => ((xs.length : Int) - s.2.1).toNat) (fun s hI => ?_) ⟨[], xs, rfl, rfl⟩ (by simp; omega)
  obtain ⟨pre, suf, e, rfl⟩ := hI
  cases suf with
  | nil =>
    right
    rw [List.append_nil] at e
    subst e
    rw [hE _ _ _ (by simp [accL_len]), List.append_nil]
  | cons a suf =>
    left
    have hb := accK_pre hC hf hsm hB e
    have hlen : (accL f k0 pre ++ a :: suf).length = xs.length := by rw [e]; simp [accL_len]
    refine ⟨_, hM _ pre.length _ a (by omega) hb.2 (by rw [List.getElem?_append_right (by rw [accL_len]; exact Nat.le_refl _), accL_len]; simp) (hsm a (by rw [e]; simp)) hlen, ⟨pre ++ [a], suf, by rw [e]; simp, ?_⟩, ?_⟩
    · rw [accK_app, accL_app, List.set_append_right _ _ (by rw [accL_len]; exact Nat.le_refl _), accL_len, Nat.sub_self, List.set_cons_zero]
      simp [accK, accL]
    · have : pre.length < xs.length := by rw [e]; simp
      dsimp only
      omega
/-- marks that are held -/
theorem heldF_ok {B : Int} (hC : 0 ≤ C) (hf : ∀ k a, sm a → k ≤ (f k a).2 ∧ (f k a).2 ≤ k + C) {step : Int × Int → Option ((Int × Int) ⊕ (Int ⊕ Int))} {xs : List α} {k0 : Int} (hsm : ∀ a ∈ xs, sm a) (hl : xs.length ≤ 1048576)
    (hM : ∀ k (i : Nat) a, 0 ≤ k → k ≤ B → (accL f k0 xs)[i]? = some (f k a).1 → sm a → i < xs.length → step (k, (i : Int)) = some (.inl ((f k a).2, (i : Int) + 1))) (hE : ∀ k, step (k, (xs.length : Int)) = some (.inr (.inl k)))
    (h0 : 0 ≤ k0) (hB : k0 + C * xs.length ≤ B) : loopM step (k0, 0) = some (.inl (accK f k0 xs)) := by
  refine loopM_eq (fun (s : Int × Int) => ∃ pre suf, xs = pre ++ suf ∧ s = (accK f k0 pre, (pre.length : Int))) (fun (s : Int × Int) => ((xs.length : Int) - s.2).toNat) (fun s hI => ?_) ⟨[], xs, rfl, rfl⟩ (by simp; omega)
  obtain ⟨pre, suf, e, rfl⟩ := hI
  cases suf with
  | nil =>
    right
    rw [List.append_nil] at e
    subst e
    rw [hE]
  | cons a suf =>
    left
    have hb := accK_pre hC hf hsm hB e
    have hlt : pre.length < xs.length := by rw [e]; simp
    refine ⟨_, hM _ pre.length a (by omega) hb.2 ?_ (hsm a (by rw [e]; simp)) hlt, ⟨pre ++ [a], suf, by rw [e]; simp, ?_⟩, ?_⟩
    · rw [e, accL_app, List.getElem?_append_right (by rw [accL_len]; exact Nat.le_refl _), accL_len]
      simp [accL]
    · rw [accK_app]; simp [accK]
    · dsimp only
      omega
end
def mkA (k : Int) (a : Arbor_) : Arbor_ × Int := (⟨mkT k, (List.range a.Wheels.length).map fun (j : Nat) => mkInt64S (k + 1 + 1 * (j : Int))⟩, k + 1 + 1 * a.Wheels.length)
theorem mkA_b : ∀ k a, smArbor_ a → k ≤ (mkA k a).2 ∧ (mkA k a).2 ≤ k + 1048577 := fun k a h => by
  have := h.2.1
  unfold mkA
  dsimp only
  omega
theorem endA_b {x : List Arbor_} {k : Int} (h : smL smArbor_ x) : k ≤ accK mkA k x ∧ accK mkA k x ≤ k + 1099512676352 := by
  have := accK_b (by omega) mkA_b (k := k) h.2
  have := h.1
  omega
theorem markArborS_eq {x : List Arbor_} {k : Int} (h0 : 0 ≤ k) (hk : k ≤ 10000000000000) (h : smL smArbor_ x) : l_markArborS_o_m x k = some (accK mkA k x, accL mkA k x) := by
  unfold l_markArborS_o_m
  have hl := h.1
  rw [markF_ok (f := mkA) (sm := smArbor_) (C := 1048577) (B := 12000000000000) (by omega) mkA_b h.2 h.1 (fun k i ys a a1 a2 a3 a4 a5 => ?_) (fun k i ys a => ?_) h0 (by omega)]
  · rfl
  · have hil := (List.getElem?_eq_some_iff.1 a3).1
    have hw := a4.2.1
    have e1 : atI ys (i : Int) = some a := by rw [atI_nat]; exact a3
    have e2 : ∀ b : Arbor_, atI (ys.set i b) (i : Int) = some b := fun b => by rw [atI_nat]; exact List.getElem?_set_self hil
    have h7 := markInt64S_eq (x := a.Wheels) (k := k + 1) (by omega) (by omega) hw
    simp only [if_pos (show (i : Int) < (ys.length : Int) by omega), markText_eq a1 (show k ≤ 1000000000000000000 by omega), e1, e2, Option.bind_some, Int.toNat_natCast, w64_in (x := k + 1) (by omega) (by omega), h7, List.set_set, w64_in (x := (i : Int) + 1) (by omega) (by omega), mkA]
    rw [chk_t (by simp)]
  · simp only [if_neg (show ¬ (i : Int) < (ys.length : Int) by omega)]
end Go.Proofs.YtjhadibjjldpdaaGreat
