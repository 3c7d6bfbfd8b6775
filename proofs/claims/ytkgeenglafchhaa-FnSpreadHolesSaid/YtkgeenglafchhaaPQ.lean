/- Plain laws, Q: what is drawn from a code. No program. -/
import Derived.Test.YtkgeenglafchhaaPO
import Derived.Test.YtkgeenglafchhaaXM
namespace Go.Proofs.Ytkgeenglafchhaa
set_option linter.unusedVariables false
/-- a source after at most n draws -/
def srcOk (n : Int) (s : L00Src_) : Prop := 0 ≤ s.at_ ∧ s.at_ ≤ n ∧ s.code.length ≤ 1000000 ∧ ∀ b ∈ s.code, 0 ≤ b ∧ b ≤ 255
theorem and255 (x : Int) : 0 ≤ andK .u64 x 255 ∧ andK .u64 x 255 ≤ 255 := by
  unfold andK
  have h : (BitVec.ofInt IntKind.u64.bits x &&& BitVec.ofInt IntKind.u64.bits 255).toNat ≤ 255 := by
    rw [BitVec.toNat_and]
    have : (BitVec.ofInt IntKind.u64.bits 255).toNat = 255 := by decide
    rw [this]
    exact Nat.and_le_right
  generalize (BitVec.ofInt IntKind.u64.bits x &&& BitVec.ofInt IntKind.u64.bits 255).toNat = v at h
  have e : IntKind.u64.wrap (v : Int) = v := by
    unfold IntKind.wrap
    simp [IntKind.bits, IntKind.signed]
    omega
  rw [e]; omega
theorem from_ok {c : List Int} (h1 : c.length ≤ 1000000) (h2 : ∀ b ∈ c, 0 ≤ b ∧ b ≤ 255) : Ok (s_l00From_m c) (srcOk 0) := ok_some ⟨by simp, by simp, h1, h2⟩
theorem next_ok {n : Int} {s : L00Src_} (h : srcOk n s) (hn : n ≤ 1000000000000) : Ok (l00Src_next_b_m s) (fun r => 0 ≤ r.1 ∧ r.1 ≤ 255 ∧ srcOk (n + 1) r.2) := by
  obtain ⟨h0, h1, h2, h3⟩ := h
  unfold l00Src_next_b_m
  refine ok_bind (P := fun v => 0 ≤ v ∧ v ≤ 255) ?_ fun v hv => ?_
  · refine ok_ite (fun hc => ?_) fun _ => ok_some (by omega)
    refine ok_bind (ok_atI h0 hc) fun e he => ok_some ?_
    have := h3 e he.1
    rw [w64_in (by omega) (by omega)]; exact this
  · have e1 : w64 (s.at_ + 1) = s.at_ + 1 := w64_in (by omega) (by omega)
    rw [e1]
    refine ok_ite (fun _ => ok_some ⟨hv.1, hv.2, by dsimp only; omega, by dsimp only; omega, h2, h3⟩) fun _ => ok_some ⟨?_, ?_, by dsimp only; omega, by dsimp only; omega, h2, h3⟩
    · have := and255 (shrK .u64 (IntKind.u64.wrap ((IntKind.u64.wrap ((IntKind.u64.wrap (s.seed * 6364136223846793005)) + (IntKind.u64.wrap v))) + 1442695040888963407)) 40)
      dsimp only
      rw [w64_in (by omega) (by omega)]; omega
    · have := and255 (shrK .u64 (IntKind.u64.wrap ((IntKind.u64.wrap ((IntKind.u64.wrap (s.seed * 6364136223846793005)) + (IntKind.u64.wrap v))) + 1442695040888963407)) 40)
      dsimp only
      rw [w64_in (by omega) (by omega)]; omega
theorem srcOk_le {n m : Int} {s : L00Src_} (h : srcOk n s) (hm : n ≤ m) : srcOk m s := ⟨h.1, by have := h.2.1; omega, h.2.2⟩
theorem pick_ok {n : Int} {s : L00Src_} {k : Int} (h : srcOk n s) (hn : n ≤ 1000000000) : Ok (l00Src_pick_b_m s k) (fun r => 0 ≤ r.1 ∧ (r.1 < k ∨ r.1 = 0) ∧ r.1 ≤ 65535 ∧ srcOk (n + 2) r.2) := by
  unfold l00Src_pick_b_m
  refine ok_ite (fun _ => ok_some ⟨by simp, by simp, by simp, srcOk_le h (by omega)⟩) fun hk => ?_
  refine ok_bind (next_ok h (by omega)) fun v hv => ?_
  refine ok_bind (P := fun r => 0 ≤ r.1 ∧ r.1 ≤ 65535 ∧ srcOk (n + 2) r.2) ?_ fun r hr => ?_
  · refine ok_ite (fun _ => ?_) fun _ => ok_some ⟨hv.1, by have := hv.2.1; dsimp only; omega, srcOk_le hv.2.2 (by omega)⟩
    refine ok_bind (next_ok hv.2.2 (by omega)) fun u hu => ok_some ?_
    have a := hv.1; have b := hv.2.1; have c := hu.1; have d := hu.2.1
    dsimp only
    rw [w64_in (x := v.1 * 256) (by omega) (by omega), w64_in (by omega) (by omega)]
    exact ⟨by omega, by omega, by have := hu.2.2; rwa [Int.add_assoc] at this⟩
  · refine ok_chk (by omega) (ok_some ?_)
    have e : r.1.tmod k = r.1 % k := Int.tmod_eq_emod_of_nonneg hr.1
    have h1 := Int.emod_nonneg r.1 (show k ≠ 0 by omega)
    have h2 := Int.emod_lt_of_pos r.1 (show 0 < k by omega)
    have h3 : r.1 % k ≤ r.1 := by
      have := Int.mul_nonneg (show 0 ≤ k by omega) (Int.ediv_nonneg hr.1 (show 0 ≤ k by omega))
      rw [Int.emod_def]; omega
    dsimp only
    rw [e]
    exact ⟨h1, .inl h2, by have := hr.2.1; omega, hr.2.2⟩
theorem one_ok {n : Int} {s : L00Src_} {k : Int} (h : srcOk n s) (hn : n ≤ 1000000000) : Ok (l00Src_one_b_m s k) (fun r => srcOk (n + 2) r.2) :=
  ok_bind (pick_ok h hn) fun r hr => ok_some hr.2.2.2
theorem among_ok {n : Int} {s : L00Src_} {xs : List Int} (h : srcOk n s) (hn : n ≤ 1000000000) (hx : 0 < xs.length) : Ok (l00Src_among_b_m s xs) (fun r => r.1 ∈ xs ∧ srcOk (n + 2) r.2) := by
  refine ok_bind (pick_ok h hn) fun r hr => ?_
  refine ok_bind (ok_atI hr.1 ?_) fun e he => ok_some ⟨he.1, hr.2.2.2⟩
  rcases hr.2.1 with h1 | h1
  · exact h1
  · rw [h1]; omega
end Go.Proofs.Ytkgeenglafchhaa
