/- Plain laws, N: names. No program. -/
import Derived.Test.YtjhadibjjldpdaaGreatPR
namespace Go.Proofs.YtjhadibjjldpdaaGreat
set_option linter.unusedVariables false
def smB (c : Int) : Bool := decide (97 ≤ c ∧ c ≤ 122)
def dgB (c : Int) : Bool := decide (48 ≤ c ∧ c ≤ 57)
def okB (c : Int) : Bool := smB c || (dgB c || decide (c = 45))
theorem strAt_bytes (s : ByteArray) (i : Int) : strAt s i = atI (bytesL s) i := by
  unfold strAt atI bytesL
  split
  · rename_i h
    rw [List.getElem?_map]
    congr 1
    rw [Array.getElem?_toList]
    by_cases hi : i.toNat < s.size
    · rw [getElem?_pos s i.toNat hi, getElem?_pos s.data i.toNat hi]; rfl
    · rw [getElem?_neg s i.toNat hi, getElem?_neg s.data i.toNat hi]
  · rfl
def nameB (s : ByteArray) : Bool := decide (1 ≤ s.size ∧ s.size ≤ 12) && ((bytesL s).take 1).all smB && (bytesL s).all okB
theorem s_l01Small_eq (c : Int) : s_l01Small_m c = some (smB c) := by unfold s_l01Small_m smB; split <;> simp_all <;> omega
theorem s_l01Digit_eq (c : Int) : s_l01Digit_m c = some (dgB c) := by unfold s_l01Digit_m dgB; split <;> simp_all <;> omega
theorem str0 {s : ByteArray} : s = ⟨#[]⟩ ↔ s.size = 0 := by
  constructor
  · rintro rfl; rfl
  · intro h
    cases s with | mk d =>
    have : d = #[] := Array.eq_empty_of_size_eq_zero h
    rw [this]
theorem s_IsName_eq (s : ByteArray) : s_IsName_m s = some (nameB s) := by
  have hl := bytesL_len s
  unfold s_IsName_m nameB
  by_cases h0 : s = ⟨#[]⟩
  · have := str0.1 h0
    simp [h0]
    intro h; exact absurd h (by decide)
  · have h1 : s.size ≠ 0 := fun h => h0 (str0.2 h)
    rw [if_neg h0]
    by_cases h2 : 12 < (s.size : Int)
    · rw [if_pos h2]
      simp
      intro a b; omega
    · rw [if_neg h2]
      obtain ⟨c, cs, hc⟩ : ∃ c cs, bytesL s = c :: cs := by
        cases hb : bytesL s with
        | nil => rw [hb] at hl; simp at hl; omega
        | cons c cs => exact ⟨c, cs, rfl⟩
      have e0 : strAt s 0 = some c := by rw [strAt_bytes, hc]; rfl
      rw [e0]
      simp only [Option.bind_some, s_l01Small_eq]
      have ht : ((bytesL s).take 1).all smB = smB c := by rw [hc]; simp
      have hd : decide (1 ≤ s.size ∧ s.size ≤ 12) = true := decide_eq_true ⟨by omega, by omega⟩
      rw [ht, hd]
      cases hs : smB c
      · simp
      · simp only [Bool.not_true, Bool.false_eq_true, if_false, Bool.true_and]
        have hz : (s.size : Int) = ((bytesL s).length : Int) := by rw [hl]
        rw [hz, scanL_ok (xs := bytesL s) (f := okB) (d := .inl ()) (e := .inr false) (fun i hi => ?_) (by simp) (by omega)]
        · cases (bytesL s).all okB <;> simp [orE]
        · have hi' : (i : Int) < ((bytesL s).length : Int) := by omega
          have e1 : w64 ((i : Int) + 1) = i + 1 := w64_in (by omega) (by omega)
          rw [if_pos hi', strAt_bytes, atI_lt hi]
          simp only [Option.bind_some, s_l01Small_eq, s_l01Digit_eq, e1, okB]
          generalize (bytesL s)[i] = c
          rcases Bool.eq_false_or_eq_true (smB c) with g1 | g1 <;> rcases Bool.eq_false_or_eq_true (dgB c) with g2 | g2 <;> by_cases h45 : c = 45 <;> simp [g1, g2, h45]
theorem i_IsName_eq (s : ByteArray) : i_IsName_m s = some (nameB s) := by
  have hl := bytesL_len s
  unfold i_IsName_m nameB
  by_cases h1 : (s.size : Int) < 1
  · rw [if_pos h1]; simp
    intro a b; omega
  · rw [if_neg h1]
    by_cases h2 : 12 < (s.size : Int)
    · simp [h2]
      intro a b; omega
    · have hd : decide (1 ≤ s.size ∧ s.size ≤ 12) = true := decide_eq_true ⟨by omega, by omega⟩
      simp only [h2, decide_false, Option.bind_some, Bool.false_eq_true, if_false, hd, Bool.true_and]
      rw [chk_t (by omega), scan_ok (n := (bytesL s).length) (d := .inl ()) (e := .inr false) (g := fun i => smB ((bytesL s).getD i 0) || (decide (i ≠ 0) && (dgB ((bytesL s).getD i 0) || decide ((bytesL s).getD i 0 = 45)))) (fun i hi => ?_) (by simp) (by omega)]
      · obtain ⟨c, cs, hc⟩ : ∃ c cs, bytesL s = c :: cs := by
          cases hb : bytesL s with
          | nil => rw [hb] at hl; simp at hl; omega
          | cons c cs => exact ⟨c, cs, rfl⟩
        have key : (List.range (bytesL s).length).all (fun i => smB ((bytesL s).getD i 0) || (decide (i ≠ 0) && (dgB ((bytesL s).getD i 0) || decide ((bytesL s).getD i 0 = 45)))) = (((bytesL s).take 1).all smB && (bytesL s).all okB) := by
          rw [hc]
          simp only [List.length_cons, List.range_succ_eq_map, List.all_cons, List.all_map, List.take_succ_cons, List.take_zero, List.all_nil, Bool.and_true]
          have : (List.range cs.length).all ((fun i => smB ((c :: cs).getD i 0) || (decide (i ≠ 0) && (dgB ((c :: cs).getD i 0) || decide ((c :: cs).getD i 0 = 45)))) ∘ Nat.succ) = cs.all okB := all_range (f := okB) fun i hi => by simp [okB, hi]
          rw [this]
          simp [okB]
          cases smB c <;> simp
        rw [key]
        cases ((bytesL s).take 1).all smB && (bytesL s).all okB <;> simp [orE]
      · have hi' : (i : Int) < ((bytesL s).length : Int) := by omega
        have e1 : w64 ((i : Int) + 1) = i + 1 := w64_in (by omega) (by omega)
        have e2 : (bytesL s).getD i 0 = (bytesL s)[i] := by simp [hi]
        rw [if_pos hi', atI_lt hi, e2]
        simp only [Option.bind_some, e1]
        generalize (bytesL s)[i] = c
        have A : (if 97 ≤ c then some (decide (c ≤ 122)) else some false) = some (smB c) := by unfold smB; split <;> simp_all <;> omega
        have B : (if 48 ≤ c then (if c ≤ 57 then some true else some (decide (c = 45))) else some (decide (c = 45))) = some (dgB c || decide (c = 45)) := by
          unfold dgB
          split
          · split <;> simp_all <;> omega
          · simp_all; omega
        rw [A, B]
        simp only [Option.bind_some]
        have hz : ((i : Int) = 0) ↔ i = 0 := by omega
        cases smB c <;> cases (dgB c || decide (c = 45)) <;> by_cases h0 : i = 0 <;> simp [h0]
end Go.Proofs.YtjhadibjjldpdaaGreat
