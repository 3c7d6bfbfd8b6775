/- Plain laws: decimal numerals. No program. -/
import Derived.Test.YtdchemiillekjaaGreatDoorPR
import Derived.Test.YtdchemiillekjaaGreatDoorXOK
import Derived.Lib.ItoaLen
namespace Go.Proofs.YtdchemiillekjaaGreatDoor
set_option linter.unusedVariables false
set_option maxRecDepth 100000
/-- the numeral of a number -/
def decB (n : Int) : ByteArray := ⟨(Lib.itoa n).toArray⟩
theorem decB_size {n : Int} (h : osI n) : (decB n).size ≤ 21 := by
  have := Lib.itoa_length_le n h.1 h.2
  simpa [decB, ByteArray.size] using this
def dgs (u : Nat) : List Int := if h : u = 0 then [] else dgs (u / 10) ++ [48 + ((u % 10 : Nat) : Int)]
termination_by u
decreasing_by omega
theorem dgs_zero : dgs 0 = [] := by rw [dgs, dif_pos rfl]
theorem dgs_pos {u : Nat} (h : u ≠ 0) : dgs u = dgs (u / 10) ++ [48 + ((u % 10 : Nat) : Int)] := by rw [dgs, dif_neg h]
theorem u8_dig (d : Nat) (h : d < 10) : UInt8.ofNat (48 + (d : Int)).toNat = 48 + UInt8.ofNat d := by
  rw [show (48 + (d : Int)).toNat = 48 + d by omega, UInt8.ofNat_add]
  rfl
theorem dgs_dec : ∀ (u : Nat), u ≠ 0 → (strOfNums (dgs u)).data.toList = Lib.decDigits u := by
  intro u
  induction u using Nat.strongRecOn with
  | _ u ih =>
    intro h
    rw [dgs_pos h, Lib.decDigits]
    by_cases h1 : u < 10
    · rw [dif_pos h1, show u / 10 = 0 by omega, dgs_zero, show u % 10 = u by omega]
      simp [strOfNums]
      exact u8_dig u (by omega)
    · rw [dif_neg h1, ← ih (u / 10) (by omega) (by omega)]
      simp [strOfNums]
      exact u8_dig (u % 10) (by omega)
theorem dgs_len : ∀ (k u : Nat), u < 10 ^ k → (dgs u).length ≤ k
  | 0, u, h => by
    have : u = 0 := by simpa using h
    subst this
    rw [dgs_zero]; exact Nat.le_refl _
  | k + 1, u, h => by
    by_cases h0 : u = 0
    · subst h0; rw [dgs_zero]; exact Nat.zero_le _
    · rw [dgs_pos h0, List.length_append]
      have := dgs_len k (u / 10) (by rw [Nat.pow_succ] at h; omega)
      simp; omega
theorem s_l01Dec_eq {n : Int} (hn : osI n) : s_l01Dec_m n = some (decB n) := by
  obtain ⟨h0, h1⟩ := hn
  unfold s_l01Dec_m
  rw [loopM_eq (x := dgs n.natAbs) (fun s : Int × List Int => osI s.1 ∧ dgs s.1.natAbs ++ s.2 = dgs n.natAbs) (fun s => s.1.natAbs) (fun s hs => ?_) (s0 := (n, [])) ⟨⟨h0, h1⟩, by simp⟩ (by dsimp only; omega)]
  · simp only [Option.bind_some]
    by_cases hz : n = 0
    · subst hz
      rw [Int.natAbs_zero, dgs_zero, if_pos (by simp)]
      simp [decB, Lib.itoa, Lib.decDigits]
    · have hp : n.natAbs ≠ 0 := by omega
      have hl : (dgs n.natAbs).length ≠ 0 := by rw [dgs_pos hp]; simp
      have hL := dgs_len 19 n.natAbs (by omega)
      have e := dgs_dec n.natAbs hp
      have es : strOfNums (dgs n.natAbs) = ⟨(Lib.decDigits n.natAbs).toArray⟩ := by rw [← e]
      rw [if_neg (by omega)]
      split
      · rename_i hneg
        rw [chk_t (by simp [strOfNums, ByteArray.size]; omega), es]
        simp only [decB, Lib.itoa, if_pos hneg]
        congr 1
      · rename_i hneg
        rw [es]
        simp only [decB, Lib.itoa, if_neg hneg]
        rw [show n.toNat = n.natAbs by omega]
  · obtain ⟨k, out⟩ := s
    obtain ⟨⟨a0, a1⟩, a2⟩ := hs
    simp only at a0 a1 a2 ⊢
    by_cases hk : k = 0
    · right
      subst hk
      rw [Int.natAbs_zero, dgs_zero] at a2
      simp at a2 ⊢
      exact a2
    · left
      rw [if_pos hk]
      have hd : (if k.tmod 10 < 0 then some (w64 (-(k.tmod 10))) else some (k.tmod 10)) = some (((k.natAbs % 10 : Nat)) : Int) := by
        have e1 : ((k.tmod 10).natAbs) = k.natAbs % 10 := Int.natAbs_tmod _ _
        split
        · rw [w64_in (by omega) (by omega)]; congr 1; omega
        · congr 1; omega
      rw [hd]
      simp only [Option.bind_some]
      have hL : (dgs n.natAbs).length ≤ 19 := dgs_len 19 n.natAbs (by omega)
      have hle : out.length ≤ 19 := by rw [← a2] at hL; simp at hL; omega
      have ew : IntKind.u8.wrap (w64 (48 + ((k.natAbs % 10 : Nat) : Int))) = 48 + ((k.natAbs % 10 : Nat) : Int) := by
        rw [w64_in (by omega) (by omega)]
        exact IntWalk.u8_in _ ⟨by omega, by omega⟩
      have eq : (k.tdiv 10).natAbs = k.natAbs / 10 := Int.natAbs_tdiv _ _
      rw [chk_t (by simp; omega), ew, w64_in (by omega) (by omega)]
      refine ⟨_, rfl, ⟨⟨by dsimp only; omega, by dsimp only; omega⟩, ?_⟩, ?_⟩
      · dsimp only
        rw [eq, ← a2, dgs_pos (u := k.natAbs) (by omega)]
        simp
      · dsimp only
        omega
theorem i_Decimal_eq {n : Int} (hn : osI n) : i_Decimal_m n = some (decB n) := by
  unfold i_Decimal_m strconv_FormatInt_m
  rw [chk_t ⟨hn.1, hn.2, rfl⟩]
  rfl
end Go.Proofs.YtdchemiillekjaaGreatDoor
