/- Plain laws, Ga: what the drawing of a gear is. No program. -/
import Derived.Test.YtplnohfjeilodaaPR
import Derived.Test.YtplnohfjeilodaaXM
namespace Go.Proofs.Ytplnohfjeilodaa
set_option linter.unusedVariables false
def angB (a : Angle_) : Bool := btw a.Sin 1 1000 && (btw a.Cos 1 1000 && (btw a.Hyp 1 1000 && decide ((w64 ((w64 (a.Sin * a.Sin)) + (w64 (a.Cos * a.Cos)))) = (w64 (a.Hyp * a.Hyp)))))
def proB (p : Profile_) : Bool := btw p.Teeth 6 240 && (btw p.Module 1 500 && (btw p.Addendum 1 20 && angB p.Angle))
theorem s_l10Angle_eq (a : Angle_) : s_l10Angle_m a = some (angB a) := by
  unfold s_l10Angle_m angB
  simp only [s_l00In_eq, Option.bind_some]
  cases btw a.Sin 1 1000 <;> cases btw a.Cos 1 1000 <;> cases btw a.Hyp 1 1000 <;> simp
theorem s_l10Ok_eq (p : Profile_) : s_l10Ok_m p = some (proB p) := by
  unfold s_l10Ok_m proB
  simp only [s_l00In_eq, s_l10Angle_eq, Option.bind_some]
  cases btw p.Teeth 6 240 <;> cases btw p.Module 1 500 <;> cases btw p.Addendum 1 20 <;> simp
theorem i_ValidAngle_eq (a : Angle_) : i_ValidAngle_m a = some (angB a) := by
  unfold i_ValidAngle_m angB
  simp only [i_within_eq, Option.bind_some]
  cases btw a.Sin 1 1000 <;> cases btw a.Cos 1 1000 <;> cases btw a.Hyp 1 1000 <;> simp
theorem i_toothed_eq (x : Int) : i_toothed_m x = some (btw x 6 240) := by simp [i_toothed_m, i_within_eq]
theorem i_ValidProfile_eq (p : Profile_) : i_ValidProfile_m p = some (proB p) := by
  unfold i_ValidProfile_m proB
  simp only [i_toothed_eq, i_within_eq, i_ValidAngle_eq, Option.bind_some]
  cases btw p.Teeth 6 240 <;> cases btw p.Module 1 500 <;> cases btw p.Addendum 1 20 <;> simp
theorem proB_lim {p : Profile_} (h : proB p = true) : 6 ≤ p.Teeth ∧ p.Teeth ≤ 240 ∧ 1 ≤ p.Module ∧ p.Module ≤ 500 ∧ 1 ≤ p.Addendum ∧ p.Addendum ≤ 20 := by
  unfold proB btw at h
  simp only [Bool.and_eq_true, decide_eq_true_eq] at h
  omega
/-- the diameters, as both programs reckon them -/
def outD (p : Profile_) : Int := (p.Teeth + 2 * p.Addendum) * p.Module
theorem diam_eq (p : Profile_) : s_Diameters_m p = i_Diameters_m p := by
  unfold s_Diameters_m i_Diameters_m
  simp only [s_l10Ok_eq, i_ValidProfile_eq, Option.bind_some]
  cases h : proB p
  · simp
  · simp [s_l10Pitch_m, i_pitchOf_m, s_l10Outside_m, i_outsideOf_m]
/-- the lines of a gear's outline -/
def gsp (o r : Int) (n : Int) (k : Int) : Spot_ := rspot (if k % 4 < 2 then o else r) (k % n) n
def gln (o r : Int) (n : Int) (k : Nat) : Shape_ := ⟨1, gsp o r n k, gsp o r n ((k : Int) + 1), 0, ⟨#[]⟩⟩
theorem gear1_eq {o r n k : Int} (o0 : 1 ≤ o) (o1 : o ≤ 100000) (r0 : 1 ≤ r) (r1 : r ≤ 100000) (n0 : 1 ≤ n) (n1 : n ≤ 2000) (k0 : 0 ≤ k) (k1 : k < n) : i_GearDrawing_1_m k o n r = some (rspot (if k % 4 < 2 then o else r) k n) := by
  unfold i_GearDrawing_1_m
  rw [Int.tmod_eq_emod_of_nonneg k0]
  by_cases h : k % 4 < 2
  · rw [if_pos h, if_pos h, i_roundSpot_eq (by omega) o1 n0 n1 k0 k1]; rfl
  · rw [if_neg h, if_neg h, i_roundSpot_eq (by omega) r1 n0 n1 k0 k1]; rfl
theorem mod4 {T k : Int} (hT : 1 ≤ T) (hk : 0 ≤ k) : k % (4 * T) % 4 = k % 4 := Int.emod_emod_of_dvd k ⟨T, rfl⟩
def gearR (p : Profile_) (d : Int × Int × Int × Int) : Drawing_ × Int :=
  if proB p = true then (if btw (w64 (d.2.2.1.tdiv 20)) 1 100000 = true ∧ btw (w64 (d.2.1.tdiv 20)) 1 100000 = true then (⟨(List.range (4 * p.Teeth).toNat).map (gln (w64 (d.2.1.tdiv 20)) (w64 (d.2.2.1.tdiv 20)) (4 * p.Teeth))⟩, 0) else (⟨[]⟩, 2)) else (⟨[]⟩, 1)
theorem btw_iff {x a b : Int} : btw x a b = true ↔ a ≤ x ∧ x ≤ b := by simp [btw]
theorem s_Gear_eq (p : Profile_) : ∃ d, i_Diameters_m p = some d ∧ s_GearDrawing_m p = some (gearR p d) ∧ i_GearDrawing_m p = some (gearR p d) := by
  have hd := diam_eq p
  cases h : proB p
  · refine ⟨(0, 0, 0, 1), ?_, ?_, ?_⟩
    · unfold i_Diameters_m; simp [i_ValidProfile_eq, h]
    · unfold s_GearDrawing_m; simp [s_l10Ok_eq, h, gearR]
    · unfold i_GearDrawing_m i_Diameters_m; simp [i_ValidProfile_eq, h, gearR]
  · obtain ⟨t0, t1, m0, m1, a0, a1⟩ := proB_lim h
    obtain ⟨x, y, z, hD⟩ : ∃ x y z, i_Diameters_m p = some (x, y, z, 0) := by
      unfold i_Diameters_m
      simp [i_ValidProfile_eq, h, i_pitchOf_m, i_outsideOf_m]
    have hT : w64 (4 * p.Teeth) = 4 * p.Teeth := w64_in (by omega) (by omega)
    obtain ⟨n, hn⟩ : ∃ n : Nat, 4 * p.Teeth = n := ⟨(4 * p.Teeth).toNat, by omega⟩
    refine ⟨_, hD, ?_, ?_⟩
    · unfold s_GearDrawing_m
      rw [s_l10Ok_eq, h, hd, hD]
      simp only [Option.bind_some, s_l00In_eq, hT, gearR, h, if_true]
      cases h1 : btw (w64 (z.tdiv 20)) 1 100000 <;> cases h2 : btw (w64 (y.tdiv 20)) 1 100000 <;> simp only [Bool.not_true, Bool.not_false, if_true, if_false, Option.bind_some, Bool.false_eq_true, and_self, and_false, false_and]
      rw [btw_iff] at h1 h2
      rw [hn]
      rw [buildS_ok (n := n) (g := gln (w64 (y.tdiv 20)) (w64 (z.tdiv 20)) n) (fun i ys hi hl => ?_) (fun ys => by simp) (by omega)]
      · simp
      · have hi' : (i : Int) < n := by omega
        have e1 : w64 ((i : Int) + 1) = i + 1 := w64_in (by omega) (by omega)
        have e2 : ((i : Int) + 1).tmod n = (i + 1) % n := Int.tmod_eq_emod_of_nonneg (by omega)
        have e3 : ((i : Int) + 1).tmod 4 = (i + 1) % 4 := Int.tmod_eq_emod_of_nonneg (by omega)
        have e4 : (i : Int).tmod 4 = i % 4 := Int.tmod_eq_emod_of_nonneg (by omega)
        have m1' := Int.emod_nonneg ((i : Int) + 1) (show (n : Int) ≠ 0 by omega)
        have m2' := Int.emod_lt_of_pos ((i : Int) + 1) (show 0 < (n : Int) by omega)
        have q : ∀ (c : Prop) [Decidable c] (a b : Int), (if c then some a else some b : Option Int) = some (if c then a else b) := fun c _ a b => by split <;> rfl
        simp only [if_pos hi', e1, e2, e3, e4, q, Option.bind_some]
        rw [chk_t (by omega), s_l25Round_eq (by split <;> omega) (by split <;> omega) (by omega) (by omega) (by omega) (by omega), Option.bind_some, s_l25Round_eq (by split <;> omega) (by split <;> omega) (by omega) (by omega) m1' m2', Option.bind_some, chk_t (by simp; omega)]
        have e5 : (i : Int) % n = i := Int.emod_eq_of_lt (by omega) hi'
        simp only [gln, gsp, e5]
    · unfold i_GearDrawing_m
      rw [hD]
      simp only [Option.bind_some, i_within_eq, hT, gearR, h, if_true]
      cases h1 : btw (w64 (z.tdiv 20)) 1 100000 <;> cases h2 : btw (w64 (y.tdiv 20)) 1 100000 <;> simp only [Bool.not_true, Bool.not_false, if_true, if_false, Option.bind_some, Bool.false_eq_true, and_self, and_false, false_and, ne_eq, not_true_eq_false]
      rw [btw_iff] at h1 h2
      rw [hn]
      rw [buildS_ok (n := n) (g := gln (w64 (y.tdiv 20)) (w64 (z.tdiv 20)) n) (fun i ys hi hl => ?_) (fun ys => by simp) (by omega)]
      · simp
      · have hi' : (i : Int) < n := by omega
        have e1 : w64 ((i : Int) + 1) = i + 1 := w64_in (by omega) (by omega)
        have e2 : ((i : Int) + 1).tmod n = (i + 1) % n := Int.tmod_eq_emod_of_nonneg (by omega)
        have m1' := Int.emod_nonneg ((i : Int) + 1) (show (n : Int) ≠ 0 by omega)
        have m2' := Int.emod_lt_of_pos ((i : Int) + 1) (show 0 < (n : Int) by omega)
        simp only [if_pos hi', e1, e2]
        rw [chk_t (by omega), gear1_eq (by omega) (by omega) (by omega) (by omega) (by omega) (by omega) (by omega) (by omega), Option.bind_some, gear1_eq (by omega) (by omega) (by omega) (by omega) (by omega) (by omega) m1' m2', Option.bind_some]
        have e5 : (i : Int) % n = i := Int.emod_eq_of_lt (by omega) hi'
        have e6 : ((i : Int) + 1) % n % 4 = (i + 1) % 4 := by rw [← hn]; exact mod4 (by omega) (by omega)
        simp only [i_line_m, Option.bind_some]
        rw [chk_t (by simp; omega)]
        simp only [gln, gsp, e5, e6]
theorem gearR_len (p : Profile_) (d : Int × Int × Int × Int) : (gearR p d).1.Shapes.length ≤ 960 := by
  unfold gearR
  split
  · rename_i h
    have := proB_lim h
    split
    · simp; omega
    · simp
  · simp
end Go.Proofs.Ytplnohfjeilodaa
