/- Plain laws: the text of a time of day. No program. -/
import Derived.Test.YtkgeenglafchhaaDoorPDe
namespace Go.Proofs.YtkgeenglafchhaaDoor
set_option linter.unusedVariables false
set_option maxRecDepth 100000
def colon : ByteArray := ⟨#[58]⟩
def two (n : Int) : ByteArray := decB (n.tdiv 10) ++ decB (n.tmod 10)
theorem os_div {n : Int} (h : osI n) (d : Int) (hd : 2 ≤ d) : osI (n.tdiv d) := by
  have h1 : (n.tdiv d).natAbs = n.natAbs / d.natAbs := Int.natAbs_tdiv _ _
  have h2 : n.natAbs / d.natAbs ≤ n.natAbs / 1 := Nat.div_le_div_left (by omega) (by omega)
  obtain ⟨a, b⟩ := h
  have h3 : n.natAbs ≤ 9223372036854775808 := by omega
  by_cases h4 : n.natAbs = 9223372036854775808
  · have h5 : n.natAbs / d.natAbs ≤ n.natAbs / 2 := Nat.div_le_div_left (by omega) (by omega)
    exact ⟨by omega, by omega⟩
  · exact ⟨by omega, by omega⟩
theorem os_mod {n : Int} (h : osI n) (d : Int) (hd : 1 ≤ d) (hd2 : d ≤ 9223372036854775807) : osI (n.tmod d) := by
  have h1 : (n.tmod d).natAbs = n.natAbs % d.natAbs := Int.natAbs_tmod _ _
  have h2 : n.natAbs % d.natAbs < d.natAbs := Nat.mod_lt _ (by omega)
  exact ⟨by omega, by omega⟩
theorem ba_size (a b : ByteArray) : (a ++ b).size = a.size + b.size := ByteArray.size_append
theorem two_size {n : Int} (h : osI n) : (two n).size ≤ 42 := by
  have h1 := decB_size (os_div h 10 (by omega))
  have h2 := decB_size (os_mod h 10 (by omega) (by omega))
  rw [two, ba_size]; omega
theorem i_twoDigits_eq {n : Int} (h : osI n) : i_twoDigits_m n = some (two n) := by
  have d1 := os_div h 10 (by omega)
  have d2 := os_mod h 10 (by omega) (by omega)
  have h1 := decB_size d1
  have h2 := decB_size d2
  unfold i_twoDigits_m
  rw [w64_in d1.1 d1.2, i_Decimal_eq d1, i_Decimal_eq d2]
  simp only [Option.bind_some]
  rw [chk_t (by omega)]
  rfl
theorem s_l27Two_eq {n : Int} (h : osI n) : s_l27Two_m n = some (two n) := by
  have d1 := os_div h 10 (by omega)
  have d2 := os_mod h 10 (by omega) (by omega)
  have h1 := decB_size d1
  have h2 := decB_size d2
  unfold s_l27Two_m
  rw [w64_in d1.1 d1.2, s_l01Dec_eq d1, s_l01Dec_eq d2]
  simp only [Option.bind_some]
  rw [chk_t (by omega)]
  rfl
def clockB (c : Int) : ByteArray := if btw c 0 1000000000 = true then (((two ((c.tmod 86400).tdiv 3600) ++ colon) ++ two (((c.tmod 86400).tdiv 60).tmod 60)) ++ colon) ++ two ((c.tmod 86400).tmod 60) else ⟨#[]⟩
theorem clock_parts {c : Int} (h : osI c) : osI ((c.tmod 86400).tdiv 3600) ∧ osI ((c.tmod 86400).tdiv 60) ∧ osI (((c.tmod 86400).tdiv 60).tmod 60) ∧ osI ((c.tmod 86400).tmod 60) := by
  have h1 := os_mod h 86400 (by omega) (by omega)
  exact ⟨os_div h1 _ (by omega), os_div h1 _ (by omega), os_mod (os_div h1 _ (by omega)) _ (by omega) (by omega), os_mod h1 _ (by omega) (by omega)⟩
theorem colon_size : colon.size = 1 := rfl
theorem i_ClockText_eq {c : Int} (h : osI c) : i_ClockText_m c = some (clockB c) := by
  obtain ⟨h1, h2, h3, h4⟩ := clock_parts h
  have z1 := two_size h1
  have z3 := two_size h3
  have z4 := two_size h4
  unfold i_ClockText_m clockB
  rw [show (⟨#[58]⟩ : ByteArray) = colon from rfl, i_within_eq, Option.bind_some, w64_in h1.1 h1.2, w64_in h2.1 h2.2, i_twoDigits_eq h1, i_twoDigits_eq h3, i_twoDigits_eq h4]
  cases btw c 0 1000000000
  · rfl
  · simp only [Option.bind_some, Bool.not_true, Bool.false_eq_true, if_false, if_true]
    simp only [ba_size, colon_size]
    rw [chk_t (by omega), chk_t (by omega), chk_t (by omega), chk_t (by omega)]
theorem s_l27Clock_eq {c : Int} (h : osI c) : s_l27Clock_m c = some ((((two ((c.tmod 86400).tdiv 3600) ++ colon) ++ two (((c.tmod 86400).tdiv 60).tmod 60)) ++ colon) ++ two ((c.tmod 86400).tmod 60)) := by
  obtain ⟨h1, h2, h3, h4⟩ := clock_parts h
  have z1 := two_size h1
  have z3 := two_size h3
  have z4 := two_size h4
  unfold s_l27Clock_m
  rw [show (⟨#[58]⟩ : ByteArray) = colon from rfl, w64_in h1.1 h1.2, w64_in h2.1 h2.2, s_l27Two_eq h1, s_l27Two_eq h3, s_l27Two_eq h4]
  simp only [Option.bind_some, ba_size, colon_size]
  rw [chk_t (by omega), chk_t (by omega), chk_t (by omega), chk_t (by omega)]
theorem s_ClockText_eq {c : Int} (h : osI c) : s_ClockText_m c = some (clockB c) := by
  unfold s_ClockText_m clockB
  rw [s_l00In_eq, Option.bind_some, s_l27Clock_eq h]
  cases btw c 0 1000000000 <;> rfl
theorem law_clockText (c : Int) (h : osI c) : l_FnExactClockText_m c = some true := by
  unfold l_FnExactClockText_m
  rw [s_ClockText_eq h, i_ClockText_eq h]
  simp
end Go.Proofs.YtkgeenglafchhaaDoor
