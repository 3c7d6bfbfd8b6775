/- Contracts of the laws' own readers of bytes. -/
import Derived.Test.YtacnijnilopckaaOpen
namespace Go.Proofs.Ytacnijnilopckaa
open Go.RowKit

set_option maxHeartbeats 400000 in
theorem a2Long_c (a b : Option Addr) (n m c d : Nat) (w : World) :
    Calls Try.prog 9 #[.slice a n c, .slice b m d] w fun e w' => e = .returned (.bool (decide (3000 < (n : Int)) || decide (3000 < (m : Int)))) ∧ w = w' := by
  go_enter Try.func9, Try.ntmps9
  go_wp2
  all_goals
    go_ret
    exact ⟨ret_bool (by simp [*]), rfl⟩
theorem a2Long_f (a b : Option Addr) (n m c d : Nat) (w : World) (hn : n ≤ 3000) (hm : m ≤ 3000) :
    Calls Try.prog 9 #[.slice a n c, .slice b m d] w fun e w' => e = .returned (.bool false) ∧ w = w' := by
  have h : (decide (3000 < (n : Int)) || decide (3000 < (m : Int))) = false := by simp; omega
  have := a2Long_c a b n m c d w
  rwa [h] at this
theorem a2Long_t (a b : Option Addr) (n m c d : Nat) (w : World) (h : 3000 < n ∨ 3000 < m) :
    Calls Try.prog 9 #[.slice a n c, .slice b m d] w fun e w' => e = .returned (.bool true) ∧ w = w' := by
  have h : (decide (3000 < (n : Int)) || decide (3000 < (m : Int))) = true := by simp; omega
  have := a2Long_c a b n m c d w
  rwa [h] at this
/-- a number from 0 to 255 -/
def Byt (w : World) (e : Ending) (w' : World) : Prop := ∃ x : Int, 0 ≤ x ∧ x ≤ 255 ∧ e = .returned (.int .i64 x) ∧ w = w'
set_option maxHeartbeats 400000 in
theorem a2At_c (a : Option Addr) (n c : Nat) (zs : List Int) (i : Int) (w : World) (h : IsRow .u8 w a n c zs) (i0 : 0 ≤ i) :
    Calls Try.prog 10 #[.slice a n c, .int .i64 i, .int .i64 256] w (Byt w) := by
  have hl := bytes_len h
  rcases h with ⟨rfl, rfl, rfl, rfl⟩ | ⟨x, rfl, hc, hm, hz, hcell, hwf⟩
  · go_enter Try.func10, Try.ntmps10
    go_wp2
    go_ret
    exact ⟨0, by omega, by omega, rfl, rfl⟩
  · by_cases hlt : i < n
    · obtain ⟨k, rfl⟩ := Int.eq_ofNat_of_zero_le i0
      have hk : k < zs.length := by omega
      have hmem : zs.getD k 0 ∈ zs := by rw [List.getD_eq_getElem?_getD, List.getElem?_eq_getElem hk]; simp
      have hz0 := bounds_u8 (hwf _ hmem)
      have hlt' : k < n := by omega
      obtain ⟨b, off, rfl, hc2⟩ := ints_at hcell (by omega)
      have hc0 := hc2 k hk
      generalize zs.getD k 0 = z at *
      obtain ⟨z0, z1⟩ := hz0
      clear hcell hc2 hwf hmem
      go_enter Try.func10, Try.ntmps10
      go_wp2
      go_ret
      exact ⟨z % 256, by omega, by omega, rfl, rfl⟩
    · go_enter Try.func10, Try.ntmps10
      go_wp2
      go_ret
      exact ⟨0, by omega, by omega, rfl, rfl⟩
end Go.Proofs.Ytacnijnilopckaa
