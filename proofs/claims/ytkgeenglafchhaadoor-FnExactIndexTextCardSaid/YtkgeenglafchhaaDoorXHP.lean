/- helpers of the laws -/
import Derived.Test.YtkgeenglafchhaaDoorPT
import Derived.Test.YtkgeenglafchhaaDoorXM
import Derived.Test.YtkgeenglafchhaaDoorXOK
namespace Go.Proofs.YtkgeenglafchhaaDoor
open Go.RowKit
set_option linter.unusedVariables false
set_option maxRecDepth 100000
set_option maxHeartbeats 2000000
def smDivider_ (x : Divider_) : Prop := (fun _ => True) x.Worm ∧ (smL (fun _ => True)) x.Circles
theorem toInt64S_eq {x : List Int} (h : (smL (fun _ => True)) x) : l_toInt64S_m x = some x := by
  unfold l_toInt64S_m
  rw [chk_t (by have := h.1; omega), toS_id' (by have := h.1; omega)]; rfl
theorem toDivider_eq {x : Divider_} (h : smDivider_ x) : l_toDivider_m x = some x := by
  unfold l_toDivider_m
  simp only [toInt64S_eq h.2, Option.bind_some]
theorem szInt64S_ok {x : List Int} (h : (osL osI) x) (l : Int) (h0 : 0 ≤ l) (h1 : l ≤ 1048576) : ∃ r, l_szInt64S_m x l = some r ∧ r ≤ l ∧ (0 ≤ r → (smL (fun _ => True)) x) := by
  obtain ⟨hl, hm⟩ := h
  unfold l_szInt64S_m
  rw [w64_in (by omega) (by omega)]
  split
  · exact ⟨_, rfl, by omega, by omega⟩
  · exact ⟨_, rfl, by omega, fun _ => ⟨by omega, fun _ _ => trivial⟩⟩
theorem szDivider_ok {x : Divider_} (h : okDivider_ x) (l : Int) (h0 : 0 ≤ l) (h1 : l ≤ 1048576) : ∃ r, l_szDivider_m x l = some r ∧ r ≤ l ∧ (0 ≤ r → smDivider_ x) := by
  unfold l_szDivider_m
  obtain ⟨r0, e0, f0, s0⟩ := szInt64S_ok h.2 l (by omega) (by omega)
  rw [e0]
  simp only [Option.bind_some]
  by_cases c0 : r0 < 0
  · simp only [if_pos c0]; exact ⟨_, rfl, by omega, by omega⟩
  simp only [if_neg c0]
  exact ⟨_, rfl, by omega, fun _ => ⟨trivial, s0 (by omega)⟩⟩
theorem eqInt64S_refl {x : List Int} (h : (smL (fun _ => True)) x) : l_eqInt64S_m x x = some true := by
  unfold l_eqInt64S_m
  rw [if_neg (by simp), eqS_refl' (by have := h.1; omega)]; rfl
theorem eqDivider_refl {x : Divider_} (h : smDivider_ x) : l_eqDivider_m x x = some true := by
  unfold l_eqDivider_m
  simp [eqInt64S_refl h.2]
def smIndex_ (x : Index_) : Prop := (fun _ => True) x.Turns ∧ (fun _ => True) x.Holes ∧ (fun _ => True) x.Circle
theorem toIndex_eq {x : Index_} (h : smIndex_ x) : l_toIndex_m x = some x := rfl
end Go.Proofs.YtkgeenglafchhaaDoor
