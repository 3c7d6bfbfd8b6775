/- Plain laws: the text of a movement. No program. -/
import Derived.Test.YtdchemiillekjaaGreatDoorPDe
import Derived.Test.YtdchemiillekjaaGreatDoorPMv
namespace Go.Proofs.YtdchemiillekjaaGreatDoor
set_option linter.unusedVariables false
set_option maxRecDepth 100000
def blankB : ByteArray := ⟨#[32]⟩
theorem ba_s (a b : ByteArray) : (a ++ b).size = a.size + b.size := ByteArray.size_append
theorem name_sz {s : ByteArray} (h : nameB s = true) : s.size ≤ 12 := by
  simp only [nameB, Bool.and_eq_true, decide_eq_true_eq] at h
  exact h.1.1.2
theorem arb_at {w : Works_} {k : Int} (h : inArb w k = true) : ∃ a, w.Arbors[k.toNat]? = some a ∧ atI w.Arbors k = some a ∧ a ∈ w.Arbors := by
  simp only [inArb, decide_eq_true_eq] at h
  have hl : k.toNat < w.Arbors.length := by omega
  exact ⟨_, List.getElem?_eq_getElem hl, by rw [atI, if_pos h.1]; exact List.getElem?_eq_getElem hl, List.getElem_mem hl⟩
theorem arb_name {w : Works_} (h : wksB w = true) {a : Arbor_} (ha : a ∈ w.Arbors) : a.Name.size ≤ 12 := by
  simp only [wksB, Bool.and_eq_true, decide_eq_true_eq] at h
  obtain ⟨i, hi, rfl⟩ := List.getElem_of_mem ha
  have := (allI_iff.1 h.2.2.1) i hi
  simp only [arbB, Bool.and_eq_true] at this
  exact name_sz this.1.2.1
theorem mov_parts {m : Movement_} (h : movB m = true) : m.Name.size ≤ 12 ∧ osI m.Beats ∧ osI m.Teeth ∧ ∃ a b c, (atI m.Works.Arbors m.Minute = some a ∧ a.Name.size ≤ 12) ∧ (atI m.Works.Arbors m.Hour = some b ∧ b.Name.size ≤ 12) ∧ (atI m.Works.Arbors m.Escape = some c ∧ c.Name.size ≤ 12) := by
  simp only [movB, Bool.and_eq_true] at h
  obtain ⟨h1, h2, h3, h4, h5, h6, h7, _⟩ := h
  obtain ⟨a, -, a1, a2⟩ := arb_at h3
  obtain ⟨b, -, b1, b2⟩ := arb_at h4
  obtain ⟨c, -, c1, c2⟩ := arb_at h5
  simp only [toothB, btw, decide_eq_true_eq] at h6 h7
  exact ⟨name_sz h1, ⟨by omega, by omega⟩, ⟨by omega, by omega⟩, a, b, c, ⟨a1, arb_name h2 a2⟩, ⟨b1, arb_name h2 b2⟩, ⟨c1, arb_name h2 c2⟩⟩
def glue6 (x1 x2 x3 x4 x5 x6 : ByteArray) : ByteArray := (((((((((x1 ++ blankB) ++ x2) ++ blankB) ++ x3) ++ blankB) ++ x4) ++ blankB) ++ x5) ++ blankB) ++ x6
theorem join6 (x1 x2 x3 x4 x5 x6 : ByteArray) : joinT [x1, x2, x3, x4, x5, x6] blankB = glue6 x1 x2 x3 x4 x5 x6 := by
  unfold joinT glue6 Lib.join
  apply ByteArray.ext
  apply Array.ext'
  simp [List.intercalate, ByteArray.data_append]
def movT (m : Movement_) : ByteArray := match atI m.Works.Arbors m.Minute, atI m.Works.Arbors m.Hour, atI m.Works.Arbors m.Escape with
  | some a, some b, some c => if movB m = true then glue6 m.Name (decB m.Beats) (decB m.Teeth) a.Name b.Name c.Name else ⟨#[]⟩
  | _, _, _ => ⟨#[]⟩
theorem i_MovementText_eq {m : Movement_} (h : smMovement_ m) : i_MovementText_m m = some (movT m) := by
  unfold i_MovementText_m movT
  rw [i_ValidMovement_eq h, Option.bind_some]
  cases hb : movB m
  · simp only [Bool.not_false, if_true, Bool.false_eq_true, if_false]
    split <;> rfl
  · obtain ⟨z1, o1, o2, a, b, c, ⟨a1, a2⟩, ⟨b1, b2⟩, c1, c2⟩ := mov_parts hb
    have z2 := decB_size o1
    have z3 := decB_size o2
    rw [a1, b1, c1, i_Decimal_eq o1, i_Decimal_eq o2]
    have zb : blankB.size = 1 := rfl
    simp only [Option.bind_some, Bool.not_true, Bool.false_eq_true, if_false, if_true]
    unfold strings_Join_m
    rw [show (⟨#[32]⟩ : ByteArray) = blankB from rfl, join6, chk_t ⟨by simp, by simp only [glue6, ba_s, zb]; omega⟩]
    rfl
theorem s_MovementText_eq {m : Movement_} (h : smMovement_ m) : s_MovementText_m m = some (movT m) := by
  unfold s_MovementText_m movT
  rw [s_l26Ok_eq h, Option.bind_some]
  cases hb : movB m
  · simp only [Bool.not_false, if_true, Bool.false_eq_true, if_false]
    split <;> rfl
  · obtain ⟨z1, o1, o2, a, b, c, ⟨a1, a2⟩, ⟨b1, b2⟩, c1, c2⟩ := mov_parts hb
    have z2 := decB_size o1
    have z3 := decB_size o2
    have zb : blankB.size = 1 := rfl
    simp only [Bool.not_true, Bool.false_eq_true, if_false, if_true]
    unfold s_l26Text_m
    rw [a1, b1, c1, s_l01Dec_eq o1, s_l01Dec_eq o2, show (⟨#[32]⟩ : ByteArray) = blankB from rfl]
    simp only [Option.bind_some, ba_s, zb]
    rw [chk_t (by omega), chk_t (by omega), chk_t (by omega), chk_t (by omega), chk_t (by omega), chk_t (by omega), chk_t (by omega), chk_t (by omega), chk_t (by omega), chk_t (by omega)]
    rfl
theorem law_movementText (p0 : Movement_) (k0 : okMovement_ p0) : l_FnExactMovementText_m p0 = some true := by
  unfold l_FnExactMovementText_m
  obtain ⟨r, e, l, s⟩ := szMovement_ok k0 1048576 (by omega) (by omega)
  rw [e, Option.bind_some]
  by_cases hr : r < 0
  · rw [if_pos hr]
  · rw [if_neg hr]
    have h0 := s (by omega)
    simp [toMovement_eq h0, s_MovementText_eq h0, i_MovementText_eq h0, eqMovement_refl h0]
end Go.Proofs.YtdchemiillekjaaGreatDoor
