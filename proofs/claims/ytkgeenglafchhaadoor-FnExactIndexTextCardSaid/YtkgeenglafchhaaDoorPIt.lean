/- Plain laws: the text of an index. No program. -/
import Derived.Test.YtkgeenglafchhaaDoorPDe
import Derived.Test.YtkgeenglafchhaaDoorPDx
namespace Go.Proofs.YtkgeenglafchhaaDoor
set_option linter.unusedVariables false
set_option maxRecDepth 100000
def plusB : ByteArray := ⟨#[43]⟩
def slashB : ByteArray := ⟨#[47]⟩
theorem ba_sz (a b : ByteArray) : (a ++ b).size = a.size + b.size := ByteArray.size_append
def idxT (x : Index_) : ByteArray := (((decB x.Turns ++ plusB) ++ decB x.Holes) ++ slashB) ++ decB x.Circle
theorem idx_os {d : Divider_} {x : Index_} (h : idxB d x = true) : osI x.Turns ∧ osI x.Holes ∧ osI x.Circle := by
  obtain ⟨h1, h2, h3, h4, _⟩ := idxB_iff h
  have h5 := (divB_iff h1).1
  exact ⟨⟨by omega, by omega⟩, ⟨by omega, by omega⟩, ⟨by omega, by omega⟩⟩
theorem s_l24Text_eq {x : Index_} (h1 : osI x.Turns) (h2 : osI x.Holes) (h3 : osI x.Circle) : s_l24Text_m x = some (idxT x) := by
  have z1 := decB_size h1
  have z2 := decB_size h2
  have z3 := decB_size h3
  unfold s_l24Text_m
  rw [show (⟨#[43]⟩ : ByteArray) = plusB from rfl, show (⟨#[47]⟩ : ByteArray) = slashB from rfl, s_l01Dec_eq h1, s_l01Dec_eq h2, s_l01Dec_eq h3]
  have p1 : plusB.size = 1 := rfl
  have p2 : slashB.size = 1 := rfl
  simp only [Option.bind_some, ba_sz, p1, p2]
  rw [chk_t (by omega), chk_t (by omega), chk_t (by omega), chk_t (by omega)]
  rfl
theorem i_IndexText_eq {d : Divider_} {x : Index_} (hl : d.Circles.length ≤ 9223372036854775807) : i_IndexText_m d x = some (if idxB d x = true then idxT x else ⟨#[]⟩) := by
  unfold i_IndexText_m
  rw [i_ValidIndex_eq hl, Option.bind_some]
  cases hb : idxB d x
  · rfl
  obtain ⟨h1, h2, h3⟩ := idx_os hb
  have z1 := decB_size h1
  have z2 := decB_size h2
  have z3 := decB_size h3
  rw [show (⟨#[43]⟩ : ByteArray) = plusB from rfl, show (⟨#[47]⟩ : ByteArray) = slashB from rfl, i_Decimal_eq h1, i_Decimal_eq h2, i_Decimal_eq h3]
  have p1 : plusB.size = 1 := rfl
  have p2 : slashB.size = 1 := rfl
  simp only [Option.bind_some, ba_sz, p1, p2, Bool.not_true, Bool.false_eq_true, if_false, if_true]
  rw [chk_t (by omega), chk_t (by omega), chk_t (by omega), chk_t (by omega)]
  rfl
theorem s_IndexText_eq {d : Divider_} {x : Index_} (hl : d.Circles.length ≤ 9223372036854775807) : s_IndexText_m d x = some (if idxB d x = true then idxT x else ⟨#[]⟩) := by
  unfold s_IndexText_m
  rw [s_l24Index_eq hl, Option.bind_some]
  cases hb : idxB d x
  · rfl
  obtain ⟨h1, h2, h3⟩ := idx_os hb
  rw [s_l24Text_eq h1 h2 h3]
  rfl
theorem law_indexText (p0 : Divider_) (k0 : okDivider_ p0) (p1 : Index_) (k1 : okIndex_ p1) : l_FnExactIndexText_m p0 p1 = some true := by
  unfold l_FnExactIndexText_m
  obtain ⟨r, e, l, s⟩ := szDivider_ok k0 1048576 (by omega) (by omega)
  rw [e, Option.bind_some]
  by_cases hr : r < 0
  · rw [if_pos hr]
  · rw [if_neg hr]
    have h0 := s (by omega)
    have hl := h0.2.1
    have ei : l_toIndex_m p1 = some p1 := rfl
    simp [toDivider_eq h0, ei, s_IndexText_eq (d := p0) (x := p1) (by omega), i_IndexText_eq (d := p0) (x := p1) (by omega), eqDivider_refl h0]
end Go.Proofs.YtkgeenglafchhaaDoor
