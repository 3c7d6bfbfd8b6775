/- Plain laws, V: valid plates and drawings. No program. -/
import Derived.Test.YtplnohfjeilodaaPN
namespace Go.Proofs.Ytplnohfjeilodaa
set_option linter.unusedVariables false
def siteB (p : Plate_) (s : Site_) : Bool := nameB s.Name && (btw s.At.X 0 p.Width && (btw s.At.Y 0 p.Height && (btw s.Staff 1 1000 && btw s.Wheel s.Staff 10000)))
def newB (p : Plate_) (i : Nat) (s : Site_) : Bool := !((p.Sites.take i).any fun v => decide (v.Name = s.Name))
def plateB (p : Plate_) : Bool := btw p.Width 1 10000 && (btw p.Height 1 10000 && (btw p.Margin 0 1000 && (btw p.Gap 0 1000 && (decide (p.Sites.length ≤ 20) && (List.range p.Sites.length).all fun i => if hi : i < p.Sites.length then siteB p p.Sites[i] && newB p i p.Sites[i] else true))))
theorem i_validSite_eq (p : Plate_) (s : Site_) : i_validSite_m p s = some (siteB p s) := by
  unfold i_validSite_m siteB
  simp only [i_IsName_eq, i_within_eq, Option.bind_some]
  cases nameB s.Name <;> cases btw s.At.X 0 p.Width <;> cases btw s.At.Y 0 p.Height <;> cases btw s.Staff 1 1000 <;> simp
theorem contains_site {xs : List Site_} {c : Site_} (hn : xs.length ≤ 9223372036854775807) : slices_ContainsFunc_LSite_Site_i_ValidPlate_1_m xs c = some (xs.any fun v => decide (v.Name = c.Name)) := by
  unfold slices_ContainsFunc_LSite_Site_i_ValidPlate_1_m slices_IndexFunc_LSite_Site_i_ValidPlate_1_m
  obtain ⟨x, hx, h⟩ := index_ok (xs := xs) (p := fun v => decide (v.Name = c.Name)) (step := fun s5 => (if s5 < (xs.length : Int) then ((atI xs s5).bind fun v6 => ((i_ValidPlate_1_m v6 c).bind fun v7 => (if v7 = true then some (.inr (.inr s5)) else some (.inl (w64 (s5 + 1)))))) else some (.inr (.inl ()))))
    (fun i hi => by
      have e1 : w64 ((i : Int) + 1) = i + 1 := w64_in (by omega) (by omega)
      have hi' : (i : Int) < xs.length := by omega
      simp only [if_pos hi', atI_lt hi, Option.bind_some, i_ValidPlate_1_m, e1]
      by_cases h : xs[i].Name = c.Name <;> simp [h]) (by simp) hn
  rw [hx]
  rcases h with ⟨h, rfl⟩ | ⟨h, i, hi, rfl⟩
  · simp only [h, Option.bind_some, orE]; rfl
  · simp only [h, Option.bind_some, orE]; simp [hi]
theorem i_ValidPlate_eq (p : Plate_) : i_ValidPlate_m p = some (plateB p) := by
  unfold i_ValidPlate_m plateB
  simp only [i_within_eq, Option.bind_some]
  cases btw p.Width 1 10000 <;> cases btw p.Height 1 10000 <;> cases btw p.Margin 0 1000 <;> cases btw p.Gap 0 1000 <;> simp only [Bool.not_false, Bool.not_true, if_true, if_false, Bool.false_eq_true, Option.bind_some, Bool.false_and, Bool.true_and]
  by_cases hl : 20 < (p.Sites.length : Int)
  · rw [decide_eq_true hl, if_pos rfl, decide_eq_false (by omega)]; rfl
  · rw [decide_eq_false hl, if_neg (by simp), decide_eq_true (show p.Sites.length ≤ 20 by omega), Bool.true_and, scan_ok (n := p.Sites.length) (d := .inl ()) (e := .inr false) (g := fun i => if hi : i < p.Sites.length then siteB p p.Sites[i] && newB p i p.Sites[i] else true) (fun i hi => ?_) (by simp) (by omega)]
    · cases (List.range p.Sites.length).all fun i => if hi : i < p.Sites.length then siteB p p.Sites[i] && newB p i p.Sites[i] else true <;> simp [orE]
    · have e1 : w64 ((i : Int) + 1) = i + 1 := w64_in (by omega) (by omega)
      have hi' : (i : Int) < p.Sites.length := by omega
      have e2 : subL p.Sites 0 i = p.Sites.take i := by simp [subL]
      rw [if_pos hi', atI_lt hi]
      simp only [Option.bind_some, i_validSite_eq, e1, hi, dite_true]
      rw [chk_t ⟨by omega, by omega, by omega⟩, e2, contains_site (by simp; omega)]
      unfold newB
      cases siteB p p.Sites[i] <;> cases (p.Sites.take i).any fun v => decide (v.Name = p.Sites[i].Name) <;> simp
theorem s_l09Plate_eq (p : Plate_) : s_l09Plate_m p = some (plateB p) := by
  unfold s_l09Plate_m plateB
  simp only [s_l00In_eq, Option.bind_some]
  cases btw p.Width 1 10000 <;> cases btw p.Height 1 10000 <;> cases btw p.Margin 0 1000 <;> cases btw p.Gap 0 1000 <;> simp only [Bool.not_false, Bool.not_true, if_true, if_false, Bool.false_eq_true, Option.bind_some, Bool.false_and, Bool.true_and]
  by_cases hl : 20 < (p.Sites.length : Int)
  · rw [decide_eq_true hl, if_pos rfl, decide_eq_false (by omega)]; rfl
  · rw [decide_eq_false hl, if_neg (by simp), decide_eq_true (show p.Sites.length ≤ 20 by omega), Bool.true_and, scan_ok (n := p.Sites.length) (d := .inl ()) (e := .inr false) (g := fun i => if hi : i < p.Sites.length then siteB p p.Sites[i] && newB p i p.Sites[i] else true) (fun i hi => ?_) (by simp) (by omega)]
    · cases (List.range p.Sites.length).all fun i => if hi : i < p.Sites.length then siteB p p.Sites[i] && newB p i p.Sites[i] else true <;> simp [orE]
    · have e1 : w64 ((i : Int) + 1) = i + 1 := w64_in (by omega) (by omega)
      have hi' : (i : Int) < p.Sites.length := by omega
      rw [if_pos hi', atI_lt hi]
      simp only [Option.bind_some, s_IsName_eq, e1, hi, dite_true]
      have hin : loopM (S := Int) (X := Unit ⊕ (Int ⊕ (Unit ⊕ Bool))) (fun s29 => (if s29 < (i : Int) then ((atI p.Sites s29).bind fun v30 => (if v30.Name = p.Sites[i].Name then some (.inr (.inr (.inr (.inr false)))) else some (.inl (w64 (s29 + 1))))) else some (.inr (.inl ())))) 0 = some (if newB p i p.Sites[i] = true then .inl () else .inr (.inr (.inr false))) := by
        have hlen : (p.Sites.take i).length = i := by simp; omega
        rw [scanL_ok (xs := p.Sites.take i) (f := fun v => !decide (v.Name = p.Sites[i].Name)) (d := .inl ()) (e := .inr (.inr (.inr false))) (fun j hj => ?_) (by simp [hlen]) (by omega)]
        · congr 2
          unfold newB
          rw [Bool.eq_iff_iff]
          simp
        · have hj' : j < i := by omega
          have e2 : w64 ((j : Int) + 1) = j + 1 := w64_in (by omega) (by omega)
          rw [if_pos (show (j : Int) < i by omega), atI_lt (show j < p.Sites.length by omega)]
          simp only [Option.bind_some, e2, List.getElem_take]
          by_cases h : p.Sites[j].Name = p.Sites[i].Name <;> simp [h]
      rw [hin]
      unfold siteB
      cases nameB p.Sites[i].Name <;> cases btw p.Sites[i].At.X 0 p.Width <;> cases btw p.Sites[i].At.Y 0 p.Height <;> cases btw p.Sites[i].Staff 1 1000 <;> cases btw p.Sites[i].Wheel p.Sites[i].Staff 10000 <;> cases newB p i p.Sites[i] <;> simp [orE]
end Go.Proofs.Ytplnohfjeilodaa
