/- Plain laws, P: the drawing of a plate. No program. -/
import Derived.Test.YtplnohfjeilodaaPV
import Derived.Test.YtplnohfjeilodaaXHP
namespace Go.Proofs.Ytplnohfjeilodaa
set_option linter.unusedVariables false
def cor (p : Plate_) : List Spot_ := [⟨0, 0⟩, ⟨p.Width, 0⟩, ⟨p.Width, p.Height⟩, ⟨0, p.Height⟩]
def edge (p : Plate_) (i : Nat) : Shape_ := ⟨1, (cor p).getD i ⟨0, 0⟩, (cor p).getD ((i + 1) % 4) ⟨0, 0⟩, 0, ⟨#[]⟩⟩
def siteSh (s : Site_) : List Shape_ := [⟨2, ⟨s.At.X, s.At.Y⟩, ⟨0, 0⟩, s.Wheel, ⟨#[]⟩⟩, ⟨2, ⟨s.At.X, s.At.Y⟩, ⟨0, 0⟩, s.Staff, ⟨#[]⟩⟩, ⟨3, ⟨s.At.X, s.At.Y⟩, ⟨0, 0⟩, 0, s.Name⟩]
def plateR (p : Plate_) : Drawing_ × Int := if plateB p = true then (⟨(List.range 4).map (edge p) ++ p.Sites.flatMap siteSh⟩, 0) else (⟨[]⟩, 1)
theorem plate_len {p : Plate_} (h : plateB p = true) : p.Sites.length ≤ 20 := by
  unfold plateB at h
  simp only [Bool.and_eq_true, decide_eq_true_eq] at h
  omega
theorem cor_at (p : Plate_) {i : Nat} (h : i < 4) : atI [(⟨0, 0⟩ : Spot_), (⟨p.Width, 0⟩ : Spot_), (⟨p.Width, p.Height⟩ : Spot_), (⟨0, p.Height⟩ : Spot_)] (i : Int) = some ((cor p).getD i ⟨0, 0⟩) := by
  rw [show [(⟨0, 0⟩ : Spot_), (⟨p.Width, 0⟩ : Spot_), (⟨p.Width, p.Height⟩ : Spot_), (⟨0, p.Height⟩ : Spot_)] = cor p from rfl, atI_lt (show i < (cor p).length from h)]
  simp [show i < (cor p).length from h]
theorem s_Plate_eq (p : Plate_) : s_PlateDrawing_m p = some (plateR p) := by
  unfold s_PlateDrawing_m plateR
  rw [s_l09Plate_eq]
  cases h : plateB p
  · rfl
  · have hl := plate_len h
    simp only [Option.bind_some, Bool.not_true, Bool.false_eq_true, if_false, if_true]
    rw [buildS_ok (n := 4) (g := edge p) (fun i ys hi hy => ?_) (fun ys => by simp) (by omega), Option.bind_some, buildF_ok (xs := p.Sites) (f := siteSh) (c := 3) (fun v _ => Nat.le_refl 3) (fun i hi ys hy => ?_) (fun ys => by simp) (by omega)]
    · rfl
    · have e1 : w64 ((i : Int) + 1) = i + 1 := w64_in (by omega) (by omega)
      have hi' : (i : Int) < p.Sites.length := by omega
      simp only [List.length_map, List.length_range] at hy
      simp only [if_pos hi', atI_lt hi, Option.bind_some, e1]
      rw [chk_t (by simp; omega)]; rfl
    · have e1 : w64 ((i : Int) + 1) = ((i + 1 : Nat) : Int) := w64_in (by omega) (by omega)
      have e2 : (((i + 1 : Nat) : Int)).tmod 4 = (((i + 1) % 4 : Nat) : Int) := by rw [Int.tmod_eq_emod_of_nonneg (by omega)]; omega
      have hi' : (i : Int) < 4 := by omega
      simp only [if_pos hi', e1, e2, cor_at p hi, cor_at p (show (i + 1) % 4 < 4 by omega), Option.bind_some]
      rw [chk_t (by simp; omega)]; rfl
theorem i_Plate_eq (p : Plate_) : i_PlateDrawing_m p = some (plateR p) := by
  unfold i_PlateDrawing_m plateR
  rw [i_ValidPlate_eq]
  cases h : plateB p
  · rfl
  · have hl := plate_len h
    simp only [Option.bind_some, Bool.not_true, Bool.false_eq_true, if_false, if_true]
    rw [buildS_ok (n := 4) (g := edge p) (fun i ys hi hy => ?_) (fun ys => by simp) (by omega), Option.bind_some, buildF_ok (xs := p.Sites) (f := siteSh) (c := 3) (fun v _ => Nat.le_refl 3) (fun i hi ys hy => ?_) (fun ys => by simp) (by omega)]
    · rfl
    · have e1 : w64 ((i : Int) + 1) = i + 1 := w64_in (by omega) (by omega)
      have hi' : (i : Int) < p.Sites.length := by omega
      simp only [List.length_map, List.length_range] at hy
      simp only [if_pos hi', atI_lt hi, Option.bind_some, e1, i_circle_m, i_label_m]
      rw [chk_t (by simp; omega)]; rfl
    · have e1 : w64 ((i : Int) + 1) = ((i + 1 : Nat) : Int) := w64_in (by omega) (by omega)
      have e2 : (((i + 1 : Nat) : Int)).tmod 4 = (((i + 1) % 4 : Nat) : Int) := by rw [Int.tmod_eq_emod_of_nonneg (by omega)]; omega
      have hi' : (i : Int) < 4 := by omega
      simp only [List.length_cons, List.length_nil]
      rw [if_pos (by omega)]
      simp only [e1, e2, cor_at p hi, cor_at p (show (i + 1) % 4 < 4 by omega), Option.bind_some, i_line_m]
      rw [chk_t (by simp; omega)]; rfl
theorem plateR_sm {p : Plate_} (hp : smPlate_ p) : smDrawing_ (plateR p).1 := by
  unfold plateR smDrawing_ smL
  cases h : plateB p
  · exact ⟨by show 0 ≤ _; omega, fun m hm => by simp at hm⟩
  · have hl := plate_len h
    have hf : ∀ l : List Site_, (l.flatMap siteSh).length = 3 * l.length := fun l => by
      induction l with
      | nil => rfl
      | cons s l ih =>
        rw [List.flatMap_cons, List.length_append, ih, List.length_cons]
        show 3 + 3 * l.length = _
        omega
    refine ⟨by simp [hf]; omega, fun m hm => ?_⟩
    simp only [if_true, List.mem_append, List.mem_map, List.mem_flatMap] at hm
    rcases hm with ⟨i, _, rfl⟩ | ⟨s, hs, hm⟩
    · simp [smShape_, smSpot_, edge, smS]
      decide
    · have := (hp.2.2.2.2).2 s hs
      simp only [siteSh, List.mem_cons, List.not_mem_nil, or_false] at hm
      rcases hm with rfl | rfl | rfl
      · simp [smShape_, smSpot_, smS]; decide
      · simp [smShape_, smSpot_, smS]; decide
      · simp [smShape_, smSpot_, this.1]
theorem law_plate (p : Plate_) (hp : okPlate_ p) : l_FnExactPlateDrawing_m p = some true := by
  unfold l_FnExactPlateDrawing_m
  obtain ⟨r, e, _, s⟩ := szPlate_ok hp 1048576 (by omega) (by omega)
  rw [e, Option.bind_some]
  by_cases hr : r < 0
  · rw [if_pos hr]
  · rw [if_neg hr]
    have hs := s (by omega)
    have hd := plateR_sm hs
    have l1 := hs.2.2.2.2.1
    have l2 := hd.1
    simp [toPlate_eq hs, s_Plate_eq, i_Plate_eq, eqDrawing_refl hd, eqPlate_refl hs, markPlate_eq (k := 1) (by omega) (by omega) hs, markDrawing_eq (k := 1) (by omega) (by omega) hd, heldDrawing_eq (k := 1) (by omega) (by omega) hd, chk_true,
      Int.not_lt.2 (show 0 ≤ 1 + 5 * (p.Sites.length : Int) by omega), Int.not_lt.2 (show 0 ≤ 1 + 7 * ((plateR p).1.Shapes.length : Int) by omega)]
end Go.Proofs.Ytplnohfjeilodaa
