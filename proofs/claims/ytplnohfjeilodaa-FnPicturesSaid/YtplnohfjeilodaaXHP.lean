/- helpers of the laws -/
import Derived.Test.YtplnohfjeilodaaPT
import Derived.Test.YtplnohfjeilodaaXM
import Derived.Test.YtplnohfjeilodaaXOK
namespace Go.Proofs.Ytplnohfjeilodaa
open Go.RowKit
set_option linter.unusedVariables false
set_option maxRecDepth 100000
set_option maxHeartbeats 2000000
def smPoint_ (x : Point_) : Prop := (fun _ => True) x.X ∧ (fun _ => True) x.Y
def smSite_ (x : Site_) : Prop := smS x.Name ∧ smPoint_ x.At ∧ (fun _ => True) x.Wheel ∧ (fun _ => True) x.Staff
def smPlate_ (x : Plate_) : Prop := (fun _ => True) x.Width ∧ (fun _ => True) x.Height ∧ (fun _ => True) x.Margin ∧ (fun _ => True) x.Gap ∧ (smL smSite_) x.Sites
theorem toPoint_eq {x : Point_} (h : smPoint_ x) : l_toPoint_m x = some x := rfl
theorem toSite_eq {x : Site_} (h : smSite_ x) : l_toSite_m x = some x := by
  unfold l_toSite_m
  simp only [toPoint_eq h.2.1, Option.bind_some]
theorem toSiteS_eq {x : List Site_} (h : (smL smSite_) x) : l_toSiteS_m x = some x := by
  unfold l_toSiteS_m
  rw [chk_t (by have := h.1; omega), toS_id (by have := h.1; omega) fun v hv => toSite_eq (h.2 v hv)]; rfl
theorem toPlate_eq {x : Plate_} (h : smPlate_ x) : l_toPlate_m x = some x := by
  unfold l_toPlate_m
  simp only [toSiteS_eq h.2.2.2.2, Option.bind_some]
theorem szSite_ok {x : Site_} (h : okSite_ x) (l : Int) (h0 : 0 ≤ l) (h1 : l ≤ 1048576) : ∃ r, l_szSite_m x l = some r ∧ r ≤ l ∧ (0 ≤ r → smSite_ x) := by
  unfold l_szSite_m
  have g0 := h.1
  unfold osS at g0
  rw [w64_in (x := l - (x.Name.size : Int)) (by omega) (by omega)]
  by_cases c0 : l - (x.Name.size : Int) < 0
  · rw [if_pos c0]; exact ⟨-1, rfl, by omega, by omega⟩
  rw [if_neg c0]
  obtain ⟨r0, hr0⟩ : ∃ r : Int, r = l - (x.Name.size : Int) := ⟨_, rfl⟩
  rw [← hr0] at c0 ⊢
  exact ⟨_, rfl, by omega, fun _ => ⟨(show smS x.Name by unfold smS; omega), (by simp [smPoint_]), trivial, trivial⟩⟩
theorem szSiteS_ok {x : List Site_} (h : (osL okSite_) x) (l : Int) (h0 : 0 ≤ l) (h1 : l ≤ 1048576) : ∃ r, l_szSiteS_m x l = some r ∧ r ≤ l ∧ (0 ≤ r → (smL smSite_) x) := by
  obtain ⟨hl, hm⟩ := h
  unfold l_szSiteS_m
  by_cases hq : w64 (l - (x.length : Int)) < 0
  · rw [if_pos hq]; exact ⟨-1, rfl, by omega, by omega⟩
  · rw [if_neg hq]
    rw [w64_in (by omega) (by omega)] at hq ⊢
    obtain ⟨y, hy, hp⟩ := szS_ok hl (sm := smSite_) (fun v hv a b c => szSite_ok (hm v hv) a b c) (l - x.length) (by omega) (by omega)
    rw [hy]
    rcases hp with rfl | ⟨r, rfl, e1, e2, e3⟩
    · exact ⟨-1, rfl, by omega, by omega⟩
    · exact ⟨r, rfl, by omega, fun _ => ⟨by omega, e3⟩⟩
theorem szPlate_ok {x : Plate_} (h : okPlate_ x) (l : Int) (h0 : 0 ≤ l) (h1 : l ≤ 1048576) : ∃ r, l_szPlate_m x l = some r ∧ r ≤ l ∧ (0 ≤ r → smPlate_ x) := by
  unfold l_szPlate_m
  obtain ⟨r0, e0, f0, s0⟩ := szSiteS_ok h.2.2.2.2 l (by omega) (by omega)
  rw [e0]
  simp only [Option.bind_some]
  by_cases c0 : r0 < 0
  · simp only [if_pos c0]; exact ⟨_, rfl, by omega, by omega⟩
  simp only [if_neg c0]
  exact ⟨_, rfl, by omega, fun _ => ⟨trivial, trivial, trivial, trivial, s0 (by omega)⟩⟩
theorem eqPoint_refl {x : Point_} (h : smPoint_ x) : l_eqPoint_m x x = some true := by
  unfold l_eqPoint_m
  simp []
theorem eqSite_refl {x : Site_} (h : smSite_ x) : l_eqSite_m x x = some true := by
  unfold l_eqSite_m
  simp [eqPoint_refl h.2.1]
theorem eqSiteS_refl {x : List Site_} (h : (smL smSite_) x) : l_eqSiteS_m x x = some true := by
  unfold l_eqSiteS_m
  rw [if_neg (by simp), eqS_refl (by have := h.1; omega) fun v hv => eqSite_refl (h.2 v hv)]; rfl
theorem eqPlate_refl {x : Plate_} (h : smPlate_ x) : l_eqPlate_m x x = some true := by
  unfold l_eqPlate_m
  simp [eqSiteS_refl h.2.2.2.2]
def mkSiteS (k : Int) : Site_ := ⟨mkT k, ⟨k + 1, k + 2⟩, k + 3, k + 4⟩
theorem markSiteS_eq {x : List Site_} {k : Int} (h0 : 0 ≤ k) (hk : k ≤ 100000000) (hl : x.length ≤ 1048576) : l_markSiteS_o_m x k = some (k + 5 * x.length, (List.range x.length).map fun (j : Nat) => mkSiteS (k + 5 * (j : Int))) := by
  unfold l_markSiteS_o_m
  rw [markS_ok (c := 5) (B := 1000000000) (M := mkSiteS) (by omega) (fun k i ys a1 a2 a3 a4 a5 => ?_) (fun k i ys a => by simp [a]) h0 hl (by omega)]
  · rfl
  · obtain ⟨e, he, _, _⟩ := atI_some a3 a4
    have w : ∀ n : Int, 0 ≤ n → n ≤ 2000000000 → w64 n = n := fun n p q => w64_in (by omega) (by omega)
    simp only [if_pos a4, he, Option.bind_some, List.set_set, atI_set a3 a4, w (k + 1) (by omega) (by omega), w (k + 1 + 1) (by omega) (by omega), w (k + 1 + 1 + 1) (by omega) (by omega), w (k + 1 + 1 + 1 + 1) (by omega) (by omega), w (k + 1 + 1 + 1 + 1 + 1) (by omega) (by omega), w (i + 1) (by omega) (by omega), markText_eq (show 0 ≤ k by omega) (by omega)]
    simp [mkSiteS, Int.add_assoc]
theorem markPlate_eq {x : Plate_} {k : Int} (h0 : 0 ≤ k) (hk : k ≤ 10000000) (h : smPlate_ x) : l_markPlate_o_m x k = some (k + 5 * x.Sites.length, ((List.range x.Sites.length).map fun (j : Nat) => mkSiteS (k + 5 * (j : Int)))) := by
  have g0 := (h.2.2.2.2).1
  unfold l_markPlate_o_m
  simp [markSiteS_eq (x := x.Sites) (k := k) (by omega) (by omega) (h.2.2.2.2).1, chk_true]
def smSpot_ (x : Spot_) : Prop := (fun _ => True) x.X ∧ (fun _ => True) x.Y
def smShape_ (x : Shape_) : Prop := (fun _ => True) x.Kind ∧ smSpot_ x.A ∧ smSpot_ x.B ∧ (fun _ => True) x.R ∧ smS x.Name
def smDrawing_ (x : Drawing_) : Prop := (smL smShape_) x.Shapes
theorem toSpot_eq {x : Spot_} (h : smSpot_ x) : l_toSpot_m x = some x := rfl
theorem toShape_eq {x : Shape_} (h : smShape_ x) : l_toShape_m x = some x := by
  unfold l_toShape_m
  simp only [toSpot_eq h.2.1, toSpot_eq h.2.2.1, Option.bind_some]
theorem toShapeS_eq {x : List Shape_} (h : (smL smShape_) x) : l_toShapeS_m x = some x := by
  unfold l_toShapeS_m
  rw [chk_t (by have := h.1; omega), toS_id (by have := h.1; omega) fun v hv => toShape_eq (h.2 v hv)]; rfl
theorem toDrawing_eq {x : Drawing_} (h : smDrawing_ x) : l_toDrawing_m x = some x := by
  unfold l_toDrawing_m
  simp only [toShapeS_eq h, Option.bind_some]
theorem szShape_ok {x : Shape_} (h : okShape_ x) (l : Int) (h0 : 0 ≤ l) (h1 : l ≤ 1048576) : ∃ r, l_szShape_m x l = some r ∧ r ≤ l ∧ (0 ≤ r → smShape_ x) := by
  unfold l_szShape_m
  have g0 := h.2.2.2.2
  unfold osS at g0
  rw [w64_in (x := l - (x.Name.size : Int)) (by omega) (by omega)]
  by_cases c0 : l - (x.Name.size : Int) < 0
  · rw [if_pos c0]; exact ⟨-1, rfl, by omega, by omega⟩
  rw [if_neg c0]
  obtain ⟨r0, hr0⟩ : ∃ r : Int, r = l - (x.Name.size : Int) := ⟨_, rfl⟩
  rw [← hr0] at c0 ⊢
  exact ⟨_, rfl, by omega, fun _ => ⟨trivial, (by simp [smSpot_]), (by simp [smSpot_]), trivial, (show smS x.Name by unfold smS; omega)⟩⟩
theorem szShapeS_ok {x : List Shape_} (h : (osL okShape_) x) (l : Int) (h0 : 0 ≤ l) (h1 : l ≤ 1048576) : ∃ r, l_szShapeS_m x l = some r ∧ r ≤ l ∧ (0 ≤ r → (smL smShape_) x) := by
  obtain ⟨hl, hm⟩ := h
  unfold l_szShapeS_m
  by_cases hq : w64 (l - (x.length : Int)) < 0
  · rw [if_pos hq]; exact ⟨-1, rfl, by omega, by omega⟩
  · rw [if_neg hq]
    rw [w64_in (by omega) (by omega)] at hq ⊢
    obtain ⟨y, hy, hp⟩ := szS_ok hl (sm := smShape_) (fun v hv a b c => szShape_ok (hm v hv) a b c) (l - x.length) (by omega) (by omega)
    rw [hy]
    rcases hp with rfl | ⟨r, rfl, e1, e2, e3⟩
    · exact ⟨-1, rfl, by omega, by omega⟩
    · exact ⟨r, rfl, by omega, fun _ => ⟨by omega, e3⟩⟩
theorem szDrawing_ok {x : Drawing_} (h : okDrawing_ x) (l : Int) (h0 : 0 ≤ l) (h1 : l ≤ 1048576) : ∃ r, l_szDrawing_m x l = some r ∧ r ≤ l ∧ (0 ≤ r → smDrawing_ x) := by
  unfold l_szDrawing_m
  obtain ⟨r0, e0, f0, s0⟩ := szShapeS_ok h l (by omega) (by omega)
  rw [e0]
  simp only [Option.bind_some]
  by_cases c0 : r0 < 0
  · simp only [if_pos c0]; exact ⟨_, rfl, by omega, by omega⟩
  simp only [if_neg c0]
  exact ⟨_, rfl, by omega, fun _ => s0 (by omega)⟩
theorem eqSpot_refl {x : Spot_} (h : smSpot_ x) : l_eqSpot_m x x = some true := by
  unfold l_eqSpot_m
  simp []
theorem eqShape_refl {x : Shape_} (h : smShape_ x) : l_eqShape_m x x = some true := by
  unfold l_eqShape_m
  simp [eqSpot_refl h.2.1, eqSpot_refl h.2.2.1]
theorem eqShapeS_refl {x : List Shape_} (h : (smL smShape_) x) : l_eqShapeS_m x x = some true := by
  unfold l_eqShapeS_m
  rw [if_neg (by simp), eqS_refl (by have := h.1; omega) fun v hv => eqShape_refl (h.2 v hv)]; rfl
theorem eqDrawing_refl {x : Drawing_} (h : smDrawing_ x) : l_eqDrawing_m x x = some true := by
  unfold l_eqDrawing_m
  simp [eqShapeS_refl h]
def mkShapeS (k : Int) : Shape_ := ⟨k, ⟨k + 1, k + 2⟩, ⟨k + 3, k + 4⟩, k + 5, mkT (k + 6)⟩
theorem markShapeS_eq {x : List Shape_} {k : Int} (h0 : 0 ≤ k) (hk : k ≤ 100000000) (hl : x.length ≤ 1048576) : l_markShapeS_o_m x k = some (k + 7 * x.length, (List.range x.length).map fun (j : Nat) => mkShapeS (k + 7 * (j : Int))) := by
  unfold l_markShapeS_o_m
  rw [markS_ok (c := 7) (B := 1000000000) (M := mkShapeS) (by omega) (fun k i ys a1 a2 a3 a4 a5 => ?_) (fun k i ys a => by simp [a]) h0 hl (by omega)]
  · rfl
  · obtain ⟨e, he, _, _⟩ := atI_some a3 a4
    have w : ∀ n : Int, 0 ≤ n → n ≤ 2000000000 → w64 n = n := fun n p q => w64_in (by omega) (by omega)
    simp only [if_pos a4, he, Option.bind_some, List.set_set, atI_set a3 a4, w (k + 1) (by omega) (by omega), w (k + 1 + 1) (by omega) (by omega), w (k + 1 + 1 + 1) (by omega) (by omega), w (k + 1 + 1 + 1 + 1) (by omega) (by omega), w (k + 1 + 1 + 1 + 1 + 1) (by omega) (by omega), w (k + 1 + 1 + 1 + 1 + 1 + 1) (by omega) (by omega), w (k + 1 + 1 + 1 + 1 + 1 + 1 + 1) (by omega) (by omega), w (i + 1) (by omega) (by omega), markText_eq (show 0 ≤ k + 1 + 1 + 1 + 1 + 1 + 1 by omega) (by omega)]
    simp [mkShapeS, Int.add_assoc]
theorem heldShapeS_eq {n : Nat} {k : Int} (h0 : 0 ≤ k) (hk : k ≤ 100000000) (hl : n ≤ 1048576) : l_heldShapeS_m ((List.range n).map fun (j : Nat) => mkShapeS (k + 7 * (j : Int))) k = some (k + 7 * n) := by
  unfold l_heldShapeS_m
  rw [heldS_ok (c := 7) (B := 1000000000) (M := mkShapeS) (n := n) (by omega) (fun k' i a1 a2 a3 a4 a5 => ?_) (fun k i a => by simp [a]) h0 hl (by omega)]
  · rfl
  · have he := marked_get (M := mkShapeS) (k0 := k) (c := 7) a3 a4
    have w : ∀ n : Int, 0 ≤ n → n ≤ 2000000000 → w64 n = n := fun n p q => w64_in (by omega) (by omega)
    rw [← a5] at he
    simp only [List.length_map, List.length_range, if_pos a4, he, Option.bind_some, w (k' + 1) (by omega) (by omega), w (k' + 1 + 1) (by omega) (by omega), w (k' + 1 + 1 + 1) (by omega) (by omega), w (k' + 1 + 1 + 1 + 1) (by omega) (by omega), w (k' + 1 + 1 + 1 + 1 + 1) (by omega) (by omega), w (k' + 1 + 1 + 1 + 1 + 1 + 1) (by omega) (by omega), w (k' + 1 + 1 + 1 + 1 + 1 + 1 + 1) (by omega) (by omega), w (i + 1) (by omega) (by omega), markText_eq (show 0 ≤ k' + 1 + 1 + 1 + 1 + 1 + 1 by omega) (by omega)]
    simp [mkShapeS, Int.add_assoc]
theorem markDrawing_eq {x : Drawing_} {k : Int} (h0 : 0 ≤ k) (hk : k ≤ 10000000) (h : smDrawing_ x) : l_markDrawing_o_m x k = some (k + 7 * x.Shapes.length, ((List.range x.Shapes.length).map fun (j : Nat) => mkShapeS (k + 7 * (j : Int)))) := by
  have g0 := (h).1
  unfold l_markDrawing_o_m
  simp [markShapeS_eq (x := x.Shapes) (k := k) (by omega) (by omega) (h).1, chk_true]
theorem heldDrawing_eq {x : Drawing_} {k : Int} (h0 : 0 ≤ k) (hk : k ≤ 10000000) (h : smDrawing_ x) : l_heldDrawing_m ⟨((List.range x.Shapes.length).map fun (j : Nat) => mkShapeS (k + 7 * (j : Int)))⟩ k = some (k + 7 * x.Shapes.length) := by
  have g0 := (h).1
  unfold l_heldDrawing_m
  simp [heldShapeS_eq (n := x.Shapes.length) (k := k) (by omega) (by omega) (h).1, Int.not_lt.2 (show 0 ≤ k + 7 * x.Shapes.length by omega)]
end Go.Proofs.Ytplnohfjeilodaa
