/- models -/
import Derived.Test.YtplnohfjeilodaaAmX
namespace Go.Proofs.Ytplnohfjeilodaa
open Go.RowKit
set_option linter.unusedVariables false
set_option maxRecDepth 100000
set_option maxHeartbeats 2000000
structure Spot_ where
  X : Int
  Y : Int
deriving DecidableEq
def cSpot_ (x : Spot_) : List DV := [.v (.int .i64 x.X), .v (.int .i64 x.Y)]
structure Shape_ where
  Kind : Int
  A : Spot_
  B : Spot_
  R : Int
  Name : ByteArray
deriving DecidableEq
def cShape_ (x : Shape_) : List DV := [.v (.int .i64 x.Kind), .v (.int .i64 x.A.X), .v (.int .i64 x.A.Y), .v (.int .i64 x.B.X), .v (.int .i64 x.B.Y), .v (.int .i64 x.R), .v (.string x.Name)]
structure Drawing_ where
  Shapes : List Shape_
deriving DecidableEq
def cDrawing_ (x : Drawing_) : List DV := [.sl (List.map cShape_ x.Shapes)]
structure Angle_ where
  Sin : Int
  Cos : Int
  Hyp : Int
deriving DecidableEq
def cAngle_ (x : Angle_) : List DV := [.v (.int .i64 x.Sin), .v (.int .i64 x.Cos), .v (.int .i64 x.Hyp)]
structure Profile_ where
  Teeth : Int
  Module : Int
  Addendum : Int
  Angle : Angle_
deriving DecidableEq
def cProfile_ (x : Profile_) : List DV := [.v (.int .i64 x.Teeth), .v (.int .i64 x.Module), .v (.int .i64 x.Addendum), .v (.int .i64 x.Angle.Sin), .v (.int .i64 x.Angle.Cos), .v (.int .i64 x.Angle.Hyp)]
structure L00Src_ where
  code : List Int
  at_ : Int
  seed : Int
deriving DecidableEq
def cL00Src_ (x : L00Src_) : List DV := [.sl (List.map cU8 x.code), .v (.int .i64 x.at_), .v (.int .u64 x.seed)]
structure Point_ where
  X : Int
  Y : Int
deriving DecidableEq
def cPoint_ (x : Point_) : List DV := [.v (.int .i64 x.X), .v (.int .i64 x.Y)]
structure Site_ where
  Name : ByteArray
  At : Point_
  Wheel : Int
  Staff : Int
deriving DecidableEq
def cSite_ (x : Site_) : List DV := [.v (.string x.Name), .v (.int .i64 x.At.X), .v (.int .i64 x.At.Y), .v (.int .i64 x.Wheel), .v (.int .i64 x.Staff)]
structure Plate_ where
  Width : Int
  Height : Int
  Margin : Int
  Gap : Int
  Sites : List Site_
deriving DecidableEq
def cPlate_ (x : Plate_) : List DV := [.v (.int .i64 x.Width), .v (.int .i64 x.Height), .v (.int .i64 x.Margin), .v (.int .i64 x.Gap), .sl (List.map cSite_ x.Sites)]
def l_szShape_m (p0 : Shape_) (p1 : Int) : Option Int :=
  (if (w64 (p1 - (p0.Name.size : Int))) < 0 then
  some (-1)
  else
  some (w64 (p1 - (p0.Name.size : Int))))

def l_szShapeS_m (p0 : List Shape_) (p1 : Int) : Option Int :=
  (if (w64 (p1 - (p0.length : Int))) < 0 then
  some (-1)
  else
  ((loopM (S := Int × Int) (X := Int ⊕ Int) (fun s4 =>
  (if s4.2 < (p0.length : Int) then
  ((atI p0 s4.2).bind fun v5 =>
  ((l_szShape_m v5 s4.1).bind fun v6 =>
  (if v6 < 0 then
  some (.inr (.inr (-1)))
  else
  some (.inl (v6, w64 (s4.2 + 1))))))
  else
  some (.inr (.inl s4.1)))) (w64 (p1 - (p0.length : Int)), 0) : Option (Int ⊕ Int)).bind fun v7x => orE v7x fun v7 =>
  some v7))

def l_szDrawing_m (p0 : Drawing_) (p1 : Int) : Option Int :=
  ((l_szShapeS_m p0.Shapes p1).bind fun v1 =>
  (if v1 < 0 then
  some (-1)
  else
  some v1))

def l_toSpot_m (p0 : Spot_) : Option Spot_ :=
  some p0

def l_toShape_m (p0 : Shape_) : Option Shape_ :=
  ((l_toSpot_m p0.A).bind fun v1 =>
  ((l_toSpot_m p0.B).bind fun v2 =>
  some (⟨p0.Kind, v1, v2, p0.R, p0.Name⟩ : Shape_)))

def l_toShapeS_m (p0 : List Shape_) : Option (List Shape_) :=
  (chk (0 ≤ (p0.length : Int) ∧ (p0.length : Int) = (p0.length : Int) ∧ ((p0.length : Int)).toNat * 7 * 64 ≤ 281474976710656) (
  ((loopM (S := Int × List Shape_) (X := List Shape_) (fun s6 =>
  (if s6.1 < (p0.length : Int) then
  ((atI p0 s6.1).bind fun v7 =>
  ((l_toShape_m v7).bind fun v8 =>
  ((atI s6.2 s6.1).bind fun v9 =>
  some (.inl (w64 (s6.1 + 1), List.set s6.2 (s6.1).toNat v8)))))
  else
  some (.inr s6.2))) (0, List.replicate ((p0.length : Int)).toNat (⟨0, (⟨0, 0⟩ : Spot_), (⟨0, 0⟩ : Spot_), 0, (⟨#[]⟩ : ByteArray)⟩ : Shape_)) : Option (List Shape_)).bind fun v10 =>
  some v10)))

def l_toDrawing_m (p0 : Drawing_) : Option Drawing_ :=
  ((l_toShapeS_m p0.Shapes).bind fun v1 =>
  some (⟨v1⟩ : Drawing_))

def s_SameDrawing_m (p0 : Drawing_) (p1 : Drawing_) : Option Bool :=
  (if (p0.Shapes.length : Int) ≠ (p1.Shapes.length : Int) then
  some false
  else
  ((loopM (S := Int) (X := Unit ⊕ Bool) (fun s4 =>
  (if s4 < (p0.Shapes.length : Int) then
  ((atI p0.Shapes s4).bind fun v5 =>
  ((atI p1.Shapes s4).bind fun v6 =>
  (if v5 ≠ v6 then
  some (.inr (.inr false))
  else
  some (.inl (w64 (s4 + 1))))))
  else
  some (.inr (.inl ())))) 0 : Option (Unit ⊕ Bool)).bind fun v7x => orE v7x fun v7 =>
  some true))

def slices_Equal_LShape_Shape_m (p0 : List Shape_) (p1 : List Shape_) : Option Bool :=
  (if (p0.length : Int) ≠ (p1.length : Int) then
  some false
  else
  ((loopM (S := Int) (X := Unit ⊕ Bool) (fun s4 =>
  (if s4 < (p0.length : Int) then
  ((atI p0 s4).bind fun v5 =>
  ((atI p1 s4).bind fun v6 =>
  (if v5 ≠ v6 then
  some (.inr (.inr false))
  else
  some (.inl (w64 (s4 + 1))))))
  else
  some (.inr (.inl ())))) 0 : Option (Unit ⊕ Bool)).bind fun v7x => orE v7x fun v7 =>
  some true))

def i_SameDrawing_m (p0 : Drawing_) (p1 : Drawing_) : Option Bool :=
  ((slices_Equal_LShape_Shape_m p0.Shapes p1.Shapes).bind fun v1 =>
  some v1)

def l_eqSpot_m (p0 : Spot_) (p1 : Spot_) : Option Bool :=
  (if p0.X ≠ p1.X then
  some false
  else
  (if p0.Y ≠ p1.Y then
  some false
  else
  some true))

def l_eqShape_m (p0 : Shape_) (p1 : Shape_) : Option Bool :=
  (if p0.Kind ≠ p1.Kind then
  some false
  else
  ((l_eqSpot_m p0.A p1.A).bind fun v1 =>
  (if (!v1) = true then
  some false
  else
  ((l_eqSpot_m p0.B p1.B).bind fun v2 =>
  (if (!v2) = true then
  some false
  else
  (if p0.R ≠ p1.R then
  some false
  else
  (if p0.Name ≠ p1.Name then
  some false
  else
  some true)))))))

def l_eqShapeS_m (p0 : List Shape_) (p1 : List Shape_) : Option Bool :=
  (if (p0.length : Int) ≠ (p1.length : Int) then
  some false
  else
  ((loopM (S := Int) (X := Unit ⊕ Bool) (fun s5 =>
  (if s5 < (p0.length : Int) then
  ((atI p0 s5).bind fun v6 =>
  ((atI p1 s5).bind fun v7 =>
  ((l_eqShape_m v6 v7).bind fun v8 =>
  (if (!v8) = true then
  some (.inr (.inr false))
  else
  some (.inl (w64 (s5 + 1)))))))
  else
  some (.inr (.inl ())))) 0 : Option (Unit ⊕ Bool)).bind fun v9x => orE v9x fun v9 =>
  some true))

def l_eqDrawing_m (p0 : Drawing_) (p1 : Drawing_) : Option Bool :=
  ((l_eqShapeS_m p0.Shapes p1.Shapes).bind fun v1 =>
  (if (!v1) = true then
  some false
  else
  some true))

def l_FnExactSameDrawing_m (p0 : Drawing_) (p1 : Drawing_) : Option Bool :=
  ((l_szDrawing_m p0 1048576).bind fun v1 =>
  (if v1 < 0 then
  some true
  else
  ((l_szDrawing_m p1 v1).bind fun v2 =>
  (if v2 < 0 then
  some true
  else
  ((l_toDrawing_m p0).bind fun v3 =>
  ((l_toDrawing_m p1).bind fun v4 =>
  ((s_SameDrawing_m v3 v4).bind fun v5 =>
  ((l_toDrawing_m p0).bind fun v6 =>
  ((l_toDrawing_m p1).bind fun v7 =>
  ((i_SameDrawing_m v6 v7).bind fun v8 =>
  (if (v8 != v5) = true then
  some false
  else
  ((l_toDrawing_m p0).bind fun v9 =>
  ((l_eqDrawing_m v6 v9).bind fun v10 =>
  (if (!v10) = true then
  some false
  else
  ((l_toDrawing_m p1).bind fun v11 =>
  ((l_eqDrawing_m v7 v11).bind fun v12 =>
  (if (!v12) = true then
  some false
  else
  some true)))))))))))))))))

def s_l00In_m (p0 : Int) (p1 : Int) (p2 : Int) : Option Bool :=
  (if p1 ≤ p0 then
  some (decide (p0 ≤ p2))
  else
  some false)

def s_l02Down_m (p0 : Int) (p1 : Int) : Option Int :=
  (chk (p1 ≠ 0) (
  (((chk (p1 ≠ 0) (
  (if (p0.tmod p1) < 0 then
  some (w64 ((w64 (p0.tdiv p1)) - 1))
  else
  some (w64 (p0.tdiv p1))))) : Option Int).bind fun v3 =>
  some v3)))

def s_l02Near_m (p0 : Int) (p1 : Int) : Option Int :=
  ((s_l02Down_m (w64 ((w64 (2 * p0)) + p1)) (w64 (2 * p1))).bind fun v1 =>
  some v1)

def s_l25Sine_m : Nat → Int → Int → Int → Option Int
  | 0, _, _, _ => none
  | n' + 1, p0, p1, p2 =>
  (if p2 < (w64 (2 * p1)) then
  ((s_l25Sine_m n' p0 (w64 ((w64 (2 * p1)) - p2)) (w64 (2 * p2))).bind fun v1 =>
  some (w64 (-v1)))
  else
  ((s_l02Near_m (w64 ((w64 (16 * p0)) * (w64 ((w64 (2 * p1)) * (w64 (p2 - (w64 (2 * p1)))))))) (w64 ((w64 ((w64 (5 * p2)) * p2)) - (w64 (4 * (w64 ((w64 (2 * p1)) * (w64 (p2 - (w64 (2 * p1))))))))))).bind fun v2 =>
  some v2))

def s_l25Round_m (p0 : Int) (p1 : Int) (p2 : Int) : Option Spot_ :=
  (chk (p2 ≠ 0) (
  (chk ((w64 (4 * p2)) ≠ 0) (
  ((s_l25Sine_m rfuel p0 (p1.tmod p2) p2).bind fun v3 =>
  ((s_l25Sine_m rfuel p0 ((w64 ((w64 (4 * p1)) + p2)).tmod (w64 (4 * p2))) (w64 (4 * p2))).bind fun v4 =>
  some (⟨v3, v4⟩ : Spot_)))))))

def s_DialDrawing_m (p0 : Int) (p1 : Int) : Option (Drawing_ × Int) :=
  ((((s_l00In_m p0 10 100000).bind fun v1 =>
  (if (!v1) = true then
  some true
  else
  ((s_l00In_m p1 1 240).bind fun v2 =>
  some (!v2)))) : Option Bool).bind fun v3 =>
  (if v3 = true then
  some ((⟨([] : List Shape_)⟩ : Drawing_), 2)
  else
  ((loopM (S := Int × List Shape_) (X := List Shape_) (fun s9 =>
  (if s9.1 < p1 then
  ((s_l25Round_m (w64 ((w64 (p0 * 9)).tdiv 10)) s9.1 p1).bind fun v11 =>
  ((s_l25Round_m p0 s9.1 p1).bind fun v12 =>
  (chk ((s9.2.length + [(⟨1, v11, v12, 0, (⟨#[]⟩ : ByteArray)⟩ : Shape_)].length) * 7 * 64 ≤ 140737488355328) (
  some (.inl (w64 (s9.1 + 1), s9.2 ++ [(⟨1, v11, v12, 0, (⟨#[]⟩ : ByteArray)⟩ : Shape_)]))))))
  else
  some (.inr s9.2))) (0, [(⟨2, (⟨0, 0⟩ : Spot_), (⟨0, 0⟩ : Spot_), p0, (⟨#[]⟩ : ByteArray)⟩ : Shape_)]) : Option (List Shape_)).bind fun v14 =>
  some ((⟨v14⟩ : Drawing_), 0))))

def i_within_m (p0 : Int) (p1 : Int) (p2 : Int) : Option Bool :=
  (if p1 ≤ p0 then
  some (decide (p0 ≤ p2))
  else
  some false)

def i_circle_m (p0 : Spot_) (p1 : Int) : Option Shape_ :=
  some (⟨2, p0, (⟨0, 0⟩ : Spot_), p1, (⟨#[]⟩ : ByteArray)⟩ : Shape_)

def i_floorDiv_m (p0 : Int) (p1 : Int) : Option Int :=
  (chk (p1 ≠ 0) (
  (((chk (p1 ≠ 0) (
  (if (p0.tmod p1) < 0 then
  some (w64 ((w64 (p0.tdiv p1)) - 1))
  else
  some (w64 (p0.tdiv p1))))) : Option Int).bind fun v3 =>
  some v3)))

def i_nearestDiv_m (p0 : Int) (p1 : Int) : Option Int :=
  ((i_floorDiv_m p0 p1).bind fun v1 =>
  (((if (w64 (p1 - (w64 (p0 - (w64 (v1 * p1)))))) ≤ (w64 (p0 - (w64 (v1 * p1)))) then
  some (w64 (v1 + 1))
  else
  some v1) : Option Int).bind fun v2 =>
  some v2))

def i_sineOf_m : Nat → Int → Int → Int → Option Int
  | 0, _, _, _ => none
  | n' + 1, p0, p1, p2 =>
  (if p2 < (w64 (2 * p1)) then
  ((i_sineOf_m n' p0 (w64 ((w64 (2 * p1)) - p2)) (w64 (2 * p2))).bind fun v1 =>
  some (w64 (-v1)))
  else
  ((i_nearestDiv_m (w64 ((w64 (p0 * 16)) * (w64 ((w64 (2 * p1)) * (w64 (p2 - (w64 (2 * p1)))))))) (w64 ((w64 ((w64 (5 * p2)) * p2)) - (w64 (4 * (w64 ((w64 (2 * p1)) * (w64 (p2 - (w64 (2 * p1))))))))))).bind fun v2 =>
  some v2))

def i_roundSpot_m (p0 : Int) (p1 : Int) (p2 : Int) : Option Spot_ :=
  (chk ((w64 (4 * p2)) ≠ 0) (
  ((i_sineOf_m rfuel p0 p1 p2).bind fun v2 =>
  ((i_sineOf_m rfuel p0 ((w64 ((w64 (4 * p1)) + p2)).tmod (w64 (4 * p2))) (w64 (4 * p2))).bind fun v3 =>
  some (⟨v2, v3⟩ : Spot_)))))

def i_line_m (p0 : Spot_) (p1 : Spot_) : Option Shape_ :=
  some (⟨1, p0, p1, 0, (⟨#[]⟩ : ByteArray)⟩ : Shape_)

def i_DialDrawing_m (p0 : Int) (p1 : Int) : Option (Drawing_ × Int) :=
  ((((i_within_m p0 10 100000).bind fun v1 =>
  (if (!v1) = true then
  some true
  else
  ((i_within_m p1 1 240).bind fun v2 =>
  some (!v2)))) : Option Bool).bind fun v3 =>
  (if v3 = true then
  some ((⟨([] : List Shape_)⟩ : Drawing_), 2)
  else
  ((i_circle_m (⟨0, 0⟩ : Spot_) p0).bind fun v4 =>
  ((loopM (S := Int × List Shape_) (X := List Shape_) (fun s11 =>
  (if s11.1 < p1 then
  ((i_roundSpot_m (w64 ((w64 (p0 * 9)).tdiv 10)) s11.1 p1).bind fun v13 =>
  ((i_roundSpot_m p0 s11.1 p1).bind fun v14 =>
  ((i_line_m v13 v14).bind fun v15 =>
  (chk ((s11.2.length + [v15].length) * 7 * 64 ≤ 140737488355328) (
  some (.inl (w64 (s11.1 + 1), s11.2 ++ [v15])))))))
  else
  some (.inr s11.2))) (0, [v4]) : Option (List Shape_)).bind fun v17 =>
  some ((⟨v17⟩ : Drawing_), 0)))))

def l_markText_m (p0 : Int) : Option ByteArray :=
  (if p0 ≤ 0 then
  some (⟨#[109, 48]⟩ : ByteArray)
  else
  ((loopM (S := Int × ByteArray) (X := ByteArray) (fun s5 =>
  (if 0 < s5.1 then
  (chk ((strOfNums [IntKind.u8.wrap (w64 (48 + (s5.1.tmod 10)))]).size + s5.2.size ≤ 9223372036854775807) (
  some (.inl (w64 (s5.1.tdiv 10), (strOfNums [IntKind.u8.wrap (w64 (48 + (s5.1.tmod 10)))]) ++ s5.2))))
  else
  some (.inr s5.2))) (p0, (⟨#[]⟩ : ByteArray)) : Option ByteArray).bind fun v9 =>
  (chk ((⟨#[109]⟩ : ByteArray).size + v9.size ≤ 9223372036854775807) (
  some ((⟨#[109]⟩ : ByteArray) ++ v9)))))

def l_markShapeS_o_m (p0 : List Shape_) (p1 : Int) : Option (Int × List Shape_) :=
  ((loopM (S := Int × Int × List Shape_) (X := Int × List Shape_) (fun s10 =>
  (if s10.2.1 < (s10.2.2.length : Int) then
  ((atI s10.2.2 s10.2.1).bind fun v11 =>
  ((atI (List.set s10.2.2 (s10.2.1).toNat (⟨s10.1, v11.A, v11.B, v11.R, v11.Name⟩ : Shape_)) s10.2.1).bind fun v12 =>
  ((atI (List.set (List.set s10.2.2 (s10.2.1).toNat (⟨s10.1, v11.A, v11.B, v11.R, v11.Name⟩ : Shape_)) (s10.2.1).toNat (⟨v12.Kind, (⟨w64 (s10.1 + 1), v12.A.Y⟩ : Spot_), v12.B, v12.R, v12.Name⟩ : Shape_)) s10.2.1).bind fun v13 =>
  ((atI (List.set (List.set (List.set s10.2.2 (s10.2.1).toNat (⟨s10.1, v11.A, v11.B, v11.R, v11.Name⟩ : Shape_)) (s10.2.1).toNat (⟨v12.Kind, (⟨w64 (s10.1 + 1), v12.A.Y⟩ : Spot_), v12.B, v12.R, v12.Name⟩ : Shape_)) (s10.2.1).toNat (⟨v13.Kind, (⟨v13.A.X, w64 ((w64 (s10.1 + 1)) + 1)⟩ : Spot_), v13.B, v13.R, v13.Name⟩ : Shape_)) s10.2.1).bind fun v14 =>
  ((atI (List.set (List.set (List.set (List.set s10.2.2 (s10.2.1).toNat (⟨s10.1, v11.A, v11.B, v11.R, v11.Name⟩ : Shape_)) (s10.2.1).toNat (⟨v12.Kind, (⟨w64 (s10.1 + 1), v12.A.Y⟩ : Spot_), v12.B, v12.R, v12.Name⟩ : Shape_)) (s10.2.1).toNat (⟨v13.Kind, (⟨v13.A.X, w64 ((w64 (s10.1 + 1)) + 1)⟩ : Spot_), v13.B, v13.R, v13.Name⟩ : Shape_)) (s10.2.1).toNat (⟨v14.Kind, v14.A, (⟨w64 ((w64 ((w64 (s10.1 + 1)) + 1)) + 1), v14.B.Y⟩ : Spot_), v14.R, v14.Name⟩ : Shape_)) s10.2.1).bind fun v15 =>
  ((atI (List.set (List.set (List.set (List.set (List.set s10.2.2 (s10.2.1).toNat (⟨s10.1, v11.A, v11.B, v11.R, v11.Name⟩ : Shape_)) (s10.2.1).toNat (⟨v12.Kind, (⟨w64 (s10.1 + 1), v12.A.Y⟩ : Spot_), v12.B, v12.R, v12.Name⟩ : Shape_)) (s10.2.1).toNat (⟨v13.Kind, (⟨v13.A.X, w64 ((w64 (s10.1 + 1)) + 1)⟩ : Spot_), v13.B, v13.R, v13.Name⟩ : Shape_)) (s10.2.1).toNat (⟨v14.Kind, v14.A, (⟨w64 ((w64 ((w64 (s10.1 + 1)) + 1)) + 1), v14.B.Y⟩ : Spot_), v14.R, v14.Name⟩ : Shape_)) (s10.2.1).toNat (⟨v15.Kind, v15.A, (⟨v15.B.X, w64 ((w64 ((w64 ((w64 (s10.1 + 1)) + 1)) + 1)) + 1)⟩ : Spot_), v15.R, v15.Name⟩ : Shape_)) s10.2.1).bind fun v16 =>
  ((l_markText_m (w64 ((w64 ((w64 ((w64 ((w64 ((w64 (s10.1 + 1)) + 1)) + 1)) + 1)) + 1)) + 1))).bind fun v17 =>
  ((atI (List.set (List.set (List.set (List.set (List.set (List.set s10.2.2 (s10.2.1).toNat (⟨s10.1, v11.A, v11.B, v11.R, v11.Name⟩ : Shape_)) (s10.2.1).toNat (⟨v12.Kind, (⟨w64 (s10.1 + 1), v12.A.Y⟩ : Spot_), v12.B, v12.R, v12.Name⟩ : Shape_)) (s10.2.1).toNat (⟨v13.Kind, (⟨v13.A.X, w64 ((w64 (s10.1 + 1)) + 1)⟩ : Spot_), v13.B, v13.R, v13.Name⟩ : Shape_)) (s10.2.1).toNat (⟨v14.Kind, v14.A, (⟨w64 ((w64 ((w64 (s10.1 + 1)) + 1)) + 1), v14.B.Y⟩ : Spot_), v14.R, v14.Name⟩ : Shape_)) (s10.2.1).toNat (⟨v15.Kind, v15.A, (⟨v15.B.X, w64 ((w64 ((w64 ((w64 (s10.1 + 1)) + 1)) + 1)) + 1)⟩ : Spot_), v15.R, v15.Name⟩ : Shape_)) (s10.2.1).toNat (⟨v16.Kind, v16.A, v16.B, w64 ((w64 ((w64 ((w64 ((w64 (s10.1 + 1)) + 1)) + 1)) + 1)) + 1), v16.Name⟩ : Shape_)) s10.2.1).bind fun v18 =>
  some (.inl (w64 ((w64 ((w64 ((w64 ((w64 ((w64 ((w64 (s10.1 + 1)) + 1)) + 1)) + 1)) + 1)) + 1)) + 1), w64 (s10.2.1 + 1), List.set (List.set (List.set (List.set (List.set (List.set (List.set s10.2.2 (s10.2.1).toNat (⟨s10.1, v11.A, v11.B, v11.R, v11.Name⟩ : Shape_)) (s10.2.1).toNat (⟨v12.Kind, (⟨w64 (s10.1 + 1), v12.A.Y⟩ : Spot_), v12.B, v12.R, v12.Name⟩ : Shape_)) (s10.2.1).toNat (⟨v13.Kind, (⟨v13.A.X, w64 ((w64 (s10.1 + 1)) + 1)⟩ : Spot_), v13.B, v13.R, v13.Name⟩ : Shape_)) (s10.2.1).toNat (⟨v14.Kind, v14.A, (⟨w64 ((w64 ((w64 (s10.1 + 1)) + 1)) + 1), v14.B.Y⟩ : Spot_), v14.R, v14.Name⟩ : Shape_)) (s10.2.1).toNat (⟨v15.Kind, v15.A, (⟨v15.B.X, w64 ((w64 ((w64 ((w64 (s10.1 + 1)) + 1)) + 1)) + 1)⟩ : Spot_), v15.R, v15.Name⟩ : Shape_)) (s10.2.1).toNat (⟨v16.Kind, v16.A, v16.B, w64 ((w64 ((w64 ((w64 ((w64 (s10.1 + 1)) + 1)) + 1)) + 1)) + 1), v16.Name⟩ : Shape_)) (s10.2.1).toNat (⟨v18.Kind, v18.A, v18.B, v18.R, v17⟩ : Shape_)))))))))))
  else
  some (.inr (s10.1, s10.2.2)))) (p1, 0, p0) : Option (Int × List Shape_)).bind fun v19 =>
  some (v19.1, v19.2))

def l_markDrawing_o_m (p0 : Drawing_) (p1 : Int) : Option (Int × List Shape_) :=
  ((l_markShapeS_o_m p0.Shapes p1).bind fun v1 =>
  (chk (v1.2.length = p0.Shapes.length) (
  some (v1.1, v1.2))))

def l_heldShapeS_m (p0 : List Shape_) (p1 : Int) : Option Int :=
  ((loopM (S := Int × Int) (X := Int ⊕ Int) (fun s10 =>
  (if s10.2 < (p0.length : Int) then
  ((atI p0 s10.2).bind fun v11 =>
  (if v11.Kind ≠ s10.1 then
  some (.inr (.inr (-1)))
  else
  ((atI p0 s10.2).bind fun v12 =>
  (if v12.A.X ≠ (w64 (s10.1 + 1)) then
  some (.inr (.inr (-1)))
  else
  ((atI p0 s10.2).bind fun v13 =>
  (if v13.A.Y ≠ (w64 ((w64 (s10.1 + 1)) + 1)) then
  some (.inr (.inr (-1)))
  else
  ((atI p0 s10.2).bind fun v14 =>
  (if v14.B.X ≠ (w64 ((w64 ((w64 (s10.1 + 1)) + 1)) + 1)) then
  some (.inr (.inr (-1)))
  else
  ((atI p0 s10.2).bind fun v15 =>
  (if v15.B.Y ≠ (w64 ((w64 ((w64 ((w64 (s10.1 + 1)) + 1)) + 1)) + 1)) then
  some (.inr (.inr (-1)))
  else
  ((atI p0 s10.2).bind fun v16 =>
  (if v16.R ≠ (w64 ((w64 ((w64 ((w64 ((w64 (s10.1 + 1)) + 1)) + 1)) + 1)) + 1)) then
  some (.inr (.inr (-1)))
  else
  ((atI p0 s10.2).bind fun v17 =>
  ((l_markText_m (w64 ((w64 ((w64 ((w64 ((w64 ((w64 (s10.1 + 1)) + 1)) + 1)) + 1)) + 1)) + 1))).bind fun v18 =>
  (if v17.Name ≠ v18 then
  some (.inr (.inr (-1)))
  else
  some (.inl (w64 ((w64 ((w64 ((w64 ((w64 ((w64 ((w64 (s10.1 + 1)) + 1)) + 1)) + 1)) + 1)) + 1)) + 1), w64 (s10.2 + 1))))))))))))))))))
  else
  some (.inr (.inl s10.1)))) (p1, 0) : Option (Int ⊕ Int)).bind fun v19x => orE v19x fun v19 =>
  some v19)

def l_heldDrawing_m (p0 : Drawing_) (p1 : Int) : Option Int :=
  ((l_heldShapeS_m p0.Shapes p1).bind fun v1 =>
  (if v1 < 0 then
  some (-1)
  else
  some v1))

def l_FnExactDialDrawing_m (p0 : Int) (p1 : Int) : Option Bool :=
  ((s_DialDrawing_m p0 p1).bind fun v1 =>
  ((i_DialDrawing_m p0 p1).bind fun v2 =>
  ((((l_eqDrawing_m v2.1 v1.1).bind fun v3 =>
  (if (!v3) = true then
  some true
  else
  some (decide (v2.2 ≠ v1.2)))) : Option Bool).bind fun v4 =>
  (if v4 = true then
  some false
  else
  ((l_markDrawing_o_m v2.1 1).bind fun v5 =>
  (chk (v5.2.length = v2.1.Shapes.length) (
  ((l_heldDrawing_m (⟨v5.2⟩ : Drawing_) 1).bind fun v7 =>
  (if v7 < 0 then
  some false
  else
  (if v7 ≠ v5.1 then
  some false
  else
  ((i_DialDrawing_m p0 p1).bind fun v8 =>
  ((((l_eqDrawing_m v8.1 v1.1).bind fun v9 =>
  (if (!v9) = true then
  some true
  else
  some (decide (v8.2 ≠ v1.2)))) : Option Bool).bind fun v10 =>
  (if v10 = true then
  some false
  else
  ((l_heldDrawing_m (⟨v5.2⟩ : Drawing_) 1).bind fun v11 =>
  (if v11 < 0 then
  some false
  else
  (if v11 ≠ v5.1 then
  some false
  else
  some true))))))))))))))))

def s_l25Spot_m (p0 : Spot_) : Option Bool :=
  ((s_l00In_m p0.X (-100000) 100000).bind fun v1 =>
  (if v1 = true then
  ((s_l00In_m p0.Y (-100000) 100000).bind fun v2 =>
  some v2)
  else
  some false))

def s_l01Small_m (p0 : Int) : Option Bool :=
  (if 97 ≤ p0 then
  some (decide (p0 ≤ 122))
  else
  some false)

def s_l01Digit_m (p0 : Int) : Option Bool :=
  (if 48 ≤ p0 then
  some (decide (p0 ≤ 57))
  else
  some false)

def s_IsName_m (p0 : ByteArray) : Option Bool :=
  (((if p0 = (⟨#[]⟩ : ByteArray) then
  some true
  else
  (if 12 < (p0.size : Int) then
  some true
  else
  ((strAt p0 0).bind fun v1 =>
  ((s_l01Small_m v1).bind fun v2 =>
  some (!v2))))) : Option Bool).bind fun v3 =>
  (if v3 = true then
  some false
  else
  ((loopM (S := Int) (X := Unit ⊕ Bool) (fun s11 =>
  (if s11 < (p0.size : Int) then
  ((((strAt p0 s11).bind fun v12 =>
  ((s_l01Small_m v12).bind fun v13 =>
  (if (!v13) = true then
  ((strAt p0 s11).bind fun v14 =>
  ((s_l01Digit_m v14).bind fun v15 =>
  (if (!v15) = true then
  ((strAt p0 s11).bind fun v16 =>
  some (decide (v16 ≠ 45)))
  else
  some false)))
  else
  some false))) : Option Bool).bind fun v17 =>
  (if v17 = true then
  some (.inr (.inr false))
  else
  some (.inl (w64 (s11 + 1)))))
  else
  some (.inr (.inl ())))) 0 : Option (Unit ⊕ Bool)).bind fun v18x => orE v18x fun v18 =>
  some true)))

def s_l25Shape_m (p0 : Shape_) : Option Bool :=
  ((s_l25Spot_m p0.A).bind fun v1 =>
  (if (!v1) = true then
  some false
  else
  (if p0.Kind = 1 then
  ((s_l25Spot_m p0.B).bind fun v2 =>
  (if v2 = true then
  (if p0.R = 0 then
  some (decide (p0.Name = (⟨#[]⟩ : ByteArray)))
  else
  some false)
  else
  some false))
  else
  (if p0.Kind = 2 then
  (if p0.B = (⟨0, 0⟩ : Spot_) then
  ((s_l00In_m p0.R 1 100000).bind fun v3 =>
  (if v3 = true then
  some (decide (p0.Name = (⟨#[]⟩ : ByteArray)))
  else
  some false))
  else
  some false)
  else
  (if p0.Kind = 3 then
  (if p0.B = (⟨0, 0⟩ : Spot_) then
  (if p0.R = 0 then
  ((s_IsName_m p0.Name).bind fun v4 =>
  some v4)
  else
  some false)
  else
  some false)
  else
  some false)))))

def s_l25Ok_m (p0 : Drawing_) : Option Bool :=
  ((loopM (S := Int) (X := Unit ⊕ Bool) (fun s4 =>
  (if s4 < (p0.Shapes.length : Int) then
  ((atI p0.Shapes s4).bind fun v5 =>
  ((s_l25Shape_m v5).bind fun v6 =>
  (if (!v6) = true then
  some (.inr (.inr false))
  else
  some (.inl (w64 (s4 + 1))))))
  else
  some (.inr (.inl ())))) 0 : Option (Unit ⊕ Bool)).bind fun v7x => orE v7x fun v7 =>
  some (decide ((p0.Shapes.length : Int) ≤ 1200)))

def s_ValidDrawing_m (p0 : Drawing_) : Option Bool :=
  ((s_l25Ok_m p0).bind fun v1 =>
  some v1)

def i_validSpot_m (p0 : Spot_) : Option Bool :=
  ((i_within_m p0.X (-100000) 100000).bind fun v1 =>
  (if v1 = true then
  ((i_within_m p0.Y (-100000) 100000).bind fun v2 =>
  some v2)
  else
  some false))

def i_IsName_m (p0 : ByteArray) : Option Bool :=
  (((if (p0.size : Int) < 1 then
  some true
  else
  some (decide (12 < (p0.size : Int)))) : Option Bool).bind fun v1 =>
  (if v1 = true then
  some false
  else
  (((chk (p0.size ≤ 140737488355328) (
  loopM (S := Int) (X := Unit ⊕ Bool) (fun s8 =>
  (if s8 < ((bytesL p0).length : Int) then
  ((atI (bytesL p0) s8).bind fun v9 =>
  (((if 97 ≤ v9 then
  some (decide (v9 ≤ 122))
  else
  some false) : Option Bool).bind fun v10 =>
  (((if 48 ≤ v9 then
  (if v9 ≤ 57 then
  some true
  else
  some (decide (v9 = 45)))
  else
  some (decide (v9 = 45))) : Option Bool).bind fun v11 =>
  (((if (!v10) = true then
  (if s8 = 0 then
  some true
  else
  some (!v11))
  else
  some false) : Option Bool).bind fun v12 =>
  (if v12 = true then
  some (.inr (.inr false))
  else
  some (.inl (w64 (s8 + 1))))))))
  else
  some (.inr (.inl ())))) 0)) : Option (Unit ⊕ Bool)).bind fun v13x => orE v13x fun v13 =>
  some true)))

def i_label_m (p0 : Spot_) (p1 : ByteArray) : Option Shape_ :=
  some (⟨3, p0, (⟨0, 0⟩ : Spot_), 0, p1⟩ : Shape_)

def i_validShape_m (p0 : Shape_) : Option Bool :=
  ((i_validSpot_m p0.A).bind fun v1 =>
  (if (!v1) = true then
  some false
  else
  (if p0.Kind = 1 then
  ((i_validSpot_m p0.B).bind fun v2 =>
  (if v2 = true then
  ((i_line_m p0.A p0.B).bind fun v3 =>
  some (decide (p0 = v3)))
  else
  some false))
  else
  (if p0.Kind = 2 then
  ((i_within_m p0.R 1 100000).bind fun v4 =>
  (if v4 = true then
  ((i_circle_m p0.A p0.R).bind fun v5 =>
  some (decide (p0 = v5)))
  else
  some false))
  else
  (if p0.Kind = 3 then
  ((i_IsName_m p0.Name).bind fun v6 =>
  (if v6 = true then
  ((i_label_m p0.A p0.Name).bind fun v7 =>
  some (decide (p0 = v7)))
  else
  some false))
  else
  some false)))))

def i_ValidDrawing_1_m (p0 : Shape_) : Option Bool :=
  ((i_validShape_m p0).bind fun v1 =>
  some (!v1))

def slices_IndexFunc_LShape_Shape_i_ValidDrawing_1_m (p0 : List Shape_) : Option Int :=
  ((loopM (S := Int) (X := Unit ⊕ Int) (fun s4 =>
  (if s4 < (p0.length : Int) then
  ((atI p0 s4).bind fun v5 =>
  ((i_ValidDrawing_1_m v5).bind fun v6 =>
  (if v6 = true then
  some (.inr (.inr s4))
  else
  some (.inl (w64 (s4 + 1))))))
  else
  some (.inr (.inl ())))) 0 : Option (Unit ⊕ Int)).bind fun v7x => orE v7x fun v7 =>
  some (-1))

def slices_ContainsFunc_LShape_Shape_i_ValidDrawing_1_m (p0 : List Shape_) : Option Bool :=
  ((slices_IndexFunc_LShape_Shape_i_ValidDrawing_1_m p0).bind fun v1 =>
  some (decide (0 ≤ v1)))

def i_ValidDrawing_m (p0 : Drawing_) : Option Bool :=
  (if (p0.Shapes.length : Int) ≤ 1200 then
  ((slices_ContainsFunc_LShape_Shape_i_ValidDrawing_1_m p0.Shapes).bind fun v1 =>
  some (!v1))
  else
  some false)

def l_FnExactValidDrawing_m (p0 : Drawing_) : Option Bool :=
  ((l_szDrawing_m p0 1048576).bind fun v1 =>
  (if v1 < 0 then
  some true
  else
  ((l_toDrawing_m p0).bind fun v2 =>
  ((s_ValidDrawing_m v2).bind fun v3 =>
  ((l_toDrawing_m p0).bind fun v4 =>
  ((i_ValidDrawing_m v4).bind fun v5 =>
  (if (v5 != v3) = true then
  some false
  else
  ((l_toDrawing_m p0).bind fun v6 =>
  ((l_eqDrawing_m v4 v6).bind fun v7 =>
  (if (!v7) = true then
  some false
  else
  some true))))))))))

def s_l00Min_m (p0 : Int) (p1 : Int) : Option Int :=
  (if p0 < p1 then
  some p0
  else
  some p1)

def s_l00Max_m (p0 : Int) (p1 : Int) : Option Int :=
  (if p1 < p0 then
  some p0
  else
  some p1)

def s_BoxOf_m (p0 : Drawing_) : Option (Spot_ × Spot_ × Int) :=
  ((s_l25Ok_m p0).bind fun v1 =>
  (if (!v1) = true then
  some ((⟨0, 0⟩ : Spot_), (⟨0, 0⟩ : Spot_), 1)
  else
  (if (p0.Shapes.length : Int) = 0 then
  some ((⟨0, 0⟩ : Spot_), (⟨0, 0⟩ : Spot_), 3)
  else
  ((atI p0.Shapes 0).bind fun v2 =>
  ((loopM (S := Int × Spot_ × Spot_) (X := Spot_ × Spot_) (fun s27 =>
  (if s27.1 < (p0.Shapes.length : Int) then
  ((((atI p0.Shapes s27.1).bind fun v28 =>
  (((if v28.Kind = 1 then
  (chk (([v28.A].length + [v28.B].length) * 2 * 64 ≤ 140737488355328) (
  some ([v28.A] ++ [v28.B])))
  else
  (if v28.Kind = 2 then
  (chk (([v28.A].length + [(⟨w64 (v28.A.X - v28.R), w64 (v28.A.Y - v28.R)⟩ : Spot_), (⟨w64 (v28.A.X + v28.R), w64 (v28.A.Y + v28.R)⟩ : Spot_)].length) * 2 * 64 ≤ 140737488355328) (
  some ([v28.A] ++ [(⟨w64 (v28.A.X - v28.R), w64 (v28.A.Y - v28.R)⟩ : Spot_), (⟨w64 (v28.A.X + v28.R), w64 (v28.A.Y + v28.R)⟩ : Spot_)])))
  else
  some [v28.A])) : Option (List Spot_)).bind fun v31 =>
  loopM (S := Int × Spot_ × Spot_) (X := Spot_ × Spot_) (fun s41 =>
  (if s41.1 < (v31.length : Int) then
  ((atI v31 s41.1).bind fun v42 =>
  ((atI v31 s41.1).bind fun v43 =>
  ((s_l00Min_m s41.2.1.X v42.X).bind fun v44 =>
  ((s_l00Min_m s41.2.1.Y v43.Y).bind fun v45 =>
  ((atI v31 s41.1).bind fun v46 =>
  ((atI v31 s41.1).bind fun v47 =>
  ((s_l00Max_m s41.2.2.X v46.X).bind fun v48 =>
  ((s_l00Max_m s41.2.2.Y v47.Y).bind fun v49 =>
  some (.inl (w64 (s41.1 + 1), (⟨v44, v45⟩ : Spot_), (⟨v48, v49⟩ : Spot_)))))))))))
  else
  some (.inr (s41.2.1, s41.2.2)))) (0, s27.2.1, s27.2.2))) : Option (Spot_ × Spot_)).bind fun v50 =>
  some (.inl (w64 (s27.1 + 1), v50.1, v50.2)))
  else
  some (.inr (s27.2.1, s27.2.2)))) (0, v2.A, v2.A) : Option (Spot_ × Spot_)).bind fun v51 =>
  some (v51.1, v51.2, 0))))))

def i_cornersOf_m (p0 : Shape_) : Option (List Spot_) :=
  (if p0.Kind = 1 then
  some [p0.A, p0.B]
  else
  (if p0.Kind = 2 then
  some [(⟨w64 (p0.A.X - p0.R), w64 (p0.A.Y - p0.R)⟩ : Spot_), (⟨w64 (p0.A.X + p0.R), w64 (p0.A.Y + p0.R)⟩ : Spot_)]
  else
  some [p0.A]))

def i_BoxOf_m (p0 : Drawing_) : Option (Spot_ × Spot_ × Int) :=
  ((i_ValidDrawing_m p0).bind fun v1 =>
  (if (!v1) = true then
  some ((⟨0, 0⟩ : Spot_), (⟨0, 0⟩ : Spot_), 1)
  else
  (if (p0.Shapes.length : Int) = 0 then
  some ((⟨0, 0⟩ : Spot_), (⟨0, 0⟩ : Spot_), 3)
  else
  ((atI p0.Shapes 0).bind fun v2 =>
  ((i_cornersOf_m v2).bind fun v3 =>
  ((atI v3 0).bind fun v4 =>
  ((loopM (S := Int × Spot_ × Spot_) (X := Spot_ × Spot_) (fun s13 =>
  (if s13.1 < (p0.Shapes.length : Int) then
  ((((atI p0.Shapes s13.1).bind fun v14 =>
  ((i_cornersOf_m v14).bind fun v15 =>
  loopM (S := Int × Spot_ × Spot_) (X := Spot_ × Spot_) (fun s18 =>
  (if s18.1 < (v15.length : Int) then
  ((atI v15 s18.1).bind fun v19 =>
  some (.inl (w64 (s18.1 + 1), (⟨min s18.2.1.X v19.X, min s18.2.1.Y v19.Y⟩ : Spot_), (⟨max s18.2.2.X v19.X, max s18.2.2.Y v19.Y⟩ : Spot_))))
  else
  some (.inr (s18.2.1, s18.2.2)))) (0, s13.2.1, s13.2.2))) : Option (Spot_ × Spot_)).bind fun v20 =>
  some (.inl (w64 (s13.1 + 1), v20.1, v20.2)))
  else
  some (.inr (s13.2.1, s13.2.2)))) (0, v4, v4) : Option (Spot_ × Spot_)).bind fun v21 =>
  some (v21.1, v21.2, 0))))))))

def l_FnExactBoxOf_m (p0 : Drawing_) : Option Bool :=
  ((l_szDrawing_m p0 1048576).bind fun v1 =>
  (if v1 < 0 then
  some true
  else
  ((l_toDrawing_m p0).bind fun v2 =>
  ((s_BoxOf_m v2).bind fun v3 =>
  ((l_toDrawing_m p0).bind fun v4 =>
  ((i_BoxOf_m v4).bind fun v5 =>
  ((((l_eqSpot_m v5.1 v3.1).bind fun v6 =>
  (if (!v6) = true then
  some true
  else
  ((l_eqSpot_m v5.2.1 v3.2.1).bind fun v7 =>
  (if (!v7) = true then
  some true
  else
  some (decide (v5.2.2 ≠ v3.2.2)))))) : Option Bool).bind fun v8 =>
  (if v8 = true then
  some false
  else
  ((l_toDrawing_m p0).bind fun v9 =>
  ((l_eqDrawing_m v4 v9).bind fun v10 =>
  (if (!v10) = true then
  some false
  else
  some true)))))))))))

def l_toAngle_m (p0 : Angle_) : Option Angle_ :=
  some p0

def l_toProfile_m (p0 : Profile_) : Option Profile_ :=
  ((l_toAngle_m p0.Angle).bind fun v1 =>
  some (⟨p0.Teeth, p0.Module, p0.Addendum, v1⟩ : Profile_))

def s_l10Angle_m (p0 : Angle_) : Option Bool :=
  ((((s_l00In_m p0.Sin 1 1000).bind fun v1 =>
  (if (!v1) = true then
  some true
  else
  ((s_l00In_m p0.Cos 1 1000).bind fun v2 =>
  (if (!v2) = true then
  some true
  else
  ((s_l00In_m p0.Hyp 1 1000).bind fun v3 =>
  some (!v3)))))) : Option Bool).bind fun v4 =>
  (if v4 = true then
  some false
  else
  some (decide ((w64 ((w64 (p0.Sin * p0.Sin)) + (w64 (p0.Cos * p0.Cos)))) = (w64 (p0.Hyp * p0.Hyp))))))

def s_l10Ok_m (p0 : Profile_) : Option Bool :=
  ((s_l00In_m p0.Teeth 6 240).bind fun v1 =>
  (if v1 = true then
  ((s_l00In_m p0.Module 1 500).bind fun v2 =>
  (if v2 = true then
  ((s_l00In_m p0.Addendum 1 20).bind fun v3 =>
  (if v3 = true then
  ((s_l10Angle_m p0.Angle).bind fun v4 =>
  some v4)
  else
  some false))
  else
  some false))
  else
  some false))

def s_l10Pitch_m (p0 : Profile_) : Option Int :=
  some (w64 ((w64 (10 * p0.Teeth)) * p0.Module))

def s_l10Outside_m (p0 : Profile_) : Option Int :=
  ((s_l10Pitch_m p0).bind fun v1 =>
  some (w64 (v1 + (w64 ((w64 (2 * p0.Addendum)) * p0.Module)))))

def s_Diameters_m (p0 : Profile_) : Option (Int × Int × Int × Int) :=
  ((s_l10Ok_m p0).bind fun v1 =>
  (if (!v1) = true then
  some (0, 0, 0, 1)
  else
  ((s_l10Pitch_m p0).bind fun v2 =>
  ((s_l10Outside_m p0).bind fun v3 =>
  ((s_l10Pitch_m p0).bind fun v4 =>
  some (v2, v3, w64 (v4 - (w64 ((w64 (2 * (w64 (p0.Addendum + 2)))) * p0.Module))), 0))))))

def s_GearDrawing_m (p0 : Profile_) : Option (Drawing_ × Int) :=
  ((s_l10Ok_m p0).bind fun v1 =>
  (if (!v1) = true then
  some ((⟨([] : List Shape_)⟩ : Drawing_), 1)
  else
  ((s_Diameters_m p0).bind fun v2 =>
  ((((s_l00In_m (w64 (v2.2.2.1.tdiv 20)) 1 100000).bind fun v5 =>
  (if (!v5) = true then
  some true
  else
  ((s_l00In_m (w64 (v2.2.1.tdiv 20)) 1 100000).bind fun v6 =>
  some (!v6)))) : Option Bool).bind fun v7 =>
  (if v7 = true then
  some ((⟨([] : List Shape_)⟩ : Drawing_), 2)
  else
  ((loopM (S := Int × List Shape_) (X := List Shape_) (fun s17 =>
  (if s17.1 < (w64 (4 * p0.Teeth)) then
  (((if (s17.1.tmod 4) < 2 then
  some (w64 (v2.2.1.tdiv 20))
  else
  some (w64 (v2.2.2.1.tdiv 20))) : Option Int).bind fun v19 =>
  (((if ((w64 (s17.1 + 1)).tmod 4) < 2 then
  some (w64 (v2.2.1.tdiv 20))
  else
  some (w64 (v2.2.2.1.tdiv 20))) : Option Int).bind fun v21 =>
  (chk ((w64 (4 * p0.Teeth)) ≠ 0) (
  ((s_l25Round_m v19 s17.1 (w64 (4 * p0.Teeth))).bind fun v23 =>
  ((s_l25Round_m v21 ((w64 (s17.1 + 1)).tmod (w64 (4 * p0.Teeth))) (w64 (4 * p0.Teeth))).bind fun v24 =>
  (chk ((s17.2.length + [(⟨1, v23, v24, 0, (⟨#[]⟩ : ByteArray)⟩ : Shape_)].length) * 7 * 64 ≤ 140737488355328) (
  some (.inl (w64 (s17.1 + 1), s17.2 ++ [(⟨1, v23, v24, 0, (⟨#[]⟩ : ByteArray)⟩ : Shape_)]))))))))))
  else
  some (.inr s17.2))) (0, ([] : List Shape_)) : Option (List Shape_)).bind fun v26 =>
  some ((⟨v26⟩ : Drawing_), 0)))))))

def i_toothed_m (p0 : Int) : Option Bool :=
  ((i_within_m p0 6 240).bind fun v1 =>
  some v1)

def i_ValidAngle_m (p0 : Angle_) : Option Bool :=
  ((((i_within_m p0.Sin 1 1000).bind fun v1 =>
  (if v1 = true then
  ((i_within_m p0.Cos 1 1000).bind fun v2 =>
  (if v2 = true then
  ((i_within_m p0.Hyp 1 1000).bind fun v3 =>
  some v3)
  else
  some false))
  else
  some false)) : Option Bool).bind fun v4 =>
  (if v4 = true then
  some (decide ((w64 ((w64 (p0.Sin * p0.Sin)) + (w64 (p0.Cos * p0.Cos)))) = (w64 (p0.Hyp * p0.Hyp))))
  else
  some false))

def i_ValidProfile_m (p0 : Profile_) : Option Bool :=
  ((i_toothed_m p0.Teeth).bind fun v1 =>
  (if v1 = true then
  ((i_within_m p0.Module 1 500).bind fun v2 =>
  (if v2 = true then
  ((i_within_m p0.Addendum 1 20).bind fun v3 =>
  (if v3 = true then
  ((i_ValidAngle_m p0.Angle).bind fun v4 =>
  some v4)
  else
  some false))
  else
  some false))
  else
  some false))

def i_pitchOf_m (p0 : Profile_) : Option Int :=
  some (w64 ((w64 (10 * p0.Teeth)) * p0.Module))

def i_outsideOf_m (p0 : Profile_) : Option Int :=
  ((i_pitchOf_m p0).bind fun v1 =>
  some (w64 (v1 + (w64 ((w64 (2 * p0.Addendum)) * p0.Module)))))

def i_Diameters_m (p0 : Profile_) : Option (Int × Int × Int × Int) :=
  ((i_ValidProfile_m p0).bind fun v1 =>
  (if (!v1) = true then
  some (0, 0, 0, 1)
  else
  ((i_pitchOf_m p0).bind fun v2 =>
  ((i_outsideOf_m p0).bind fun v3 =>
  ((i_pitchOf_m p0).bind fun v4 =>
  some (v2, v3, w64 (v4 - (w64 ((w64 (2 * (w64 (p0.Addendum + 2)))) * p0.Module))), 0))))))

def i_GearDrawing_1_m (p0 : Int) (p1 : Int) (p2 : Int) (p3 : Int) : Option Spot_ :=
  (if (p0.tmod 4) < 2 then
  ((i_roundSpot_m p1 p0 p2).bind fun v2 =>
  some v2)
  else
  ((i_roundSpot_m p3 p0 p2).bind fun v3 =>
  some v3))

def i_GearDrawing_m (p0 : Profile_) : Option (Drawing_ × Int) :=
  ((i_Diameters_m p0).bind fun v1 =>
  (if v1.2.2.2 ≠ 0 then
  some ((⟨([] : List Shape_)⟩ : Drawing_), v1.2.2.2)
  else
  ((((i_within_m (w64 (v1.2.2.1.tdiv 20)) 1 100000).bind fun v4 =>
  (if (!v4) = true then
  some true
  else
  ((i_within_m (w64 (v1.2.1.tdiv 20)) 1 100000).bind fun v5 =>
  some (!v5)))) : Option Bool).bind fun v6 =>
  (if v6 = true then
  some ((⟨([] : List Shape_)⟩ : Drawing_), 2)
  else
  ((loopM (S := Int × List Shape_) (X := List Shape_) (fun s13 =>
  (if s13.1 < (w64 (4 * p0.Teeth)) then
  (chk ((w64 (4 * p0.Teeth)) ≠ 0) (
  ((i_GearDrawing_1_m s13.1 (w64 (v1.2.1.tdiv 20)) (w64 (4 * p0.Teeth)) (w64 (v1.2.2.1.tdiv 20))).bind fun v15 =>
  ((i_GearDrawing_1_m ((w64 (s13.1 + 1)).tmod (w64 (4 * p0.Teeth))) (w64 (v1.2.1.tdiv 20)) (w64 (4 * p0.Teeth)) (w64 (v1.2.2.1.tdiv 20))).bind fun v16 =>
  ((i_line_m v15 v16).bind fun v17 =>
  (chk ((s13.2.length + [v17].length) * 7 * 64 ≤ 140737488355328) (
  some (.inl (w64 (s13.1 + 1), s13.2 ++ [v17])))))))))
  else
  some (.inr s13.2))) (0, ([] : List Shape_)) : Option (List Shape_)).bind fun v19 =>
  some ((⟨v19⟩ : Drawing_), 0))))))

def l_FnExactGearDrawing_m (p0 : Profile_) : Option Bool :=
  ((l_toProfile_m p0).bind fun v1 =>
  ((s_GearDrawing_m v1).bind fun v2 =>
  ((l_toProfile_m p0).bind fun v3 =>
  ((i_GearDrawing_m v3).bind fun v4 =>
  ((((l_eqDrawing_m v4.1 v2.1).bind fun v5 =>
  (if (!v5) = true then
  some true
  else
  some (decide (v4.2 ≠ v2.2)))) : Option Bool).bind fun v6 =>
  (if v6 = true then
  some false
  else
  ((l_markDrawing_o_m v4.1 1).bind fun v7 =>
  (chk (v7.2.length = v4.1.Shapes.length) (
  ((l_heldDrawing_m (⟨v7.2⟩ : Drawing_) 1).bind fun v9 =>
  (if v9 < 0 then
  some false
  else
  (if v9 ≠ v7.1 then
  some false
  else
  ((l_toProfile_m p0).bind fun v10 =>
  ((i_GearDrawing_m v10).bind fun v11 =>
  ((((l_eqDrawing_m v11.1 v2.1).bind fun v12 =>
  (if (!v12) = true then
  some true
  else
  some (decide (v11.2 ≠ v2.2)))) : Option Bool).bind fun v13 =>
  (if v13 = true then
  some false
  else
  ((l_heldDrawing_m (⟨v7.2⟩ : Drawing_) 1).bind fun v14 =>
  (if v14 < 0 then
  some false
  else
  (if v14 ≠ v7.1 then
  some false
  else
  some true)))))))))))))))))))

def s_l25Two_m (p0 : Shape_) (p1 : Spot_) (p2 : Spot_) : Option Shape_ :=
  (((if p0.Kind = 1 then
  some (⟨p0.Kind, p1, p2, p0.R, p0.Name⟩ : Shape_)
  else
  some (⟨p0.Kind, p1, (⟨0, 0⟩ : Spot_), p0.R, p0.Name⟩ : Shape_)) : Option Shape_).bind fun v1 =>
  some v1)

def s_TurnDrawing_m (p0 : Drawing_) : Option (Drawing_ × Int) :=
  ((s_l25Ok_m p0).bind fun v1 =>
  (if (!v1) = true then
  some ((⟨([] : List Shape_)⟩ : Drawing_), 1)
  else
  ((loopM (S := Int × List Shape_) (X := List Shape_) (fun s6 =>
  (if s6.1 < (p0.Shapes.length : Int) then
  ((atI p0.Shapes s6.1).bind fun v7 =>
  ((s_l25Two_m v7 (⟨w64 (-v7.A.Y), v7.A.X⟩ : Spot_) (⟨w64 (-v7.B.Y), v7.B.X⟩ : Spot_)).bind fun v8 =>
  (chk ((s6.2.length + [v8].length) * 7 * 64 ≤ 140737488355328) (
  some (.inl (w64 (s6.1 + 1), s6.2 ++ [v8]))))))
  else
  some (.inr s6.2))) (0, ([] : List Shape_)) : Option (List Shape_)).bind fun v10 =>
  some ((⟨v10⟩ : Drawing_), 0))))

def i_TurnDrawing_1_m (p0 : Spot_) : Option Spot_ :=
  some (⟨w64 (-p0.Y), p0.X⟩ : Spot_)

def i_mapped_i_TurnDrawing_1_m (p0 : Drawing_) : Option Drawing_ :=
  ((loopM (S := Int × List Shape_) (X := List Shape_) (fun s7 =>
  (if s7.1 < (p0.Shapes.length : Int) then
  ((atI p0.Shapes s7.1).bind fun v8 =>
  ((i_TurnDrawing_1_m v8.A).bind fun v9 =>
  (((if v8.Kind = 1 then
  ((i_TurnDrawing_1_m v8.B).bind fun v10 =>
  some (⟨v8.Kind, v9, v10, v8.R, v8.Name⟩ : Shape_))
  else
  some (⟨v8.Kind, v9, v8.B, v8.R, v8.Name⟩ : Shape_)) : Option Shape_).bind fun v11 =>
  (chk ((s7.2.length + [v11].length) * 7 * 64 ≤ 140737488355328) (
  some (.inl (w64 (s7.1 + 1), s7.2 ++ [v11])))))))
  else
  some (.inr s7.2))) (0, ([] : List Shape_)) : Option (List Shape_)).bind fun v13 =>
  some (⟨v13⟩ : Drawing_))

def i_TurnDrawing_m (p0 : Drawing_) : Option (Drawing_ × Int) :=
  ((i_ValidDrawing_m p0).bind fun v1 =>
  (if (!v1) = true then
  some ((⟨([] : List Shape_)⟩ : Drawing_), 1)
  else
  ((i_mapped_i_TurnDrawing_1_m p0).bind fun v2 =>
  some (v2, 0))))

def l_FnExactTurnDrawing_m (p0 : Drawing_) : Option Bool :=
  ((l_szDrawing_m p0 1048576).bind fun v1 =>
  (if v1 < 0 then
  some true
  else
  ((l_toDrawing_m p0).bind fun v2 =>
  ((s_TurnDrawing_m v2).bind fun v3 =>
  ((l_toDrawing_m p0).bind fun v4 =>
  ((i_TurnDrawing_m v4).bind fun v5 =>
  ((((l_eqDrawing_m v5.1 v3.1).bind fun v6 =>
  (if (!v6) = true then
  some true
  else
  some (decide (v5.2 ≠ v3.2)))) : Option Bool).bind fun v7 =>
  (if v7 = true then
  some false
  else
  ((l_toDrawing_m p0).bind fun v8 =>
  ((l_eqDrawing_m v4 v8).bind fun v9 =>
  (if (!v9) = true then
  some false
  else
  ((l_markDrawing_o_m v4 1).bind fun v10 =>
  (chk (v10.2.length = v4.Shapes.length) (
  (((if v10.1 < 0 then
  some true
  else
  ((l_eqDrawing_m v5.1 v3.1).bind fun v12 =>
  (if (!v12) = true then
  some true
  else
  some (decide (v5.2 ≠ v3.2))))) : Option Bool).bind fun v13 =>
  (if v13 = true then
  some false
  else
  ((l_markDrawing_o_m v5.1 1).bind fun v14 =>
  (chk (v14.2.length = v5.1.Shapes.length) (
  ((l_heldDrawing_m (⟨v14.2⟩ : Drawing_) 1).bind fun v16 =>
  (if v16 < 0 then
  some false
  else
  (if v16 ≠ v14.1 then
  some false
  else
  ((l_toDrawing_m p0).bind fun v17 =>
  ((i_TurnDrawing_m v17).bind fun v18 =>
  ((((l_eqDrawing_m v18.1 v3.1).bind fun v19 =>
  (if (!v19) = true then
  some true
  else
  some (decide (v18.2 ≠ v3.2)))) : Option Bool).bind fun v20 =>
  (if v20 = true then
  some false
  else
  ((l_heldDrawing_m (⟨v14.2⟩ : Drawing_) 1).bind fun v21 =>
  (if v21 < 0 then
  some false
  else
  (if v21 ≠ v14.1 then
  some false
  else
  some true)))))))))))))))))))))))))))))

def s_JoinDrawings_m (p0 : Drawing_) (p1 : Drawing_) : Option (Drawing_ × Int) :=
  ((((s_l25Ok_m p0).bind fun v1 =>
  (if (!v1) = true then
  some true
  else
  ((s_l25Ok_m p1).bind fun v2 =>
  some (!v2)))) : Option Bool).bind fun v3 =>
  (if v3 = true then
  some ((⟨([] : List Shape_)⟩ : Drawing_), 1)
  else
  (if 1200 < (w64 ((p0.Shapes.length : Int) + (p1.Shapes.length : Int))) then
  some ((⟨([] : List Shape_)⟩ : Drawing_), 5)
  else
  (chk ((([] : List Shape_).length + p0.Shapes.length) * 7 * 64 ≤ 140737488355328) (
  (chk (((([] : List Shape_) ++ p0.Shapes).length + p1.Shapes.length) * 7 * 64 ≤ 140737488355328) (
  some ((⟨(([] : List Shape_) ++ p0.Shapes) ++ p1.Shapes⟩ : Drawing_), 0))))))))

def slices_Grow_LShape_Shape_n_m (p1 : Int) : Option (List Shape_) :=
  (((if p1 < 0 then
  none
  else
  some ()) : Option Unit).bind fun v1 =>
  (((if 0 < (w64 (p1 - (w64 ((0 : Int) - ((0 : Nat) : Int))))) then
  (chk (0 < (w64 (p1 - (w64 ((0 : Int) - ((0 : Nat) : Int))))) ∧ (w64 (p1 - (w64 ((0 : Int) - ((0 : Nat) : Int))))).toNat * 7 * 64 ≤ 140737488355328) (
  (chk (0 ≤ ((0 : Nat) : Int) ∧ ((0 : Nat) : Int) ≤ ((List.replicate (w64 (p1 - (w64 ((0 : Int) - ((0 : Nat) : Int))))).toNat (⟨0, (⟨0, 0⟩ : Spot_), (⟨0, 0⟩ : Spot_), 0, (⟨#[]⟩ : ByteArray)⟩ : Shape_)).length : Int)) (
  some (List.take (((0 : Nat) : Int)).toNat (List.replicate (w64 (p1 - (w64 ((0 : Int) - ((0 : Nat) : Int))))).toNat (⟨0, (⟨0, 0⟩ : Spot_), (⟨0, 0⟩ : Spot_), 0, (⟨#[]⟩ : ByteArray)⟩ : Shape_)))))))
  else
  some ([] : List Shape_)) : Option (List Shape_)).bind fun v4 =>
  some v4))

def slices_Concat_LShape_Shape_m (p0 : List (List Shape_)) : Option (List Shape_) :=
  ((loopM (S := Int × Int) (X := Int) (fun s4 =>
  (if s4.2 < (p0.length : Int) then
  ((((atI p0 s4.2).bind fun v5 =>
  (if (w64 (s4.1 + (v5.length : Int))) < 0 then
  none
  else
  some (w64 (s4.1 + (v5.length : Int))))) : Option Int).bind fun v6 =>
  some (.inl (v6, w64 (s4.2 + 1))))
  else
  some (.inr s4.1))) (0, 0) : Option Int).bind fun v7 =>
  ((slices_Grow_LShape_Shape_n_m v7).bind fun v8 =>
  ((loopM (S := Int × List Shape_) (X := List Shape_) (fun s12 =>
  (if s12.1 < (p0.length : Int) then
  ((atI p0 s12.1).bind fun v13 =>
  (chk ((s12.2.length + v13.length) * 7 * 64 ≤ 140737488355328) (
  some (.inl (w64 (s12.1 + 1), s12.2 ++ v13)))))
  else
  some (.inr s12.2))) (0, v8) : Option (List Shape_)).bind fun v15 =>
  some v15)))

def i_JoinDrawings_m (p0 : Drawing_) (p1 : Drawing_) : Option (Drawing_ × Int) :=
  ((((i_ValidDrawing_m p0).bind fun v1 =>
  (if (!v1) = true then
  some true
  else
  ((i_ValidDrawing_m p1).bind fun v2 =>
  some (!v2)))) : Option Bool).bind fun v3 =>
  (if v3 = true then
  some ((⟨([] : List Shape_)⟩ : Drawing_), 1)
  else
  (if 1200 < (w64 ((p0.Shapes.length : Int) + (p1.Shapes.length : Int))) then
  some ((⟨([] : List Shape_)⟩ : Drawing_), 5)
  else
  ((slices_Concat_LShape_Shape_m [p0.Shapes, p1.Shapes]).bind fun v4 =>
  some ((⟨v4⟩ : Drawing_), 0)))))

def l_FnExactJoinDrawings_m (p0 : Drawing_) (p1 : Drawing_) : Option Bool :=
  ((l_szDrawing_m p0 1048576).bind fun v1 =>
  (if v1 < 0 then
  some true
  else
  ((l_szDrawing_m p1 v1).bind fun v2 =>
  (if v2 < 0 then
  some true
  else
  ((l_toDrawing_m p0).bind fun v3 =>
  ((l_toDrawing_m p1).bind fun v4 =>
  ((s_JoinDrawings_m v3 v4).bind fun v5 =>
  ((l_toDrawing_m p0).bind fun v6 =>
  ((l_toDrawing_m p1).bind fun v7 =>
  ((i_JoinDrawings_m v6 v7).bind fun v8 =>
  ((((l_eqDrawing_m v8.1 v5.1).bind fun v9 =>
  (if (!v9) = true then
  some true
  else
  some (decide (v8.2 ≠ v5.2)))) : Option Bool).bind fun v10 =>
  (if v10 = true then
  some false
  else
  ((l_toDrawing_m p0).bind fun v11 =>
  ((l_eqDrawing_m v6 v11).bind fun v12 =>
  (if (!v12) = true then
  some false
  else
  ((l_toDrawing_m p1).bind fun v13 =>
  ((l_eqDrawing_m v7 v13).bind fun v14 =>
  (if (!v14) = true then
  some false
  else
  ((l_markDrawing_o_m v6 1).bind fun v15 =>
  (chk (v15.2.length = v6.Shapes.length) (
  ((l_markDrawing_o_m v7 v15.1).bind fun v17 =>
  (chk (v17.2.length = v7.Shapes.length) (
  (((if v17.1 < 0 then
  some true
  else
  ((l_eqDrawing_m v8.1 v5.1).bind fun v19 =>
  (if (!v19) = true then
  some true
  else
  some (decide (v8.2 ≠ v5.2))))) : Option Bool).bind fun v20 =>
  (if v20 = true then
  some false
  else
  ((l_markDrawing_o_m v8.1 1).bind fun v21 =>
  (chk (v21.2.length = v8.1.Shapes.length) (
  ((l_heldDrawing_m (⟨v21.2⟩ : Drawing_) 1).bind fun v23 =>
  (if v23 < 0 then
  some false
  else
  (if v23 ≠ v21.1 then
  some false
  else
  ((l_toDrawing_m p0).bind fun v24 =>
  ((l_toDrawing_m p1).bind fun v25 =>
  ((i_JoinDrawings_m v24 v25).bind fun v26 =>
  ((((l_eqDrawing_m v26.1 v5.1).bind fun v27 =>
  (if (!v27) = true then
  some true
  else
  some (decide (v26.2 ≠ v5.2)))) : Option Bool).bind fun v28 =>
  (if v28 = true then
  some false
  else
  ((l_heldDrawing_m (⟨v21.2⟩ : Drawing_) 1).bind fun v29 =>
  (if v29 < 0 then
  some false
  else
  (if v29 ≠ v21.1 then
  some false
  else
  some true))))))))))))))))))))))))))))))))))))))))

def s_MoveDrawing_m (p0 : Drawing_) (p1 : Spot_) : Option (Drawing_ × Int) :=
  ((s_l25Ok_m p0).bind fun v1 =>
  (if (!v1) = true then
  some ((⟨([] : List Shape_)⟩ : Drawing_), 1)
  else
  ((s_l25Spot_m p1).bind fun v2 =>
  (if (!v2) = true then
  some ((⟨([] : List Shape_)⟩ : Drawing_), 2)
  else
  ((loopM (S := Int × List Shape_) (X := List Shape_) (fun s7 =>
  (if s7.1 < (p0.Shapes.length : Int) then
  ((atI p0.Shapes s7.1).bind fun v8 =>
  ((s_l25Two_m v8 (⟨w64 (v8.A.X + p1.X), w64 (v8.A.Y + p1.Y)⟩ : Spot_) (⟨w64 (v8.B.X + p1.X), w64 (v8.B.Y + p1.Y)⟩ : Spot_)).bind fun v9 =>
  (chk ((s7.2.length + [v9].length) * 7 * 64 ≤ 140737488355328) (
  some (.inl (w64 (s7.1 + 1), s7.2 ++ [v9]))))))
  else
  some (.inr s7.2))) (0, ([] : List Shape_)) : Option (List Shape_)).bind fun v11 =>
  ((s_l25Ok_m (⟨v11⟩ : Drawing_)).bind fun v12 =>
  (if (!v12) = true then
  some ((⟨([] : List Shape_)⟩ : Drawing_), 10)
  else
  some ((⟨v11⟩ : Drawing_), 0))))))))

def i_MoveDrawing_1_m (p0 : Spot_) (p1 : Spot_) : Option Spot_ :=
  some (⟨w64 (p0.X + p1.X), w64 (p0.Y + p1.Y)⟩ : Spot_)

def i_mapped_i_MoveDrawing_1_m (p0 : Drawing_) (p1_0 : Spot_) : Option Drawing_ :=
  ((loopM (S := Int × List Shape_) (X := List Shape_) (fun s7 =>
  (if s7.1 < (p0.Shapes.length : Int) then
  ((atI p0.Shapes s7.1).bind fun v8 =>
  ((i_MoveDrawing_1_m v8.A p1_0).bind fun v9 =>
  (((if v8.Kind = 1 then
  ((i_MoveDrawing_1_m v8.B p1_0).bind fun v10 =>
  some (⟨v8.Kind, v9, v10, v8.R, v8.Name⟩ : Shape_))
  else
  some (⟨v8.Kind, v9, v8.B, v8.R, v8.Name⟩ : Shape_)) : Option Shape_).bind fun v11 =>
  (chk ((s7.2.length + [v11].length) * 7 * 64 ≤ 140737488355328) (
  some (.inl (w64 (s7.1 + 1), s7.2 ++ [v11])))))))
  else
  some (.inr s7.2))) (0, ([] : List Shape_)) : Option (List Shape_)).bind fun v13 =>
  some (⟨v13⟩ : Drawing_))

def i_MoveDrawing_m (p0 : Drawing_) (p1 : Spot_) : Option (Drawing_ × Int) :=
  ((i_ValidDrawing_m p0).bind fun v1 =>
  (if (!v1) = true then
  some ((⟨([] : List Shape_)⟩ : Drawing_), 1)
  else
  ((i_validSpot_m p1).bind fun v2 =>
  (if (!v2) = true then
  some ((⟨([] : List Shape_)⟩ : Drawing_), 2)
  else
  ((i_mapped_i_MoveDrawing_1_m p0 p1).bind fun v3 =>
  ((i_ValidDrawing_m v3).bind fun v4 =>
  (if (!v4) = true then
  some ((⟨([] : List Shape_)⟩ : Drawing_), 10)
  else
  some (v3, 0))))))))

def l_FnExactMoveDrawing_m (p0 : Drawing_) (p1 : Spot_) : Option Bool :=
  ((l_szDrawing_m p0 1048576).bind fun v1 =>
  (if v1 < 0 then
  some true
  else
  ((l_toDrawing_m p0).bind fun v2 =>
  ((l_toSpot_m p1).bind fun v3 =>
  ((s_MoveDrawing_m v2 v3).bind fun v4 =>
  ((l_toDrawing_m p0).bind fun v5 =>
  ((l_toSpot_m p1).bind fun v6 =>
  ((i_MoveDrawing_m v5 v6).bind fun v7 =>
  ((((l_eqDrawing_m v7.1 v4.1).bind fun v8 =>
  (if (!v8) = true then
  some true
  else
  some (decide (v7.2 ≠ v4.2)))) : Option Bool).bind fun v9 =>
  (if v9 = true then
  some false
  else
  ((l_toDrawing_m p0).bind fun v10 =>
  ((l_eqDrawing_m v5 v10).bind fun v11 =>
  (if (!v11) = true then
  some false
  else
  ((l_markDrawing_o_m v5 1).bind fun v12 =>
  (chk (v12.2.length = v5.Shapes.length) (
  (((if v12.1 < 0 then
  some true
  else
  ((l_eqDrawing_m v7.1 v4.1).bind fun v14 =>
  (if (!v14) = true then
  some true
  else
  some (decide (v7.2 ≠ v4.2))))) : Option Bool).bind fun v15 =>
  (if v15 = true then
  some false
  else
  ((l_markDrawing_o_m v7.1 1).bind fun v16 =>
  (chk (v16.2.length = v7.1.Shapes.length) (
  ((l_heldDrawing_m (⟨v16.2⟩ : Drawing_) 1).bind fun v18 =>
  (if v18 < 0 then
  some false
  else
  (if v18 ≠ v16.1 then
  some false
  else
  ((l_toDrawing_m p0).bind fun v19 =>
  ((l_toSpot_m p1).bind fun v20 =>
  ((i_MoveDrawing_m v19 v20).bind fun v21 =>
  ((((l_eqDrawing_m v21.1 v4.1).bind fun v22 =>
  (if (!v22) = true then
  some true
  else
  some (decide (v21.2 ≠ v4.2)))) : Option Bool).bind fun v23 =>
  (if v23 = true then
  some false
  else
  ((l_heldDrawing_m (⟨v16.2⟩ : Drawing_) 1).bind fun v24 =>
  (if v24 < 0 then
  some false
  else
  (if v24 ≠ v16.1 then
  some false
  else
  some true))))))))))))))))))))))))))))))))

def l_f6big_m (p0 : List Int) : Option Bool :=
  some (decide (4096 < (p0.length : Int)))

def s_l00From_m (p0 : List Int) : Option L00Src_ :=
  some (⟨p0, 0, 0⟩ : L00Src_)

def l00Src_next_b_m (p0 : L00Src_) : Option (Int × L00Src_) :=
  (((if p0.at_ < (p0.code.length : Int) then
  ((atI p0.code p0.at_).bind fun v1 =>
  some (w64 v1))
  else
  some 0) : Option Int).bind fun v2 =>
  (if (w64 (p0.at_ + 1)) ≤ (p0.code.length : Int) then
  some (v2, (⟨p0.code, w64 (p0.at_ + 1), IntKind.u64.wrap ((IntKind.u64.wrap ((IntKind.u64.wrap (p0.seed * 6364136223846793005)) + (IntKind.u64.wrap v2))) + 1442695040888963407)⟩ : L00Src_))
  else
  some (w64 (andK .u64 (shrK .u64 (IntKind.u64.wrap ((IntKind.u64.wrap ((IntKind.u64.wrap (p0.seed * 6364136223846793005)) + (IntKind.u64.wrap v2))) + 1442695040888963407)) 40) 255), (⟨p0.code, w64 (p0.at_ + 1), IntKind.u64.wrap ((IntKind.u64.wrap ((IntKind.u64.wrap (p0.seed * 6364136223846793005)) + (IntKind.u64.wrap v2))) + 1442695040888963407)⟩ : L00Src_))))

def l00Src_pick_b_m (p0 : L00Src_) (p1 : Int) : Option (Int × L00Src_) :=
  (if p1 ≤ 1 then
  some (0, p0)
  else
  ((l00Src_next_b_m p0).bind fun v1 =>
  (((if 200 < p1 then
  ((l00Src_next_b_m v1.2).bind fun v2 =>
  some (w64 ((w64 (v1.1 * 256)) + v2.1), v2.2))
  else
  some (v1.1, v1.2)) : Option (Int × L00Src_)).bind fun v3 =>
  (chk (p1 ≠ 0) (
  some (v3.1.tmod p1, v3.2))))))

def l00Src_one_b_m (p0 : L00Src_) (p1 : Int) : Option (Bool × L00Src_) :=
  ((l00Src_pick_b_m p0 p1).bind fun v1 =>
  some (decide (v1.1 = 0), v1.2))

def l00Src_among_b_m (p0 : L00Src_) (p1 : List Int) : Option (Int × L00Src_) :=
  ((l00Src_pick_b_m p0 (p1.length : Int)).bind fun v1 =>
  ((atI p1 v1.1).bind fun v2 =>
  some (v2, v1.2)))

def s_l25DrawSpot_b_m (p0 : L00Src_) : Option (Spot_ × L00Src_) :=
  ((l00Src_pick_b_m p0 2000).bind fun v1 =>
  ((l00Src_pick_b_m v1.2 2000).bind fun v2 =>
  ((((l00Src_one_b_m v2.2 20).bind fun v3 =>
  (if v3.1 = true then
  ((l00Src_among_b_m v3.2 [-100000, 100000]).bind fun v4 =>
  some (v4.1, v4.2))
  else
  some (w64 (v1.1 - 1000), v3.2))) : Option (Int × L00Src_)).bind fun v5 =>
  some ((⟨v5.1, w64 (v2.1 - 1000)⟩ : Spot_), v5.2))))

def l00Src_text_b_m (p0 : L00Src_) (p1 : List ByteArray) : Option (ByteArray × L00Src_) :=
  ((l00Src_pick_b_m p0 (p1.length : Int)).bind fun v1 =>
  ((atI p1 v1.1).bind fun v2 =>
  some (v2, v1.2)))

def s_l25Draw_b_m (p0 : L00Src_) : Option (Drawing_ × L00Src_) :=
  ((((l00Src_pick_b_m p0 7).bind fun v1 =>
  loopM (S := Int × L00Src_ × List Shape_) (X := L00Src_ × List Shape_) (fun s12 =>
  (if 0 < s12.1 then
  ((((s_l25DrawSpot_b_m s12.2.1).bind fun v13 =>
  ((l00Src_pick_b_m v13.2 3).bind fun v14 =>
  (if v14.1 = 0 then
  ((s_l25DrawSpot_b_m v14.2).bind fun v15 =>
  (chk ((s12.2.2.length + [(⟨1, v13.1, v15.1, 0, (⟨#[]⟩ : ByteArray)⟩ : Shape_)].length) * 7 * 64 ≤ 140737488355328) (
  some (v15.2, s12.2.2 ++ [(⟨1, v13.1, v15.1, 0, (⟨#[]⟩ : ByteArray)⟩ : Shape_)]))))
  else
  (if v14.1 = 1 then
  ((l00Src_pick_b_m v14.2 500).bind fun v17 =>
  (chk ((s12.2.2.length + [(⟨2, v13.1, (⟨0, 0⟩ : Spot_), w64 (1 + v17.1), (⟨#[]⟩ : ByteArray)⟩ : Shape_)].length) * 7 * 64 ≤ 140737488355328) (
  some (v17.2, s12.2.2 ++ [(⟨2, v13.1, (⟨0, 0⟩ : Spot_), w64 (1 + v17.1), (⟨#[]⟩ : ByteArray)⟩ : Shape_)]))))
  else
  ((l00Src_text_b_m v14.2 [(⟨#[97]⟩ : ByteArray), (⟨#[103, 114, 101, 97, 116, 45, 119, 104, 101, 101, 108]⟩ : ByteArray), (⟨#[120, 49]⟩ : ByteArray)]).bind fun v19 =>
  (chk ((s12.2.2.length + [(⟨3, v13.1, (⟨0, 0⟩ : Spot_), 0, v19.1⟩ : Shape_)].length) * 7 * 64 ≤ 140737488355328) (
  some (v19.2, s12.2.2 ++ [(⟨3, v13.1, (⟨0, 0⟩ : Spot_), 0, v19.1⟩ : Shape_)])))))))) : Option (L00Src_ × List Shape_)).bind fun v21 =>
  some (.inl (w64 (s12.1 - 1), v21.1, v21.2)))
  else
  some (.inr (s12.2.1, s12.2.2)))) (v1.1, v1.2, ([] : List Shape_))) : Option (L00Src_ × List Shape_)).bind fun v22 =>
  some ((⟨v22.2⟩ : Drawing_), v22.1))

def s_l25Bent_b_m (p0 : L00Src_) : Option (Drawing_ × L00Src_) :=
  ((s_l25Draw_b_m p0).bind fun v1 =>
  ((l00Src_pick_b_m v1.2 (v1.1.Shapes.length : Int)).bind fun v2 =>
  ((l00Src_pick_b_m v2.2 24).bind fun v3 =>
  (((if v3.1 = 0 then
  ((loopM (S := List Shape_) (X := List Shape_) (fun s6 =>
  (if (s6.length : Int) < 1200 then
  (chk ((s6.length + [(⟨2, (⟨0, 0⟩ : Spot_), (⟨0, 0⟩ : Spot_), 5, (⟨#[]⟩ : ByteArray)⟩ : Shape_)].length) * 7 * 64 ≤ 140737488355328) (
  some (.inl (s6 ++ [(⟨2, (⟨0, 0⟩ : Spot_), (⟨0, 0⟩ : Spot_), 5, (⟨#[]⟩ : ByteArray)⟩ : Shape_)]))))
  else
  some (.inr s6))) v1.1.Shapes : Option (List Shape_)).bind fun v8 =>
  ((((l00Src_one_b_m v3.2 2).bind fun v9 =>
  (if v9.1 = true then
  (chk ((v8.length + [(⟨2, (⟨0, 0⟩ : Spot_), (⟨0, 0⟩ : Spot_), 5, (⟨#[]⟩ : ByteArray)⟩ : Shape_)].length) * 7 * 64 ≤ 140737488355328) (
  some (v9.2, v8 ++ [(⟨2, (⟨0, 0⟩ : Spot_), (⟨0, 0⟩ : Spot_), 5, (⟨#[]⟩ : ByteArray)⟩ : Shape_)])))
  else
  some (v9.2, v8))) : Option (L00Src_ × List Shape_)).bind fun v11 =>
  some (.inr ((⟨v11.2⟩ : Drawing_), v11.1))))
  else
  some (.inl ())) : Option (Unit ⊕ (Drawing_ × L00Src_))).bind fun v12x => orE v12x fun v12 =>
  (if (v1.1.Shapes.length : Int) = 0 then
  some (v1.1, v3.2)
  else
  (((if v3.1 = 1 then
  ((l00Src_among_b_m v3.2 [0, 4, 1, 2, 3]).bind fun v13 =>
  ((atI v1.1.Shapes v2.1).bind fun v14 =>
  some (v13.2, List.set v1.1.Shapes (v2.1).toNat (⟨v13.1, v14.A, v14.B, v14.R, v14.Name⟩ : Shape_))))
  else
  (if v3.1 = 2 then
  ((l00Src_among_b_m v3.2 [-100001, 100001]).bind fun v15 =>
  ((atI v1.1.Shapes v2.1).bind fun v16 =>
  some (v15.2, List.set v1.1.Shapes (v2.1).toNat (⟨v16.Kind, (⟨v15.1, v16.A.Y⟩ : Spot_), v16.B, v16.R, v16.Name⟩ : Shape_))))
  else
  (if v3.1 = 3 then
  ((l00Src_among_b_m v3.2 [-1, 0, 100000, 100001]).bind fun v17 =>
  ((atI v1.1.Shapes v2.1).bind fun v18 =>
  some (v17.2, List.set v1.1.Shapes (v2.1).toNat (⟨v18.Kind, v18.A, v18.B, v17.1, v18.Name⟩ : Shape_))))
  else
  (if v3.1 = 4 then
  ((l00Src_text_b_m v3.2 [(⟨#[]⟩ : ByteArray), (⟨#[85, 112]⟩ : ByteArray), (⟨#[97, 98, 99, 100, 101, 102, 103, 104, 105, 106, 107, 108, 109]⟩ : ByteArray), (⟨#[97]⟩ : ByteArray)]).bind fun v19 =>
  ((atI v1.1.Shapes v2.1).bind fun v20 =>
  some (v19.2, List.set v1.1.Shapes (v2.1).toNat (⟨v20.Kind, v20.A, v20.B, v20.R, v19.1⟩ : Shape_))))
  else
  (if v3.1 = 5 then
  ((atI v1.1.Shapes v2.1).bind fun v21 =>
  ((atI v1.1.Shapes v2.1).bind fun v22 =>
  some (v3.2, List.set v1.1.Shapes (v2.1).toNat (⟨v22.Kind, v22.A, (⟨v22.B.X, w64 (v21.B.Y + 1)⟩ : Spot_), v22.R, v22.Name⟩ : Shape_))))
  else
  some (v3.2, v1.1.Shapes)))))) : Option (L00Src_ × List Shape_)).bind fun v23 =>
  some ((⟨v23.2⟩ : Drawing_), v23.1)))))))

def s_DrawMoveDrawing_m (p0 : List Int) : Option (Drawing_ × Spot_) :=
  ((s_l00From_m p0).bind fun v1 =>
  ((s_l25Bent_b_m v1).bind fun v2 =>
  ((s_l25DrawSpot_b_m v2.2).bind fun v3 =>
  ((((l00Src_one_b_m v3.2 16).bind fun v4 =>
  (if v4.1 = true then
  ((l00Src_among_b_m v4.2 [-100001, 100000, 100001]).bind fun v5 =>
  some (⟨v5.1, v3.1.Y⟩ : Spot_))
  else
  some v3.1)) : Option Spot_).bind fun v6 =>
  some (v2.1, v6)))))

def l_FnMovedDrawings_m (p0 : List Int) : Option Bool :=
  ((l_f6big_m p0).bind fun v1 =>
  (if v1 = true then
  some true
  else
  ((s_DrawMoveDrawing_m p0).bind fun v2 =>
  ((i_MoveDrawing_m v2.1 v2.2).bind fun v3 =>
  ((s_MoveDrawing_m v2.1 v2.2).bind fun v4 =>
  ((i_TurnDrawing_m v2.1).bind fun v5 =>
  ((s_TurnDrawing_m v2.1).bind fun v6 =>
  ((i_BoxOf_m v2.1).bind fun v7 =>
  ((s_BoxOf_m v2.1).bind fun v8 =>
  (((if v3.2 ≠ v4.2 then
  some true
  else
  ((s_SameDrawing_m v3.1 v4.1).bind fun v9 =>
  (if (!v9) = true then
  some true
  else
  (if v5.2 ≠ v6.2 then
  some true
  else
  ((s_SameDrawing_m v5.1 v6.1).bind fun v10 =>
  (if (!v10) = true then
  some true
  else
  (if v7.2.2 ≠ v8.2.2 then
  some true
  else
  (if v7.1 ≠ v8.1 then
  some true
  else
  some (decide (v7.2.1 ≠ v8.2.1)))))))))) : Option Bool).bind fun v11 =>
  (if v11 = true then
  some false
  else
  (((if v5.2 = 0 then
  ((i_TurnDrawing_m v5.1).bind fun v12 =>
  ((i_TurnDrawing_m v12.1).bind fun v13 =>
  ((i_TurnDrawing_m v13.1).bind fun v14 =>
  (((if v12.2 ≠ 0 then
  some true
  else
  (if v13.2 ≠ 0 then
  some true
  else
  (if v14.2 ≠ 0 then
  some true
  else
  ((s_SameDrawing_m v14.1 v2.1).bind fun v15 =>
  some (!v15))))) : Option Bool).bind fun v16 =>
  (if v16 = true then
  some (.inr false)
  else
  some (.inl ()))))))
  else
  some (.inl ())) : Option (Unit ⊕ Bool)).bind fun v17x => orE v17x fun v17 =>
  (if v3.2 ≠ 0 then
  some true
  else
  ((i_MoveDrawing_m v3.1 (⟨w64 (-v2.2.X), w64 (-v2.2.Y)⟩ : Spot_)).bind fun v18 =>
  ((i_BoxOf_m v3.1).bind fun v19 =>
  (((if v18.2 ≠ 0 then
  some true
  else
  ((s_SameDrawing_m v18.1 v2.1).bind fun v20 =>
  (if (!v20) = true then
  some true
  else
  some (decide (v19.2.2 ≠ v7.2.2))))) : Option Bool).bind fun v21 =>
  (if v21 = true then
  some false
  else
  (if v7.2.2 ≠ 0 then
  some true
  else
  (if v19.1 = (⟨w64 (v7.1.X + v2.2.X), w64 (v7.1.Y + v2.2.Y)⟩ : Spot_) then
  some (decide (v19.2.1 = (⟨w64 (v7.2.1.X + v2.2.X), w64 (v7.2.1.Y + v2.2.Y)⟩ : Spot_)))
  else
  some false)))))))))))))))))))

def l_szSite_m (p0 : Site_) (p1 : Int) : Option Int :=
  (if (w64 (p1 - (p0.Name.size : Int))) < 0 then
  some (-1)
  else
  some (w64 (p1 - (p0.Name.size : Int))))

def l_szSiteS_m (p0 : List Site_) (p1 : Int) : Option Int :=
  (if (w64 (p1 - (p0.length : Int))) < 0 then
  some (-1)
  else
  ((loopM (S := Int × Int) (X := Int ⊕ Int) (fun s4 =>
  (if s4.2 < (p0.length : Int) then
  ((atI p0 s4.2).bind fun v5 =>
  ((l_szSite_m v5 s4.1).bind fun v6 =>
  (if v6 < 0 then
  some (.inr (.inr (-1)))
  else
  some (.inl (v6, w64 (s4.2 + 1))))))
  else
  some (.inr (.inl s4.1)))) (w64 (p1 - (p0.length : Int)), 0) : Option (Int ⊕ Int)).bind fun v7x => orE v7x fun v7 =>
  some v7))

def l_szPlate_m (p0 : Plate_) (p1 : Int) : Option Int :=
  ((l_szSiteS_m p0.Sites p1).bind fun v1 =>
  (if v1 < 0 then
  some (-1)
  else
  some v1))

def l_toPoint_m (p0 : Point_) : Option Point_ :=
  some p0

def l_toSite_m (p0 : Site_) : Option Site_ :=
  ((l_toPoint_m p0.At).bind fun v1 =>
  some (⟨p0.Name, v1, p0.Wheel, p0.Staff⟩ : Site_))

def l_toSiteS_m (p0 : List Site_) : Option (List Site_) :=
  (chk (0 ≤ (p0.length : Int) ∧ (p0.length : Int) = (p0.length : Int) ∧ ((p0.length : Int)).toNat * 5 * 64 ≤ 281474976710656) (
  ((loopM (S := Int × List Site_) (X := List Site_) (fun s6 =>
  (if s6.1 < (p0.length : Int) then
  ((atI p0 s6.1).bind fun v7 =>
  ((l_toSite_m v7).bind fun v8 =>
  ((atI s6.2 s6.1).bind fun v9 =>
  some (.inl (w64 (s6.1 + 1), List.set s6.2 (s6.1).toNat v8)))))
  else
  some (.inr s6.2))) (0, List.replicate ((p0.length : Int)).toNat (⟨(⟨#[]⟩ : ByteArray), (⟨0, 0⟩ : Point_), 0, 0⟩ : Site_)) : Option (List Site_)).bind fun v10 =>
  some v10)))

def l_toPlate_m (p0 : Plate_) : Option Plate_ :=
  ((l_toSiteS_m p0.Sites).bind fun v1 =>
  some (⟨p0.Width, p0.Height, p0.Margin, p0.Gap, v1⟩ : Plate_))

def s_l09Plate_m (p0 : Plate_) : Option Bool :=
  ((((s_l00In_m p0.Width 1 10000).bind fun v1 =>
  (if (!v1) = true then
  some true
  else
  ((s_l00In_m p0.Height 1 10000).bind fun v2 =>
  (if (!v2) = true then
  some true
  else
  ((s_l00In_m p0.Margin 0 1000).bind fun v3 =>
  (if (!v3) = true then
  some true
  else
  ((s_l00In_m p0.Gap 0 1000).bind fun v4 =>
  (if (!v4) = true then
  some true
  else
  some (decide (20 < (p0.Sites.length : Int))))))))))) : Option Bool).bind fun v5 =>
  (if v5 = true then
  some false
  else
  ((loopM (S := Int) (X := Unit ⊕ Bool) (fun s19 =>
  (if s19 < (p0.Sites.length : Int) then
  ((((atI p0.Sites s19).bind fun v20 =>
  ((((s_IsName_m v20.Name).bind fun v21 =>
  (if (!v21) = true then
  some true
  else
  ((s_l00In_m v20.At.X 0 p0.Width).bind fun v22 =>
  (if (!v22) = true then
  some true
  else
  ((s_l00In_m v20.At.Y 0 p0.Height).bind fun v23 =>
  (if (!v23) = true then
  some true
  else
  ((s_l00In_m v20.Staff 1 1000).bind fun v24 =>
  (if (!v24) = true then
  some true
  else
  ((s_l00In_m v20.Wheel v20.Staff 10000).bind fun v25 =>
  some (!v25)))))))))) : Option Bool).bind fun v26 =>
  (if v26 = true then
  some (.inr (.inr (.inr false)))
  else
  loopM (S := Int) (X := Unit ⊕ (Int ⊕ (Unit ⊕ Bool))) (fun s29 =>
  (if s29 < s19 then
  ((atI p0.Sites s29).bind fun v30 =>
  (if v30.Name = v20.Name then
  some (.inr (.inr (.inr (.inr false))))
  else
  some (.inl (w64 (s29 + 1)))))
  else
  some (.inr (.inl ())))) 0))) : Option (Unit ⊕ (Int ⊕ (Unit ⊕ Bool)))).bind fun v31x => orE v31x fun v31 =>
  some (.inl (w64 (s19 + 1))))
  else
  some (.inr (.inl ())))) 0 : Option (Unit ⊕ Bool)).bind fun v32x => orE v32x fun v32 =>
  some true)))

def s_PlateDrawing_m (p0 : Plate_) : Option (Drawing_ × Int) :=
  ((s_l09Plate_m p0).bind fun v1 =>
  (if (!v1) = true then
  some ((⟨([] : List Shape_)⟩ : Drawing_), 1)
  else
  ((loopM (S := Int × List Shape_) (X := List Shape_) (fun s7 =>
  (if s7.1 < 4 then
  ((atI [(⟨0, 0⟩ : Spot_), (⟨p0.Width, 0⟩ : Spot_), (⟨p0.Width, p0.Height⟩ : Spot_), (⟨0, p0.Height⟩ : Spot_)] s7.1).bind fun v8 =>
  ((atI [(⟨0, 0⟩ : Spot_), (⟨p0.Width, 0⟩ : Spot_), (⟨p0.Width, p0.Height⟩ : Spot_), (⟨0, p0.Height⟩ : Spot_)] ((w64 (s7.1 + 1)).tmod 4)).bind fun v10 =>
  (chk ((s7.2.length + [(⟨1, v8, v10, 0, (⟨#[]⟩ : ByteArray)⟩ : Shape_)].length) * 7 * 64 ≤ 140737488355328) (
  some (.inl (w64 (s7.1 + 1), s7.2 ++ [(⟨1, v8, v10, 0, (⟨#[]⟩ : ByteArray)⟩ : Shape_)]))))))
  else
  some (.inr s7.2))) (0, ([] : List Shape_)) : Option (List Shape_)).bind fun v12 =>
  ((loopM (S := Int × List Shape_) (X := List Shape_) (fun s16 =>
  (if s16.1 < (p0.Sites.length : Int) then
  ((atI p0.Sites s16.1).bind fun v17 =>
  (chk ((s16.2.length + [(⟨2, (⟨v17.At.X, v17.At.Y⟩ : Spot_), (⟨0, 0⟩ : Spot_), v17.Wheel, (⟨#[]⟩ : ByteArray)⟩ : Shape_), (⟨2, (⟨v17.At.X, v17.At.Y⟩ : Spot_), (⟨0, 0⟩ : Spot_), v17.Staff, (⟨#[]⟩ : ByteArray)⟩ : Shape_), (⟨3, (⟨v17.At.X, v17.At.Y⟩ : Spot_), (⟨0, 0⟩ : Spot_), 0, v17.Name⟩ : Shape_)].length) * 7 * 64 ≤ 140737488355328) (
  some (.inl (w64 (s16.1 + 1), s16.2 ++ [(⟨2, (⟨v17.At.X, v17.At.Y⟩ : Spot_), (⟨0, 0⟩ : Spot_), v17.Wheel, (⟨#[]⟩ : ByteArray)⟩ : Shape_), (⟨2, (⟨v17.At.X, v17.At.Y⟩ : Spot_), (⟨0, 0⟩ : Spot_), v17.Staff, (⟨#[]⟩ : ByteArray)⟩ : Shape_), (⟨3, (⟨v17.At.X, v17.At.Y⟩ : Spot_), (⟨0, 0⟩ : Spot_), 0, v17.Name⟩ : Shape_)])))))
  else
  some (.inr s16.2))) (0, v12) : Option (List Shape_)).bind fun v19 =>
  some ((⟨v19⟩ : Drawing_), 0)))))

def i_validSite_m (p0 : Plate_) (p1 : Site_) : Option Bool :=
  ((i_IsName_m p1.Name).bind fun v1 =>
  (if v1 = true then
  ((i_within_m p1.At.X 0 p0.Width).bind fun v2 =>
  (if v2 = true then
  ((i_within_m p1.At.Y 0 p0.Height).bind fun v3 =>
  (if v3 = true then
  ((i_within_m p1.Staff 1 1000).bind fun v4 =>
  (if v4 = true then
  ((i_within_m p1.Wheel p1.Staff 10000).bind fun v5 =>
  some v5)
  else
  some false))
  else
  some false))
  else
  some false))
  else
  some false))

def i_ValidPlate_1_m (p0 : Site_) (p1 : Site_) : Option Bool :=
  some (decide (p0.Name = p1.Name))

def slices_IndexFunc_LSite_Site_i_ValidPlate_1_m (p0 : List Site_) (p1_0 : Site_) : Option Int :=
  ((loopM (S := Int) (X := Unit ⊕ Int) (fun s4 =>
  (if s4 < (p0.length : Int) then
  ((atI p0 s4).bind fun v5 =>
  ((i_ValidPlate_1_m v5 p1_0).bind fun v6 =>
  (if v6 = true then
  some (.inr (.inr s4))
  else
  some (.inl (w64 (s4 + 1))))))
  else
  some (.inr (.inl ())))) 0 : Option (Unit ⊕ Int)).bind fun v7x => orE v7x fun v7 =>
  some (-1))

def slices_ContainsFunc_LSite_Site_i_ValidPlate_1_m (p0 : List Site_) (p1_0 : Site_) : Option Bool :=
  ((slices_IndexFunc_LSite_Site_i_ValidPlate_1_m p0 p1_0).bind fun v1 =>
  some (decide (0 ≤ v1)))

def i_ValidPlate_m (p0 : Plate_) : Option Bool :=
  ((((i_within_m p0.Width 1 10000).bind fun v1 =>
  (if (!v1) = true then
  some true
  else
  ((i_within_m p0.Height 1 10000).bind fun v2 =>
  (if (!v2) = true then
  some true
  else
  ((i_within_m p0.Margin 0 1000).bind fun v3 =>
  (if (!v3) = true then
  some true
  else
  ((i_within_m p0.Gap 0 1000).bind fun v4 =>
  (if (!v4) = true then
  some true
  else
  some (decide (20 < (p0.Sites.length : Int))))))))))) : Option Bool).bind fun v5 =>
  (if v5 = true then
  some false
  else
  ((loopM (S := Int) (X := Unit ⊕ Bool) (fun s12 =>
  (if s12 < (p0.Sites.length : Int) then
  ((atI p0.Sites s12).bind fun v13 =>
  ((((i_validSite_m p0 v13).bind fun v14 =>
  (if (!v14) = true then
  some true
  else
  (chk (0 ≤ (0 : Int) ∧ (0 : Int) ≤ s12 ∧ s12 ≤ (p0.Sites.length : Int)) (
  ((slices_ContainsFunc_LSite_Site_i_ValidPlate_1_m (subL p0.Sites (0 : Int) s12) v13).bind fun v16 =>
  some v16))))) : Option Bool).bind fun v17 =>
  (if v17 = true then
  some (.inr (.inr false))
  else
  some (.inl (w64 (s12 + 1))))))
  else
  some (.inr (.inl ())))) 0 : Option (Unit ⊕ Bool)).bind fun v18x => orE v18x fun v18 =>
  some true)))

def i_PlateDrawing_m (p0 : Plate_) : Option (Drawing_ × Int) :=
  ((i_ValidPlate_m p0).bind fun v1 =>
  (if (!v1) = true then
  some ((⟨([] : List Shape_)⟩ : Drawing_), 1)
  else
  ((loopM (S := Int × List Shape_) (X := List Shape_) (fun s8 =>
  (if s8.1 < ([(⟨0, 0⟩ : Spot_), (⟨p0.Width, 0⟩ : Spot_), (⟨p0.Width, p0.Height⟩ : Spot_), (⟨0, p0.Height⟩ : Spot_)].length : Int) then
  ((atI [(⟨0, 0⟩ : Spot_), (⟨p0.Width, 0⟩ : Spot_), (⟨p0.Width, p0.Height⟩ : Spot_), (⟨0, p0.Height⟩ : Spot_)] s8.1).bind fun v9 =>
  ((atI [(⟨0, 0⟩ : Spot_), (⟨p0.Width, 0⟩ : Spot_), (⟨p0.Width, p0.Height⟩ : Spot_), (⟨0, p0.Height⟩ : Spot_)] ((w64 (s8.1 + 1)).tmod 4)).bind fun v11 =>
  ((i_line_m v9 v11).bind fun v12 =>
  (chk ((s8.2.length + [v12].length) * 7 * 64 ≤ 140737488355328) (
  some (.inl (w64 (s8.1 + 1), s8.2 ++ [v12])))))))
  else
  some (.inr s8.2))) (0, ([] : List Shape_)) : Option (List Shape_)).bind fun v14 =>
  ((loopM (S := Int × List Shape_) (X := List Shape_) (fun s21 =>
  (if s21.1 < (p0.Sites.length : Int) then
  ((atI p0.Sites s21.1).bind fun v22 =>
  ((i_circle_m (⟨v22.At.X, v22.At.Y⟩ : Spot_) v22.Wheel).bind fun v23 =>
  ((i_circle_m (⟨v22.At.X, v22.At.Y⟩ : Spot_) v22.Staff).bind fun v24 =>
  ((i_label_m (⟨v22.At.X, v22.At.Y⟩ : Spot_) v22.Name).bind fun v25 =>
  (chk ((s21.2.length + [v23, v24, v25].length) * 7 * 64 ≤ 140737488355328) (
  some (.inl (w64 (s21.1 + 1), s21.2 ++ [v23, v24, v25]))))))))
  else
  some (.inr s21.2))) (0, v14) : Option (List Shape_)).bind fun v27 =>
  some ((⟨v27⟩ : Drawing_), 0)))))

def l_eqPoint_m (p0 : Point_) (p1 : Point_) : Option Bool :=
  (if p0.X ≠ p1.X then
  some false
  else
  (if p0.Y ≠ p1.Y then
  some false
  else
  some true))

def l_eqSite_m (p0 : Site_) (p1 : Site_) : Option Bool :=
  (if p0.Name ≠ p1.Name then
  some false
  else
  ((l_eqPoint_m p0.At p1.At).bind fun v1 =>
  (if (!v1) = true then
  some false
  else
  (if p0.Wheel ≠ p1.Wheel then
  some false
  else
  (if p0.Staff ≠ p1.Staff then
  some false
  else
  some true)))))

def l_eqSiteS_m (p0 : List Site_) (p1 : List Site_) : Option Bool :=
  (if (p0.length : Int) ≠ (p1.length : Int) then
  some false
  else
  ((loopM (S := Int) (X := Unit ⊕ Bool) (fun s5 =>
  (if s5 < (p0.length : Int) then
  ((atI p0 s5).bind fun v6 =>
  ((atI p1 s5).bind fun v7 =>
  ((l_eqSite_m v6 v7).bind fun v8 =>
  (if (!v8) = true then
  some (.inr (.inr false))
  else
  some (.inl (w64 (s5 + 1)))))))
  else
  some (.inr (.inl ())))) 0 : Option (Unit ⊕ Bool)).bind fun v9x => orE v9x fun v9 =>
  some true))

def l_eqPlate_m (p0 : Plate_) (p1 : Plate_) : Option Bool :=
  (if p0.Width ≠ p1.Width then
  some false
  else
  (if p0.Height ≠ p1.Height then
  some false
  else
  (if p0.Margin ≠ p1.Margin then
  some false
  else
  (if p0.Gap ≠ p1.Gap then
  some false
  else
  ((l_eqSiteS_m p0.Sites p1.Sites).bind fun v1 =>
  (if (!v1) = true then
  some false
  else
  some true))))))

def l_markSiteS_o_m (p0 : List Site_) (p1 : Int) : Option (Int × List Site_) :=
  ((loopM (S := Int × Int × List Site_) (X := Int × List Site_) (fun s8 =>
  (if s8.2.1 < (s8.2.2.length : Int) then
  ((l_markText_m s8.1).bind fun v9 =>
  ((atI s8.2.2 s8.2.1).bind fun v10 =>
  ((atI (List.set s8.2.2 (s8.2.1).toNat (⟨v9, v10.At, v10.Wheel, v10.Staff⟩ : Site_)) s8.2.1).bind fun v11 =>
  ((atI (List.set (List.set s8.2.2 (s8.2.1).toNat (⟨v9, v10.At, v10.Wheel, v10.Staff⟩ : Site_)) (s8.2.1).toNat (⟨v11.Name, (⟨w64 (s8.1 + 1), v11.At.Y⟩ : Point_), v11.Wheel, v11.Staff⟩ : Site_)) s8.2.1).bind fun v12 =>
  ((atI (List.set (List.set (List.set s8.2.2 (s8.2.1).toNat (⟨v9, v10.At, v10.Wheel, v10.Staff⟩ : Site_)) (s8.2.1).toNat (⟨v11.Name, (⟨w64 (s8.1 + 1), v11.At.Y⟩ : Point_), v11.Wheel, v11.Staff⟩ : Site_)) (s8.2.1).toNat (⟨v12.Name, (⟨v12.At.X, w64 ((w64 (s8.1 + 1)) + 1)⟩ : Point_), v12.Wheel, v12.Staff⟩ : Site_)) s8.2.1).bind fun v13 =>
  ((atI (List.set (List.set (List.set (List.set s8.2.2 (s8.2.1).toNat (⟨v9, v10.At, v10.Wheel, v10.Staff⟩ : Site_)) (s8.2.1).toNat (⟨v11.Name, (⟨w64 (s8.1 + 1), v11.At.Y⟩ : Point_), v11.Wheel, v11.Staff⟩ : Site_)) (s8.2.1).toNat (⟨v12.Name, (⟨v12.At.X, w64 ((w64 (s8.1 + 1)) + 1)⟩ : Point_), v12.Wheel, v12.Staff⟩ : Site_)) (s8.2.1).toNat (⟨v13.Name, v13.At, w64 ((w64 ((w64 (s8.1 + 1)) + 1)) + 1), v13.Staff⟩ : Site_)) s8.2.1).bind fun v14 =>
  some (.inl (w64 ((w64 ((w64 ((w64 ((w64 (s8.1 + 1)) + 1)) + 1)) + 1)) + 1), w64 (s8.2.1 + 1), List.set (List.set (List.set (List.set (List.set s8.2.2 (s8.2.1).toNat (⟨v9, v10.At, v10.Wheel, v10.Staff⟩ : Site_)) (s8.2.1).toNat (⟨v11.Name, (⟨w64 (s8.1 + 1), v11.At.Y⟩ : Point_), v11.Wheel, v11.Staff⟩ : Site_)) (s8.2.1).toNat (⟨v12.Name, (⟨v12.At.X, w64 ((w64 (s8.1 + 1)) + 1)⟩ : Point_), v12.Wheel, v12.Staff⟩ : Site_)) (s8.2.1).toNat (⟨v13.Name, v13.At, w64 ((w64 ((w64 (s8.1 + 1)) + 1)) + 1), v13.Staff⟩ : Site_)) (s8.2.1).toNat (⟨v14.Name, v14.At, v14.Wheel, w64 ((w64 ((w64 ((w64 (s8.1 + 1)) + 1)) + 1)) + 1)⟩ : Site_)))))))))
  else
  some (.inr (s8.1, s8.2.2)))) (p1, 0, p0) : Option (Int × List Site_)).bind fun v15 =>
  some (v15.1, v15.2))

def l_markPlate_o_m (p0 : Plate_) (p1 : Int) : Option (Int × List Site_) :=
  ((l_markSiteS_o_m p0.Sites p1).bind fun v1 =>
  (chk (v1.2.length = p0.Sites.length) (
  some (v1.1, v1.2))))

def l_FnExactPlateDrawing_m (p0 : Plate_) : Option Bool :=
  ((l_szPlate_m p0 1048576).bind fun v1 =>
  (if v1 < 0 then
  some true
  else
  ((l_toPlate_m p0).bind fun v2 =>
  ((s_PlateDrawing_m v2).bind fun v3 =>
  ((l_toPlate_m p0).bind fun v4 =>
  ((i_PlateDrawing_m v4).bind fun v5 =>
  ((((l_eqDrawing_m v5.1 v3.1).bind fun v6 =>
  (if (!v6) = true then
  some true
  else
  some (decide (v5.2 ≠ v3.2)))) : Option Bool).bind fun v7 =>
  (if v7 = true then
  some false
  else
  ((l_toPlate_m p0).bind fun v8 =>
  ((l_eqPlate_m v4 v8).bind fun v9 =>
  (if (!v9) = true then
  some false
  else
  ((l_markPlate_o_m v4 1).bind fun v10 =>
  (chk (v10.2.length = v4.Sites.length) (
  (((if v10.1 < 0 then
  some true
  else
  ((l_eqDrawing_m v5.1 v3.1).bind fun v12 =>
  (if (!v12) = true then
  some true
  else
  some (decide (v5.2 ≠ v3.2))))) : Option Bool).bind fun v13 =>
  (if v13 = true then
  some false
  else
  ((l_markDrawing_o_m v5.1 1).bind fun v14 =>
  (chk (v14.2.length = v5.1.Shapes.length) (
  ((l_heldDrawing_m (⟨v14.2⟩ : Drawing_) 1).bind fun v16 =>
  (if v16 < 0 then
  some false
  else
  (if v16 ≠ v14.1 then
  some false
  else
  ((l_toPlate_m p0).bind fun v17 =>
  ((i_PlateDrawing_m v17).bind fun v18 =>
  ((((l_eqDrawing_m v18.1 v3.1).bind fun v19 =>
  (if (!v19) = true then
  some true
  else
  some (decide (v18.2 ≠ v3.2)))) : Option Bool).bind fun v20 =>
  (if v20 = true then
  some false
  else
  ((l_heldDrawing_m (⟨v14.2⟩ : Drawing_) 1).bind fun v21 =>
  (if v21 < 0 then
  some false
  else
  (if v21 ≠ v14.1 then
  some false
  else
  some true)))))))))))))))))))))))))))))

def s_l10DrawAngle_b_m (p0 : L00Src_) : Option (Angle_ × L00Src_) :=
  ((l00Src_pick_b_m p0 ([(⟨5, 12, 13⟩ : Angle_), (⟨7, 24, 25⟩ : Angle_), (⟨8, 15, 17⟩ : Angle_), (⟨12, 35, 37⟩ : Angle_), (⟨3, 4, 5⟩ : Angle_), (⟨20, 21, 29⟩ : Angle_), (⟨9, 40, 41⟩ : Angle_), (⟨60, 11, 61⟩ : Angle_), (⟨33, 544, 545⟩ : Angle_)].length : Int)).bind fun v1 =>
  ((atI [(⟨5, 12, 13⟩ : Angle_), (⟨7, 24, 25⟩ : Angle_), (⟨8, 15, 17⟩ : Angle_), (⟨12, 35, 37⟩ : Angle_), (⟨3, 4, 5⟩ : Angle_), (⟨20, 21, 29⟩ : Angle_), (⟨9, 40, 41⟩ : Angle_), (⟨60, 11, 61⟩ : Angle_), (⟨33, 544, 545⟩ : Angle_)] v1.1).bind fun v2 =>
  ((((l00Src_one_b_m v1.2 6).bind fun v3 =>
  (if v3.1 = true then
  ((l00Src_among_b_m v3.2 [2, 3]).bind fun v4 =>
  (if 1000 < (w64 (v4.1 * v2.Hyp)) then
  ((atI [(⟨5, 12, 13⟩ : Angle_), (⟨7, 24, 25⟩ : Angle_), (⟨8, 15, 17⟩ : Angle_), (⟨12, 35, 37⟩ : Angle_), (⟨3, 4, 5⟩ : Angle_), (⟨20, 21, 29⟩ : Angle_), (⟨9, 40, 41⟩ : Angle_), (⟨60, 11, 61⟩ : Angle_), (⟨33, 544, 545⟩ : Angle_)] 0).bind fun v5 =>
  some (v4.2, v5))
  else
  some (v4.2, (⟨w64 (v4.1 * v2.Sin), w64 (v4.1 * v2.Cos), w64 (v4.1 * v2.Hyp)⟩ : Angle_))))
  else
  some (v3.2, v2))) : Option (L00Src_ × Angle_)).bind fun v6 =>
  some (v6.2, v6.1))))

def s_l10Draw_b_m (p0 : L00Src_) : Option (Profile_ × L00Src_) :=
  ((l00Src_pick_b_m p0 60).bind fun v1 =>
  ((((l00Src_one_b_m v1.2 8).bind fun v2 =>
  (if v2.1 = true then
  ((l00Src_among_b_m v2.2 [6, 240, 120]).bind fun v3 =>
  some (v3.1, v3.2))
  else
  some (w64 (6 + v1.1), v2.2))) : Option (Int × L00Src_)).bind fun v4 =>
  ((l00Src_pick_b_m v4.2 60).bind fun v5 =>
  ((((l00Src_one_b_m v5.2 8).bind fun v6 =>
  (if v6.1 = true then
  ((l00Src_among_b_m v6.2 [1, 500]).bind fun v7 =>
  some (v7.1, v7.2))
  else
  some (w64 (1 + v5.1), v6.2))) : Option (Int × L00Src_)).bind fun v8 =>
  ((l00Src_pick_b_m v8.2 20).bind fun v9 =>
  ((s_l10DrawAngle_b_m v9.2).bind fun v10 =>
  some ((⟨v4.1, v8.1, w64 (1 + v9.1), v10.1⟩ : Profile_), v10.2)))))))

def s_l10Bent_b_m (p0 : L00Src_) : Option (Profile_ × L00Src_) :=
  ((s_l10Draw_b_m p0).bind fun v1 =>
  ((((l00Src_pick_b_m v1.2 40).bind fun v2 =>
  (if v2.1 = 0 then
  ((l00Src_among_b_m v2.2 [5, 241]).bind fun v3 =>
  some (v3.2, (⟨v3.1, v1.1.Module, v1.1.Addendum, v1.1.Angle⟩ : Profile_)))
  else
  (if v2.1 = 1 then
  ((l00Src_among_b_m v2.2 [0, 501]).bind fun v4 =>
  some (v4.2, (⟨v1.1.Teeth, v4.1, v1.1.Addendum, v1.1.Angle⟩ : Profile_)))
  else
  (if v2.1 = 2 then
  ((l00Src_among_b_m v2.2 [0, 21]).bind fun v5 =>
  some (v5.2, (⟨v1.1.Teeth, v1.1.Module, v5.1, v1.1.Angle⟩ : Profile_)))
  else
  (if v2.1 = 3 then
  some (v2.2, (⟨v1.1.Teeth, v1.1.Module, v1.1.Addendum, (⟨v1.1.Angle.Sin, w64 (v1.1.Angle.Cos + 1), v1.1.Angle.Hyp⟩ : Angle_)⟩ : Profile_))
  else
  some (v2.2, v1.1)))))) : Option (L00Src_ × Profile_)).bind fun v6 =>
  some (v6.2, v6.1)))

def s_DrawGearDrawing_m (p0 : List Int) : Option Profile_ :=
  ((s_l00From_m p0).bind fun v1 =>
  ((s_l10Bent_b_m v1).bind fun v2 =>
  some v2.1))

def s_DrawDialDrawing_m (p0 : List Int) : Option (Int × Int) :=
  ((s_l00From_m p0).bind fun v1 =>
  ((l00Src_pick_b_m v1 2000).bind fun v2 =>
  ((l00Src_pick_b_m v2.2 60).bind fun v3 =>
  ((((l00Src_pick_b_m v3.2 12).bind fun v4 =>
  (if v4.1 = 0 then
  ((l00Src_among_b_m v4.2 [9, 10, 100000, 100001]).bind fun v5 =>
  some (v5.1, w64 (1 + v3.1)))
  else
  (if v4.1 = 1 then
  ((l00Src_among_b_m v4.2 [0, 1, 240, 241]).bind fun v6 =>
  some (w64 (10 + v2.1), v6.1))
  else
  some (w64 (10 + v2.1), w64 (1 + v3.1))))) : Option (Int × Int)).bind fun v7 =>
  some (v7.1, v7.2)))))

def s_l09DrawPoint_b_m (p0 : L00Src_) (p1 : Int) (p2 : Int) : Option (Point_ × L00Src_) :=
  ((l00Src_pick_b_m p0 (w64 (p1 + 1))).bind fun v1 =>
  ((l00Src_pick_b_m v1.2 (w64 (p2 + 1))).bind fun v2 =>
  some ((⟨v1.1, v2.1⟩ : Point_), v2.2)))

def s_l01Dec_m (p0 : Int) : Option ByteArray :=
  ((loopM (S := Int × List Int) (X := List Int) (fun s6 =>
  (if s6.1 ≠ 0 then
  (((if (s6.1.tmod 10) < 0 then
  some (w64 (-(s6.1.tmod 10)))
  else
  some (s6.1.tmod 10)) : Option Int).bind fun v8 =>
  (chk (([IntKind.u8.wrap (w64 (48 + v8))].length + s6.2.length) * 1 * 64 ≤ 140737488355328) (
  some (.inl (w64 (s6.1.tdiv 10), [IntKind.u8.wrap (w64 (48 + v8))] ++ s6.2)))))
  else
  some (.inr s6.2))) (p0, ([] : List Int)) : Option (List Int)).bind fun v11 =>
  (if (v11.length : Int) = 0 then
  some (⟨#[48]⟩ : ByteArray)
  else
  (if p0 < 0 then
  (chk ((⟨#[45]⟩ : ByteArray).size + (strOfNums v11).size ≤ 9223372036854775807) (
  some ((⟨#[45]⟩ : ByteArray) ++ (strOfNums v11))))
  else
  some (strOfNums v11))))

def s_l09Draw_b_m (p0 : L00Src_) : Option (Plate_ × L00Src_) :=
  ((l00Src_pick_b_m p0 800).bind fun v1 =>
  ((l00Src_pick_b_m v1.2 800).bind fun v2 =>
  ((((l00Src_one_b_m v2.2 8).bind fun v3 =>
  (if v3.1 = true then
  ((l00Src_among_b_m v3.2 [1, 3, 10000]).bind fun v4 =>
  some (v4.1, v4.2))
  else
  some (w64 (400 + v1.1), v3.2))) : Option (Int × L00Src_)).bind fun v5 =>
  ((l00Src_pick_b_m v5.2 30).bind fun v6 =>
  ((l00Src_pick_b_m v6.2 40).bind fun v7 =>
  ((l00Src_one_b_m v7.2 3).bind fun v8 =>
  ((((l00Src_pick_b_m v8.2 8).bind fun v9 =>
  loopM (S := Int × L00Src_ × List Site_) (X := L00Src_ × List Site_) (fun s22 =>
  (if 0 < s22.1 then
  ((s_l09DrawPoint_b_m s22.2.1 v5.1 (w64 (400 + v2.1))).bind fun v23 =>
  (((if v8.1 = true then
  (chk ((w64 (v5.1 + 1)) ≠ 0) (
  (chk ((w64 ((w64 (400 + v2.1)) + 1)) ≠ 0) (
  some (⟨w64 ((w64 ((w64 (v23.1.X * 3)).tdiv (w64 (v5.1 + 1)))) * (w64 (v5.1.tdiv 3))), w64 ((w64 ((w64 (v23.1.Y * 3)).tdiv (w64 ((w64 (400 + v2.1)) + 1)))) * (w64 ((w64 (400 + v2.1)).tdiv 3)))⟩ : Point_)))))
  else
  some v23.1) : Option Point_).bind fun v28 =>
  ((l00Src_pick_b_m v23.2 20).bind fun v29 =>
  ((l00Src_pick_b_m v29.2 200).bind fun v30 =>
  ((s_l01Dec_m (s22.2.2.length : Int)).bind fun v31 =>
  (chk ((⟨#[97]⟩ : ByteArray).size + v31.size ≤ 9223372036854775807) (
  (chk ((s22.2.2.length + [(⟨(⟨#[97]⟩ : ByteArray) ++ v31, v28, w64 ((w64 (1 + v29.1)) + v30.1), w64 (1 + v29.1)⟩ : Site_)].length) * 5 * 64 ≤ 140737488355328) (
  some (.inl (w64 (s22.1 - 1), v30.2, s22.2.2 ++ [(⟨(⟨#[97]⟩ : ByteArray) ++ v31, v28, w64 ((w64 (1 + v29.1)) + v30.1), w64 (1 + v29.1)⟩ : Site_)])))))))))))
  else
  some (.inr (s22.2.1, s22.2.2)))) (v9.1, v9.2, ([] : List Site_))) : Option (L00Src_ × List Site_)).bind fun v34 =>
  some ((⟨v5.1, w64 (400 + v2.1), v6.1, v7.1, v34.2⟩ : Plate_), v34.1))))))))

def s_l09Bent_b_m (p0 : L00Src_) : Option (Plate_ × L00Src_) :=
  ((s_l09Draw_b_m p0).bind fun v1 =>
  ((l00Src_pick_b_m v1.2 (v1.1.Sites.length : Int)).bind fun v2 =>
  ((((l00Src_pick_b_m v2.2 30).bind fun v3 =>
  (if v3.1 = 0 then
  ((l00Src_among_b_m v3.2 [0, 10001]).bind fun v4 =>
  some (v4.2, v4.1, v1.1.Margin, v1.1.Gap, v1.1.Sites))
  else
  (if v3.1 = 1 then
  ((l00Src_among_b_m v3.2 [-1, 1000, 1001]).bind fun v5 =>
  some (v5.2, v1.1.Width, v1.1.Margin, v5.1, v1.1.Sites))
  else
  (if v3.1 = 2 then
  (if 0 < (v1.1.Sites.length : Int) then
  ((l00Src_among_b_m v3.2 [-1, v1.1.Width, w64 (v1.1.Width + 1)]).bind fun v6 =>
  ((atI v1.1.Sites v2.1).bind fun v7 =>
  some (v6.2, v1.1.Width, v1.1.Margin, v1.1.Gap, List.set v1.1.Sites (v2.1).toNat (⟨v7.Name, (⟨v6.1, v7.At.Y⟩ : Point_), v7.Wheel, v7.Staff⟩ : Site_))))
  else
  some (v3.2, v1.1.Width, v1.1.Margin, v1.1.Gap, v1.1.Sites))
  else
  (if v3.1 = 3 then
  (if 0 < (v1.1.Sites.length : Int) then
  ((l00Src_text_b_m v3.2 [(⟨#[]⟩ : ByteArray), (⟨#[97, 48]⟩ : ByteArray), (⟨#[85, 112]⟩ : ByteArray), (⟨#[120]⟩ : ByteArray)]).bind fun v8 =>
  ((atI v1.1.Sites v2.1).bind fun v9 =>
  some (v8.2, v1.1.Width, v1.1.Margin, v1.1.Gap, List.set v1.1.Sites (v2.1).toNat (⟨v8.1, v9.At, v9.Wheel, v9.Staff⟩ : Site_))))
  else
  some (v3.2, v1.1.Width, v1.1.Margin, v1.1.Gap, v1.1.Sites))
  else
  (if v3.1 = 4 then
  (if 0 < (v1.1.Sites.length : Int) then
  ((atI v1.1.Sites v2.1).bind fun v10 =>
  ((atI v1.1.Sites v2.1).bind fun v11 =>
  ((l00Src_among_b_m v3.2 [0, 1001, v10.Wheel, w64 (v11.Wheel + 1)]).bind fun v12 =>
  ((atI v1.1.Sites v2.1).bind fun v13 =>
  some (v12.2, v1.1.Width, v1.1.Margin, v1.1.Gap, List.set v1.1.Sites (v2.1).toNat (⟨v13.Name, v13.At, v13.Wheel, v12.1⟩ : Site_))))))
  else
  some (v3.2, v1.1.Width, v1.1.Margin, v1.1.Gap, v1.1.Sites))
  else
  (if v3.1 = 5 then
  ((l00Src_pick_b_m v3.2 3).bind fun v14 =>
  loopM (S := Int × List Site_) (X := L00Src_ × Int × Int × Int × List Site_) (fun s20 =>
  (if 0 < s20.1 then
  (chk ((w64 (v1.1.Width + 1)) ≠ 0) (
  ((s_l01Dec_m s20.1).bind fun v22 =>
  (chk ((⟨#[98]⟩ : ByteArray).size + v22.size ≤ 9223372036854775807) (
  (chk ((s20.2.length + [(⟨(⟨#[98]⟩ : ByteArray) ++ v22, (⟨s20.1.tmod (w64 (v1.1.Width + 1)), 0⟩ : Point_), 5, 5⟩ : Site_)].length) * 5 * 64 ≤ 140737488355328) (
  some (.inl (w64 (s20.1 - 1), s20.2 ++ [(⟨(⟨#[98]⟩ : ByteArray) ++ v22, (⟨s20.1.tmod (w64 (v1.1.Width + 1)), 0⟩ : Point_), 5, 5⟩ : Site_)])))))))))
  else
  some (.inr (v14.2, v1.1.Width, v1.1.Margin, v1.1.Gap, s20.2)))) (w64 (19 + v14.1), ([] : List Site_)))
  else
  (if v3.1 = 6 then
  ((l00Src_among_b_m v3.2 [-1, 1000, 1001]).bind fun v25 =>
  some (v25.2, v1.1.Width, v25.1, v1.1.Gap, v1.1.Sites))
  else
  some (v3.2, v1.1.Width, v1.1.Margin, v1.1.Gap, v1.1.Sites))))))))) : Option (L00Src_ × Int × Int × Int × List Site_)).bind fun v26 =>
  some ((⟨v26.2.1, v1.1.Height, v26.2.2.1, v26.2.2.2.1, v26.2.2.2.2⟩ : Plate_), v26.1))))

def s_DrawPlateDrawing_m (p0 : List Int) : Option Plate_ :=
  ((s_l00From_m p0).bind fun v1 =>
  ((s_l09Bent_b_m v1).bind fun v2 =>
  some v2.1))

def l_FnPictures_m (p0 : List Int) : Option Bool :=
  ((l_f6big_m p0).bind fun v1 =>
  (if v1 = true then
  some true
  else
  ((s_DrawGearDrawing_m p0).bind fun v2 =>
  ((i_GearDrawing_m v2).bind fun v3 =>
  ((s_GearDrawing_m v2).bind fun v4 =>
  ((s_DrawDialDrawing_m p0).bind fun v5 =>
  ((i_DialDrawing_m v5.1 v5.2).bind fun v6 =>
  ((s_DialDrawing_m v5.1 v5.2).bind fun v7 =>
  ((s_DrawPlateDrawing_m p0).bind fun v8 =>
  ((i_PlateDrawing_m v8).bind fun v9 =>
  ((s_PlateDrawing_m v8).bind fun v10 =>
  (((if v3.2 ≠ v4.2 then
  some true
  else
  ((s_SameDrawing_m v3.1 v4.1).bind fun v11 =>
  (if (!v11) = true then
  some true
  else
  (if v6.2 ≠ v7.2 then
  some true
  else
  ((s_SameDrawing_m v6.1 v7.1).bind fun v12 =>
  (if (!v12) = true then
  some true
  else
  (if v9.2 ≠ v10.2 then
  some true
  else
  ((s_SameDrawing_m v9.1 v10.1).bind fun v13 =>
  some (!v13))))))))) : Option Bool).bind fun v14 =>
  (if v14 = true then
  some false
  else
  (((if v3.2 = 0 then
  ((loopM (S := Int) (X := Unit ⊕ (Unit ⊕ Bool)) (fun s19 =>
  (if s19 < (v4.1.Shapes.length : Int) then
  ((atI v3.1.Shapes s19).bind fun v20 =>
  (chk ((v4.1.Shapes.length : Int) ≠ 0) (
  ((atI v3.1.Shapes ((w64 (s19 + 1)).tmod (v4.1.Shapes.length : Int))).bind fun v22 =>
  (if v20.B ≠ v22.A then
  some (.inr (.inr (.inr false)))
  else
  some (.inl (w64 (s19 + 1))))))))
  else
  some (.inr (.inl ())))) 0 : Option (Unit ⊕ (Unit ⊕ Bool))).bind fun v23x => orE v23x fun v23 =>
  ((((i_ValidDrawing_m v3.1).bind fun v24 =>
  (if (!v24) = true then
  some true
  else
  some (decide ((v4.1.Shapes.length : Int) ≠ (w64 (4 * v2.Teeth)))))) : Option Bool).bind fun v25 =>
  (if v25 = true then
  some (.inr false)
  else
  some (.inl ()))))
  else
  some (.inl ())) : Option (Unit ⊕ Bool)).bind fun v26x => orE v26x fun v26 =>
  (((if v6.2 = 0 then
  (if (v6.1.Shapes.length : Int) ≠ (w64 (v5.2 + 1)) then
  some true
  else
  ((i_ValidDrawing_m v6.1).bind fun v27 =>
  some (!v27)))
  else
  some false) : Option Bool).bind fun v28 =>
  (if v28 = true then
  some false
  else
  (if v9.2 ≠ 0 then
  some true
  else
  ((i_BoxOf_m v9.1).bind fun v29 =>
  (if v29.2.2 = 0 then
  (if v29.1.X ≤ 0 then
  (if v29.1.Y ≤ 0 then
  (if v8.Width ≤ v29.2.1.X then
  (if v8.Height ≤ v29.2.1.Y then
  some (decide ((v9.1.Shapes.length : Int) = (w64 (4 + (w64 (3 * (v8.Sites.length : Int)))))))
  else
  some false)
  else
  some false)
  else
  some false)
  else
  some false)
  else
  some false)))))))))))))))))))
end Go.Proofs.Ytplnohfjeilodaa
