/- models -/
import Derived.Test.YtjhadibjjldpdaaGreatAmT
namespace Go.Proofs.YtjhadibjjldpdaaGreat
open Go.RowKit
set_option linter.unusedVariables false
set_option maxRecDepth 100000
set_option maxHeartbeats 2000000
structure Arbor_ where
  Name : ByteArray
  Wheels : List Int
deriving DecidableEq
def cArbor_ (x : Arbor_) : List DV := [.v (.string x.Name), .sl (List.map cI x.Wheels)]
structure Mesh_ where
  A : Int
  WheelA : Int
  B : Int
  WheelB : Int
deriving DecidableEq
def cMesh_ (x : Mesh_) : List DV := [.v (.int .i64 x.A), .v (.int .i64 x.WheelA), .v (.int .i64 x.B), .v (.int .i64 x.WheelB)]
structure Works_ where
  Arbors : List Arbor_
  Meshes : List Mesh_
deriving DecidableEq
def cWorks_ (x : Works_) : List DV := [.sl (List.map cArbor_ x.Arbors), .sl (List.map cMesh_ x.Meshes)]
structure Month_ where
  Name : ByteArray
  Days : Int
  Leap : Int
deriving DecidableEq
def cMonth_ (x : Month_) : List DV := [.v (.string x.Name), .v (.int .i64 x.Days), .v (.int .i64 x.Leap)]
structure LeapRule_ where
  Every : Int
  Rest : Int
  Leap : Bool
deriving DecidableEq
def cLeapRule_ (x : LeapRule_) : List DV := [.v (.int .i64 x.Every), .v (.int .i64 x.Rest), .v (.bool x.Leap)]
structure Calendar_ where
  Name : ByteArray
  Months : List Month_
  Rules : List LeapRule_
  Week : Int
deriving DecidableEq
def cCalendar_ (x : Calendar_) : List DV := [.v (.string x.Name), .sl (List.map cMonth_ x.Months), .sl (List.map cLeapRule_ x.Rules), .v (.int .i64 x.Week)]
structure Movement_ where
  Name : ByteArray
  Works : Works_
  Minute : Int
  Hour : Int
  Escape : Int
  Teeth : Int
  Beats : Int
  Calendar : Calendar_
  Cam : List Int
  Strike : Int
deriving DecidableEq
def cMovement_ (x : Movement_) : List DV := [.v (.string x.Name), .sl (List.map cArbor_ x.Works.Arbors), .sl (List.map cMesh_ x.Works.Meshes), .v (.int .i64 x.Minute), .v (.int .i64 x.Hour), .v (.int .i64 x.Escape), .v (.int .i64 x.Teeth), .v (.int .i64 x.Beats), .v (.string x.Calendar.Name), .sl (List.map cMonth_ x.Calendar.Months), .sl (List.map cLeapRule_ x.Calendar.Rules), .v (.int .i64 x.Calendar.Week), .sl (List.map cI x.Cam), .v (.int .i64 x.Strike)]
structure Ratio_ where
  Num : Int
  Den : Int
deriving DecidableEq
def cRatio_ (x : Ratio_) : List DV := [.v (.int .i64 x.Num), .v (.int .i64 x.Den)]
structure Pair_ where
  Driver : Int
  Driven : Int
deriving DecidableEq
def cPair_ (x : Pair_) : List DV := [.v (.int .i64 x.Driver), .v (.int .i64 x.Driven)]
structure Date_ where
  Year : Int
  Month : Int
  Day : Int
deriving DecidableEq
def cDate_ (x : Date_) : List DV := [.v (.int .i64 x.Year), .v (.int .i64 x.Month), .v (.int .i64 x.Day)]
structure Perpetual_ where
  Cam : List Int
  Months : Int
  Teeth : Int
  At : Int
  Day : Int
  Week : Int
  Weekday : Int
deriving DecidableEq
def cPerpetual_ (x : Perpetual_) : List DV := [.sl (List.map cI x.Cam), .v (.int .i64 x.Months), .v (.int .i64 x.Teeth), .v (.int .i64 x.At), .v (.int .i64 x.Day), .v (.int .i64 x.Week), .v (.int .i64 x.Weekday)]
structure Sim_ where
  Movement : Movement_
  Start : Date_
  First : Int
  Clock : Int
  Dial : Perpetual_
deriving DecidableEq
def cSim_ (x : Sim_) : List DV := [.v (.string x.Movement.Name), .sl (List.map cArbor_ x.Movement.Works.Arbors), .sl (List.map cMesh_ x.Movement.Works.Meshes), .v (.int .i64 x.Movement.Minute), .v (.int .i64 x.Movement.Hour), .v (.int .i64 x.Movement.Escape), .v (.int .i64 x.Movement.Teeth), .v (.int .i64 x.Movement.Beats), .v (.string x.Movement.Calendar.Name), .sl (List.map cMonth_ x.Movement.Calendar.Months), .sl (List.map cLeapRule_ x.Movement.Calendar.Rules), .v (.int .i64 x.Movement.Calendar.Week), .sl (List.map cI x.Movement.Cam), .v (.int .i64 x.Movement.Strike), .v (.int .i64 x.Start.Year), .v (.int .i64 x.Start.Month), .v (.int .i64 x.Start.Day), .v (.int .i64 x.First), .v (.int .i64 x.Clock), .sl (List.map cI x.Dial.Cam), .v (.int .i64 x.Dial.Months), .v (.int .i64 x.Dial.Teeth), .v (.int .i64 x.Dial.At), .v (.int .i64 x.Dial.Day), .v (.int .i64 x.Dial.Week), .v (.int .i64 x.Dial.Weekday)]
def l_szInt64S_m (p0 : List Int) (p1 : Int) : Option Int :=
  (if (w64 (p1 - (p0.length : Int))) < 0 then
  some (-1)
  else
  some (w64 (p1 - (p0.length : Int))))

def l_szArbor_m (p0 : Arbor_) (p1 : Int) : Option Int :=
  (if (w64 (p1 - (p0.Name.size : Int))) < 0 then
  some (-1)
  else
  ((l_szInt64S_m p0.Wheels (w64 (p1 - (p0.Name.size : Int)))).bind fun v1 =>
  (if v1 < 0 then
  some (-1)
  else
  some v1)))

def l_szArborS_m (p0 : List Arbor_) (p1 : Int) : Option Int :=
  (if (w64 (p1 - (p0.length : Int))) < 0 then
  some (-1)
  else
  ((loopM (S := Int × Int) (X := Int ⊕ Int) (fun s4 =>
  (if s4.2 < (p0.length : Int) then
  ((atI p0 s4.2).bind fun v5 =>
  ((l_szArbor_m v5 s4.1).bind fun v6 =>
  (if v6 < 0 then
  some (.inr (.inr (-1)))
  else
  some (.inl (v6, w64 (s4.2 + 1))))))
  else
  some (.inr (.inl s4.1)))) (w64 (p1 - (p0.length : Int)), 0) : Option (Int ⊕ Int)).bind fun v7x => orE v7x fun v7 =>
  some v7))

def l_szMeshS_m (p0 : List Mesh_) (p1 : Int) : Option Int :=
  (if (w64 (p1 - (p0.length : Int))) < 0 then
  some (-1)
  else
  some (w64 (p1 - (p0.length : Int))))

def l_szWorks_m (p0 : Works_) (p1 : Int) : Option Int :=
  ((l_szArborS_m p0.Arbors p1).bind fun v1 =>
  (if v1 < 0 then
  some (-1)
  else
  ((l_szMeshS_m p0.Meshes v1).bind fun v2 =>
  (if v2 < 0 then
  some (-1)
  else
  some v2))))

def l_szMonth_m (p0 : Month_) (p1 : Int) : Option Int :=
  (if (w64 (p1 - (p0.Name.size : Int))) < 0 then
  some (-1)
  else
  some (w64 (p1 - (p0.Name.size : Int))))

def l_szMonthS_m (p0 : List Month_) (p1 : Int) : Option Int :=
  (if (w64 (p1 - (p0.length : Int))) < 0 then
  some (-1)
  else
  ((loopM (S := Int × Int) (X := Int ⊕ Int) (fun s4 =>
  (if s4.2 < (p0.length : Int) then
  ((atI p0 s4.2).bind fun v5 =>
  ((l_szMonth_m v5 s4.1).bind fun v6 =>
  (if v6 < 0 then
  some (.inr (.inr (-1)))
  else
  some (.inl (v6, w64 (s4.2 + 1))))))
  else
  some (.inr (.inl s4.1)))) (w64 (p1 - (p0.length : Int)), 0) : Option (Int ⊕ Int)).bind fun v7x => orE v7x fun v7 =>
  some v7))

def l_szLeapRuleS_m (p0 : List LeapRule_) (p1 : Int) : Option Int :=
  (if (w64 (p1 - (p0.length : Int))) < 0 then
  some (-1)
  else
  some (w64 (p1 - (p0.length : Int))))

def l_szCalendar_m (p0 : Calendar_) (p1 : Int) : Option Int :=
  (if (w64 (p1 - (p0.Name.size : Int))) < 0 then
  some (-1)
  else
  ((l_szMonthS_m p0.Months (w64 (p1 - (p0.Name.size : Int)))).bind fun v1 =>
  (if v1 < 0 then
  some (-1)
  else
  ((l_szLeapRuleS_m p0.Rules v1).bind fun v2 =>
  (if v2 < 0 then
  some (-1)
  else
  some v2)))))

def l_szMovement_m (p0 : Movement_) (p1 : Int) : Option Int :=
  (if (w64 (p1 - (p0.Name.size : Int))) < 0 then
  some (-1)
  else
  ((l_szWorks_m p0.Works (w64 (p1 - (p0.Name.size : Int)))).bind fun v1 =>
  (if v1 < 0 then
  some (-1)
  else
  ((l_szCalendar_m p0.Calendar v1).bind fun v2 =>
  (if v2 < 0 then
  some (-1)
  else
  ((l_szInt64S_m p0.Cam v2).bind fun v3 =>
  (if v3 < 0 then
  some (-1)
  else
  some v3)))))))

def l_toInt64S_m (p0 : List Int) : Option (List Int) :=
  (chk (0 ≤ (p0.length : Int) ∧ (p0.length : Int) = (p0.length : Int) ∧ (p0.length : Int).toNat * 1 * 64 ≤ 281474976710656) (
  ((loopM (S := Int × List Int) (X := List Int) (fun s5 =>
  (if s5.1 < (p0.length : Int) then
  ((atI p0 s5.1).bind fun v6 =>
  ((atI s5.2 s5.1).bind fun v7 =>
  some (.inl (w64 (s5.1 + 1), List.set s5.2 s5.1.toNat v6))))
  else
  some (.inr s5.2))) (0, List.replicate (p0.length : Int).toNat 0) : Option (List Int)).bind fun v8 =>
  some v8)))

def l_toArbor_m (p0 : Arbor_) : Option Arbor_ :=
  ((l_toInt64S_m p0.Wheels).bind fun v1 =>
  some (⟨p0.Name, v1⟩ : Arbor_))

def l_toArborS_m (p0 : List Arbor_) : Option (List Arbor_) :=
  (chk (0 ≤ (p0.length : Int) ∧ (p0.length : Int) = (p0.length : Int) ∧ (p0.length : Int).toNat * 2 * 64 ≤ 281474976710656) (
  ((loopM (S := Int × List Arbor_) (X := List Arbor_) (fun s6 =>
  (if s6.1 < (p0.length : Int) then
  ((atI p0 s6.1).bind fun v7 =>
  ((l_toArbor_m v7).bind fun v8 =>
  ((atI s6.2 s6.1).bind fun v9 =>
  some (.inl (w64 (s6.1 + 1), List.set s6.2 s6.1.toNat v8)))))
  else
  some (.inr s6.2))) (0, List.replicate (p0.length : Int).toNat (⟨(⟨#[]⟩ : ByteArray), []⟩ : Arbor_)) : Option (List Arbor_)).bind fun v10 =>
  some v10)))

def l_toMesh_m (p0 : Mesh_) : Option Mesh_ :=
  some p0

def l_toMeshS_m (p0 : List Mesh_) : Option (List Mesh_) :=
  (chk (0 ≤ (p0.length : Int) ∧ (p0.length : Int) = (p0.length : Int) ∧ (p0.length : Int).toNat * 4 * 64 ≤ 281474976710656) (
  ((loopM (S := Int × List Mesh_) (X := List Mesh_) (fun s6 =>
  (if s6.1 < (p0.length : Int) then
  ((atI p0 s6.1).bind fun v7 =>
  ((l_toMesh_m v7).bind fun v8 =>
  ((atI s6.2 s6.1).bind fun v9 =>
  some (.inl (w64 (s6.1 + 1), List.set s6.2 s6.1.toNat v8)))))
  else
  some (.inr s6.2))) (0, List.replicate (p0.length : Int).toNat (⟨0, 0, 0, 0⟩ : Mesh_)) : Option (List Mesh_)).bind fun v10 =>
  some v10)))

def l_toWorks_m (p0 : Works_) : Option Works_ :=
  ((l_toArborS_m p0.Arbors).bind fun v1 =>
  ((l_toMeshS_m p0.Meshes).bind fun v2 =>
  some (⟨v1, v2⟩ : Works_)))

def l_toMonth_m (p0 : Month_) : Option Month_ :=
  some p0

def l_toMonthS_m (p0 : List Month_) : Option (List Month_) :=
  (chk (0 ≤ (p0.length : Int) ∧ (p0.length : Int) = (p0.length : Int) ∧ (p0.length : Int).toNat * 3 * 64 ≤ 281474976710656) (
  ((loopM (S := Int × List Month_) (X := List Month_) (fun s6 =>
  (if s6.1 < (p0.length : Int) then
  ((atI p0 s6.1).bind fun v7 =>
  ((l_toMonth_m v7).bind fun v8 =>
  ((atI s6.2 s6.1).bind fun v9 =>
  some (.inl (w64 (s6.1 + 1), List.set s6.2 s6.1.toNat v8)))))
  else
  some (.inr s6.2))) (0, List.replicate (p0.length : Int).toNat (⟨(⟨#[]⟩ : ByteArray), 0, 0⟩ : Month_)) : Option (List Month_)).bind fun v10 =>
  some v10)))

def l_toLeapRule_m (p0 : LeapRule_) : Option LeapRule_ :=
  some p0

def l_toLeapRuleS_m (p0 : List LeapRule_) : Option (List LeapRule_) :=
  (chk (0 ≤ (p0.length : Int) ∧ (p0.length : Int) = (p0.length : Int) ∧ (p0.length : Int).toNat * 3 * 64 ≤ 281474976710656) (
  ((loopM (S := Int × List LeapRule_) (X := List LeapRule_) (fun s6 =>
  (if s6.1 < (p0.length : Int) then
  ((atI p0 s6.1).bind fun v7 =>
  ((l_toLeapRule_m v7).bind fun v8 =>
  ((atI s6.2 s6.1).bind fun v9 =>
  some (.inl (w64 (s6.1 + 1), List.set s6.2 s6.1.toNat v8)))))
  else
  some (.inr s6.2))) (0, List.replicate (p0.length : Int).toNat (⟨0, 0, false⟩ : LeapRule_)) : Option (List LeapRule_)).bind fun v10 =>
  some v10)))

def l_toCalendar_m (p0 : Calendar_) : Option Calendar_ :=
  ((l_toMonthS_m p0.Months).bind fun v1 =>
  ((l_toLeapRuleS_m p0.Rules).bind fun v2 =>
  some (⟨p0.Name, v1, v2, p0.Week⟩ : Calendar_)))

def l_toMovement_m (p0 : Movement_) : Option Movement_ :=
  ((l_toWorks_m p0.Works).bind fun v1 =>
  ((l_toCalendar_m p0.Calendar).bind fun v2 =>
  ((l_toInt64S_m p0.Cam).bind fun v3 =>
  some (⟨p0.Name, v1, p0.Minute, p0.Hour, p0.Escape, p0.Teeth, p0.Beats, v2, v3, p0.Strike⟩ : Movement_))))

def s_l01Small_m (p0 : Int) : Option Bool :=
  (if 97 ≤ p0 then
  some (decide (p0 ≤ 122))
  else
  some false)

def s_l01Digit_m (p0 : Int) : Option Bool :=
  (if 48 ≤ p0 then
  some (decide (p0 ≤ 57))
  else
  some false)

def s_IsName_m (p0 : ByteArray) : Option Bool :=
  (((if p0 = (⟨#[]⟩ : ByteArray) then
  some true
  else
  (if 12 < (p0.size : Int) then
  some true
  else
  ((strAt p0 0).bind fun v1 =>
  ((s_l01Small_m v1).bind fun v2 =>
  some (!v2))))) : Option Bool).bind fun v3 =>
  (if v3 = true then
  some false
  else
  ((loopM (S := Int) (X := Unit ⊕ Bool) (fun s11 =>
  (if s11 < (p0.size : Int) then
  ((((strAt p0 s11).bind fun v12 =>
  ((s_l01Small_m v12).bind fun v13 =>
  (if (!v13) = true then
  ((strAt p0 s11).bind fun v14 =>
  ((s_l01Digit_m v14).bind fun v15 =>
  (if (!v15) = true then
  ((strAt p0 s11).bind fun v16 =>
  some (decide (v16 ≠ 45)))
  else
  some false)))
  else
  some false))) : Option Bool).bind fun v17 =>
  (if v17 = true then
  some (.inr (.inr false))
  else
  some (.inl (w64 (s11 + 1)))))
  else
  some (.inr (.inl ())))) 0 : Option (Unit ⊕ Bool)).bind fun v18x => orE v18x fun v18 =>
  some true)))

def s_l00In_m (p0 : Int) (p1 : Int) (p2 : Int) : Option Bool :=
  (if p1 ≤ p0 then
  some (decide (p0 ≤ p2))
  else
  some false)

def s_l05Teeth_m (p0 : Int) : Option Bool :=
  ((s_l00In_m p0 6 240).bind fun v1 =>
  some v1)

def s_l08Arbor_m (p0 : Arbor_) : Option Bool :=
  ((loopM (S := Int) (X := Unit ⊕ Bool) (fun s4 =>
  (if s4 < (p0.Wheels.length : Int) then
  ((atI p0.Wheels s4).bind fun v5 =>
  ((s_l05Teeth_m v5).bind fun v6 =>
  (if (!v6) = true then
  some (.inr (.inr false))
  else
  some (.inl (w64 (s4 + 1))))))
  else
  some (.inr (.inl ())))) 0 : Option (Unit ⊕ Bool)).bind fun v7x => orE v7x fun v7 =>
  ((s_IsName_m p0.Name).bind fun v8 =>
  (if v8 = true then
  some (decide ((p0.Wheels.length : Int) ≤ 5))
  else
  some false)))

def s_l08Find_m (p0 : Works_) (p1 : ByteArray) : Option Int :=
  ((loopM (S := Int) (X := Unit ⊕ Int) (fun s3 =>
  (if s3 < (p0.Arbors.length : Int) then
  ((atI p0.Arbors s3).bind fun v4 =>
  (if v4.Name = p1 then
  some (.inr (.inr s3))
  else
  some (.inl (w64 (s3 + 1)))))
  else
  some (.inr (.inl ())))) 0 : Option (Unit ⊕ Int)).bind fun v5x => orE v5x fun v5 =>
  some (-1))

def s_l08Wheel_m (p0 : Works_) (p1 : Int) (p2 : Int) : Option Bool :=
  ((s_l00In_m p1 0 (w64 ((p0.Arbors.length : Int) - 1))).bind fun v1 =>
  (if v1 = true then
  ((atI p0.Arbors p1).bind fun v2 =>
  ((s_l00In_m p2 0 (w64 ((v2.Wheels.length : Int) - 1))).bind fun v3 =>
  some v3))
  else
  some false))

def s_l08Mesh_m (p0 : Works_) (p1 : Mesh_) : Option Bool :=
  (if p1.A ≠ p1.B then
  ((s_l08Wheel_m p0 p1.A p1.WheelA).bind fun v1 =>
  (if v1 = true then
  ((s_l08Wheel_m p0 p1.B p1.WheelB).bind fun v2 =>
  some v2)
  else
  some false))
  else
  some false)

def s_l08Equal_m (p0 : Mesh_) (p1 : Mesh_) : Option Bool :=
  (if p0 = p1 then
  some true
  else
  (if p0.A = p1.B then
  (if p0.WheelA = p1.WheelB then
  (if p0.B = p1.A then
  some (decide (p0.WheelB = p1.WheelA))
  else
  some false)
  else
  some false)
  else
  some false))

def s_l08Known_m (p0 : Works_) (p1 : Mesh_) (p2 : Int) : Option Bool :=
  ((loopM (S := Int) (X := Unit ⊕ Bool) (fun s4 =>
  (if s4 < p2 then
  ((atI p0.Meshes s4).bind fun v5 =>
  ((s_l08Equal_m v5 p1).bind fun v6 =>
  (if v6 = true then
  some (.inr (.inr true))
  else
  some (.inl (w64 (s4 + 1))))))
  else
  some (.inr (.inl ())))) 0 : Option (Unit ⊕ Bool)).bind fun v7x => orE v7x fun v7 =>
  some false)

def s_l08Ok_m (p0 : Works_) : Option Bool :=
  ((loopM (S := Int) (X := Unit ⊕ Bool) (fun s7 =>
  (if s7 < (p0.Arbors.length : Int) then
  ((((atI p0.Arbors s7).bind fun v8 =>
  ((s_l08Arbor_m v8).bind fun v9 =>
  (if (!v9) = true then
  some true
  else
  ((atI p0.Arbors s7).bind fun v10 =>
  ((s_l08Find_m p0 v10.Name).bind fun v11 =>
  some (decide (v11 ≠ s7))))))) : Option Bool).bind fun v12 =>
  (if v12 = true then
  some (.inr (.inr false))
  else
  some (.inl (w64 (s7 + 1)))))
  else
  some (.inr (.inl ())))) 0 : Option (Unit ⊕ Bool)).bind fun v13x => orE v13x fun v13 =>
  ((loopM (S := Int) (X := Unit ⊕ Bool) (fun s20 =>
  (if s20 < (p0.Meshes.length : Int) then
  ((((atI p0.Meshes s20).bind fun v21 =>
  ((s_l08Mesh_m p0 v21).bind fun v22 =>
  (if (!v22) = true then
  some true
  else
  ((atI p0.Meshes s20).bind fun v23 =>
  ((s_l08Known_m p0 v23 s20).bind fun v24 =>
  some v24))))) : Option Bool).bind fun v25 =>
  (if v25 = true then
  some (.inr (.inr false))
  else
  some (.inl (w64 (s20 + 1)))))
  else
  some (.inr (.inl ())))) 0 : Option (Unit ⊕ Bool)).bind fun v26x => orE v26x fun v26 =>
  (if (p0.Arbors.length : Int) ≤ 16 then
  some (decide ((p0.Meshes.length : Int) ≤ 24))
  else
  some false)))

def s_l08Root_m (p0 : Works_) (p1 : Int) : Option Bool :=
  ((s_l00In_m p1 0 (w64 ((p0.Arbors.length : Int) - 1))).bind fun v1 =>
  some v1)

def s_l02Gcd_m (p0 : Int) (p1 : Int) : Option Int :=
  ((loopM (S := Int × Int) (X := Int) (fun s3 =>
  (if 0 < s3.2 then
  (chk (s3.2 ≠ 0) (
  some (.inl (s3.2, s3.1.tmod s3.2))))
  else
  some (.inr s3.1))) (p0, p1) : Option Int).bind fun v5 =>
  some v5)

def s_l15Years_m (p0 : List LeapRule_) : Option (Int × Bool) :=
  ((loopM (S := Int × Int) (X := Int ⊕ (Int × Bool)) (fun s12 =>
  (if s12.2 < (p0.length : Int) then
  ((((atI p0 s12.2).bind fun v13 =>
  ((s_l00In_m v13.Every 1 1000).bind fun v14 =>
  (if (!v14) = true then
  some true
  else
  ((atI p0 s12.2).bind fun v15 =>
  ((atI p0 s12.2).bind fun v16 =>
  ((s_l00In_m v15.Rest 0 (w64 (v16.Every - 1))).bind fun v17 =>
  some (!v17))))))) : Option Bool).bind fun v18 =>
  (if v18 = true then
  some (.inr (.inr (0, false)))
  else
  ((atI p0 s12.2).bind fun v19 =>
  ((atI p0 s12.2).bind fun v20 =>
  ((s_l02Gcd_m s12.1 v19.Every).bind fun v21 =>
  (chk (v21 ≠ 0) (
  (if 2000 < (w64 ((w64 (s12.1.tdiv v21)) * v20.Every)) then
  some (.inr (.inr (0, false)))
  else
  some (.inl (w64 ((w64 (s12.1.tdiv v21)) * v20.Every), w64 (s12.2 + 1)))))))))))
  else
  some (.inr (.inl s12.1)))) (1, 0) : Option (Int ⊕ (Int × Bool))).bind fun v23x => orE v23x fun v23 =>
  some (v23, decide ((p0.length : Int) ≤ 6)))

def s_l15Months_m (p0 : List Month_) : Option Bool :=
  ((loopM (S := Int) (X := Unit ⊕ Bool) (fun s16 =>
  (if s16 < (p0.length : Int) then
  ((((((atI p0 s16).bind fun v17 =>
  ((s_IsName_m v17.Name).bind fun v18 =>
  (if (!v18) = true then
  some true
  else
  ((atI p0 s16).bind fun v19 =>
  ((s_l00In_m v19.Days 1 60).bind fun v20 =>
  (if (!v20) = true then
  some true
  else
  ((atI p0 s16).bind fun v21 =>
  ((s_l00In_m v21.Leap 1 60).bind fun v22 =>
  some (!v22))))))))) : Option Bool).bind fun v23 =>
  (if v23 = true then
  some (.inr (.inr (.inr false)))
  else
  loopM (S := Int) (X := Unit ⊕ (Int ⊕ (Unit ⊕ Bool))) (fun s27 =>
  (if s27 < s16 then
  ((atI p0 s27).bind fun v28 =>
  ((atI p0 s16).bind fun v29 =>
  (if v28.Name = v29.Name then
  some (.inr (.inr (.inr (.inr false))))
  else
  some (.inl (w64 (s27 + 1))))))
  else
  some (.inr (.inl ())))) 0)) : Option (Unit ⊕ (Int ⊕ (Unit ⊕ Bool)))).bind fun v30x => orE v30x fun v30 =>
  some (.inl (w64 (s16 + 1))))
  else
  some (.inr (.inl ())))) 0 : Option (Unit ⊕ Bool)).bind fun v31x => orE v31x fun v31 =>
  ((s_l00In_m (p0.length : Int) 1 20).bind fun v32 =>
  some v32))

def s_l15Ok_m (p0 : Calendar_) : Option Bool :=
  ((s_l15Years_m p0.Rules).bind fun v1 =>
  (if v1.2 = true then
  ((s_IsName_m p0.Name).bind fun v2 =>
  (if v2 = true then
  ((s_l15Months_m p0.Months).bind fun v3 =>
  (if v3 = true then
  ((s_l00In_m p0.Week 1 12).bind fun v4 =>
  some v4)
  else
  some false))
  else
  some false))
  else
  some false))

def s_l17Ok_m (p0 : List Int) : Option Bool :=
  ((loopM (S := Int) (X := Unit ⊕ Bool) (fun s4 =>
  (if s4 < (p0.length : Int) then
  ((atI p0 s4).bind fun v5 =>
  ((s_l00In_m v5 1 60).bind fun v6 =>
  (if (!v6) = true then
  some (.inr (.inr false))
  else
  some (.inl (w64 (s4 + 1))))))
  else
  some (.inr (.inl ())))) 0 : Option (Unit ⊕ Bool)).bind fun v7x => orE v7x fun v7 =>
  ((s_l00In_m (p0.length : Int) 1 260).bind fun v8 =>
  some v8))

def s_l26Ok_m (p0 : Movement_) : Option Bool :=
  ((((s_IsName_m p0.Name).bind fun v1 =>
  (if (!v1) = true then
  some true
  else
  ((s_l08Ok_m p0.Works).bind fun v2 =>
  (if (!v2) = true then
  some true
  else
  ((s_l08Root_m p0.Works p0.Minute).bind fun v3 =>
  (if (!v3) = true then
  some true
  else
  ((s_l08Root_m p0.Works p0.Hour).bind fun v4 =>
  (if (!v4) = true then
  some true
  else
  ((s_l08Root_m p0.Works p0.Escape).bind fun v5 =>
  some (!v5)))))))))) : Option Bool).bind fun v6 =>
  (if v6 = true then
  some false
  else
  ((s_l05Teeth_m p0.Teeth).bind fun v7 =>
  (if v7 = true then
  ((s_l00In_m p0.Beats 1 36000).bind fun v8 =>
  (if v8 = true then
  ((s_l15Ok_m p0.Calendar).bind fun v9 =>
  (if v9 = true then
  ((s_l17Ok_m p0.Cam).bind fun v10 =>
  (if v10 = true then
  ((s_l00In_m p0.Strike 0 2).bind fun v11 =>
  some v11)
  else
  some false))
  else
  some false))
  else
  some false))
  else
  some false))))

def s_l02Whole_m (p0 : Int) : Option Ratio_ :=
  some (⟨p0, 1⟩ : Ratio_)

def s_l08Pair_m (p0 : Works_) (p1 : Mesh_) : Option Pair_ :=
  ((atI p0.Arbors p1.A).bind fun v1 =>
  ((atI v1.Wheels p1.WheelA).bind fun v2 =>
  ((atI p0.Arbors p1.B).bind fun v3 =>
  ((atI v3.Wheels p1.WheelB).bind fun v4 =>
  some (⟨v2, v4⟩ : Pair_)))))

def s_l02Part_m (p0 : Int) : Option Int :=
  (if p0 < 0 then
  some (IntKind.u64.wrap (-(IntKind.u64.wrap p0)))
  else
  some (IntKind.u64.wrap p0))

def s_l02Make_m (p0 : Int) (p1 : Int) : Option (Ratio_ × Bool) :=
  ((s_l02Part_m p0).bind fun v1 =>
  ((s_l02Part_m p1).bind fun v2 =>
  ((loopM (S := Int × Int) (X := Int) (fun s5 =>
  (if 0 < s5.2 then
  (chk (s5.2 ≠ 0) (
  some (.inl (s5.2, s5.1.tmod s5.2))))
  else
  some (.inr s5.1))) (v1, v2) : Option Int).bind fun v7 =>
  (chk (v7 ≠ 0) (
  (chk (v7 ≠ 0) (
  (((if 1000000000 < (IntKind.u64.wrap (v1.tdiv v7)) then
  some true
  else
  some (decide (1000000000 < (IntKind.u64.wrap (v2.tdiv v7))))) : Option Bool).bind fun v10 =>
  (if v10 = true then
  some ((⟨0, 0⟩ : Ratio_), false)
  else
  (((if ((decide (p0 < 0)) != (decide (p1 < 0))) = true then
  some (⟨w64 (-(w64 (IntKind.u64.wrap (v1.tdiv v7)))), w64 (IntKind.u64.wrap (v2.tdiv v7))⟩ : Ratio_)
  else
  some (⟨w64 (IntKind.u64.wrap (v1.tdiv v7)), w64 (IntKind.u64.wrap (v2.tdiv v7))⟩ : Ratio_)) : Option Ratio_).bind fun v11 =>
  some (v11, true)))))))))))

def s_l02Mul_m (p0 : Ratio_) (p1 : Ratio_) : Option (Ratio_ × Bool) :=
  ((s_l02Make_m (w64 (p0.Num * p1.Num)) (w64 (p0.Den * p1.Den))).bind fun v1 =>
  some (v1.1, v1.2))

def s_l08Round_o_o_m (p0 : Works_) (p1 : List Bool) (p2 : List Ratio_) : Option (Bool × Bool × List Bool × List Ratio_) :=
  ((loopM (S := Bool × Int × List Bool × List Ratio_) (X := (Bool × List Bool × List Ratio_) ⊕ (Bool × Bool × List Bool × List Ratio_)) (fun s14 =>
  (if s14.2.1 < (p0.Meshes.length : Int) then
  ((((atI p0.Meshes s14.2.1).bind fun v15 =>
  ((s_l08Pair_m p0 v15).bind fun v16 =>
  ((atI s14.2.2.1 v15.A).bind fun v17 =>
  ((atI s14.2.2.1 v15.B).bind fun v18 =>
  (if (v17 == v18) = true then
  some (.inl (s14.1, s14.2.2.1, s14.2.2.2))
  else
  ((((atI s14.2.2.1 v15.B).bind fun v19 =>
  (if v19 = true then
  some ((⟨v15.B, 0, v15.A, 0⟩ : Mesh_), (⟨v16.Driven, v16.Driver⟩ : Pair_))
  else
  some (v15, v16))) : Option (Mesh_ × Pair_)).bind fun v20 =>
  ((s_l02Make_m (w64 (-v20.2.Driver)) v20.2.Driven).bind fun v21 =>
  ((atI s14.2.2.2 v20.1.A).bind fun v22 =>
  ((s_l02Mul_m v22 v21.1).bind fun v23 =>
  (if (!v23.2) = true then
  some (.inr (.inr (.inr (false, false, s14.2.2.1, s14.2.2.2))))
  else
  ((atI s14.2.2.2 v20.1.B).bind fun v24 =>
  ((atI s14.2.2.1 v20.1.B).bind fun v25 =>
  some (.inl (true, List.set s14.2.2.1 v20.1.B.toNat true, List.set s14.2.2.2 v20.1.B.toNat v23.1)))))))))))))) : Option ((Bool × List Bool × List Ratio_) ⊕ ((Bool × Int × List Bool × List Ratio_) ⊕ ((Bool × List Bool × List Ratio_) ⊕ (Bool × Bool × List Bool × List Ratio_))))).bind fun v26x => orE v26x fun v26 =>
  some (.inl (v26.1, w64 (s14.2.1 + 1), v26.2.1, v26.2.2)))
  else
  some (.inr (.inl (s14.1, s14.2.2.1, s14.2.2.2))))) (false, 0, p1, p2) : Option ((Bool × List Bool × List Ratio_) ⊕ (Bool × Bool × List Bool × List Ratio_))).bind fun v27x => orE v27x fun v27 =>
  some (v27.1, true, v27.2.1, v27.2.2))

def s_l08Fits_m (p0 : Works_) (p1 : Mesh_) (p2 : List Ratio_) : Option Bool :=
  ((s_l08Pair_m p0 p1).bind fun v1 =>
  ((s_l02Make_m (w64 (-v1.Driver)) v1.Driven).bind fun v2 =>
  ((atI p2 p1.A).bind fun v3 =>
  ((s_l02Mul_m v3 v2.1).bind fun v4 =>
  (if v4.2 = true then
  ((atI p2 p1.B).bind fun v5 =>
  some (decide (v4.1 = v5)))
  else
  some false)))))

def s_l08Speeds_m (p0 : Works_) (p1 : Int) : Option (List Ratio_ × Int) :=
  ((s_l08Root_m p0 p1).bind fun v1 =>
  (if (!v1) = true then
  some (([] : List Ratio_), 2)
  else
  (chk (0 ≤ (p0.Arbors.length : Int) ∧ (p0.Arbors.length : Int) = (p0.Arbors.length : Int) ∧ (p0.Arbors.length : Int).toNat * 1 * 64 ≤ 281474976710656) (
  (chk (0 ≤ (p0.Arbors.length : Int) ∧ (p0.Arbors.length : Int) = (p0.Arbors.length : Int) ∧ (p0.Arbors.length : Int).toNat * 2 * 64 ≤ 281474976710656) (
  ((atI (List.replicate (p0.Arbors.length : Int).toNat false) p1).bind fun v4 =>
  ((s_l02Whole_m 1).bind fun v5 =>
  ((atI (List.replicate (p0.Arbors.length : Int).toNat (⟨0, 0⟩ : Ratio_)) p1).bind fun v6 =>
  ((loopM (S := Bool × List Bool × List Ratio_) (X := (List Bool × List Ratio_) ⊕ (List Ratio_ × Int)) (fun s11 =>
  (if s11.1 = true then
  ((s_l08Round_o_o_m p0 s11.2.1 s11.2.2).bind fun v12 =>
  (chk (v12.2.2.1.length = s11.2.1.length) (
  (chk (v12.2.2.2.length = s11.2.2.length) (
  (if (!v12.2.1) = true then
  some (.inr (.inr (([] : List Ratio_), 2)))
  else
  some (.inl (v12.1, v12.2.2.1, v12.2.2.2))))))))
  else
  some (.inr (.inl (s11.2.1, s11.2.2))))) (true, List.set (List.replicate (p0.Arbors.length : Int).toNat false) p1.toNat true, List.set (List.replicate (p0.Arbors.length : Int).toNat (⟨0, 0⟩ : Ratio_)) p1.toNat v5) : Option ((List Bool × List Ratio_) ⊕ (List Ratio_ × Int))).bind fun v15x => orE v15x fun v15 =>
  ((loopM (S := Int) (X := Unit ⊕ (List Ratio_ × Int)) (fun s18 =>
  (if s18 < (v15.1.length : Int) then
  ((atI v15.1 s18).bind fun v19 =>
  (if (!v19) = true then
  some (.inr (.inr (([] : List Ratio_), 6)))
  else
  some (.inl (w64 (s18 + 1)))))
  else
  some (.inr (.inl ())))) 0 : Option (Unit ⊕ (List Ratio_ × Int))).bind fun v20x => orE v20x fun v20 =>
  ((loopM (S := Int) (X := Unit ⊕ (List Ratio_ × Int)) (fun s24 =>
  (if s24 < (p0.Meshes.length : Int) then
  ((atI p0.Meshes s24).bind fun v25 =>
  ((s_l08Fits_m p0 v25 v15.2).bind fun v26 =>
  (if (!v26) = true then
  some (.inr (.inr (([] : List Ratio_), 10)))
  else
  some (.inl (w64 (s24 + 1))))))
  else
  some (.inr (.inl ())))) 0 : Option (Unit ⊕ (List Ratio_ × Int))).bind fun v27x => orE v27x fun v27 =>
  some (v15.2, 0)))))))))))))

def s_l02Size_m (p0 : Int) : Option Int :=
  (if p0 < 0 then
  some (w64 (-p0))
  else
  some p0)

def s_l26Beats_m (p0 : Movement_) (p1 : Ratio_) : Option Bool :=
  ((s_l02Size_m p1.Num).bind fun v1 =>
  some (decide ((w64 ((w64 (2 * p0.Teeth)) * v1)) = (w64 (p0.Beats * p1.Den)))))

def s_l17Ask_m (p0 : Calendar_) (p1 : List Int) : Option Int :=
  ((((s_l15Ok_m p0).bind fun v1 =>
  (if (!v1) = true then
  some true
  else
  ((s_l17Ok_m p1).bind fun v2 =>
  some (!v2)))) : Option Bool).bind fun v3 =>
  (if v3 = true then
  some 1
  else
  (chk ((p0.Months.length : Int) ≠ 0) (
  (if ((p1.length : Int).tmod (p0.Months.length : Int)) ≠ 0 then
  some 6
  else
  some 0)))))

def s_l26Faults_m (p0 : Movement_) : Option (List ByteArray) :=
  ((s_l08Speeds_m p0.Works p0.Minute).bind fun v1 =>
  (((if v1.2 ≠ 0 then
  (chk ((([] : List ByteArray).length + [(⟨#[119, 111, 114, 107, 115]⟩ : ByteArray)].length) * 1 * 64 ≤ 140737488355328) (
  some (([] : List ByteArray) ++ [(⟨#[119, 111, 114, 107, 115]⟩ : ByteArray)])))
  else
  ((((atI v1.1 p0.Hour).bind fun v3 =>
  (if v3 ≠ (⟨1, 12⟩ : Ratio_) then
  (chk ((([] : List ByteArray).length + [(⟨#[104, 111, 117, 114]⟩ : ByteArray)].length) * 1 * 64 ≤ 140737488355328) (
  some (([] : List ByteArray) ++ [(⟨#[104, 111, 117, 114]⟩ : ByteArray)])))
  else
  some ([] : List ByteArray))) : Option (List ByteArray)).bind fun v5 =>
  ((atI v1.1 p0.Escape).bind fun v6 =>
  ((s_l26Beats_m p0 v6).bind fun v7 =>
  (if (!v7) = true then
  (chk ((v5.length + [(⟨#[98, 101, 97, 116, 115]⟩ : ByteArray)].length) * 1 * 64 ≤ 140737488355328) (
  some (v5 ++ [(⟨#[98, 101, 97, 116, 115]⟩ : ByteArray)])))
  else
  some v5))))) : Option (List ByteArray)).bind fun v9 =>
  ((((s_l17Ask_m p0.Calendar p0.Cam).bind fun v10 =>
  (if v10 ≠ 0 then
  (chk ((v9.length + [(⟨#[99, 97, 109]⟩ : ByteArray)].length) * 1 * 64 ≤ 140737488355328) (
  some (v9 ++ [(⟨#[99, 97, 109]⟩ : ByteArray)])))
  else
  some v9)) : Option (List ByteArray)).bind fun v12 =>
  some v12)))

def s_MovementFaults_m (p0 : Movement_) : Option (List ByteArray) :=
  ((s_l26Ok_m p0).bind fun v1 =>
  (if (!v1) = true then
  some [(⟨#[109, 111, 118, 101, 109, 101, 110, 116]⟩ : ByteArray)]
  else
  ((s_l26Faults_m p0).bind fun v2 =>
  some v2)))

def i_within_m (p0 : Int) (p1 : Int) (p2 : Int) : Option Bool :=
  (if p1 ≤ p0 then
  some (decide (p0 ≤ p2))
  else
  some false)

def i_isArbor_m (p0 : Works_) (p1 : Int) : Option Bool :=
  ((i_within_m p1 0 (w64 ((p0.Arbors.length : Int) - 1))).bind fun v1 =>
  some v1)

def i_toothed_m (p0 : Int) : Option Bool :=
  ((i_within_m p0 6 240).bind fun v1 =>
  some v1)

def i_IsName_m (p0 : ByteArray) : Option Bool :=
  (((if (p0.size : Int) < 1 then
  some true
  else
  some (decide (12 < (p0.size : Int)))) : Option Bool).bind fun v1 =>
  (if v1 = true then
  some false
  else
  (((chk (p0.size ≤ 140737488355328) (
  loopM (S := Int) (X := Unit ⊕ Bool) (fun s8 =>
  (if s8 < ((bytesL p0).length : Int) then
  ((atI (bytesL p0) s8).bind fun v9 =>
  (((if 97 ≤ v9 then
  some (decide (v9 ≤ 122))
  else
  some false) : Option Bool).bind fun v10 =>
  (((if 48 ≤ v9 then
  (if v9 ≤ 57 then
  some true
  else
  some (decide (v9 = 45)))
  else
  some (decide (v9 = 45))) : Option Bool).bind fun v11 =>
  (((if (!v10) = true then
  (if s8 = 0 then
  some true
  else
  some (!v11))
  else
  some false) : Option Bool).bind fun v12 =>
  (if v12 = true then
  some (.inr (.inr false))
  else
  some (.inl (w64 (s8 + 1))))))))
  else
  some (.inr (.inl ())))) 0)) : Option (Unit ⊕ Bool)).bind fun v13x => orE v13x fun v13 =>
  some true)))

def i_validArbor_m (p0 : Arbor_) : Option Bool :=
  ((loopM (S := Int) (X := Unit ⊕ Bool) (fun s4 =>
  (if s4 < (p0.Wheels.length : Int) then
  ((atI p0.Wheels s4).bind fun v5 =>
  ((i_toothed_m v5).bind fun v6 =>
  (if (!v6) = true then
  some (.inr (.inr false))
  else
  some (.inl (w64 (s4 + 1))))))
  else
  some (.inr (.inl ())))) 0 : Option (Unit ⊕ Bool)).bind fun v7x => orE v7x fun v7 =>
  ((i_IsName_m p0.Name).bind fun v8 =>
  (if v8 = true then
  some (decide ((p0.Wheels.length : Int) ≤ 5))
  else
  some false)))

def i_hasWheel_m (p0 : Works_) (p1 : Int) (p2 : Int) : Option Bool :=
  ((i_within_m p1 0 (w64 ((p0.Arbors.length : Int) - 1))).bind fun v1 =>
  (if v1 = true then
  ((atI p0.Arbors p1).bind fun v2 =>
  ((i_within_m p2 0 (w64 ((v2.Wheels.length : Int) - 1))).bind fun v3 =>
  some v3))
  else
  some false))

def i_joins_m (p0 : Works_) (p1 : Mesh_) : Option Bool :=
  (if p1.A ≠ p1.B then
  ((i_hasWheel_m p0 p1.A p1.WheelA).bind fun v1 =>
  (if v1 = true then
  ((i_hasWheel_m p0 p1.B p1.WheelB).bind fun v2 =>
  some v2)
  else
  some false))
  else
  some false)

def i_sameMesh_m (p0 : Mesh_) (p1 : Mesh_) : Option Bool :=
  (if p0 = p1 then
  some true
  else
  some (decide (p0 = (⟨p1.B, p1.WheelB, p1.A, p1.WheelA⟩ : Mesh_))))

def i_ValidWorks_1_m (p0 : Mesh_) (p1 : Mesh_) : Option Bool :=
  ((i_sameMesh_m p1 p0).bind fun v1 =>
  some v1)

def slices_IndexFunc_LMesh_Mesh_i_ValidWorks_1_m (p0 : List Mesh_) (p1_0 : Mesh_) : Option Int :=
  ((loopM (S := Int) (X := Unit ⊕ Int) (fun s4 =>
  (if s4 < (p0.length : Int) then
  ((atI p0 s4).bind fun v5 =>
  ((i_ValidWorks_1_m v5 p1_0).bind fun v6 =>
  (if v6 = true then
  some (.inr (.inr s4))
  else
  some (.inl (w64 (s4 + 1))))))
  else
  some (.inr (.inl ())))) 0 : Option (Unit ⊕ Int)).bind fun v7x => orE v7x fun v7 =>
  some (-1))

def slices_ContainsFunc_LMesh_Mesh_i_ValidWorks_1_m (p0 : List Mesh_) (p1_0 : Mesh_) : Option Bool :=
  ((slices_IndexFunc_LMesh_Mesh_i_ValidWorks_1_m p0 p1_0).bind fun v1 =>
  some (decide (0 ≤ v1)))

def i_ValidWorks_m (p0 : Works_) : Option Bool :=
  (((if 16 < (p0.Arbors.length : Int) then
  some true
  else
  some (decide (24 < (p0.Meshes.length : Int)))) : Option Bool).bind fun v1 =>
  (if v1 = true then
  some false
  else
  ((loopM (S := Int) (X := Unit ⊕ Bool) (fun s11 =>
  (if s11 < (p0.Arbors.length : Int) then
  ((((atI p0.Arbors s11).bind fun v12 =>
  ((i_validArbor_m v12).bind fun v13 =>
  (if (!v13) = true then
  some (.inr (.inr (.inr false)))
  else
  (chk (0 ≤ (0 : Int) ∧ (0 : Int) ≤ s11 ∧ s11 ≤ (p0.Arbors.length : Int)) (
  loopM (S := Int) (X := Unit ⊕ (Int ⊕ (Unit ⊕ Bool))) (fun s17 =>
  (if s17 < ((subL p0.Arbors (0 : Int) s11).length : Int) then
  ((atI (subL p0.Arbors (0 : Int) s11) s17).bind fun v18 =>
  (if v12.Name = v18.Name then
  some (.inr (.inr (.inr (.inr false))))
  else
  some (.inl (w64 (s17 + 1)))))
  else
  some (.inr (.inl ())))) 0))))) : Option (Unit ⊕ (Int ⊕ (Unit ⊕ Bool)))).bind fun v19x => orE v19x fun v19 =>
  some (.inl (w64 (s11 + 1))))
  else
  some (.inr (.inl ())))) 0 : Option (Unit ⊕ Bool)).bind fun v20x => orE v20x fun v20 =>
  ((loopM (S := Int) (X := Unit ⊕ Bool) (fun s27 =>
  (if s27 < (p0.Meshes.length : Int) then
  ((atI p0.Meshes s27).bind fun v28 =>
  ((((i_joins_m p0 v28).bind fun v29 =>
  (if (!v29) = true then
  some true
  else
  (chk (0 ≤ (0 : Int) ∧ (0 : Int) ≤ s27 ∧ s27 ≤ (p0.Meshes.length : Int)) (
  ((slices_ContainsFunc_LMesh_Mesh_i_ValidWorks_1_m (subL p0.Meshes (0 : Int) s27) v28).bind fun v31 =>
  some v31))))) : Option Bool).bind fun v32 =>
  (if v32 = true then
  some (.inr (.inr false))
  else
  some (.inl (w64 (s27 + 1))))))
  else
  some (.inr (.inl ())))) 0 : Option (Unit ⊕ Bool)).bind fun v33x => orE v33x fun v33 =>
  some true))))

def i_ValidCalendar_1_m (p0 : Month_) (p1 : Month_) : Option Bool :=
  some (decide (p0.Name = p1.Name))

def slices_IndexFunc_LMonth_Month_i_ValidCalendar_1_m (p0 : List Month_) (p1_0 : Month_) : Option Int :=
  ((loopM (S := Int) (X := Unit ⊕ Int) (fun s4 =>
  (if s4 < (p0.length : Int) then
  ((atI p0 s4).bind fun v5 =>
  ((i_ValidCalendar_1_m v5 p1_0).bind fun v6 =>
  (if v6 = true then
  some (.inr (.inr s4))
  else
  some (.inl (w64 (s4 + 1))))))
  else
  some (.inr (.inl ())))) 0 : Option (Unit ⊕ Int)).bind fun v7x => orE v7x fun v7 =>
  some (-1))

def slices_ContainsFunc_LMonth_Month_i_ValidCalendar_1_m (p0 : List Month_) (p1_0 : Month_) : Option Bool :=
  ((slices_IndexFunc_LMonth_Month_i_ValidCalendar_1_m p0 p1_0).bind fun v1 =>
  some (decide (0 ≤ v1)))

def i_gcd_m (p0 : Int) (p1 : Int) : Option Int :=
  ((loopM (S := Int × Int) (X := Int) (fun s3 =>
  (if s3.2 ≠ 0 then
  (chk (s3.2 ≠ 0) (
  some (.inl (s3.2, s3.1.tmod s3.2))))
  else
  some (.inr s3.1))) (p0, p1) : Option Int).bind fun v5 =>
  (if v5 < 0 then
  some (w64 (-v5))
  else
  some v5))

def i_cycleYears_m (p0 : List LeapRule_) : Option Int :=
  ((loopM (S := Int × Int) (X := Int) (fun s6 =>
  (if s6.2 < (p0.length : Int) then
  ((((atI p0 s6.2).bind fun v7 =>
  (if s6.1 ≤ 2000 then
  ((i_gcd_m s6.1 v7.Every).bind fun v8 =>
  (chk (v8 ≠ 0) (
  some (w64 ((w64 (s6.1.tdiv v8)) * v7.Every)))))
  else
  some s6.1)) : Option Int).bind fun v10 =>
  some (.inl (v10, w64 (s6.2 + 1))))
  else
  some (.inr s6.1))) (1, 0) : Option Int).bind fun v11 =>
  some v11)

def i_ValidCalendar_m (p0 : Calendar_) : Option Bool :=
  ((((i_IsName_m p0.Name).bind fun v1 =>
  (if (!v1) = true then
  some true
  else
  (if (p0.Months.length : Int) < 1 then
  some true
  else
  (if 20 < (p0.Months.length : Int) then
  some true
  else
  (if 6 < (p0.Rules.length : Int) then
  some true
  else
  ((i_within_m p0.Week 1 12).bind fun v2 =>
  some (!v2))))))) : Option Bool).bind fun v3 =>
  (if v3 = true then
  some false
  else
  ((loopM (S := Int) (X := Unit ⊕ Bool) (fun s12 =>
  (if s12 < (p0.Months.length : Int) then
  ((atI p0.Months s12).bind fun v13 =>
  ((((i_IsName_m v13.Name).bind fun v14 =>
  (if (!v14) = true then
  some true
  else
  ((i_within_m v13.Days 1 60).bind fun v15 =>
  (if (!v15) = true then
  some true
  else
  ((i_within_m v13.Leap 1 60).bind fun v16 =>
  some (!v16)))))) : Option Bool).bind fun v17 =>
  (if v17 = true then
  some (.inr (.inr false))
  else
  (chk (0 ≤ (0 : Int) ∧ (0 : Int) ≤ s12 ∧ s12 ≤ (p0.Months.length : Int)) (
  ((slices_ContainsFunc_LMonth_Month_i_ValidCalendar_1_m (subL p0.Months (0 : Int) s12) v13).bind fun v19 =>
  (if v19 = true then
  some (.inr (.inr false))
  else
  some (.inl (w64 (s12 + 1))))))))))
  else
  some (.inr (.inl ())))) 0 : Option (Unit ⊕ Bool)).bind fun v20x => orE v20x fun v20 =>
  ((loopM (S := Int) (X := Unit ⊕ Bool) (fun s26 =>
  (if s26 < (p0.Rules.length : Int) then
  ((atI p0.Rules s26).bind fun v27 =>
  ((((i_within_m v27.Every 1 1000).bind fun v28 =>
  (if (!v28) = true then
  some true
  else
  ((i_within_m v27.Rest 0 (w64 (v27.Every - 1))).bind fun v29 =>
  some (!v29)))) : Option Bool).bind fun v30 =>
  (if v30 = true then
  some (.inr (.inr false))
  else
  some (.inl (w64 (s26 + 1))))))
  else
  some (.inr (.inl ())))) 0 : Option (Unit ⊕ Bool)).bind fun v31x => orE v31x fun v31 =>
  ((i_cycleYears_m p0.Rules).bind fun v32 =>
  some (decide (v32 ≤ 2000)))))))

def i_ValidCam_m (p0 : List Int) : Option Bool :=
  ((loopM (S := Int) (X := Unit ⊕ Bool) (fun s4 =>
  (if s4 < (p0.length : Int) then
  ((atI p0 s4).bind fun v5 =>
  ((i_within_m v5 1 60).bind fun v6 =>
  (if (!v6) = true then
  some (.inr (.inr false))
  else
  some (.inl (w64 (s4 + 1))))))
  else
  some (.inr (.inl ())))) 0 : Option (Unit ⊕ Bool)).bind fun v7x => orE v7x fun v7 =>
  (if 1 ≤ (p0.length : Int) then
  some (decide ((p0.length : Int) ≤ 260))
  else
  some false))

def i_ValidMovement_m (p0 : Movement_) : Option Bool :=
  ((((i_isArbor_m p0.Works p0.Minute).bind fun v1 =>
  (if v1 = true then
  ((i_isArbor_m p0.Works p0.Hour).bind fun v2 =>
  (if v2 = true then
  ((i_isArbor_m p0.Works p0.Escape).bind fun v3 =>
  some v3)
  else
  some false))
  else
  some false)) : Option Bool).bind fun v4 =>
  ((((i_toothed_m p0.Teeth).bind fun v5 =>
  (if v5 = true then
  ((i_within_m p0.Beats 1 36000).bind fun v6 =>
  (if v6 = true then
  ((i_within_m p0.Strike 0 2).bind fun v7 =>
  some v7)
  else
  some false))
  else
  some false)) : Option Bool).bind fun v8 =>
  (if v4 = true then
  (if v8 = true then
  ((i_IsName_m p0.Name).bind fun v9 =>
  (if v9 = true then
  ((i_ValidWorks_m p0.Works).bind fun v10 =>
  (if v10 = true then
  ((i_ValidCalendar_m p0.Calendar).bind fun v11 =>
  (if v11 = true then
  ((i_ValidCam_m p0.Cam).bind fun v12 =>
  some v12)
  else
  some false))
  else
  some false))
  else
  some false))
  else
  some false)
  else
  some false)))

def i_pairOf_m (p0 : Works_) (p1 : Mesh_) : Option Pair_ :=
  ((atI p0.Arbors p1.A).bind fun v1 =>
  ((atI v1.Wheels p1.WheelA).bind fun v2 =>
  ((atI p0.Arbors p1.B).bind fun v3 =>
  ((atI v3.Wheels p1.WheelB).bind fun v4 =>
  some (⟨v2, v4⟩ : Pair_)))))

def i_magnitude_m (p0 : Int) : Option Int :=
  (if p0 < 0 then
  some (IntKind.u64.wrap (-(IntKind.u64.wrap p0)))
  else
  some (IntKind.u64.wrap p0))

def i_reduced_m (p0 : Int) (p1 : Int) : Option (Ratio_ × Bool) :=
  ((i_magnitude_m p0).bind fun v1 =>
  ((i_magnitude_m p1).bind fun v2 =>
  ((loopM (S := Int × Int) (X := Int) (fun s5 =>
  (if s5.2 ≠ 0 then
  (chk (s5.2 ≠ 0) (
  some (.inl (s5.2, s5.1.tmod s5.2))))
  else
  some (.inr s5.1))) (v1, v2) : Option Int).bind fun v7 =>
  (chk (v7 ≠ 0) (
  (chk (v7 ≠ 0) (
  (((if 1000000000 < (IntKind.u64.wrap (v1.tdiv v7)) then
  some true
  else
  some (decide (1000000000 < (IntKind.u64.wrap (v2.tdiv v7))))) : Option Bool).bind fun v10 =>
  (if v10 = true then
  some ((⟨0, 0⟩ : Ratio_), false)
  else
  (((if ((decide (p0 < 0)) != (decide (p1 < 0))) = true then
  some (⟨w64 (-(w64 (IntKind.u64.wrap (v1.tdiv v7)))), w64 (IntKind.u64.wrap (v2.tdiv v7))⟩ : Ratio_)
  else
  some (⟨w64 (IntKind.u64.wrap (v1.tdiv v7)), w64 (IntKind.u64.wrap (v2.tdiv v7))⟩ : Ratio_)) : Option Ratio_).bind fun v11 =>
  some (v11, true)))))))))))

def i_MakeRatio_m (p0 : Int) (p1 : Int) : Option (Ratio_ × Int) :=
  (if p1 = 0 then
  some ((⟨0, 0⟩ : Ratio_), 6)
  else
  ((i_reduced_m p0 p1).bind fun v1 =>
  (if (!v1.2) = true then
  some ((⟨0, 0⟩ : Ratio_), 2)
  else
  some (v1.1, 0))))

def i_ValidRatio_m (p0 : Ratio_) : Option Bool :=
  ((i_within_m p0.Den 1 1000000000).bind fun v1 =>
  (if v1 = true then
  ((i_within_m p0.Num (-1000000000) 1000000000).bind fun v2 =>
  (if v2 = true then
  ((i_gcd_m p0.Num p0.Den).bind fun v3 =>
  some (decide (v3 = 1)))
  else
  some false))
  else
  some false))

def i_MulRatio_m (p0 : Ratio_) (p1 : Ratio_) : Option (Ratio_ × Int) :=
  ((((i_ValidRatio_m p0).bind fun v1 =>
  (if (!v1) = true then
  some true
  else
  ((i_ValidRatio_m p1).bind fun v2 =>
  some (!v2)))) : Option Bool).bind fun v3 =>
  (if v3 = true then
  some ((⟨0, 0⟩ : Ratio_), 1)
  else
  ((i_MakeRatio_m (w64 (p0.Num * p1.Num)) (w64 (p0.Den * p1.Den))).bind fun v4 =>
  some (v4.1, v4.2))))

def i_meshed_m (p0 : Ratio_) (p1 : Int) (p2 : Int) : Option (Ratio_ × Int) :=
  ((i_MakeRatio_m (w64 (-p1)) p2).bind fun v1 =>
  ((i_MulRatio_m p0 v1.1).bind fun v2 =>
  some (v2.1, v2.2)))

def i_speedsFrom_m (p0 : Works_) (p1 : Int) : Option (List Ratio_ × Int) :=
  (chk (0 ≤ (p0.Arbors.length : Int) ∧ (p0.Arbors.length : Int) = (p0.Arbors.length : Int) ∧ (p0.Arbors.length : Int).toNat * 2 * 64 ≤ 281474976710656) (
  ((atI (List.replicate (p0.Arbors.length : Int).toNat (⟨0, 0⟩ : Ratio_)) p1).bind fun v2 =>
  ((loopM (S := Bool × List Ratio_) (X := (List Ratio_) ⊕ (List Ratio_ × Int)) (fun s28 =>
  (if s28.1 = true then
  loopM (S := Bool × Int × List Ratio_) (X := (Bool × List Ratio_) ⊕ ((List Ratio_) ⊕ (List Ratio_ × Int))) (fun s41 =>
  (if s41.2.1 < (p0.Meshes.length : Int) then
  ((((atI p0.Meshes s41.2.1).bind fun v42 =>
  ((i_pairOf_m p0 v42).bind fun v43 =>
  ((((atI s41.2.2 v42.A).bind fun v44 =>
  (if v44.Den = 0 then
  some (v42.B, v42.A, (⟨v43.Driven, v43.Driver⟩ : Pair_))
  else
  some (v42.A, v42.B, v43))) : Option (Int × Int × Pair_)).bind fun v45 =>
  ((((atI s41.2.2 v45.1).bind fun v46 =>
  (if v46.Den = 0 then
  some true
  else
  ((atI s41.2.2 v45.2.1).bind fun v47 =>
  some (decide (v47.Den ≠ 0))))) : Option Bool).bind fun v48 =>
  (if v48 = true then
  some (.inl (s41.1, s41.2.2))
  else
  ((atI s41.2.2 v45.1).bind fun v49 =>
  ((i_meshed_m v49 v45.2.2.Driver v45.2.2.Driven).bind fun v50 =>
  (if v50.2 ≠ 0 then
  some (.inr (.inr (.inr (.inr (([] : List Ratio_), v50.2)))))
  else
  ((atI s41.2.2 v45.2.1).bind fun v51 =>
  some (.inl (true, List.set s41.2.2 v45.2.1.toNat v50.1))))))))))) : Option ((Bool × List Ratio_) ⊕ ((Bool × Int × List Ratio_) ⊕ ((Bool × List Ratio_) ⊕ ((List Ratio_) ⊕ (List Ratio_ × Int)))))).bind fun v52x => orE v52x fun v52 =>
  some (.inl (v52.1, w64 (s41.2.1 + 1), v52.2)))
  else
  some (.inr (.inl (s41.1, s41.2.2))))) (false, 0, s28.2)
  else
  some (.inr (.inl s28.2)))) (true, List.set (List.replicate (p0.Arbors.length : Int).toNat (⟨0, 0⟩ : Ratio_)) p1.toNat (⟨1, 1⟩ : Ratio_)) : Option ((List Ratio_) ⊕ (List Ratio_ × Int))).bind fun v53x => orE v53x fun v53 =>
  some (v53, 0)))))

def i_SpeedsOf_1_m (p0 : Ratio_) : Option Bool :=
  some (decide (p0.Den = 0))

def slices_IndexFunc_LRatio_Ratio_i_SpeedsOf_1_m (p0 : List Ratio_) : Option Int :=
  ((loopM (S := Int) (X := Unit ⊕ Int) (fun s4 =>
  (if s4 < (p0.length : Int) then
  ((atI p0 s4).bind fun v5 =>
  ((i_SpeedsOf_1_m v5).bind fun v6 =>
  (if v6 = true then
  some (.inr (.inr s4))
  else
  some (.inl (w64 (s4 + 1))))))
  else
  some (.inr (.inl ())))) 0 : Option (Unit ⊕ Int)).bind fun v7x => orE v7x fun v7 =>
  some (-1))

def slices_ContainsFunc_LRatio_Ratio_i_SpeedsOf_1_m (p0 : List Ratio_) : Option Bool :=
  ((slices_IndexFunc_LRatio_Ratio_i_SpeedsOf_1_m p0).bind fun v1 =>
  some (decide (0 ≤ v1)))

def i_SpeedsOf_m (p0 : Works_) (p1 : Int) : Option (List Ratio_ × Int) :=
  ((i_ValidWorks_m p0).bind fun v1 =>
  (if (!v1) = true then
  some (([] : List Ratio_), 1)
  else
  ((i_within_m p1 0 (w64 ((p0.Arbors.length : Int) - 1))).bind fun v2 =>
  (if (!v2) = true then
  some (([] : List Ratio_), 2)
  else
  ((i_speedsFrom_m p0 p1).bind fun v3 =>
  (if v3.2 ≠ 0 then
  some (([] : List Ratio_), v3.2)
  else
  ((slices_ContainsFunc_LRatio_Ratio_i_SpeedsOf_1_m v3.1).bind fun v4 =>
  (if v4 = true then
  some (([] : List Ratio_), 6)
  else
  ((loopM (S := Int) (X := Unit ⊕ (List Ratio_ × Int)) (fun s12 =>
  (if s12 < (p0.Meshes.length : Int) then
  ((atI p0.Meshes s12).bind fun v13 =>
  ((i_pairOf_m p0 v13).bind fun v14 =>
  ((atI v3.1 v13.A).bind fun v15 =>
  ((i_meshed_m v15 v14.Driver v14.Driven).bind fun v16 =>
  (((if v16.2 ≠ 0 then
  some true
  else
  ((atI v3.1 v13.B).bind fun v17 =>
  some (decide (v16.1 ≠ v17)))) : Option Bool).bind fun v18 =>
  (if v18 = true then
  some (.inr (.inr (([] : List Ratio_), 10)))
  else
  some (.inl (w64 (s12 + 1)))))))))
  else
  some (.inr (.inl ())))) 0 : Option (Unit ⊕ (List Ratio_ × Int))).bind fun v19x => orE v19x fun v19 =>
  some (v3.1, 0))))))))))

def i_abs_m (p0 : Int) : Option Int :=
  (if p0 < 0 then
  some (w64 (-p0))
  else
  some p0)

def i_belongs_m (p0 : Calendar_) (p1 : List Int) : Option Int :=
  (chk ((p0.Months.length : Int) ≠ 0) (
  (if ((p1.length : Int).tmod (p0.Months.length : Int)) ≠ 0 then
  some 0
  else
  (chk ((p0.Months.length : Int) ≠ 0) (
  some (w64 ((p1.length : Int).tdiv (p0.Months.length : Int))))))))

def i_MovementFaults_m (p0 : Movement_) : Option (List ByteArray) :=
  ((i_ValidMovement_m p0).bind fun v1 =>
  (if (!v1) = true then
  some [(⟨#[109, 111, 118, 101, 109, 101, 110, 116]⟩ : ByteArray)]
  else
  ((i_SpeedsOf_m p0.Works p0.Minute).bind fun v2 =>
  (((if v2.2 ≠ 0 then
  (chk ([(⟨#[119, 111, 114, 107, 115]⟩ : ByteArray)].length * 1 * 64 ≤ 140737488355328) (
  some [(⟨#[119, 111, 114, 107, 115]⟩ : ByteArray)]))
  else
  ((((atI v2.1 p0.Hour).bind fun v4 =>
  (if v4 ≠ (⟨1, 12⟩ : Ratio_) then
  (chk ([(⟨#[104, 111, 117, 114]⟩ : ByteArray)].length * 1 * 64 ≤ 140737488355328) (
  some [(⟨#[104, 111, 117, 114]⟩ : ByteArray)]))
  else
  some ([] : List ByteArray))) : Option (List ByteArray)).bind fun v6 =>
  ((atI v2.1 p0.Escape).bind fun v7 =>
  ((i_abs_m v7.Num).bind fun v8 =>
  (if (w64 ((w64 (2 * p0.Teeth)) * v8)) ≠ (w64 (p0.Beats * v7.Den)) then
  (chk ((v6.length + [(⟨#[98, 101, 97, 116, 115]⟩ : ByteArray)].length) * 1 * 64 ≤ 140737488355328) (
  some (v6 ++ [(⟨#[98, 101, 97, 116, 115]⟩ : ByteArray)])))
  else
  some v6))))) : Option (List ByteArray)).bind fun v10 =>
  ((((i_belongs_m p0.Calendar p0.Cam).bind fun v11 =>
  (if v11 = 0 then
  (chk ((v10.length + [(⟨#[99, 97, 109]⟩ : ByteArray)].length) * 1 * 64 ≤ 140737488355328) (
  some (v10 ++ [(⟨#[99, 97, 109]⟩ : ByteArray)])))
  else
  some v10)) : Option (List ByteArray)).bind fun v13 =>
  some v13)))))

def l_eqStringS_m (p0 : List ByteArray) (p1 : List ByteArray) : Option Bool :=
  (if (p0.length : Int) ≠ (p1.length : Int) then
  some false
  else
  ((loopM (S := Int) (X := Unit ⊕ Bool) (fun s4 =>
  (if s4 < (p0.length : Int) then
  ((atI p0 s4).bind fun v5 =>
  ((atI p1 s4).bind fun v6 =>
  (if v5 ≠ v6 then
  some (.inr (.inr false))
  else
  some (.inl (w64 (s4 + 1))))))
  else
  some (.inr (.inl ())))) 0 : Option (Unit ⊕ Bool)).bind fun v7x => orE v7x fun v7 =>
  some true))

def l_eqInt64S_m (p0 : List Int) (p1 : List Int) : Option Bool :=
  (if (p0.length : Int) ≠ (p1.length : Int) then
  some false
  else
  ((loopM (S := Int) (X := Unit ⊕ Bool) (fun s4 =>
  (if s4 < (p0.length : Int) then
  ((atI p0 s4).bind fun v5 =>
  ((atI p1 s4).bind fun v6 =>
  (if v5 ≠ v6 then
  some (.inr (.inr false))
  else
  some (.inl (w64 (s4 + 1))))))
  else
  some (.inr (.inl ())))) 0 : Option (Unit ⊕ Bool)).bind fun v7x => orE v7x fun v7 =>
  some true))

def l_eqArbor_m (p0 : Arbor_) (p1 : Arbor_) : Option Bool :=
  (if p0.Name ≠ p1.Name then
  some false
  else
  ((l_eqInt64S_m p0.Wheels p1.Wheels).bind fun v1 =>
  (if (!v1) = true then
  some false
  else
  some true)))

def l_eqArborS_m (p0 : List Arbor_) (p1 : List Arbor_) : Option Bool :=
  (if (p0.length : Int) ≠ (p1.length : Int) then
  some false
  else
  ((loopM (S := Int) (X := Unit ⊕ Bool) (fun s5 =>
  (if s5 < (p0.length : Int) then
  ((atI p0 s5).bind fun v6 =>
  ((atI p1 s5).bind fun v7 =>
  ((l_eqArbor_m v6 v7).bind fun v8 =>
  (if (!v8) = true then
  some (.inr (.inr false))
  else
  some (.inl (w64 (s5 + 1)))))))
  else
  some (.inr (.inl ())))) 0 : Option (Unit ⊕ Bool)).bind fun v9x => orE v9x fun v9 =>
  some true))

def l_eqMesh_m (p0 : Mesh_) (p1 : Mesh_) : Option Bool :=
  (if p0.A ≠ p1.A then
  some false
  else
  (if p0.WheelA ≠ p1.WheelA then
  some false
  else
  (if p0.B ≠ p1.B then
  some false
  else
  (if p0.WheelB ≠ p1.WheelB then
  some false
  else
  some true))))

def l_eqMeshS_m (p0 : List Mesh_) (p1 : List Mesh_) : Option Bool :=
  (if (p0.length : Int) ≠ (p1.length : Int) then
  some false
  else
  ((loopM (S := Int) (X := Unit ⊕ Bool) (fun s5 =>
  (if s5 < (p0.length : Int) then
  ((atI p0 s5).bind fun v6 =>
  ((atI p1 s5).bind fun v7 =>
  ((l_eqMesh_m v6 v7).bind fun v8 =>
  (if (!v8) = true then
  some (.inr (.inr false))
  else
  some (.inl (w64 (s5 + 1)))))))
  else
  some (.inr (.inl ())))) 0 : Option (Unit ⊕ Bool)).bind fun v9x => orE v9x fun v9 =>
  some true))

def l_eqWorks_m (p0 : Works_) (p1 : Works_) : Option Bool :=
  ((l_eqArborS_m p0.Arbors p1.Arbors).bind fun v1 =>
  (if (!v1) = true then
  some false
  else
  ((l_eqMeshS_m p0.Meshes p1.Meshes).bind fun v2 =>
  (if (!v2) = true then
  some false
  else
  some true))))

def l_eqMonth_m (p0 : Month_) (p1 : Month_) : Option Bool :=
  (if p0.Name ≠ p1.Name then
  some false
  else
  (if p0.Days ≠ p1.Days then
  some false
  else
  (if p0.Leap ≠ p1.Leap then
  some false
  else
  some true)))

def l_eqMonthS_m (p0 : List Month_) (p1 : List Month_) : Option Bool :=
  (if (p0.length : Int) ≠ (p1.length : Int) then
  some false
  else
  ((loopM (S := Int) (X := Unit ⊕ Bool) (fun s5 =>
  (if s5 < (p0.length : Int) then
  ((atI p0 s5).bind fun v6 =>
  ((atI p1 s5).bind fun v7 =>
  ((l_eqMonth_m v6 v7).bind fun v8 =>
  (if (!v8) = true then
  some (.inr (.inr false))
  else
  some (.inl (w64 (s5 + 1)))))))
  else
  some (.inr (.inl ())))) 0 : Option (Unit ⊕ Bool)).bind fun v9x => orE v9x fun v9 =>
  some true))

def l_eqLeapRule_m (p0 : LeapRule_) (p1 : LeapRule_) : Option Bool :=
  (if p0.Every ≠ p1.Every then
  some false
  else
  (if p0.Rest ≠ p1.Rest then
  some false
  else
  (if (p0.Leap != p1.Leap) = true then
  some false
  else
  some true)))

def l_eqLeapRuleS_m (p0 : List LeapRule_) (p1 : List LeapRule_) : Option Bool :=
  (if (p0.length : Int) ≠ (p1.length : Int) then
  some false
  else
  ((loopM (S := Int) (X := Unit ⊕ Bool) (fun s5 =>
  (if s5 < (p0.length : Int) then
  ((atI p0 s5).bind fun v6 =>
  ((atI p1 s5).bind fun v7 =>
  ((l_eqLeapRule_m v6 v7).bind fun v8 =>
  (if (!v8) = true then
  some (.inr (.inr false))
  else
  some (.inl (w64 (s5 + 1)))))))
  else
  some (.inr (.inl ())))) 0 : Option (Unit ⊕ Bool)).bind fun v9x => orE v9x fun v9 =>
  some true))

def l_eqCalendar_m (p0 : Calendar_) (p1 : Calendar_) : Option Bool :=
  (if p0.Name ≠ p1.Name then
  some false
  else
  ((l_eqMonthS_m p0.Months p1.Months).bind fun v1 =>
  (if (!v1) = true then
  some false
  else
  ((l_eqLeapRuleS_m p0.Rules p1.Rules).bind fun v2 =>
  (if (!v2) = true then
  some false
  else
  (if p0.Week ≠ p1.Week then
  some false
  else
  some true))))))

def l_eqMovement_m (p0 : Movement_) (p1 : Movement_) : Option Bool :=
  (if p0.Name ≠ p1.Name then
  some false
  else
  ((l_eqWorks_m p0.Works p1.Works).bind fun v1 =>
  (if (!v1) = true then
  some false
  else
  (if p0.Minute ≠ p1.Minute then
  some false
  else
  (if p0.Hour ≠ p1.Hour then
  some false
  else
  (if p0.Escape ≠ p1.Escape then
  some false
  else
  (if p0.Teeth ≠ p1.Teeth then
  some false
  else
  (if p0.Beats ≠ p1.Beats then
  some false
  else
  ((l_eqCalendar_m p0.Calendar p1.Calendar).bind fun v2 =>
  (if (!v2) = true then
  some false
  else
  ((l_eqInt64S_m p0.Cam p1.Cam).bind fun v3 =>
  (if (!v3) = true then
  some false
  else
  (if p0.Strike ≠ p1.Strike then
  some false
  else
  some true)))))))))))))

def l_markText_m (p0 : Int) : Option ByteArray :=
  (if p0 ≤ 0 then
  some (⟨#[109, 48]⟩ : ByteArray)
  else
  ((loopM (S := Int × ByteArray) (X := ByteArray) (fun s5 =>
  (if 0 < s5.1 then
  (chk ((strOfNums [IntKind.u8.wrap (w64 (48 + (s5.1.tmod 10)))]).size + s5.2.size ≤ 9223372036854775807) (
  some (.inl (w64 (s5.1.tdiv 10), (strOfNums [IntKind.u8.wrap (w64 (48 + (s5.1.tmod 10)))]) ++ s5.2))))
  else
  some (.inr s5.2))) (p0, (⟨#[]⟩ : ByteArray)) : Option ByteArray).bind fun v9 =>
  (chk ((⟨#[109]⟩ : ByteArray).size + v9.size ≤ 9223372036854775807) (
  some ((⟨#[109]⟩ : ByteArray) ++ v9)))))

def l_markInt64S_o_m (p0 : List Int) (p1 : Int) : Option (Int × List Int) :=
  ((loopM (S := Int × Int × List Int) (X := Int × List Int) (fun s3 =>
  (if s3.2.1 < (s3.2.2.length : Int) then
  ((atI s3.2.2 s3.2.1).bind fun v4 =>
  some (.inl (w64 (s3.1 + 1), w64 (s3.2.1 + 1), List.set s3.2.2 s3.2.1.toNat s3.1)))
  else
  some (.inr (s3.1, s3.2.2)))) (p1, 0, p0) : Option (Int × List Int)).bind fun v5 =>
  some (v5.1, v5.2))

def l_markArborS_o_m (p0 : List Arbor_) (p1 : Int) : Option (Int × List Arbor_) :=
  ((loopM (S := Int × Int × List Arbor_) (X := Int × List Arbor_) (fun s7 =>
  (if s7.2.1 < (s7.2.2.length : Int) then
  ((l_markText_m s7.1).bind fun v8 =>
  ((atI s7.2.2 s7.2.1).bind fun v9 =>
  ((atI (List.set s7.2.2 s7.2.1.toNat (⟨v8, v9.Wheels⟩ : Arbor_)) s7.2.1).bind fun v10 =>
  ((l_markInt64S_o_m v10.Wheels (w64 (s7.1 + 1))).bind fun v11 =>
  (chk (v11.2.length = v10.Wheels.length) (
  some (.inl (v11.1, w64 (s7.2.1 + 1), List.set (List.set s7.2.2 s7.2.1.toNat (⟨v8, v9.Wheels⟩ : Arbor_)) s7.2.1.toNat (⟨v10.Name, v11.2⟩ : Arbor_)))))))))
  else
  some (.inr (s7.1, s7.2.2)))) (p1, 0, p0) : Option (Int × List Arbor_)).bind fun v13 =>
  some (v13.1, v13.2))

def l_markMeshS_o_m (p0 : List Mesh_) (p1 : Int) : Option (Int × List Mesh_) :=
  ((loopM (S := Int × Int × List Mesh_) (X := Int × List Mesh_) (fun s6 =>
  (if s6.2.1 < (s6.2.2.length : Int) then
  ((atI s6.2.2 s6.2.1).bind fun v7 =>
  ((atI (List.set s6.2.2 s6.2.1.toNat (⟨s6.1, v7.WheelA, v7.B, v7.WheelB⟩ : Mesh_)) s6.2.1).bind fun v8 =>
  ((atI (List.set (List.set s6.2.2 s6.2.1.toNat (⟨s6.1, v7.WheelA, v7.B, v7.WheelB⟩ : Mesh_)) s6.2.1.toNat (⟨v8.A, w64 (s6.1 + 1), v8.B, v8.WheelB⟩ : Mesh_)) s6.2.1).bind fun v9 =>
  ((atI (List.set (List.set (List.set s6.2.2 s6.2.1.toNat (⟨s6.1, v7.WheelA, v7.B, v7.WheelB⟩ : Mesh_)) s6.2.1.toNat (⟨v8.A, w64 (s6.1 + 1), v8.B, v8.WheelB⟩ : Mesh_)) s6.2.1.toNat (⟨v9.A, v9.WheelA, w64 ((w64 (s6.1 + 1)) + 1), v9.WheelB⟩ : Mesh_)) s6.2.1).bind fun v10 =>
  some (.inl (w64 ((w64 ((w64 ((w64 (s6.1 + 1)) + 1)) + 1)) + 1), w64 (s6.2.1 + 1), List.set (List.set (List.set (List.set s6.2.2 s6.2.1.toNat (⟨s6.1, v7.WheelA, v7.B, v7.WheelB⟩ : Mesh_)) s6.2.1.toNat (⟨v8.A, w64 (s6.1 + 1), v8.B, v8.WheelB⟩ : Mesh_)) s6.2.1.toNat (⟨v9.A, v9.WheelA, w64 ((w64 (s6.1 + 1)) + 1), v9.WheelB⟩ : Mesh_)) s6.2.1.toNat (⟨v10.A, v10.WheelA, v10.B, w64 ((w64 ((w64 (s6.1 + 1)) + 1)) + 1)⟩ : Mesh_)))))))
  else
  some (.inr (s6.1, s6.2.2)))) (p1, 0, p0) : Option (Int × List Mesh_)).bind fun v11 =>
  some (v11.1, v11.2))

def l_markWorks_o_m (p0 : Works_) (p1 : Int) : Option (Int × List Arbor_ × List Mesh_) :=
  ((l_markArborS_o_m p0.Arbors p1).bind fun v1 =>
  (chk (v1.2.length = p0.Arbors.length) (
  ((l_markMeshS_o_m p0.Meshes v1.1).bind fun v3 =>
  (chk (v3.2.length = p0.Meshes.length) (
  some (v3.1, v1.2, v3.2)))))))

def l_markMonthS_o_m (p0 : List Month_) (p1 : Int) : Option (Int × List Month_) :=
  ((loopM (S := Int × Int × List Month_) (X := Int × List Month_) (fun s6 =>
  (if s6.2.1 < (s6.2.2.length : Int) then
  ((l_markText_m s6.1).bind fun v7 =>
  ((atI s6.2.2 s6.2.1).bind fun v8 =>
  ((atI (List.set s6.2.2 s6.2.1.toNat (⟨v7, v8.Days, v8.Leap⟩ : Month_)) s6.2.1).bind fun v9 =>
  ((atI (List.set (List.set s6.2.2 s6.2.1.toNat (⟨v7, v8.Days, v8.Leap⟩ : Month_)) s6.2.1.toNat (⟨v9.Name, w64 (s6.1 + 1), v9.Leap⟩ : Month_)) s6.2.1).bind fun v10 =>
  some (.inl (w64 ((w64 ((w64 (s6.1 + 1)) + 1)) + 1), w64 (s6.2.1 + 1), List.set (List.set (List.set s6.2.2 s6.2.1.toNat (⟨v7, v8.Days, v8.Leap⟩ : Month_)) s6.2.1.toNat (⟨v9.Name, w64 (s6.1 + 1), v9.Leap⟩ : Month_)) s6.2.1.toNat (⟨v10.Name, v10.Days, w64 ((w64 (s6.1 + 1)) + 1)⟩ : Month_)))))))
  else
  some (.inr (s6.1, s6.2.2)))) (p1, 0, p0) : Option (Int × List Month_)).bind fun v11 =>
  some (v11.1, v11.2))

def l_markLeapRuleS_o_m (p0 : List LeapRule_) (p1 : Int) : Option (Int × List LeapRule_) :=
  ((loopM (S := Int × Int × List LeapRule_) (X := Int × List LeapRule_) (fun s6 =>
  (if s6.2.1 < (s6.2.2.length : Int) then
  ((atI s6.2.2 s6.2.1).bind fun v7 =>
  ((atI (List.set s6.2.2 s6.2.1.toNat (⟨s6.1, v7.Rest, v7.Leap⟩ : LeapRule_)) s6.2.1).bind fun v8 =>
  ((atI (List.set (List.set s6.2.2 s6.2.1.toNat (⟨s6.1, v7.Rest, v7.Leap⟩ : LeapRule_)) s6.2.1.toNat (⟨v8.Every, w64 (s6.1 + 1), v8.Leap⟩ : LeapRule_)) s6.2.1).bind fun v10 =>
  some (.inl (w64 ((w64 ((w64 (s6.1 + 1)) + 1)) + 1), w64 (s6.2.1 + 1), List.set (List.set (List.set s6.2.2 s6.2.1.toNat (⟨s6.1, v7.Rest, v7.Leap⟩ : LeapRule_)) s6.2.1.toNat (⟨v8.Every, w64 (s6.1 + 1), v8.Leap⟩ : LeapRule_)) s6.2.1.toNat (⟨v10.Every, v10.Rest, decide (((w64 ((w64 (s6.1 + 1)) + 1)).tmod 3) = 0)⟩ : LeapRule_))))))
  else
  some (.inr (s6.1, s6.2.2)))) (p1, 0, p0) : Option (Int × List LeapRule_)).bind fun v11 =>
  some (v11.1, v11.2))

def l_markCalendar_o_m (p0 : Calendar_) (p1 : Int) : Option (Int × List Month_ × List LeapRule_) :=
  ((l_markMonthS_o_m p0.Months p1).bind fun v1 =>
  (chk (v1.2.length = p0.Months.length) (
  ((l_markLeapRuleS_o_m p0.Rules v1.1).bind fun v3 =>
  (chk (v3.2.length = p0.Rules.length) (
  some (v3.1, v1.2, v3.2)))))))

def l_markMovement_o_m (p0 : Movement_) (p1 : Int) : Option (Int × List Arbor_ × List Mesh_ × List Month_ × List LeapRule_ × List Int) :=
  ((l_markWorks_o_m p0.Works p1).bind fun v1 =>
  (chk (v1.2.1.length = p0.Works.Arbors.length) (
  (chk (v1.2.2.length = p0.Works.Meshes.length) (
  ((l_markCalendar_o_m p0.Calendar v1.1).bind fun v4 =>
  (chk (v4.2.1.length = p0.Calendar.Months.length) (
  (chk (v4.2.2.length = p0.Calendar.Rules.length) (
  ((l_markInt64S_o_m p0.Cam v4.1).bind fun v7 =>
  (chk (v7.2.length = p0.Cam.length) (
  some (v7.1, v1.2.1, v1.2.2, v4.2.1, v4.2.2, v7.2))))))))))))))

def l_markStringS_o_m (p0 : List ByteArray) (p1 : Int) : Option (Int × List ByteArray) :=
  ((loopM (S := Int × Int × List ByteArray) (X := Int × List ByteArray) (fun s4 =>
  (if s4.2.1 < (s4.2.2.length : Int) then
  ((l_markText_m s4.1).bind fun v5 =>
  ((atI s4.2.2 s4.2.1).bind fun v6 =>
  some (.inl (w64 (s4.1 + 1), w64 (s4.2.1 + 1), List.set s4.2.2 s4.2.1.toNat v5))))
  else
  some (.inr (s4.1, s4.2.2)))) (p1, 0, p0) : Option (Int × List ByteArray)).bind fun v7 =>
  some (v7.1, v7.2))

def l_heldStringS_m (p0 : List ByteArray) (p1 : Int) : Option Int :=
  ((loopM (S := Int × Int) (X := Int ⊕ Int) (fun s4 =>
  (if s4.2 < (p0.length : Int) then
  ((atI p0 s4.2).bind fun v5 =>
  ((l_markText_m s4.1).bind fun v6 =>
  (if v5 ≠ v6 then
  some (.inr (.inr (-1)))
  else
  some (.inl (w64 (s4.1 + 1), w64 (s4.2 + 1))))))
  else
  some (.inr (.inl s4.1)))) (p1, 0) : Option (Int ⊕ Int)).bind fun v7x => orE v7x fun v7 =>
  some v7)

def l_FnExactMovementFaults_m (p0 : Movement_) : Option Bool :=
  ((l_szMovement_m p0 1048576).bind fun v1 =>
  (if v1 < 0 then
  some true
  else
  ((l_toMovement_m p0).bind fun v2 =>
  ((s_MovementFaults_m v2).bind fun v3 =>
  ((l_toMovement_m p0).bind fun v4 =>
  ((i_MovementFaults_m v4).bind fun v5 =>
  ((l_eqStringS_m v5 v3).bind fun v6 =>
  (if (!v6) = true then
  some false
  else
  ((l_toMovement_m p0).bind fun v7 =>
  ((l_eqMovement_m v4 v7).bind fun v8 =>
  (if (!v8) = true then
  some false
  else
  ((l_markMovement_o_m v4 1).bind fun v9 =>
  (chk (v9.2.1.length = v4.Works.Arbors.length) (
  (chk (v9.2.2.1.length = v4.Works.Meshes.length) (
  (chk (v9.2.2.2.1.length = v4.Calendar.Months.length) (
  (chk (v9.2.2.2.2.1.length = v4.Calendar.Rules.length) (
  (chk (v9.2.2.2.2.2.length = v4.Cam.length) (
  (((if v9.1 < 0 then
  some true
  else
  ((l_eqStringS_m v5 v3).bind fun v15 =>
  some (!v15))) : Option Bool).bind fun v16 =>
  (if v16 = true then
  some false
  else
  ((l_markStringS_o_m v5 1).bind fun v17 =>
  (chk (v17.2.length = v5.length) (
  ((l_heldStringS_m v17.2 1).bind fun v19 =>
  (if v19 < 0 then
  some false
  else
  (if v19 ≠ v17.1 then
  some false
  else
  ((l_toMovement_m p0).bind fun v20 =>
  ((i_MovementFaults_m v20).bind fun v21 =>
  ((l_eqStringS_m v21 v3).bind fun v22 =>
  (if (!v22) = true then
  some false
  else
  ((l_heldStringS_m v17.2 1).bind fun v23 =>
  (if v23 < 0 then
  some false
  else
  (if v23 ≠ v17.1 then
  some false
  else
  some true)))))))))))))))))))))))))))))))))))))

def l_szPerpetual_m (p0 : Perpetual_) (p1 : Int) : Option Int :=
  ((l_szInt64S_m p0.Cam p1).bind fun v1 =>
  (if v1 < 0 then
  some (-1)
  else
  some v1))

def l_szSim_m (p0 : Sim_) (p1 : Int) : Option Int :=
  ((l_szMovement_m p0.Movement p1).bind fun v1 =>
  (if v1 < 0 then
  some (-1)
  else
  ((l_szPerpetual_m p0.Dial v1).bind fun v2 =>
  (if v2 < 0 then
  some (-1)
  else
  some v2))))

def l_toDate_m (p0 : Date_) : Option Date_ :=
  some p0

def l_toPerpetual_m (p0 : Perpetual_) : Option Perpetual_ :=
  ((l_toInt64S_m p0.Cam).bind fun v1 =>
  some (⟨v1, p0.Months, p0.Teeth, p0.At, p0.Day, p0.Week, p0.Weekday⟩ : Perpetual_))

def l_toSim_m (p0 : Sim_) : Option Sim_ :=
  ((l_toMovement_m p0.Movement).bind fun v1 =>
  ((l_toDate_m p0.Start).bind fun v2 =>
  ((l_toPerpetual_m p0.Dial).bind fun v3 =>
  some (⟨v1, v2, p0.First, p0.Clock, v3⟩ : Sim_))))

def s_l18Ok_m (p0 : Perpetual_) : Option Bool :=
  ((((s_l17Ok_m p0.Cam).bind fun v1 =>
  (if (!v1) = true then
  some true
  else
  (if p0.Months < 1 then
  some true
  else
  (chk (p0.Months ≠ 0) (
  (if ((p0.Cam.length : Int).tmod p0.Months) ≠ 0 then
  some true
  else
  ((s_l00In_m p0.Teeth 1 60).bind fun v3 =>
  some (!v3)))))))) : Option Bool).bind fun v4 =>
  (if v4 = true then
  some false
  else
  ((loopM (S := Int) (X := Unit ⊕ Bool) (fun s7 =>
  (if s7 < (p0.Cam.length : Int) then
  ((atI p0.Cam s7).bind fun v8 =>
  (if p0.Teeth < v8 then
  some (.inr (.inr false))
  else
  some (.inl (w64 (s7 + 1)))))
  else
  some (.inr (.inl ())))) 0 : Option (Unit ⊕ Bool)).bind fun v9x => orE v9x fun v9 =>
  ((s_l00In_m p0.At 0 (w64 ((p0.Cam.length : Int) - 1))).bind fun v10 =>
  (if v10 = true then
  ((s_l00In_m p0.Day 1 p0.Teeth).bind fun v11 =>
  (if v11 = true then
  ((s_l00In_m p0.Week 1 12).bind fun v12 =>
  (if v12 = true then
  ((s_l00In_m p0.Weekday 1 p0.Week).bind fun v13 =>
  some v13)
  else
  some false))
  else
  some false))
  else
  some false)))))

def s_l15Year_m (p0 : Int) : Option Bool :=
  ((s_l00In_m p0 0 9999).bind fun v1 =>
  some v1)

def s_l15Leap_m (p0 : Calendar_) (p1 : Int) : Option Bool :=
  ((loopM (S := Bool × Int) (X := Bool) (fun s7 =>
  (if s7.2 < (p0.Rules.length : Int) then
  ((((atI p0.Rules s7.2).bind fun v8 =>
  (chk (v8.Every ≠ 0) (
  ((atI p0.Rules s7.2).bind fun v10 =>
  (if (p1.tmod v8.Every) = v10.Rest then
  ((atI p0.Rules s7.2).bind fun v11 =>
  some v11.Leap)
  else
  some s7.1))))) : Option Bool).bind fun v12 =>
  some (.inl (v12, w64 (s7.2 + 1))))
  else
  some (.inr s7.1))) (false, 0) : Option Bool).bind fun v13 =>
  some v13)

def s_l15Days_m (p0 : Calendar_) (p1 : Int) (p2 : Int) : Option Int :=
  ((s_l15Leap_m p0 p1).bind fun v1 =>
  (if v1 = true then
  ((atI p0.Months p2).bind fun v2 =>
  some v2.Leap)
  else
  ((atI p0.Months p2).bind fun v3 =>
  some v3.Days)))

def s_l16Ok_m (p0 : Calendar_) (p1 : Date_) : Option Bool :=
  ((((s_l15Year_m p1.Year).bind fun v1 =>
  (if (!v1) = true then
  some true
  else
  ((s_l00In_m p1.Month 1 (p0.Months.length : Int)).bind fun v2 =>
  some (!v2)))) : Option Bool).bind fun v3 =>
  (if v3 = true then
  some false
  else
  ((s_l15Days_m p0 p1.Year (w64 (p1.Month - 1))).bind fun v4 =>
  ((s_l00In_m p1.Day 1 v4).bind fun v5 =>
  some v5))))

def s_l00Own_m (p0 : List Int) : Option (List Int) :=
  (chk ((([] : List Int).length + p0.length) * 1 * 64 ≤ 140737488355328) (
  some (([] : List Int) ++ p0)))

def s_l00Max_m (p0 : Int) (p1 : Int) : Option Int :=
  (if p1 < p0 then
  some p0
  else
  some p1)

def s_SetPerpetual_m (p0 : Calendar_) (p1 : List Int) (p2 : Date_) (p3 : Int) : Option (Perpetual_ × Int) :=
  ((s_l17Ask_m p0 p1).bind fun v1 =>
  (if v1 ≠ 0 then
  some ((⟨([] : List Int), 0, 0, 0, 0, 0, 0⟩ : Perpetual_), v1)
  else
  ((((s_l16Ok_m p0 p2).bind fun v2 =>
  (if (!v2) = true then
  some true
  else
  ((s_l00In_m p3 1 p0.Week).bind fun v3 =>
  some (!v3)))) : Option Bool).bind fun v4 =>
  (if v4 = true then
  some ((⟨([] : List Int), 0, 0, 0, 0, 0, 0⟩ : Perpetual_), 2)
  else
  ((s_l00Own_m p1).bind fun v5 =>
  (chk ((p0.Months.length : Int) ≠ 0) (
  (chk ((w64 ((p1.length : Int).tdiv (p0.Months.length : Int))) ≠ 0) (
  ((loopM (S := Int × Int) (X := Int) (fun s11 =>
  (if s11.1 < (p1.length : Int) then
  ((atI p1 s11.1).bind fun v12 =>
  ((s_l00Max_m s11.2 v12).bind fun v13 =>
  some (.inl (w64 (s11.1 + 1), v13))))
  else
  some (.inr s11.2))) (0, 0) : Option Int).bind fun v14 =>
  ((loopM (S := Int × Int) (X := Int) (fun s20 =>
  (if s20.1 < (p0.Months.length : Int) then
  ((atI p0.Months s20.1).bind fun v21 =>
  ((atI p0.Months s20.1).bind fun v22 =>
  ((s_l00Max_m v21.Days v22.Leap).bind fun v23 =>
  ((s_l00Max_m s20.2 v23).bind fun v24 =>
  some (.inl (w64 (s20.1 + 1), v24))))))
  else
  some (.inr s20.2))) (0, v14) : Option Int).bind fun v25 =>
  some ((⟨v5, (p0.Months.length : Int), v25, w64 ((w64 ((w64 ((p2.Year.tmod (w64 ((p1.length : Int).tdiv (p0.Months.length : Int)))) * (p0.Months.length : Int))) + p2.Month)) - 1), p2.Day, p0.Week, p3⟩ : Perpetual_), 0))))))))))))

def s_l27Dial_m (p0 : Movement_) (p1 : Date_) (p2 : Int) : Option (Perpetual_ × Int) :=
  ((s_SetPerpetual_m p0.Calendar p0.Cam p1 p2).bind fun v1 =>
  some (v1.1, v1.2))

def s_l00Same_m (p0 : List Int) (p1 : List Int) : Option Bool :=
  (if (p0.length : Int) ≠ (p1.length : Int) then
  some false
  else
  ((loopM (S := Int) (X := Unit ⊕ Bool) (fun s4 =>
  (if s4 < (p0.length : Int) then
  ((atI p0 s4).bind fun v5 =>
  ((atI p1 s4).bind fun v6 =>
  (if v5 ≠ v6 then
  some (.inr (.inr false))
  else
  some (.inl (w64 (s4 + 1))))))
  else
  some (.inr (.inl ())))) 0 : Option (Unit ⊕ Bool)).bind fun v7x => orE v7x fun v7 =>
  some true))

def s_l27Ok_m (p0 : Sim_) : Option Bool :=
  ((((s_l26Ok_m p0.Movement).bind fun v1 =>
  (if (!v1) = true then
  some true
  else
  ((s_l26Faults_m p0.Movement).bind fun v2 =>
  (if 0 < (v2.length : Int) then
  some true
  else
  ((s_l00In_m p0.Clock 0 1000000000).bind fun v3 =>
  (if (!v3) = true then
  some true
  else
  ((s_l18Ok_m p0.Dial).bind fun v4 =>
  some (!v4)))))))) : Option Bool).bind fun v5 =>
  (if v5 = true then
  some false
  else
  ((s_l27Dial_m p0.Movement p0.Start p0.First).bind fun v6 =>
  (if v6.2 = 0 then
  ((s_l00Same_m p0.Dial.Cam p0.Movement.Cam).bind fun v7 =>
  (if v7 = true then
  (if p0.Dial.Months = v6.1.Months then
  (if p0.Dial.Week = v6.1.Week then
  some (decide (p0.Dial.Teeth = v6.1.Teeth))
  else
  some false)
  else
  some false)
  else
  some false))
  else
  some false))))

def s_ValidSim_m (p0 : Sim_) : Option Bool :=
  ((s_l27Ok_m p0).bind fun v1 =>
  some v1)

def i_askedCam_m (p0 : Calendar_) (p1 : List Int) : Option Int :=
  ((((i_ValidCalendar_m p0).bind fun v1 =>
  (if (!v1) = true then
  some true
  else
  ((i_ValidCam_m p1).bind fun v2 =>
  some (!v2)))) : Option Bool).bind fun v3 =>
  (if v3 = true then
  some 1
  else
  ((i_belongs_m p0 p1).bind fun v4 =>
  (if v4 = 0 then
  some 6
  else
  some 0))))

def i_isYear_m (p0 : Int) : Option Bool :=
  ((i_within_m p0 0 9999).bind fun v1 =>
  some v1)

def i_isMonth_m (p0 : Calendar_) (p1 : Int) : Option Bool :=
  ((i_within_m p1 1 (p0.Months.length : Int)).bind fun v1 =>
  some v1)

def i_isLeap_m (p0 : Calendar_) (p1 : Int) : Option Bool :=
  ((loopM (S := Bool × Int) (X := Bool) (fun s5 =>
  (if s5.2 < (p0.Rules.length : Int) then
  ((((atI p0.Rules s5.2).bind fun v6 =>
  (chk (v6.Every ≠ 0) (
  (if (p1.tmod v6.Every) = v6.Rest then
  some v6.Leap
  else
  some s5.1)))) : Option Bool).bind fun v8 =>
  some (.inl (v8, w64 (s5.2 + 1))))
  else
  some (.inr s5.1))) (false, 0) : Option Bool).bind fun v9 =>
  some v9)

def i_daysOfMonth_m (p0 : Calendar_) (p1 : Bool) (p2 : Int) : Option Int :=
  (if p1 = true then
  ((atI p0.Months (w64 (p2 - 1))).bind fun v1 =>
  some v1.Leap)
  else
  ((atI p0.Months (w64 (p2 - 1))).bind fun v2 =>
  some v2.Days))

def i_ValidDate_m (p0 : Calendar_) (p1 : Date_) : Option Bool :=
  ((i_ValidCalendar_m p0).bind fun v1 =>
  (if v1 = true then
  ((i_isYear_m p1.Year).bind fun v2 =>
  (if v2 = true then
  ((i_isMonth_m p0 p1.Month).bind fun v3 =>
  (if v3 = true then
  ((i_isLeap_m p0 p1.Year).bind fun v4 =>
  ((i_daysOfMonth_m p0 v4 p1.Month).bind fun v5 =>
  ((i_within_m p1.Day 1 v5).bind fun v6 =>
  some v6)))
  else
  some false))
  else
  some false))
  else
  some false))

def slices_Max_Lint64_int64_m (p0 : List Int) : Option Int :=
  (((if (p0.length : Int) < 1 then
  none
  else
  some ()) : Option Unit).bind fun v1 =>
  ((atI p0 0).bind fun v2 =>
  ((loopM (S := Int × Int) (X := Int) (fun s5 =>
  (if s5.2 < (p0.length : Int) then
  ((atI p0 s5.2).bind fun v6 =>
  some (.inl (max s5.1 v6, w64 (s5.2 + 1))))
  else
  some (.inr s5.1))) (v2, 1) : Option Int).bind fun v7 =>
  some v7)))

def slices_Clone_Lint64_int64_m (p0 : List Int) : Option (List Int) :=
  (chk ((([] : List Int).length + p0.length) * 1 * 64 ≤ 140737488355328) (
  some (([] : List Int) ++ p0)))

def i_SetPerpetual_m (p0 : Calendar_) (p1 : List Int) (p2 : Date_) (p3 : Int) : Option (Perpetual_ × Int) :=
  ((i_askedCam_m p0 p1).bind fun v1 =>
  (if v1 ≠ 0 then
  some ((⟨([] : List Int), 0, 0, 0, 0, 0, 0⟩ : Perpetual_), v1)
  else
  ((((i_ValidDate_m p0 p2).bind fun v2 =>
  (if (!v2) = true then
  some true
  else
  ((i_within_m p3 1 p0.Week).bind fun v3 =>
  some (!v3)))) : Option Bool).bind fun v4 =>
  (if v4 = true then
  some ((⟨([] : List Int), 0, 0, 0, 0, 0, 0⟩ : Perpetual_), 2)
  else
  ((slices_Max_Lint64_int64_m p1).bind fun v5 =>
  ((loopM (S := Int × Int) (X := Int) (fun s8 =>
  (if s8.2 < (p0.Months.length : Int) then
  ((atI p0.Months s8.2).bind fun v9 =>
  some (.inl (max (max s8.1 v9.Days) v9.Leap, w64 (s8.2 + 1))))
  else
  some (.inr s8.1))) (v5, 0) : Option Int).bind fun v10 =>
  ((slices_Clone_Lint64_int64_m p1).bind fun v11 =>
  ((i_belongs_m p0 p1).bind fun v12 =>
  (chk (v12 ≠ 0) (
  some ((⟨v11, (p0.Months.length : Int), v10, w64 ((w64 ((w64 ((p2.Year.tmod v12) * (p0.Months.length : Int))) + p2.Month)) - 1), p2.Day, p0.Week, p3⟩ : Perpetual_), 0)))))))))))

def slices_Clone_LMesh_Mesh_m (p0 : List Mesh_) : Option (List Mesh_) :=
  (chk ((([] : List Mesh_).length + p0.length) * 4 * 64 ≤ 140737488355328) (
  some (([] : List Mesh_) ++ p0)))

def i_copyWorks_m (p0 : Works_) : Option Works_ :=
  ((loopM (S := Int × List Arbor_) (X := List Arbor_) (fun s5 =>
  (if s5.1 < (p0.Arbors.length : Int) then
  ((atI p0.Arbors s5.1).bind fun v6 =>
  ((slices_Clone_Lint64_int64_m v6.Wheels).bind fun v7 =>
  (chk ((s5.2.length + 1) * 2 * 64 ≤ 140737488355328) (
  some (.inl (w64 (s5.1 + 1), s5.2 ++ [(⟨v6.Name, v7⟩ : Arbor_)]))))))
  else
  some (.inr s5.2))) (0, ([] : List Arbor_)) : Option (List Arbor_)).bind fun v9 =>
  ((slices_Clone_LMesh_Mesh_m p0.Meshes).bind fun v10 =>
  some (⟨v9, v10⟩ : Works_)))

def slices_Clone_LMonth_Month_m (p0 : List Month_) : Option (List Month_) :=
  (chk ((([] : List Month_).length + p0.length) * 3 * 64 ≤ 140737488355328) (
  some (([] : List Month_) ++ p0)))

def slices_Clone_LLeapRule_LeapRule_m (p0 : List LeapRule_) : Option (List LeapRule_) :=
  (chk ((([] : List LeapRule_).length + p0.length) * 3 * 64 ≤ 140737488355328) (
  some (([] : List LeapRule_) ++ p0)))

def i_copyMovement_m (p0 : Movement_) : Option Movement_ :=
  ((i_copyWorks_m p0.Works).bind fun v1 =>
  ((slices_Clone_LMonth_Month_m p0.Calendar.Months).bind fun v2 =>
  ((slices_Clone_LLeapRule_LeapRule_m p0.Calendar.Rules).bind fun v3 =>
  ((slices_Clone_Lint64_int64_m p0.Cam).bind fun v4 =>
  some (⟨p0.Name, v1, p0.Minute, p0.Hour, p0.Escape, p0.Teeth, p0.Beats, (⟨p0.Calendar.Name, v2, v3, p0.Calendar.Week⟩ : Calendar_), v4, p0.Strike⟩ : Movement_)))))

def i_NewSim_m (p0 : Movement_) (p1 : Date_) (p2 : Int) : Option (Sim_ × Int) :=
  ((i_ValidMovement_m p0).bind fun v1 =>
  (if (!v1) = true then
  some ((⟨(⟨(⟨#[]⟩ : ByteArray), (⟨([] : List Arbor_), ([] : List Mesh_)⟩ : Works_), 0, 0, 0, 0, 0, (⟨(⟨#[]⟩ : ByteArray), ([] : List Month_), ([] : List LeapRule_), 0⟩ : Calendar_), ([] : List Int), 0⟩ : Movement_), (⟨0, 0, 0⟩ : Date_), 0, 0, (⟨([] : List Int), 0, 0, 0, 0, 0, 0⟩ : Perpetual_)⟩ : Sim_), 1)
  else
  ((i_MovementFaults_m p0).bind fun v2 =>
  (if 0 < (v2.length : Int) then
  some ((⟨(⟨(⟨#[]⟩ : ByteArray), (⟨([] : List Arbor_), ([] : List Mesh_)⟩ : Works_), 0, 0, 0, 0, 0, (⟨(⟨#[]⟩ : ByteArray), ([] : List Month_), ([] : List LeapRule_), 0⟩ : Calendar_), ([] : List Int), 0⟩ : Movement_), (⟨0, 0, 0⟩ : Date_), 0, 0, (⟨([] : List Int), 0, 0, 0, 0, 0, 0⟩ : Perpetual_)⟩ : Sim_), 6)
  else
  ((i_SetPerpetual_m p0.Calendar p0.Cam p1 p2).bind fun v3 =>
  (if v3.2 ≠ 0 then
  some ((⟨(⟨(⟨#[]⟩ : ByteArray), (⟨([] : List Arbor_), ([] : List Mesh_)⟩ : Works_), 0, 0, 0, 0, 0, (⟨(⟨#[]⟩ : ByteArray), ([] : List Month_), ([] : List LeapRule_), 0⟩ : Calendar_), ([] : List Int), 0⟩ : Movement_), (⟨0, 0, 0⟩ : Date_), 0, 0, (⟨([] : List Int), 0, 0, 0, 0, 0, 0⟩ : Perpetual_)⟩ : Sim_), v3.2)
  else
  ((i_copyMovement_m p0).bind fun v4 =>
  some ((⟨v4, p1, p2, 0, v3.1⟩ : Sim_), 0))))))))

def i_ValidPerpetual_m (p0 : Perpetual_) : Option Bool :=
  ((((i_ValidCam_m p0.Cam).bind fun v1 =>
  (if (!v1) = true then
  some true
  else
  (if p0.Months < 1 then
  some true
  else
  (chk (p0.Months ≠ 0) (
  some (decide (((p0.Cam.length : Int).tmod p0.Months) ≠ 0))))))) : Option Bool).bind fun v3 =>
  (if v3 = true then
  some false
  else
  (((if 60 < p0.Teeth then
  some true
  else
  ((slices_Max_Lint64_int64_m p0.Cam).bind fun v4 =>
  some (decide (p0.Teeth < v4)))) : Option Bool).bind fun v5 =>
  (if v5 = true then
  some false
  else
  ((i_within_m p0.At 0 (w64 ((p0.Cam.length : Int) - 1))).bind fun v6 =>
  (if v6 = true then
  ((i_within_m p0.Day 1 p0.Teeth).bind fun v7 =>
  (if v7 = true then
  ((i_within_m p0.Week 1 12).bind fun v8 =>
  (if v8 = true then
  ((i_within_m p0.Weekday 1 p0.Week).bind fun v9 =>
  some v9)
  else
  some false))
  else
  some false))
  else
  some false))))))

def slices_Equal_Lint64_int64_m (p0 : List Int) (p1 : List Int) : Option Bool :=
  (if (p0.length : Int) ≠ (p1.length : Int) then
  some false
  else
  ((loopM (S := Int) (X := Unit ⊕ Bool) (fun s4 =>
  (if s4 < (p0.length : Int) then
  ((atI p0 s4).bind fun v5 =>
  ((atI p1 s4).bind fun v6 =>
  (if v5 ≠ v6 then
  some (.inr (.inr false))
  else
  some (.inl (w64 (s4 + 1))))))
  else
  some (.inr (.inl ())))) 0 : Option (Unit ⊕ Bool)).bind fun v7x => orE v7x fun v7 =>
  some true))

def i_ValidSim_m (p0 : Sim_) : Option Bool :=
  ((i_NewSim_m p0.Movement p0.Start p0.First).bind fun v1 =>
  (((if v1.2 ≠ 0 then
  some true
  else
  ((i_within_m p0.Clock 0 1000000000).bind fun v2 =>
  (if (!v2) = true then
  some true
  else
  ((i_ValidPerpetual_m p0.Dial).bind fun v3 =>
  some (!v3))))) : Option Bool).bind fun v4 =>
  (if v4 = true then
  some false
  else
  ((slices_Equal_Lint64_int64_m p0.Dial.Cam v1.1.Dial.Cam).bind fun v5 =>
  (if v5 = true then
  (if p0.Dial.Months = v1.1.Dial.Months then
  (if p0.Dial.Teeth = v1.1.Dial.Teeth then
  some (decide (p0.Dial.Week = v1.1.Dial.Week))
  else
  some false)
  else
  some false)
  else
  some false)))))

def l_eqDate_m (p0 : Date_) (p1 : Date_) : Option Bool :=
  (if p0.Year ≠ p1.Year then
  some false
  else
  (if p0.Month ≠ p1.Month then
  some false
  else
  (if p0.Day ≠ p1.Day then
  some false
  else
  some true)))

def l_eqPerpetual_m (p0 : Perpetual_) (p1 : Perpetual_) : Option Bool :=
  ((l_eqInt64S_m p0.Cam p1.Cam).bind fun v1 =>
  (if (!v1) = true then
  some false
  else
  (if p0.Months ≠ p1.Months then
  some false
  else
  (if p0.Teeth ≠ p1.Teeth then
  some false
  else
  (if p0.At ≠ p1.At then
  some false
  else
  (if p0.Day ≠ p1.Day then
  some false
  else
  (if p0.Week ≠ p1.Week then
  some false
  else
  (if p0.Weekday ≠ p1.Weekday then
  some false
  else
  some true))))))))

def l_eqSim_m (p0 : Sim_) (p1 : Sim_) : Option Bool :=
  ((l_eqMovement_m p0.Movement p1.Movement).bind fun v1 =>
  (if (!v1) = true then
  some false
  else
  ((l_eqDate_m p0.Start p1.Start).bind fun v2 =>
  (if (!v2) = true then
  some false
  else
  (if p0.First ≠ p1.First then
  some false
  else
  (if p0.Clock ≠ p1.Clock then
  some false
  else
  ((l_eqPerpetual_m p0.Dial p1.Dial).bind fun v3 =>
  (if (!v3) = true then
  some false
  else
  some true))))))))

def l_FnExactValidSim_m (p0 : Sim_) : Option Bool :=
  ((l_szSim_m p0 1048576).bind fun v1 =>
  (if v1 < 0 then
  some true
  else
  ((l_toSim_m p0).bind fun v2 =>
  ((s_ValidSim_m v2).bind fun v3 =>
  ((l_toSim_m p0).bind fun v4 =>
  ((i_ValidSim_m v4).bind fun v5 =>
  (if (v5 != v3) = true then
  some false
  else
  ((l_toSim_m p0).bind fun v6 =>
  ((l_eqSim_m v4 v6).bind fun v7 =>
  (if (!v7) = true then
  some false
  else
  some true))))))))))
end Go.Proofs.YtjhadibjjldpdaaGreat
