/- models -/
import Derived.Test.YtdchemiillekjaaGreatDoorAmY
namespace Go.Proofs.YtdchemiillekjaaGreatDoor
open Go.RowKit
set_option linter.unusedVariables false
set_option maxRecDepth 100000
set_option maxHeartbeats 2000000
structure Arbor_ where
  Name : ByteArray
  Wheels : List Int
deriving DecidableEq
def cArbor_ (x : Arbor_) : List DV := [.v (.string x.Name), .sl (List.map cI x.Wheels)]
structure Mesh_ where
  A : Int
  WheelA : Int
  B : Int
  WheelB : Int
deriving DecidableEq
def cMesh_ (x : Mesh_) : List DV := [.v (.int .i64 x.A), .v (.int .i64 x.WheelA), .v (.int .i64 x.B), .v (.int .i64 x.WheelB)]
structure Works_ where
  Arbors : List Arbor_
  Meshes : List Mesh_
deriving DecidableEq
def cWorks_ (x : Works_) : List DV := [.sl (List.map cArbor_ x.Arbors), .sl (List.map cMesh_ x.Meshes)]
structure Month_ where
  Name : ByteArray
  Days : Int
  Leap : Int
deriving DecidableEq
def cMonth_ (x : Month_) : List DV := [.v (.string x.Name), .v (.int .i64 x.Days), .v (.int .i64 x.Leap)]
structure LeapRule_ where
  Every : Int
  Rest : Int
  Leap : Bool
deriving DecidableEq
def cLeapRule_ (x : LeapRule_) : List DV := [.v (.int .i64 x.Every), .v (.int .i64 x.Rest), .v (.bool x.Leap)]
structure Calendar_ where
  Name : ByteArray
  Months : List Month_
  Rules : List LeapRule_
  Week : Int
deriving DecidableEq
def cCalendar_ (x : Calendar_) : List DV := [.v (.string x.Name), .sl (List.map cMonth_ x.Months), .sl (List.map cLeapRule_ x.Rules), .v (.int .i64 x.Week)]
structure Movement_ where
  Name : ByteArray
  Works : Works_
  Minute : Int
  Hour : Int
  Escape : Int
  Teeth : Int
  Beats : Int
  Calendar : Calendar_
  Cam : List Int
  Strike : Int
deriving DecidableEq
def cMovement_ (x : Movement_) : List DV := [.v (.string x.Name), .sl (List.map cArbor_ x.Works.Arbors), .sl (List.map cMesh_ x.Works.Meshes), .v (.int .i64 x.Minute), .v (.int .i64 x.Hour), .v (.int .i64 x.Escape), .v (.int .i64 x.Teeth), .v (.int .i64 x.Beats), .v (.string x.Calendar.Name), .sl (List.map cMonth_ x.Calendar.Months), .sl (List.map cLeapRule_ x.Calendar.Rules), .v (.int .i64 x.Calendar.Week), .sl (List.map cI x.Cam), .v (.int .i64 x.Strike)]
def l_szInt64S_m (p0 : List Int) (p1 : Int) : Option Int :=
  (if (w64 (p1 - (p0.length : Int))) < 0 then
  some (-1)
  else
  some (w64 (p1 - (p0.length : Int))))

def l_szArbor_m (p0 : Arbor_) (p1 : Int) : Option Int :=
  (if (w64 (p1 - (p0.Name.size : Int))) < 0 then
  some (-1)
  else
  ((l_szInt64S_m p0.Wheels (w64 (p1 - (p0.Name.size : Int)))).bind fun v1 =>
  (if v1 < 0 then
  some (-1)
  else
  some v1)))

def l_szArborS_m (p0 : List Arbor_) (p1 : Int) : Option Int :=
  (if (w64 (p1 - (p0.length : Int))) < 0 then
  some (-1)
  else
  ((loopM (S := Int × Int) (X := Int ⊕ Int) (fun s4 =>
  (if s4.2 < (p0.length : Int) then
  ((atI p0 s4.2).bind fun v5 =>
  ((l_szArbor_m v5 s4.1).bind fun v6 =>
  (if v6 < 0 then
  some (.inr (.inr (-1)))
  else
  some (.inl (v6, w64 (s4.2 + 1))))))
  else
  some (.inr (.inl s4.1)))) (w64 (p1 - (p0.length : Int)), 0) : Option (Int ⊕ Int)).bind fun v7x => orE v7x fun v7 =>
  some v7))

def l_szMeshS_m (p0 : List Mesh_) (p1 : Int) : Option Int :=
  (if (w64 (p1 - (p0.length : Int))) < 0 then
  some (-1)
  else
  some (w64 (p1 - (p0.length : Int))))

def l_szWorks_m (p0 : Works_) (p1 : Int) : Option Int :=
  ((l_szArborS_m p0.Arbors p1).bind fun v1 =>
  (if v1 < 0 then
  some (-1)
  else
  ((l_szMeshS_m p0.Meshes v1).bind fun v2 =>
  (if v2 < 0 then
  some (-1)
  else
  some v2))))

def l_szMonth_m (p0 : Month_) (p1 : Int) : Option Int :=
  (if (w64 (p1 - (p0.Name.size : Int))) < 0 then
  some (-1)
  else
  some (w64 (p1 - (p0.Name.size : Int))))

def l_szMonthS_m (p0 : List Month_) (p1 : Int) : Option Int :=
  (if (w64 (p1 - (p0.length : Int))) < 0 then
  some (-1)
  else
  ((loopM (S := Int × Int) (X := Int ⊕ Int) (fun s4 =>
  (if s4.2 < (p0.length : Int) then
  ((atI p0 s4.2).bind fun v5 =>
  ((l_szMonth_m v5 s4.1).bind fun v6 =>
  (if v6 < 0 then
  some (.inr (.inr (-1)))
  else
  some (.inl (v6, w64 (s4.2 + 1))))))
  else
  some (.inr (.inl s4.1)))) (w64 (p1 - (p0.length : Int)), 0) : Option (Int ⊕ Int)).bind fun v7x => orE v7x fun v7 =>
  some v7))

def l_szLeapRuleS_m (p0 : List LeapRule_) (p1 : Int) : Option Int :=
  (if (w64 (p1 - (p0.length : Int))) < 0 then
  some (-1)
  else
  some (w64 (p1 - (p0.length : Int))))

def l_szCalendar_m (p0 : Calendar_) (p1 : Int) : Option Int :=
  (if (w64 (p1 - (p0.Name.size : Int))) < 0 then
  some (-1)
  else
  ((l_szMonthS_m p0.Months (w64 (p1 - (p0.Name.size : Int)))).bind fun v1 =>
  (if v1 < 0 then
  some (-1)
  else
  ((l_szLeapRuleS_m p0.Rules v1).bind fun v2 =>
  (if v2 < 0 then
  some (-1)
  else
  some v2)))))

def l_szMovement_m (p0 : Movement_) (p1 : Int) : Option Int :=
  (if (w64 (p1 - (p0.Name.size : Int))) < 0 then
  some (-1)
  else
  ((l_szWorks_m p0.Works (w64 (p1 - (p0.Name.size : Int)))).bind fun v1 =>
  (if v1 < 0 then
  some (-1)
  else
  ((l_szCalendar_m p0.Calendar v1).bind fun v2 =>
  (if v2 < 0 then
  some (-1)
  else
  ((l_szInt64S_m p0.Cam v2).bind fun v3 =>
  (if v3 < 0 then
  some (-1)
  else
  some v3)))))))

def l_toInt64S_m (p0 : List Int) : Option (List Int) :=
  (chk (0 ≤ (p0.length : Int) ∧ (p0.length : Int) = (p0.length : Int) ∧ (p0.length : Int).toNat * 1 * 64 ≤ 281474976710656) (
  ((loopM (S := Int × List Int) (X := List Int) (fun s5 =>
  (if s5.1 < (p0.length : Int) then
  ((atI p0 s5.1).bind fun v6 =>
  ((atI s5.2 s5.1).bind fun v7 =>
  some (.inl (w64 (s5.1 + 1), List.set s5.2 s5.1.toNat v6))))
  else
  some (.inr s5.2))) (0, List.replicate (p0.length : Int).toNat 0) : Option (List Int)).bind fun v8 =>
  some v8)))

def l_toArbor_m (p0 : Arbor_) : Option Arbor_ :=
  ((l_toInt64S_m p0.Wheels).bind fun v1 =>
  some (⟨p0.Name, v1⟩ : Arbor_))

def l_toArborS_m (p0 : List Arbor_) : Option (List Arbor_) :=
  (chk (0 ≤ (p0.length : Int) ∧ (p0.length : Int) = (p0.length : Int) ∧ (p0.length : Int).toNat * 2 * 64 ≤ 281474976710656) (
  ((loopM (S := Int × List Arbor_) (X := List Arbor_) (fun s6 =>
  (if s6.1 < (p0.length : Int) then
  ((atI p0 s6.1).bind fun v7 =>
  ((l_toArbor_m v7).bind fun v8 =>
  ((atI s6.2 s6.1).bind fun v9 =>
  some (.inl (w64 (s6.1 + 1), List.set s6.2 s6.1.toNat v8)))))
  else
  some (.inr s6.2))) (0, List.replicate (p0.length : Int).toNat (⟨(⟨#[]⟩ : ByteArray), []⟩ : Arbor_)) : Option (List Arbor_)).bind fun v10 =>
  some v10)))

def l_toMesh_m (p0 : Mesh_) : Option Mesh_ :=
  some p0

def l_toMeshS_m (p0 : List Mesh_) : Option (List Mesh_) :=
  (chk (0 ≤ (p0.length : Int) ∧ (p0.length : Int) = (p0.length : Int) ∧ (p0.length : Int).toNat * 4 * 64 ≤ 281474976710656) (
  ((loopM (S := Int × List Mesh_) (X := List Mesh_) (fun s6 =>
  (if s6.1 < (p0.length : Int) then
  ((atI p0 s6.1).bind fun v7 =>
  ((l_toMesh_m v7).bind fun v8 =>
  ((atI s6.2 s6.1).bind fun v9 =>
  some (.inl (w64 (s6.1 + 1), List.set s6.2 s6.1.toNat v8)))))
  else
  some (.inr s6.2))) (0, List.replicate (p0.length : Int).toNat (⟨0, 0, 0, 0⟩ : Mesh_)) : Option (List Mesh_)).bind fun v10 =>
  some v10)))

def l_toWorks_m (p0 : Works_) : Option Works_ :=
  ((l_toArborS_m p0.Arbors).bind fun v1 =>
  ((l_toMeshS_m p0.Meshes).bind fun v2 =>
  some (⟨v1, v2⟩ : Works_)))

def l_toMonth_m (p0 : Month_) : Option Month_ :=
  some p0

def l_toMonthS_m (p0 : List Month_) : Option (List Month_) :=
  (chk (0 ≤ (p0.length : Int) ∧ (p0.length : Int) = (p0.length : Int) ∧ (p0.length : Int).toNat * 3 * 64 ≤ 281474976710656) (
  ((loopM (S := Int × List Month_) (X := List Month_) (fun s6 =>
  (if s6.1 < (p0.length : Int) then
  ((atI p0 s6.1).bind fun v7 =>
  ((l_toMonth_m v7).bind fun v8 =>
  ((atI s6.2 s6.1).bind fun v9 =>
  some (.inl (w64 (s6.1 + 1), List.set s6.2 s6.1.toNat v8)))))
  else
  some (.inr s6.2))) (0, List.replicate (p0.length : Int).toNat (⟨(⟨#[]⟩ : ByteArray), 0, 0⟩ : Month_)) : Option (List Month_)).bind fun v10 =>
  some v10)))

def l_toLeapRule_m (p0 : LeapRule_) : Option LeapRule_ :=
  some p0

def l_toLeapRuleS_m (p0 : List LeapRule_) : Option (List LeapRule_) :=
  (chk (0 ≤ (p0.length : Int) ∧ (p0.length : Int) = (p0.length : Int) ∧ (p0.length : Int).toNat * 3 * 64 ≤ 281474976710656) (
  ((loopM (S := Int × List LeapRule_) (X := List LeapRule_) (fun s6 =>
  (if s6.1 < (p0.length : Int) then
  ((atI p0 s6.1).bind fun v7 =>
  ((l_toLeapRule_m v7).bind fun v8 =>
  ((atI s6.2 s6.1).bind fun v9 =>
  some (.inl (w64 (s6.1 + 1), List.set s6.2 s6.1.toNat v8)))))
  else
  some (.inr s6.2))) (0, List.replicate (p0.length : Int).toNat (⟨0, 0, false⟩ : LeapRule_)) : Option (List LeapRule_)).bind fun v10 =>
  some v10)))

def l_toCalendar_m (p0 : Calendar_) : Option Calendar_ :=
  ((l_toMonthS_m p0.Months).bind fun v1 =>
  ((l_toLeapRuleS_m p0.Rules).bind fun v2 =>
  some (⟨p0.Name, v1, v2, p0.Week⟩ : Calendar_)))

def l_toMovement_m (p0 : Movement_) : Option Movement_ :=
  ((l_toWorks_m p0.Works).bind fun v1 =>
  ((l_toCalendar_m p0.Calendar).bind fun v2 =>
  ((l_toInt64S_m p0.Cam).bind fun v3 =>
  some (⟨p0.Name, v1, p0.Minute, p0.Hour, p0.Escape, p0.Teeth, p0.Beats, v2, v3, p0.Strike⟩ : Movement_))))

def s_l01Small_m (p0 : Int) : Option Bool :=
  (if 97 ≤ p0 then
  some (decide (p0 ≤ 122))
  else
  some false)

def s_l01Digit_m (p0 : Int) : Option Bool :=
  (if 48 ≤ p0 then
  some (decide (p0 ≤ 57))
  else
  some false)

def s_IsName_m (p0 : ByteArray) : Option Bool :=
  (((if p0 = (⟨#[]⟩ : ByteArray) then
  some true
  else
  (if 12 < (p0.size : Int) then
  some true
  else
  ((strAt p0 0).bind fun v1 =>
  ((s_l01Small_m v1).bind fun v2 =>
  some (!v2))))) : Option Bool).bind fun v3 =>
  (if v3 = true then
  some false
  else
  ((loopM (S := Int) (X := Unit ⊕ Bool) (fun s11 =>
  (if s11 < (p0.size : Int) then
  ((((strAt p0 s11).bind fun v12 =>
  ((s_l01Small_m v12).bind fun v13 =>
  (if (!v13) = true then
  ((strAt p0 s11).bind fun v14 =>
  ((s_l01Digit_m v14).bind fun v15 =>
  (if (!v15) = true then
  ((strAt p0 s11).bind fun v16 =>
  some (decide (v16 ≠ 45)))
  else
  some false)))
  else
  some false))) : Option Bool).bind fun v17 =>
  (if v17 = true then
  some (.inr (.inr false))
  else
  some (.inl (w64 (s11 + 1)))))
  else
  some (.inr (.inl ())))) 0 : Option (Unit ⊕ Bool)).bind fun v18x => orE v18x fun v18 =>
  some true)))

def s_l00In_m (p0 : Int) (p1 : Int) (p2 : Int) : Option Bool :=
  (if p1 ≤ p0 then
  some (decide (p0 ≤ p2))
  else
  some false)

def s_l05Teeth_m (p0 : Int) : Option Bool :=
  ((s_l00In_m p0 6 240).bind fun v1 =>
  some v1)

def s_l08Arbor_m (p0 : Arbor_) : Option Bool :=
  ((loopM (S := Int) (X := Unit ⊕ Bool) (fun s4 =>
  (if s4 < (p0.Wheels.length : Int) then
  ((atI p0.Wheels s4).bind fun v5 =>
  ((s_l05Teeth_m v5).bind fun v6 =>
  (if (!v6) = true then
  some (.inr (.inr false))
  else
  some (.inl (w64 (s4 + 1))))))
  else
  some (.inr (.inl ())))) 0 : Option (Unit ⊕ Bool)).bind fun v7x => orE v7x fun v7 =>
  ((s_IsName_m p0.Name).bind fun v8 =>
  (if v8 = true then
  some (decide ((p0.Wheels.length : Int) ≤ 5))
  else
  some false)))

def s_l08Find_m (p0 : Works_) (p1 : ByteArray) : Option Int :=
  ((loopM (S := Int) (X := Unit ⊕ Int) (fun s3 =>
  (if s3 < (p0.Arbors.length : Int) then
  ((atI p0.Arbors s3).bind fun v4 =>
  (if v4.Name = p1 then
  some (.inr (.inr s3))
  else
  some (.inl (w64 (s3 + 1)))))
  else
  some (.inr (.inl ())))) 0 : Option (Unit ⊕ Int)).bind fun v5x => orE v5x fun v5 =>
  some (-1))

def s_l08Wheel_m (p0 : Works_) (p1 : Int) (p2 : Int) : Option Bool :=
  ((s_l00In_m p1 0 (w64 ((p0.Arbors.length : Int) - 1))).bind fun v1 =>
  (if v1 = true then
  ((atI p0.Arbors p1).bind fun v2 =>
  ((s_l00In_m p2 0 (w64 ((v2.Wheels.length : Int) - 1))).bind fun v3 =>
  some v3))
  else
  some false))

def s_l08Mesh_m (p0 : Works_) (p1 : Mesh_) : Option Bool :=
  (if p1.A ≠ p1.B then
  ((s_l08Wheel_m p0 p1.A p1.WheelA).bind fun v1 =>
  (if v1 = true then
  ((s_l08Wheel_m p0 p1.B p1.WheelB).bind fun v2 =>
  some v2)
  else
  some false))
  else
  some false)

def s_l08Equal_m (p0 : Mesh_) (p1 : Mesh_) : Option Bool :=
  (if p0 = p1 then
  some true
  else
  (if p0.A = p1.B then
  (if p0.WheelA = p1.WheelB then
  (if p0.B = p1.A then
  some (decide (p0.WheelB = p1.WheelA))
  else
  some false)
  else
  some false)
  else
  some false))

def s_l08Known_m (p0 : Works_) (p1 : Mesh_) (p2 : Int) : Option Bool :=
  ((loopM (S := Int) (X := Unit ⊕ Bool) (fun s4 =>
  (if s4 < p2 then
  ((atI p0.Meshes s4).bind fun v5 =>
  ((s_l08Equal_m v5 p1).bind fun v6 =>
  (if v6 = true then
  some (.inr (.inr true))
  else
  some (.inl (w64 (s4 + 1))))))
  else
  some (.inr (.inl ())))) 0 : Option (Unit ⊕ Bool)).bind fun v7x => orE v7x fun v7 =>
  some false)

def s_l08Ok_m (p0 : Works_) : Option Bool :=
  ((loopM (S := Int) (X := Unit ⊕ Bool) (fun s7 =>
  (if s7 < (p0.Arbors.length : Int) then
  ((((atI p0.Arbors s7).bind fun v8 =>
  ((s_l08Arbor_m v8).bind fun v9 =>
  (if (!v9) = true then
  some true
  else
  ((atI p0.Arbors s7).bind fun v10 =>
  ((s_l08Find_m p0 v10.Name).bind fun v11 =>
  some (decide (v11 ≠ s7))))))) : Option Bool).bind fun v12 =>
  (if v12 = true then
  some (.inr (.inr false))
  else
  some (.inl (w64 (s7 + 1)))))
  else
  some (.inr (.inl ())))) 0 : Option (Unit ⊕ Bool)).bind fun v13x => orE v13x fun v13 =>
  ((loopM (S := Int) (X := Unit ⊕ Bool) (fun s20 =>
  (if s20 < (p0.Meshes.length : Int) then
  ((((atI p0.Meshes s20).bind fun v21 =>
  ((s_l08Mesh_m p0 v21).bind fun v22 =>
  (if (!v22) = true then
  some true
  else
  ((atI p0.Meshes s20).bind fun v23 =>
  ((s_l08Known_m p0 v23 s20).bind fun v24 =>
  some v24))))) : Option Bool).bind fun v25 =>
  (if v25 = true then
  some (.inr (.inr false))
  else
  some (.inl (w64 (s20 + 1)))))
  else
  some (.inr (.inl ())))) 0 : Option (Unit ⊕ Bool)).bind fun v26x => orE v26x fun v26 =>
  (if (p0.Arbors.length : Int) ≤ 16 then
  some (decide ((p0.Meshes.length : Int) ≤ 24))
  else
  some false)))

def s_l08Root_m (p0 : Works_) (p1 : Int) : Option Bool :=
  ((s_l00In_m p1 0 (w64 ((p0.Arbors.length : Int) - 1))).bind fun v1 =>
  some v1)

def s_l02Gcd_m (p0 : Int) (p1 : Int) : Option Int :=
  ((loopM (S := Int × Int) (X := Int) (fun s3 =>
  (if 0 < s3.2 then
  (chk (s3.2 ≠ 0) (
  some (.inl (s3.2, s3.1.tmod s3.2))))
  else
  some (.inr s3.1))) (p0, p1) : Option Int).bind fun v5 =>
  some v5)

def s_l15Years_m (p0 : List LeapRule_) : Option (Int × Bool) :=
  ((loopM (S := Int × Int) (X := Int ⊕ (Int × Bool)) (fun s12 =>
  (if s12.2 < (p0.length : Int) then
  ((((atI p0 s12.2).bind fun v13 =>
  ((s_l00In_m v13.Every 1 1000).bind fun v14 =>
  (if (!v14) = true then
  some true
  else
  ((atI p0 s12.2).bind fun v15 =>
  ((atI p0 s12.2).bind fun v16 =>
  ((s_l00In_m v15.Rest 0 (w64 (v16.Every - 1))).bind fun v17 =>
  some (!v17))))))) : Option Bool).bind fun v18 =>
  (if v18 = true then
  some (.inr (.inr (0, false)))
  else
  ((atI p0 s12.2).bind fun v19 =>
  ((atI p0 s12.2).bind fun v20 =>
  ((s_l02Gcd_m s12.1 v19.Every).bind fun v21 =>
  (chk (v21 ≠ 0) (
  (if 2000 < (w64 ((w64 (s12.1.tdiv v21)) * v20.Every)) then
  some (.inr (.inr (0, false)))
  else
  some (.inl (w64 ((w64 (s12.1.tdiv v21)) * v20.Every), w64 (s12.2 + 1)))))))))))
  else
  some (.inr (.inl s12.1)))) (1, 0) : Option (Int ⊕ (Int × Bool))).bind fun v23x => orE v23x fun v23 =>
  some (v23, decide ((p0.length : Int) ≤ 6)))

def s_l15Months_m (p0 : List Month_) : Option Bool :=
  ((loopM (S := Int) (X := Unit ⊕ Bool) (fun s16 =>
  (if s16 < (p0.length : Int) then
  ((((((atI p0 s16).bind fun v17 =>
  ((s_IsName_m v17.Name).bind fun v18 =>
  (if (!v18) = true then
  some true
  else
  ((atI p0 s16).bind fun v19 =>
  ((s_l00In_m v19.Days 1 60).bind fun v20 =>
  (if (!v20) = true then
  some true
  else
  ((atI p0 s16).bind fun v21 =>
  ((s_l00In_m v21.Leap 1 60).bind fun v22 =>
  some (!v22))))))))) : Option Bool).bind fun v23 =>
  (if v23 = true then
  some (.inr (.inr (.inr false)))
  else
  loopM (S := Int) (X := Unit ⊕ (Int ⊕ (Unit ⊕ Bool))) (fun s27 =>
  (if s27 < s16 then
  ((atI p0 s27).bind fun v28 =>
  ((atI p0 s16).bind fun v29 =>
  (if v28.Name = v29.Name then
  some (.inr (.inr (.inr (.inr false))))
  else
  some (.inl (w64 (s27 + 1))))))
  else
  some (.inr (.inl ())))) 0)) : Option (Unit ⊕ (Int ⊕ (Unit ⊕ Bool)))).bind fun v30x => orE v30x fun v30 =>
  some (.inl (w64 (s16 + 1))))
  else
  some (.inr (.inl ())))) 0 : Option (Unit ⊕ Bool)).bind fun v31x => orE v31x fun v31 =>
  ((s_l00In_m (p0.length : Int) 1 20).bind fun v32 =>
  some v32))

def s_l15Ok_m (p0 : Calendar_) : Option Bool :=
  ((s_l15Years_m p0.Rules).bind fun v1 =>
  (if v1.2 = true then
  ((s_IsName_m p0.Name).bind fun v2 =>
  (if v2 = true then
  ((s_l15Months_m p0.Months).bind fun v3 =>
  (if v3 = true then
  ((s_l00In_m p0.Week 1 12).bind fun v4 =>
  some v4)
  else
  some false))
  else
  some false))
  else
  some false))

def s_l17Ok_m (p0 : List Int) : Option Bool :=
  ((loopM (S := Int) (X := Unit ⊕ Bool) (fun s4 =>
  (if s4 < (p0.length : Int) then
  ((atI p0 s4).bind fun v5 =>
  ((s_l00In_m v5 1 60).bind fun v6 =>
  (if (!v6) = true then
  some (.inr (.inr false))
  else
  some (.inl (w64 (s4 + 1))))))
  else
  some (.inr (.inl ())))) 0 : Option (Unit ⊕ Bool)).bind fun v7x => orE v7x fun v7 =>
  ((s_l00In_m (p0.length : Int) 1 260).bind fun v8 =>
  some v8))

def s_l26Ok_m (p0 : Movement_) : Option Bool :=
  ((((s_IsName_m p0.Name).bind fun v1 =>
  (if (!v1) = true then
  some true
  else
  ((s_l08Ok_m p0.Works).bind fun v2 =>
  (if (!v2) = true then
  some true
  else
  ((s_l08Root_m p0.Works p0.Minute).bind fun v3 =>
  (if (!v3) = true then
  some true
  else
  ((s_l08Root_m p0.Works p0.Hour).bind fun v4 =>
  (if (!v4) = true then
  some true
  else
  ((s_l08Root_m p0.Works p0.Escape).bind fun v5 =>
  some (!v5)))))))))) : Option Bool).bind fun v6 =>
  (if v6 = true then
  some false
  else
  ((s_l05Teeth_m p0.Teeth).bind fun v7 =>
  (if v7 = true then
  ((s_l00In_m p0.Beats 1 36000).bind fun v8 =>
  (if v8 = true then
  ((s_l15Ok_m p0.Calendar).bind fun v9 =>
  (if v9 = true then
  ((s_l17Ok_m p0.Cam).bind fun v10 =>
  (if v10 = true then
  ((s_l00In_m p0.Strike 0 2).bind fun v11 =>
  some v11)
  else
  some false))
  else
  some false))
  else
  some false))
  else
  some false))))

def s_l01Dec_m (p0 : Int) : Option ByteArray :=
  ((loopM (S := Int × List Int) (X := List Int) (fun s6 =>
  (if s6.1 ≠ 0 then
  (((if (s6.1.tmod 10) < 0 then
  some (w64 (-(s6.1.tmod 10)))
  else
  some (s6.1.tmod 10)) : Option Int).bind fun v8 =>
  (chk (([IntKind.u8.wrap (w64 (48 + v8))].length + s6.2.length) * 1 * 64 ≤ 140737488355328) (
  some (.inl (w64 (s6.1.tdiv 10), [IntKind.u8.wrap (w64 (48 + v8))] ++ s6.2)))))
  else
  some (.inr s6.2))) (p0, ([] : List Int)) : Option (List Int)).bind fun v11 =>
  (if (v11.length : Int) = 0 then
  some (⟨#[48]⟩ : ByteArray)
  else
  (if p0 < 0 then
  (chk ((⟨#[45]⟩ : ByteArray).size + (strOfNums v11).size ≤ 9223372036854775807) (
  some ((⟨#[45]⟩ : ByteArray) ++ (strOfNums v11))))
  else
  some (strOfNums v11))))

def s_l26Text_m (p0 : Movement_) : Option ByteArray :=
  (chk (p0.Name.size + (⟨#[32]⟩ : ByteArray).size ≤ 9223372036854775807) (
  ((atI p0.Works.Arbors p0.Minute).bind fun v2 =>
  ((atI p0.Works.Arbors p0.Hour).bind fun v3 =>
  ((atI p0.Works.Arbors p0.Escape).bind fun v4 =>
  ((s_l01Dec_m p0.Beats).bind fun v5 =>
  (chk ((p0.Name ++ (⟨#[32]⟩ : ByteArray)).size + v5.size ≤ 9223372036854775807) (
  (chk (((p0.Name ++ (⟨#[32]⟩ : ByteArray)) ++ v5).size + (⟨#[32]⟩ : ByteArray).size ≤ 9223372036854775807) (
  ((s_l01Dec_m p0.Teeth).bind fun v8 =>
  (chk ((((p0.Name ++ (⟨#[32]⟩ : ByteArray)) ++ v5) ++ (⟨#[32]⟩ : ByteArray)).size + v8.size ≤ 9223372036854775807) (
  (chk (((((p0.Name ++ (⟨#[32]⟩ : ByteArray)) ++ v5) ++ (⟨#[32]⟩ : ByteArray)) ++ v8).size + (⟨#[32]⟩ : ByteArray).size ≤ 9223372036854775807) (
  (chk ((((((p0.Name ++ (⟨#[32]⟩ : ByteArray)) ++ v5) ++ (⟨#[32]⟩ : ByteArray)) ++ v8) ++ (⟨#[32]⟩ : ByteArray)).size + v2.Name.size ≤ 9223372036854775807) (
  (chk (((((((p0.Name ++ (⟨#[32]⟩ : ByteArray)) ++ v5) ++ (⟨#[32]⟩ : ByteArray)) ++ v8) ++ (⟨#[32]⟩ : ByteArray)) ++ v2.Name).size + (⟨#[32]⟩ : ByteArray).size ≤ 9223372036854775807) (
  (chk ((((((((p0.Name ++ (⟨#[32]⟩ : ByteArray)) ++ v5) ++ (⟨#[32]⟩ : ByteArray)) ++ v8) ++ (⟨#[32]⟩ : ByteArray)) ++ v2.Name) ++ (⟨#[32]⟩ : ByteArray)).size + v3.Name.size ≤ 9223372036854775807) (
  (chk (((((((((p0.Name ++ (⟨#[32]⟩ : ByteArray)) ++ v5) ++ (⟨#[32]⟩ : ByteArray)) ++ v8) ++ (⟨#[32]⟩ : ByteArray)) ++ v2.Name) ++ (⟨#[32]⟩ : ByteArray)) ++ v3.Name).size + (⟨#[32]⟩ : ByteArray).size ≤ 9223372036854775807) (
  (chk ((((((((((p0.Name ++ (⟨#[32]⟩ : ByteArray)) ++ v5) ++ (⟨#[32]⟩ : ByteArray)) ++ v8) ++ (⟨#[32]⟩ : ByteArray)) ++ v2.Name) ++ (⟨#[32]⟩ : ByteArray)) ++ v3.Name) ++ (⟨#[32]⟩ : ByteArray)).size + v4.Name.size ≤ 9223372036854775807) (
  some ((((((((((p0.Name ++ (⟨#[32]⟩ : ByteArray)) ++ v5) ++ (⟨#[32]⟩ : ByteArray)) ++ v8) ++ (⟨#[32]⟩ : ByteArray)) ++ v2.Name) ++ (⟨#[32]⟩ : ByteArray)) ++ v3.Name) ++ (⟨#[32]⟩ : ByteArray)) ++ v4.Name))))))))))))))))))))))))))

def s_MovementText_m (p0 : Movement_) : Option ByteArray :=
  ((s_l26Ok_m p0).bind fun v1 =>
  (if (!v1) = true then
  some (⟨#[]⟩ : ByteArray)
  else
  ((s_l26Text_m p0).bind fun v2 =>
  some v2)))

def i_within_m (p0 : Int) (p1 : Int) (p2 : Int) : Option Bool :=
  (if p1 ≤ p0 then
  some (decide (p0 ≤ p2))
  else
  some false)

def i_isArbor_m (p0 : Works_) (p1 : Int) : Option Bool :=
  ((i_within_m p1 0 (w64 ((p0.Arbors.length : Int) - 1))).bind fun v1 =>
  some v1)

def i_toothed_m (p0 : Int) : Option Bool :=
  ((i_within_m p0 6 240).bind fun v1 =>
  some v1)

def i_IsName_m (p0 : ByteArray) : Option Bool :=
  (((if (p0.size : Int) < 1 then
  some true
  else
  some (decide (12 < (p0.size : Int)))) : Option Bool).bind fun v1 =>
  (if v1 = true then
  some false
  else
  (((chk (p0.size ≤ 140737488355328) (
  loopM (S := Int) (X := Unit ⊕ Bool) (fun s8 =>
  (if s8 < ((bytesL p0).length : Int) then
  ((atI (bytesL p0) s8).bind fun v9 =>
  (((if 97 ≤ v9 then
  some (decide (v9 ≤ 122))
  else
  some false) : Option Bool).bind fun v10 =>
  (((if 48 ≤ v9 then
  (if v9 ≤ 57 then
  some true
  else
  some (decide (v9 = 45)))
  else
  some (decide (v9 = 45))) : Option Bool).bind fun v11 =>
  (((if (!v10) = true then
  (if s8 = 0 then
  some true
  else
  some (!v11))
  else
  some false) : Option Bool).bind fun v12 =>
  (if v12 = true then
  some (.inr (.inr false))
  else
  some (.inl (w64 (s8 + 1))))))))
  else
  some (.inr (.inl ())))) 0)) : Option (Unit ⊕ Bool)).bind fun v13x => orE v13x fun v13 =>
  some true)))

def i_validArbor_m (p0 : Arbor_) : Option Bool :=
  ((loopM (S := Int) (X := Unit ⊕ Bool) (fun s4 =>
  (if s4 < (p0.Wheels.length : Int) then
  ((atI p0.Wheels s4).bind fun v5 =>
  ((i_toothed_m v5).bind fun v6 =>
  (if (!v6) = true then
  some (.inr (.inr false))
  else
  some (.inl (w64 (s4 + 1))))))
  else
  some (.inr (.inl ())))) 0 : Option (Unit ⊕ Bool)).bind fun v7x => orE v7x fun v7 =>
  ((i_IsName_m p0.Name).bind fun v8 =>
  (if v8 = true then
  some (decide ((p0.Wheels.length : Int) ≤ 5))
  else
  some false)))

def i_hasWheel_m (p0 : Works_) (p1 : Int) (p2 : Int) : Option Bool :=
  ((i_within_m p1 0 (w64 ((p0.Arbors.length : Int) - 1))).bind fun v1 =>
  (if v1 = true then
  ((atI p0.Arbors p1).bind fun v2 =>
  ((i_within_m p2 0 (w64 ((v2.Wheels.length : Int) - 1))).bind fun v3 =>
  some v3))
  else
  some false))

def i_joins_m (p0 : Works_) (p1 : Mesh_) : Option Bool :=
  (if p1.A ≠ p1.B then
  ((i_hasWheel_m p0 p1.A p1.WheelA).bind fun v1 =>
  (if v1 = true then
  ((i_hasWheel_m p0 p1.B p1.WheelB).bind fun v2 =>
  some v2)
  else
  some false))
  else
  some false)

def i_sameMesh_m (p0 : Mesh_) (p1 : Mesh_) : Option Bool :=
  (if p0 = p1 then
  some true
  else
  some (decide (p0 = (⟨p1.B, p1.WheelB, p1.A, p1.WheelA⟩ : Mesh_))))

def i_ValidWorks_1_m (p0 : Mesh_) (p1 : Mesh_) : Option Bool :=
  ((i_sameMesh_m p1 p0).bind fun v1 =>
  some v1)

def slices_IndexFunc_LMesh_Mesh_i_ValidWorks_1_m (p0 : List Mesh_) (p1_0 : Mesh_) : Option Int :=
  ((loopM (S := Int) (X := Unit ⊕ Int) (fun s4 =>
  (if s4 < (p0.length : Int) then
  ((atI p0 s4).bind fun v5 =>
  ((i_ValidWorks_1_m v5 p1_0).bind fun v6 =>
  (if v6 = true then
  some (.inr (.inr s4))
  else
  some (.inl (w64 (s4 + 1))))))
  else
  some (.inr (.inl ())))) 0 : Option (Unit ⊕ Int)).bind fun v7x => orE v7x fun v7 =>
  some (-1))

def slices_ContainsFunc_LMesh_Mesh_i_ValidWorks_1_m (p0 : List Mesh_) (p1_0 : Mesh_) : Option Bool :=
  ((slices_IndexFunc_LMesh_Mesh_i_ValidWorks_1_m p0 p1_0).bind fun v1 =>
  some (decide (0 ≤ v1)))

def i_ValidWorks_m (p0 : Works_) : Option Bool :=
  (((if 16 < (p0.Arbors.length : Int) then
  some true
  else
  some (decide (24 < (p0.Meshes.length : Int)))) : Option Bool).bind fun v1 =>
  (if v1 = true then
  some false
  else
  ((loopM (S := Int) (X := Unit ⊕ Bool) (fun s11 =>
  (if s11 < (p0.Arbors.length : Int) then
  ((((atI p0.Arbors s11).bind fun v12 =>
  ((i_validArbor_m v12).bind fun v13 =>
  (if (!v13) = true then
  some (.inr (.inr (.inr false)))
  else
  (chk (0 ≤ (0 : Int) ∧ (0 : Int) ≤ s11 ∧ s11 ≤ (p0.Arbors.length : Int)) (
  loopM (S := Int) (X := Unit ⊕ (Int ⊕ (Unit ⊕ Bool))) (fun s17 =>
  (if s17 < ((subL p0.Arbors (0 : Int) s11).length : Int) then
  ((atI (subL p0.Arbors (0 : Int) s11) s17).bind fun v18 =>
  (if v12.Name = v18.Name then
  some (.inr (.inr (.inr (.inr false))))
  else
  some (.inl (w64 (s17 + 1)))))
  else
  some (.inr (.inl ())))) 0))))) : Option (Unit ⊕ (Int ⊕ (Unit ⊕ Bool)))).bind fun v19x => orE v19x fun v19 =>
  some (.inl (w64 (s11 + 1))))
  else
  some (.inr (.inl ())))) 0 : Option (Unit ⊕ Bool)).bind fun v20x => orE v20x fun v20 =>
  ((loopM (S := Int) (X := Unit ⊕ Bool) (fun s27 =>
  (if s27 < (p0.Meshes.length : Int) then
  ((atI p0.Meshes s27).bind fun v28 =>
  ((((i_joins_m p0 v28).bind fun v29 =>
  (if (!v29) = true then
  some true
  else
  (chk (0 ≤ (0 : Int) ∧ (0 : Int) ≤ s27 ∧ s27 ≤ (p0.Meshes.length : Int)) (
  ((slices_ContainsFunc_LMesh_Mesh_i_ValidWorks_1_m (subL p0.Meshes (0 : Int) s27) v28).bind fun v31 =>
  some v31))))) : Option Bool).bind fun v32 =>
  (if v32 = true then
  some (.inr (.inr false))
  else
  some (.inl (w64 (s27 + 1))))))
  else
  some (.inr (.inl ())))) 0 : Option (Unit ⊕ Bool)).bind fun v33x => orE v33x fun v33 =>
  some true))))

def i_ValidCalendar_1_m (p0 : Month_) (p1 : Month_) : Option Bool :=
  some (decide (p0.Name = p1.Name))

def slices_IndexFunc_LMonth_Month_i_ValidCalendar_1_m (p0 : List Month_) (p1_0 : Month_) : Option Int :=
  ((loopM (S := Int) (X := Unit ⊕ Int) (fun s4 =>
  (if s4 < (p0.length : Int) then
  ((atI p0 s4).bind fun v5 =>
  ((i_ValidCalendar_1_m v5 p1_0).bind fun v6 =>
  (if v6 = true then
  some (.inr (.inr s4))
  else
  some (.inl (w64 (s4 + 1))))))
  else
  some (.inr (.inl ())))) 0 : Option (Unit ⊕ Int)).bind fun v7x => orE v7x fun v7 =>
  some (-1))

def slices_ContainsFunc_LMonth_Month_i_ValidCalendar_1_m (p0 : List Month_) (p1_0 : Month_) : Option Bool :=
  ((slices_IndexFunc_LMonth_Month_i_ValidCalendar_1_m p0 p1_0).bind fun v1 =>
  some (decide (0 ≤ v1)))

def i_gcd_m (p0 : Int) (p1 : Int) : Option Int :=
  ((loopM (S := Int × Int) (X := Int) (fun s3 =>
  (if s3.2 ≠ 0 then
  (chk (s3.2 ≠ 0) (
  some (.inl (s3.2, s3.1.tmod s3.2))))
  else
  some (.inr s3.1))) (p0, p1) : Option Int).bind fun v5 =>
  (if v5 < 0 then
  some (w64 (-v5))
  else
  some v5))

def i_cycleYears_m (p0 : List LeapRule_) : Option Int :=
  ((loopM (S := Int × Int) (X := Int) (fun s6 =>
  (if s6.2 < (p0.length : Int) then
  ((((atI p0 s6.2).bind fun v7 =>
  (if s6.1 ≤ 2000 then
  ((i_gcd_m s6.1 v7.Every).bind fun v8 =>
  (chk (v8 ≠ 0) (
  some (w64 ((w64 (s6.1.tdiv v8)) * v7.Every)))))
  else
  some s6.1)) : Option Int).bind fun v10 =>
  some (.inl (v10, w64 (s6.2 + 1))))
  else
  some (.inr s6.1))) (1, 0) : Option Int).bind fun v11 =>
  some v11)

def i_ValidCalendar_m (p0 : Calendar_) : Option Bool :=
  ((((i_IsName_m p0.Name).bind fun v1 =>
  (if (!v1) = true then
  some true
  else
  (if (p0.Months.length : Int) < 1 then
  some true
  else
  (if 20 < (p0.Months.length : Int) then
  some true
  else
  (if 6 < (p0.Rules.length : Int) then
  some true
  else
  ((i_within_m p0.Week 1 12).bind fun v2 =>
  some (!v2))))))) : Option Bool).bind fun v3 =>
  (if v3 = true then
  some false
  else
  ((loopM (S := Int) (X := Unit ⊕ Bool) (fun s12 =>
  (if s12 < (p0.Months.length : Int) then
  ((atI p0.Months s12).bind fun v13 =>
  ((((i_IsName_m v13.Name).bind fun v14 =>
  (if (!v14) = true then
  some true
  else
  ((i_within_m v13.Days 1 60).bind fun v15 =>
  (if (!v15) = true then
  some true
  else
  ((i_within_m v13.Leap 1 60).bind fun v16 =>
  some (!v16)))))) : Option Bool).bind fun v17 =>
  (if v17 = true then
  some (.inr (.inr false))
  else
  (chk (0 ≤ (0 : Int) ∧ (0 : Int) ≤ s12 ∧ s12 ≤ (p0.Months.length : Int)) (
  ((slices_ContainsFunc_LMonth_Month_i_ValidCalendar_1_m (subL p0.Months (0 : Int) s12) v13).bind fun v19 =>
  (if v19 = true then
  some (.inr (.inr false))
  else
  some (.inl (w64 (s12 + 1))))))))))
  else
  some (.inr (.inl ())))) 0 : Option (Unit ⊕ Bool)).bind fun v20x => orE v20x fun v20 =>
  ((loopM (S := Int) (X := Unit ⊕ Bool) (fun s26 =>
  (if s26 < (p0.Rules.length : Int) then
  ((atI p0.Rules s26).bind fun v27 =>
  ((((i_within_m v27.Every 1 1000).bind fun v28 =>
  (if (!v28) = true then
  some true
  else
  ((i_within_m v27.Rest 0 (w64 (v27.Every - 1))).bind fun v29 =>
  some (!v29)))) : Option Bool).bind fun v30 =>
  (if v30 = true then
  some (.inr (.inr false))
  else
  some (.inl (w64 (s26 + 1))))))
  else
  some (.inr (.inl ())))) 0 : Option (Unit ⊕ Bool)).bind fun v31x => orE v31x fun v31 =>
  ((i_cycleYears_m p0.Rules).bind fun v32 =>
  some (decide (v32 ≤ 2000)))))))

def i_ValidCam_m (p0 : List Int) : Option Bool :=
  ((loopM (S := Int) (X := Unit ⊕ Bool) (fun s4 =>
  (if s4 < (p0.length : Int) then
  ((atI p0 s4).bind fun v5 =>
  ((i_within_m v5 1 60).bind fun v6 =>
  (if (!v6) = true then
  some (.inr (.inr false))
  else
  some (.inl (w64 (s4 + 1))))))
  else
  some (.inr (.inl ())))) 0 : Option (Unit ⊕ Bool)).bind fun v7x => orE v7x fun v7 =>
  (if 1 ≤ (p0.length : Int) then
  some (decide ((p0.length : Int) ≤ 260))
  else
  some false))

def i_ValidMovement_m (p0 : Movement_) : Option Bool :=
  ((((i_isArbor_m p0.Works p0.Minute).bind fun v1 =>
  (if v1 = true then
  ((i_isArbor_m p0.Works p0.Hour).bind fun v2 =>
  (if v2 = true then
  ((i_isArbor_m p0.Works p0.Escape).bind fun v3 =>
  some v3)
  else
  some false))
  else
  some false)) : Option Bool).bind fun v4 =>
  ((((i_toothed_m p0.Teeth).bind fun v5 =>
  (if v5 = true then
  ((i_within_m p0.Beats 1 36000).bind fun v6 =>
  (if v6 = true then
  ((i_within_m p0.Strike 0 2).bind fun v7 =>
  some v7)
  else
  some false))
  else
  some false)) : Option Bool).bind fun v8 =>
  (if v4 = true then
  (if v8 = true then
  ((i_IsName_m p0.Name).bind fun v9 =>
  (if v9 = true then
  ((i_ValidWorks_m p0.Works).bind fun v10 =>
  (if v10 = true then
  ((i_ValidCalendar_m p0.Calendar).bind fun v11 =>
  (if v11 = true then
  ((i_ValidCam_m p0.Cam).bind fun v12 =>
  some v12)
  else
  some false))
  else
  some false))
  else
  some false))
  else
  some false)
  else
  some false)))

def strconv_FormatInt_m (p0 p1 : Int) : Option ByteArray := (chk (-9223372036854775808 ≤ p0 ∧ p0 ≤ 9223372036854775807 ∧ p1 = 10) (some ⟨(Lib.itoa p0).toArray⟩))

def i_Decimal_m (p0 : Int) : Option ByteArray :=
  ((strconv_FormatInt_m p0 10).bind fun v1 =>
  some v1)

def strings_Join_m (p0 : List ByteArray) (p1 : ByteArray) : Option ByteArray := (chk (p0.length ≤ 140737488355328 ∧ (joinT p0 p1).size ≤ 140737488355328) (some (joinT p0 p1)))

def i_MovementText_m (p0 : Movement_) : Option ByteArray :=
  ((i_ValidMovement_m p0).bind fun v1 =>
  (if (!v1) = true then
  some (⟨#[]⟩ : ByteArray)
  else
  ((atI p0.Works.Arbors p0.Minute).bind fun v2 =>
  ((atI p0.Works.Arbors p0.Hour).bind fun v3 =>
  ((atI p0.Works.Arbors p0.Escape).bind fun v4 =>
  ((i_Decimal_m p0.Beats).bind fun v5 =>
  ((i_Decimal_m p0.Teeth).bind fun v6 =>
  ((strings_Join_m [p0.Name, v5, v6, v2.Name, v3.Name, v4.Name] (⟨#[32]⟩ : ByteArray)).bind fun v7 =>
  some v7))))))))

def l_eqInt64S_m (p0 : List Int) (p1 : List Int) : Option Bool :=
  (if (p0.length : Int) ≠ (p1.length : Int) then
  some false
  else
  ((loopM (S := Int) (X := Unit ⊕ Bool) (fun s4 =>
  (if s4 < (p0.length : Int) then
  ((atI p0 s4).bind fun v5 =>
  ((atI p1 s4).bind fun v6 =>
  (if v5 ≠ v6 then
  some (.inr (.inr false))
  else
  some (.inl (w64 (s4 + 1))))))
  else
  some (.inr (.inl ())))) 0 : Option (Unit ⊕ Bool)).bind fun v7x => orE v7x fun v7 =>
  some true))

def l_eqArbor_m (p0 : Arbor_) (p1 : Arbor_) : Option Bool :=
  (if p0.Name ≠ p1.Name then
  some false
  else
  ((l_eqInt64S_m p0.Wheels p1.Wheels).bind fun v1 =>
  (if (!v1) = true then
  some false
  else
  some true)))

def l_eqArborS_m (p0 : List Arbor_) (p1 : List Arbor_) : Option Bool :=
  (if (p0.length : Int) ≠ (p1.length : Int) then
  some false
  else
  ((loopM (S := Int) (X := Unit ⊕ Bool) (fun s5 =>
  (if s5 < (p0.length : Int) then
  ((atI p0 s5).bind fun v6 =>
  ((atI p1 s5).bind fun v7 =>
  ((l_eqArbor_m v6 v7).bind fun v8 =>
  (if (!v8) = true then
  some (.inr (.inr false))
  else
  some (.inl (w64 (s5 + 1)))))))
  else
  some (.inr (.inl ())))) 0 : Option (Unit ⊕ Bool)).bind fun v9x => orE v9x fun v9 =>
  some true))

def l_eqMesh_m (p0 : Mesh_) (p1 : Mesh_) : Option Bool :=
  (if p0.A ≠ p1.A then
  some false
  else
  (if p0.WheelA ≠ p1.WheelA then
  some false
  else
  (if p0.B ≠ p1.B then
  some false
  else
  (if p0.WheelB ≠ p1.WheelB then
  some false
  else
  some true))))

def l_eqMeshS_m (p0 : List Mesh_) (p1 : List Mesh_) : Option Bool :=
  (if (p0.length : Int) ≠ (p1.length : Int) then
  some false
  else
  ((loopM (S := Int) (X := Unit ⊕ Bool) (fun s5 =>
  (if s5 < (p0.length : Int) then
  ((atI p0 s5).bind fun v6 =>
  ((atI p1 s5).bind fun v7 =>
  ((l_eqMesh_m v6 v7).bind fun v8 =>
  (if (!v8) = true then
  some (.inr (.inr false))
  else
  some (.inl (w64 (s5 + 1)))))))
  else
  some (.inr (.inl ())))) 0 : Option (Unit ⊕ Bool)).bind fun v9x => orE v9x fun v9 =>
  some true))

def l_eqWorks_m (p0 : Works_) (p1 : Works_) : Option Bool :=
  ((l_eqArborS_m p0.Arbors p1.Arbors).bind fun v1 =>
  (if (!v1) = true then
  some false
  else
  ((l_eqMeshS_m p0.Meshes p1.Meshes).bind fun v2 =>
  (if (!v2) = true then
  some false
  else
  some true))))

def l_eqMonth_m (p0 : Month_) (p1 : Month_) : Option Bool :=
  (if p0.Name ≠ p1.Name then
  some false
  else
  (if p0.Days ≠ p1.Days then
  some false
  else
  (if p0.Leap ≠ p1.Leap then
  some false
  else
  some true)))

def l_eqMonthS_m (p0 : List Month_) (p1 : List Month_) : Option Bool :=
  (if (p0.length : Int) ≠ (p1.length : Int) then
  some false
  else
  ((loopM (S := Int) (X := Unit ⊕ Bool) (fun s5 =>
  (if s5 < (p0.length : Int) then
  ((atI p0 s5).bind fun v6 =>
  ((atI p1 s5).bind fun v7 =>
  ((l_eqMonth_m v6 v7).bind fun v8 =>
  (if (!v8) = true then
  some (.inr (.inr false))
  else
  some (.inl (w64 (s5 + 1)))))))
  else
  some (.inr (.inl ())))) 0 : Option (Unit ⊕ Bool)).bind fun v9x => orE v9x fun v9 =>
  some true))

def l_eqLeapRule_m (p0 : LeapRule_) (p1 : LeapRule_) : Option Bool :=
  (if p0.Every ≠ p1.Every then
  some false
  else
  (if p0.Rest ≠ p1.Rest then
  some false
  else
  (if (p0.Leap != p1.Leap) = true then
  some false
  else
  some true)))

def l_eqLeapRuleS_m (p0 : List LeapRule_) (p1 : List LeapRule_) : Option Bool :=
  (if (p0.length : Int) ≠ (p1.length : Int) then
  some false
  else
  ((loopM (S := Int) (X := Unit ⊕ Bool) (fun s5 =>
  (if s5 < (p0.length : Int) then
  ((atI p0 s5).bind fun v6 =>
  ((atI p1 s5).bind fun v7 =>
  ((l_eqLeapRule_m v6 v7).bind fun v8 =>
  (if (!v8) = true then
  some (.inr (.inr false))
  else
  some (.inl (w64 (s5 + 1)))))))
  else
  some (.inr (.inl ())))) 0 : Option (Unit ⊕ Bool)).bind fun v9x => orE v9x fun v9 =>
  some true))

def l_eqCalendar_m (p0 : Calendar_) (p1 : Calendar_) : Option Bool :=
  (if p0.Name ≠ p1.Name then
  some false
  else
  ((l_eqMonthS_m p0.Months p1.Months).bind fun v1 =>
  (if (!v1) = true then
  some false
  else
  ((l_eqLeapRuleS_m p0.Rules p1.Rules).bind fun v2 =>
  (if (!v2) = true then
  some false
  else
  (if p0.Week ≠ p1.Week then
  some false
  else
  some true))))))

def l_eqMovement_m (p0 : Movement_) (p1 : Movement_) : Option Bool :=
  (if p0.Name ≠ p1.Name then
  some false
  else
  ((l_eqWorks_m p0.Works p1.Works).bind fun v1 =>
  (if (!v1) = true then
  some false
  else
  (if p0.Minute ≠ p1.Minute then
  some false
  else
  (if p0.Hour ≠ p1.Hour then
  some false
  else
  (if p0.Escape ≠ p1.Escape then
  some false
  else
  (if p0.Teeth ≠ p1.Teeth then
  some false
  else
  (if p0.Beats ≠ p1.Beats then
  some false
  else
  ((l_eqCalendar_m p0.Calendar p1.Calendar).bind fun v2 =>
  (if (!v2) = true then
  some false
  else
  ((l_eqInt64S_m p0.Cam p1.Cam).bind fun v3 =>
  (if (!v3) = true then
  some false
  else
  (if p0.Strike ≠ p1.Strike then
  some false
  else
  some true)))))))))))))

def l_FnExactMovementText_m (p0 : Movement_) : Option Bool :=
  ((l_szMovement_m p0 1048576).bind fun v1 =>
  (if v1 < 0 then
  some true
  else
  ((l_toMovement_m p0).bind fun v2 =>
  ((s_MovementText_m v2).bind fun v3 =>
  ((l_toMovement_m p0).bind fun v4 =>
  ((i_MovementText_m v4).bind fun v5 =>
  (if v5 ≠ v3 then
  some false
  else
  ((l_toMovement_m p0).bind fun v6 =>
  ((l_eqMovement_m v4 v6).bind fun v7 =>
  (if (!v7) = true then
  some false
  else
  some true))))))))))

def l_eqStringS_m (p0 : List ByteArray) (p1 : List ByteArray) : Option Bool :=
  (if (p0.length : Int) ≠ (p1.length : Int) then
  some false
  else
  ((loopM (S := Int) (X := Unit ⊕ Bool) (fun s4 =>
  (if s4 < (p0.length : Int) then
  ((atI p0 s4).bind fun v5 =>
  ((atI p1 s4).bind fun v6 =>
  (if v5 ≠ v6 then
  some (.inr (.inr false))
  else
  some (.inl (w64 (s4 + 1))))))
  else
  some (.inr (.inl ())))) 0 : Option (Unit ⊕ Bool)).bind fun v7x => orE v7x fun v7 =>
  some true))

def l_markText_m (p0 : Int) : Option ByteArray :=
  (if p0 ≤ 0 then
  some (⟨#[109, 48]⟩ : ByteArray)
  else
  ((loopM (S := Int × ByteArray) (X := ByteArray) (fun s5 =>
  (if 0 < s5.1 then
  (chk ((strOfNums [IntKind.u8.wrap (w64 (48 + (s5.1.tmod 10)))]).size + s5.2.size ≤ 9223372036854775807) (
  some (.inl (w64 (s5.1.tdiv 10), (strOfNums [IntKind.u8.wrap (w64 (48 + (s5.1.tmod 10)))]) ++ s5.2))))
  else
  some (.inr s5.2))) (p0, (⟨#[]⟩ : ByteArray)) : Option ByteArray).bind fun v9 =>
  (chk ((⟨#[109]⟩ : ByteArray).size + v9.size ≤ 9223372036854775807) (
  some ((⟨#[109]⟩ : ByteArray) ++ v9)))))

def l_heldStringS_m (p0 : List ByteArray) (p1 : Int) : Option Int :=
  ((loopM (S := Int × Int) (X := Int ⊕ Int) (fun s4 =>
  (if s4.2 < (p0.length : Int) then
  ((atI p0 s4.2).bind fun v5 =>
  ((l_markText_m s4.1).bind fun v6 =>
  (if v5 ≠ v6 then
  some (.inr (.inr (-1)))
  else
  some (.inl (w64 (s4.1 + 1), w64 (s4.2 + 1))))))
  else
  some (.inr (.inl s4.1)))) (p1, 0) : Option (Int ⊕ Int)).bind fun v7x => orE v7x fun v7 =>
  some v7)

def s_l05Sort_m (p0 : List Int) : Option (List Int) :=
  ((loopM (S := Unit) (X := Unit) (fun s1 =>
  (if 0 < (p0.length : Int) then
  none
  else
  some (.inr ()))) () : Option Unit).bind fun v11 =>
  some ([] : List Int))

def s_l17Text_m (p0 : List Int) : Option ByteArray :=
  ((loopM (S := ByteArray × Int) (X := ByteArray) (fun s7 =>
  (if s7.2 < (p0.length : Int) then
  (((if 0 < s7.2 then
  (chk (s7.1.size + (⟨#[32]⟩ : ByteArray).size ≤ 9223372036854775807) (
  some (s7.1 ++ (⟨#[32]⟩ : ByteArray))))
  else
  some s7.1) : Option ByteArray).bind fun v9 =>
  ((atI p0 s7.2).bind fun v10 =>
  ((s_l01Dec_m v10).bind fun v11 =>
  (chk (v9.size + v11.size ≤ 9223372036854775807) (
  some (.inl (v9 ++ v11, w64 (s7.2 + 1))))))))
  else
  some (.inr s7.1))) ((⟨#[]⟩ : ByteArray), 0) : Option ByteArray).bind fun v13 =>
  some v13)

def s_l00Own_m (p0 : List Int) : Option (List Int) :=
  (chk ((([] : List Int).length + p0.length) * 1 * 64 ≤ 140737488355328) (
  some (([] : List Int) ++ p0)))

def s_l00Put_m (p0 : List Int) (p1 : Int) : Option (List Int) :=
  ((loopM (S := Bool × Int × List Int) (X := Bool × List Int) (fun s9 =>
  (if s9.2.1 < (p0.length : Int) then
  (((((if (!s9.1) = true then
  ((atI p0 s9.2.1).bind fun v10 =>
  some (decide (p1 ≤ v10)))
  else
  some false) : Option Bool).bind fun v11 =>
  (if v11 = true then
  ((atI p0 s9.2.1).bind fun v12 =>
  (if p1 < v12 then
  (chk ((s9.2.2.length + [p1].length) * 1 * 64 ≤ 140737488355328) (
  some (true, s9.2.2 ++ [p1])))
  else
  some (true, s9.2.2)))
  else
  some (s9.1, s9.2.2))) : Option (Bool × List Int)).bind fun v14 =>
  ((atI p0 s9.2.1).bind fun v15 =>
  (chk ((v14.2.length + [v15].length) * 1 * 64 ≤ 140737488355328) (
  some (.inl (v14.1, w64 (s9.2.1 + 1), v14.2 ++ [v15]))))))
  else
  some (.inr (s9.1, s9.2.2)))) (false, 0, ([] : List Int)) : Option (Bool × List Int)).bind fun v17 =>
  (((if (!v17.1) = true then
  (chk ((v17.2.length + [p1].length) * 1 * 64 ≤ 140737488355328) (
  some (v17.2 ++ [p1])))
  else
  some v17.2) : Option (List Int)).bind fun v19 =>
  some v19))

def slices_Clone_Lint64_int64_m (p0 : List Int) : Option (List Int) :=
  (chk ((([] : List Int).length + p0.length) * 1 * 64 ≤ 140737488355328) (
  some (([] : List Int) ++ p0)))

def internal_strconv_small_m (p0 : Int) : Option ByteArray :=
  (if p0 < 10 then
  (chk (0 ≤ p0 ∧ p0 ≤ (w64 (p0 + 1)) ∧ (w64 (p0 + 1)) ≤ ((⟨#[48, 49, 50, 51, 52, 53, 54, 55, 56, 57, 97, 98, 99, 100, 101, 102, 103, 104, 105, 106, 107, 108, 109, 110, 111, 112, 113, 114, 115, 116, 117, 118, 119, 120, 121, 122]⟩ : ByteArray).size : Int)) (
  some ((⟨#[48, 49, 50, 51, 52, 53, 54, 55, 56, 57, 97, 98, 99, 100, 101, 102, 103, 104, 105, 106, 107, 108, 109, 110, 111, 112, 113, 114, 115, 116, 117, 118, 119, 120, 121, 122]⟩ : ByteArray).extract p0.toNat (w64 (p0 + 1)).toNat)))
  else
  (chk (0 ≤ (w64 (p0 * 2)) ∧ (w64 (p0 * 2)) ≤ (w64 ((w64 (p0 * 2)) + 2)) ∧ (w64 ((w64 (p0 * 2)) + 2)) ≤ ((⟨#[48, 48, 48, 49, 48, 50, 48, 51, 48, 52, 48, 53, 48, 54, 48, 55, 48, 56, 48, 57, 49, 48, 49, 49, 49, 50, 49, 51, 49, 52, 49, 53, 49, 54, 49, 55, 49, 56, 49, 57, 50, 48, 50, 49, 50, 50, 50, 51, 50, 52, 50, 53, 50, 54, 50, 55, 50, 56, 50, 57, 51, 48, 51, 49, 51, 50, 51, 51, 51, 52, 51, 53, 51, 54, 51, 55, 51, 56, 51, 57, 52, 48, 52, 49, 52, 50, 52, 51, 52, 52, 52, 53, 52, 54, 52, 55, 52, 56, 52, 57, 53, 48, 53, 49, 53, 50, 53, 51, 53, 52, 53, 53, 53, 54, 53, 55, 53, 56, 53, 57, 54, 48, 54, 49, 54, 50, 54, 51, 54, 52, 54, 53, 54, 54, 54, 55, 54, 56, 54, 57, 55, 48, 55, 49, 55, 50, 55, 51, 55, 52, 55, 53, 55, 54, 55, 55, 55, 56, 55, 57, 56, 48, 56, 49, 56, 50, 56, 51, 56, 52, 56, 53, 56, 54, 56, 55, 56, 56, 56, 57, 57, 48, 57, 49, 57, 50, 57, 51, 57, 52, 57, 53, 57, 54, 57, 55, 57, 56, 57, 57]⟩ : ByteArray).size : Int)) (
  some ((⟨#[48, 48, 48, 49, 48, 50, 48, 51, 48, 52, 48, 53, 48, 54, 48, 55, 48, 56, 48, 57, 49, 48, 49, 49, 49, 50, 49, 51, 49, 52, 49, 53, 49, 54, 49, 55, 49, 56, 49, 57, 50, 48, 50, 49, 50, 50, 50, 51, 50, 52, 50, 53, 50, 54, 50, 55, 50, 56, 50, 57, 51, 48, 51, 49, 51, 50, 51, 51, 51, 52, 51, 53, 51, 54, 51, 55, 51, 56, 51, 57, 52, 48, 52, 49, 52, 50, 52, 51, 52, 52, 52, 53, 52, 54, 52, 55, 52, 56, 52, 57, 53, 48, 53, 49, 53, 50, 53, 51, 53, 52, 53, 53, 53, 54, 53, 55, 53, 56, 53, 57, 54, 48, 54, 49, 54, 50, 54, 51, 54, 52, 54, 53, 54, 54, 54, 55, 54, 56, 54, 57, 55, 48, 55, 49, 55, 50, 55, 51, 55, 52, 55, 53, 55, 54, 55, 55, 55, 56, 55, 57, 56, 48, 56, 49, 56, 50, 56, 51, 56, 52, 56, 53, 56, 54, 56, 55, 56, 56, 56, 57, 57, 48, 57, 49, 57, 50, 57, 51, 57, 52, 57, 53, 57, 54, 57, 55, 57, 56, 57, 57]⟩ : ByteArray).extract (w64 (p0 * 2)).toNat (w64 ((w64 (p0 * 2)) + 2)).toNat))))

def internal_strconv_FormatInt_m (p0 : Int) (p1 : Int) : Option ByteArray :=
  (if p1 = 10 then
  (((if 0 ≤ p0 then
  some (decide (p0 < 100))
  else
  some false) : Option Bool).bind fun v1 =>
  (if v1 = true then
  ((internal_strconv_small_m p0).bind fun v2 =>
  some v2)
  else
  none))
  else
  none)

def math_bits_Len64_m (p0 : Int) : Option Int :=
  (((if 4294967296 ≤ p0 then
  some (shrK .u64 p0 32, 32)
  else
  some (p0, 0)) : Option (Int × Int)).bind fun v2 =>
  (((if 65536 ≤ v2.1 then
  some (shrK .u64 v2.1 16, w64 (v2.2 + 16))
  else
  some (v2.1, v2.2)) : Option (Int × Int)).bind fun v4 =>
  (((if 256 ≤ v4.1 then
  some (shrK .u64 v4.1 8, w64 (v4.2 + 8))
  else
  some (v4.1, v4.2)) : Option (Int × Int)).bind fun v6 =>
  ((strAt (⟨#[0, 1, 2, 2, 3, 3, 3, 3, 4, 4, 4, 4, 4, 4, 4, 4, 5, 5, 5, 5, 5, 5, 5, 5, 5, 5, 5, 5, 5, 5, 5, 5, 6, 6, 6, 6, 6, 6, 6, 6, 6, 6, 6, 6, 6, 6, 6, 6, 6, 6, 6, 6, 6, 6, 6, 6, 6, 6, 6, 6, 6, 6, 6, 6, 7, 7, 7, 7, 7, 7, 7, 7, 7, 7, 7, 7, 7, 7, 7, 7, 7, 7, 7, 7, 7, 7, 7, 7, 7, 7, 7, 7, 7, 7, 7, 7, 7, 7, 7, 7, 7, 7, 7, 7, 7, 7, 7, 7, 7, 7, 7, 7, 7, 7, 7, 7, 7, 7, 7, 7, 7, 7, 7, 7, 7, 7, 7, 7, 8, 8, 8, 8, 8, 8, 8, 8, 8, 8, 8, 8, 8, 8, 8, 8, 8, 8, 8, 8, 8, 8, 8, 8, 8, 8, 8, 8, 8, 8, 8, 8, 8, 8, 8, 8, 8, 8, 8, 8, 8, 8, 8, 8, 8, 8, 8, 8, 8, 8, 8, 8, 8, 8, 8, 8, 8, 8, 8, 8, 8, 8, 8, 8, 8, 8, 8, 8, 8, 8, 8, 8, 8, 8, 8, 8, 8, 8, 8, 8, 8, 8, 8, 8, 8, 8, 8, 8, 8, 8, 8, 8, 8, 8, 8, 8, 8, 8, 8, 8, 8, 8, 8, 8, 8, 8, 8, 8, 8, 8, 8, 8, 8, 8, 8, 8, 8, 8, 8, 8, 8, 8, 8, 8, 8, 8, 8, 8]⟩ : ByteArray) (IntKind.u8.wrap v6.1)).bind fun v7 =>
  some (w64 (v6.2 + (w64 v7)))))))

def math_bits_Len_m (p0 : Int) : Option Int :=
  ((math_bits_Len64_m p0).bind fun v1 =>
  some v1)

def internal_strconv_log10Pow2_m (p0 : Int) : Option Int :=
  some (shrK .i64 (w64 (p0 * 78913)) 18)

def cmp_isNaN_int64_m (p0 : Int) : Option Bool :=
  some (decide (p0 ≠ p0))

def cmp_Less_int64_m (p0 : Int) (p1 : Int) : Option Bool :=
  ((cmp_isNaN_int64_m p0).bind fun v1 =>
  (if v1 = true then
  ((cmp_isNaN_int64_m p1).bind fun v2 =>
  (if (!v2) = true then
  some true
  else
  some (decide (p0 < p1))))
  else
  some (decide (p0 < p1))))

def math_bits_Len32_m (p0 : Int) : Option Int :=
  (((if 65536 ≤ p0 then
  some (shrK .u32 p0 16, 16)
  else
  some (p0, 0)) : Option (Int × Int)).bind fun v2 =>
  (((if 256 ≤ v2.1 then
  some (shrK .u32 v2.1 8, w64 (v2.2 + 8))
  else
  some (v2.1, v2.2)) : Option (Int × Int)).bind fun v4 =>
  ((strAt (⟨#[0, 1, 2, 2, 3, 3, 3, 3, 4, 4, 4, 4, 4, 4, 4, 4, 5, 5, 5, 5, 5, 5, 5, 5, 5, 5, 5, 5, 5, 5, 5, 5, 6, 6, 6, 6, 6, 6, 6, 6, 6, 6, 6, 6, 6, 6, 6, 6, 6, 6, 6, 6, 6, 6, 6, 6, 6, 6, 6, 6, 6, 6, 6, 6, 7, 7, 7, 7, 7, 7, 7, 7, 7, 7, 7, 7, 7, 7, 7, 7, 7, 7, 7, 7, 7, 7, 7, 7, 7, 7, 7, 7, 7, 7, 7, 7, 7, 7, 7, 7, 7, 7, 7, 7, 7, 7, 7, 7, 7, 7, 7, 7, 7, 7, 7, 7, 7, 7, 7, 7, 7, 7, 7, 7, 7, 7, 7, 7, 8, 8, 8, 8, 8, 8, 8, 8, 8, 8, 8, 8, 8, 8, 8, 8, 8, 8, 8, 8, 8, 8, 8, 8, 8, 8, 8, 8, 8, 8, 8, 8, 8, 8, 8, 8, 8, 8, 8, 8, 8, 8, 8, 8, 8, 8, 8, 8, 8, 8, 8, 8, 8, 8, 8, 8, 8, 8, 8, 8, 8, 8, 8, 8, 8, 8, 8, 8, 8, 8, 8, 8, 8, 8, 8, 8, 8, 8, 8, 8, 8, 8, 8, 8, 8, 8, 8, 8, 8, 8, 8, 8, 8, 8, 8, 8, 8, 8, 8, 8, 8, 8, 8, 8, 8, 8, 8, 8, 8, 8, 8, 8, 8, 8, 8, 8, 8, 8, 8, 8, 8, 8, 8, 8, 8, 8, 8, 8]⟩ : ByteArray) (IntKind.u8.wrap v4.1)).bind fun v5 =>
  some (w64 (v4.2 + (w64 v5))))))

def internal_strconv_bool2_int_m (p0 : Bool) : Option Int :=
  (if p0 = true then
  some 1
  else
  some 0)

def internal_strconv_isPowerOfTwo_m (p0 : Int) : Option Bool :=
  some (decide ((andK .i64 p0 (w64 (p0 - 1))) = 0))

def math_bits_TrailingZeros64_m (p0 : Int) : Option Int :=
  (if p0 = 0 then
  some 64
  else
  none)

def math_bits_TrailingZeros_m (p0 : Int) : Option Int :=
  ((math_bits_TrailingZeros64_m p0).bind fun v1 =>
  some v1)

def math_bits_TrailingZeros32_m (p0 : Int) : Option Int :=
  (if p0 = 0 then
  some 32
  else
  none)
end Go.Proofs.YtdchemiillekjaaGreatDoor
