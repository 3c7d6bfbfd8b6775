/- Texts of this claim, one behind the other (merged by a program of mine). -/
import Derived.Test.YtjhadibjjldpdabGreatRows
import Derived.ProofKit
import Derived.OpenShut
import Derived.ShutString
import Derived.ChangeOld
import Derived.Below
import Derived.Deep.Slices
import Derived.Test.YtjhadibjjldpdabGreatProg
import Derived.Test.YtjhadibjjldpdabGreatGN2
set_option linter.unusedSimpArgs false
set_option linter.unusedVariables false
namespace Go.Proofs.YtjhadibjjldpdabGreat
open Go.RowKit
set_option linter.unusedVariables false
set_option maxRecDepth 100000
set_option maxHeartbeats 2000000
structure Arbor_ where
  Name : ByteArray
  Wheels : List Int
deriving DecidableEq
def cArbor_ (x : Arbor_) : List DV := [.v (.string x.Name), .sl (List.map cI x.Wheels)]
structure Mesh_ where
  A : Int
  WheelA : Int
  B : Int
  WheelB : Int
deriving DecidableEq
def cMesh_ (x : Mesh_) : List DV := [.v (.int .i64 x.A), .v (.int .i64 x.WheelA), .v (.int .i64 x.B), .v (.int .i64 x.WheelB)]
structure Works_ where
  Arbors : List Arbor_
  Meshes : List Mesh_
deriving DecidableEq
def cWorks_ (x : Works_) : List DV := [.sl (List.map cArbor_ x.Arbors), .sl (List.map cMesh_ x.Meshes)]
structure Month_ where
  Name : ByteArray
  Days : Int
  Leap : Int
deriving DecidableEq
def cMonth_ (x : Month_) : List DV := [.v (.string x.Name), .v (.int .i64 x.Days), .v (.int .i64 x.Leap)]
structure LeapRule_ where
  Every : Int
  Rest : Int
  Leap : Bool
deriving DecidableEq
def cLeapRule_ (x : LeapRule_) : List DV := [.v (.int .i64 x.Every), .v (.int .i64 x.Rest), .v (.bool x.Leap)]
structure Calendar_ where
  Name : ByteArray
  Months : List Month_
  Rules : List LeapRule_
  Week : Int
deriving DecidableEq
def cCalendar_ (x : Calendar_) : List DV := [.v (.string x.Name), .sl (List.map cMonth_ x.Months), .sl (List.map cLeapRule_ x.Rules), .v (.int .i64 x.Week)]
structure Movement_ where
  Name : ByteArray
  Works : Works_
  Minute : Int
  Hour : Int
  Escape : Int
  Teeth : Int
  Beats : Int
  Calendar : Calendar_
  Cam : List Int
  Strike : Int
deriving DecidableEq
def cMovement_ (x : Movement_) : List DV := [.v (.string x.Name), .sl (List.map cArbor_ x.Works.Arbors), .sl (List.map cMesh_ x.Works.Meshes), .v (.int .i64 x.Minute), .v (.int .i64 x.Hour), .v (.int .i64 x.Escape), .v (.int .i64 x.Teeth), .v (.int .i64 x.Beats), .v (.string x.Calendar.Name), .sl (List.map cMonth_ x.Calendar.Months), .sl (List.map cLeapRule_ x.Calendar.Rules), .v (.int .i64 x.Calendar.Week), .sl (List.map cI x.Cam), .v (.int .i64 x.Strike)]
structure Date_ where
  Year : Int
  Month : Int
  Day : Int
deriving DecidableEq
def cDate_ (x : Date_) : List DV := [.v (.int .i64 x.Year), .v (.int .i64 x.Month), .v (.int .i64 x.Day)]
structure Perpetual_ where
  Cam : List Int
  Months : Int
  Teeth : Int
  At : Int
  Day : Int
  Week : Int
  Weekday : Int
deriving DecidableEq
structure Sim_ where
  Movement : Movement_
  Start : Date_
  First : Int
  Clock : Int
  Dial : Perpetual_
deriving DecidableEq
structure Desk_ where
  Sim : Sim_
deriving DecidableEq
structure Ratio_ where
  Num : Int
  Den : Int
deriving DecidableEq
def cRatio_ (x : Ratio_) : List DV := [.v (.int .i64 x.Num), .v (.int .i64 x.Den)]
structure Pair_ where
  Driver : Int
  Driven : Int
deriving DecidableEq
def l_szInt64S_m (p0 : List Int) (p1 : Int) : Option Int :=
  (if (w64 (p1 - (p0.length : Int))) < 0 then
  some (-1)
  else
  some (w64 (p1 - (p0.length : Int))))

def l_szArbor_m (p0 : Arbor_) (p1 : Int) : Option Int :=
  (if (w64 (p1 - (p0.Name.size : Int))) < 0 then
  some (-1)
  else
  ((l_szInt64S_m p0.Wheels (w64 (p1 - (p0.Name.size : Int)))).bind fun v1 =>
  (if v1 < 0 then
  some (-1)
  else
  some v1)))

def l_szArborS_m (p0 : List Arbor_) (p1 : Int) : Option Int :=
  (if (w64 (p1 - (p0.length : Int))) < 0 then
  some (-1)
  else
  ((loopM (S := Int × Int) (X := Int ⊕ Int) (fun s4 =>
  (if s4.2 < (p0.length : Int) then
  ((atI p0 s4.2).bind fun v5 =>
  ((l_szArbor_m v5 s4.1).bind fun v6 =>
  (if v6 < 0 then
  some (.inr (.inr (-1)))
  else
  some (.inl (v6, w64 (s4.2 + 1))))))
  else
  some (.inr (.inl s4.1)))) (w64 (p1 - (p0.length : Int)), 0) : Option (Int ⊕ Int)).bind fun v7x => orE v7x fun v7 =>
  some v7))

def l_szMeshS_m (p0 : List Mesh_) (p1 : Int) : Option Int :=
  (if (w64 (p1 - (p0.length : Int))) < 0 then
  some (-1)
  else
  some (w64 (p1 - (p0.length : Int))))

def l_szWorks_m (p0 : Works_) (p1 : Int) : Option Int :=
  ((l_szArborS_m p0.Arbors p1).bind fun v1 =>
  (if v1 < 0 then
  some (-1)
  else
  ((l_szMeshS_m p0.Meshes v1).bind fun v2 =>
  (if v2 < 0 then
  some (-1)
  else
  some v2))))

def l_szMonth_m (p0 : Month_) (p1 : Int) : Option Int :=
  (if (w64 (p1 - (p0.Name.size : Int))) < 0 then
  some (-1)
  else
  some (w64 (p1 - (p0.Name.size : Int))))

def l_szMonthS_m (p0 : List Month_) (p1 : Int) : Option Int :=
  (if (w64 (p1 - (p0.length : Int))) < 0 then
  some (-1)
  else
  ((loopM (S := Int × Int) (X := Int ⊕ Int) (fun s4 =>
  (if s4.2 < (p0.length : Int) then
  ((atI p0 s4.2).bind fun v5 =>
  ((l_szMonth_m v5 s4.1).bind fun v6 =>
  (if v6 < 0 then
  some (.inr (.inr (-1)))
  else
  some (.inl (v6, w64 (s4.2 + 1))))))
  else
  some (.inr (.inl s4.1)))) (w64 (p1 - (p0.length : Int)), 0) : Option (Int ⊕ Int)).bind fun v7x => orE v7x fun v7 =>
  some v7))

def l_szLeapRuleS_m (p0 : List LeapRule_) (p1 : Int) : Option Int :=
  (if (w64 (p1 - (p0.length : Int))) < 0 then
  some (-1)
  else
  some (w64 (p1 - (p0.length : Int))))

def l_szCalendar_m (p0 : Calendar_) (p1 : Int) : Option Int :=
  (if (w64 (p1 - (p0.Name.size : Int))) < 0 then
  some (-1)
  else
  ((l_szMonthS_m p0.Months (w64 (p1 - (p0.Name.size : Int)))).bind fun v1 =>
  (if v1 < 0 then
  some (-1)
  else
  ((l_szLeapRuleS_m p0.Rules v1).bind fun v2 =>
  (if v2 < 0 then
  some (-1)
  else
  some v2)))))

def l_szMovement_m (p0 : Movement_) (p1 : Int) : Option Int :=
  (if (w64 (p1 - (p0.Name.size : Int))) < 0 then
  some (-1)
  else
  ((l_szWorks_m p0.Works (w64 (p1 - (p0.Name.size : Int)))).bind fun v1 =>
  (if v1 < 0 then
  some (-1)
  else
  ((l_szCalendar_m p0.Calendar v1).bind fun v2 =>
  (if v2 < 0 then
  some (-1)
  else
  ((l_szInt64S_m p0.Cam v2).bind fun v3 =>
  (if v3 < 0 then
  some (-1)
  else
  some v3)))))))

def l_toInt64S_m (p0 : List Int) : Option (List Int) :=
  (chk (0 ≤ (p0.length : Int) ∧ (p0.length : Int) = (p0.length : Int) ∧ (p0.length : Int).toNat * 1 * 64 ≤ 281474976710656) (
  ((loopM (S := Int × List Int) (X := List Int) (fun s5 =>
  (if s5.1 < (p0.length : Int) then
  ((atI p0 s5.1).bind fun v6 =>
  ((atI s5.2 s5.1).bind fun v7 =>
  some (.inl (w64 (s5.1 + 1), List.set s5.2 s5.1.toNat v6))))
  else
  some (.inr s5.2))) (0, List.replicate (p0.length : Int).toNat 0) : Option (List Int)).bind fun v8 =>
  some v8)))

def l_toArbor_m (p0 : Arbor_) : Option Arbor_ :=
  ((l_toInt64S_m p0.Wheels).bind fun v1 =>
  some (⟨p0.Name, v1⟩ : Arbor_))

def l_toArborS_m (p0 : List Arbor_) : Option (List Arbor_) :=
  (chk (0 ≤ (p0.length : Int) ∧ (p0.length : Int) = (p0.length : Int) ∧ (p0.length : Int).toNat * 2 * 64 ≤ 281474976710656) (
  ((loopM (S := Int × List Arbor_) (X := List Arbor_) (fun s6 =>
  (if s6.1 < (p0.length : Int) then
  ((atI p0 s6.1).bind fun v7 =>
  ((l_toArbor_m v7).bind fun v8 =>
  ((atI s6.2 s6.1).bind fun v9 =>
  some (.inl (w64 (s6.1 + 1), List.set s6.2 s6.1.toNat v8)))))
  else
  some (.inr s6.2))) (0, List.replicate (p0.length : Int).toNat (⟨(⟨#[]⟩ : ByteArray), []⟩ : Arbor_)) : Option (List Arbor_)).bind fun v10 =>
  some v10)))

def l_toMesh_m (p0 : Mesh_) : Option Mesh_ :=
  some p0

def l_toMeshS_m (p0 : List Mesh_) : Option (List Mesh_) :=
  (chk (0 ≤ (p0.length : Int) ∧ (p0.length : Int) = (p0.length : Int) ∧ (p0.length : Int).toNat * 4 * 64 ≤ 281474976710656) (
  ((loopM (S := Int × List Mesh_) (X := List Mesh_) (fun s6 =>
  (if s6.1 < (p0.length : Int) then
  ((atI p0 s6.1).bind fun v7 =>
  ((l_toMesh_m v7).bind fun v8 =>
  ((atI s6.2 s6.1).bind fun v9 =>
  some (.inl (w64 (s6.1 + 1), List.set s6.2 s6.1.toNat v8)))))
  else
  some (.inr s6.2))) (0, List.replicate (p0.length : Int).toNat (⟨0, 0, 0, 0⟩ : Mesh_)) : Option (List Mesh_)).bind fun v10 =>
  some v10)))

def l_toWorks_m (p0 : Works_) : Option Works_ :=
  ((l_toArborS_m p0.Arbors).bind fun v1 =>
  ((l_toMeshS_m p0.Meshes).bind fun v2 =>
  some (⟨v1, v2⟩ : Works_)))

def l_toMonth_m (p0 : Month_) : Option Month_ :=
  some p0

def l_toMonthS_m (p0 : List Month_) : Option (List Month_) :=
  (chk (0 ≤ (p0.length : Int) ∧ (p0.length : Int) = (p0.length : Int) ∧ (p0.length : Int).toNat * 3 * 64 ≤ 281474976710656) (
  ((loopM (S := Int × List Month_) (X := List Month_) (fun s6 =>
  (if s6.1 < (p0.length : Int) then
  ((atI p0 s6.1).bind fun v7 =>
  ((l_toMonth_m v7).bind fun v8 =>
  ((atI s6.2 s6.1).bind fun v9 =>
  some (.inl (w64 (s6.1 + 1), List.set s6.2 s6.1.toNat v8)))))
  else
  some (.inr s6.2))) (0, List.replicate (p0.length : Int).toNat (⟨(⟨#[]⟩ : ByteArray), 0, 0⟩ : Month_)) : Option (List Month_)).bind fun v10 =>
  some v10)))

def l_toLeapRule_m (p0 : LeapRule_) : Option LeapRule_ :=
  some p0

def l_toLeapRuleS_m (p0 : List LeapRule_) : Option (List LeapRule_) :=
  (chk (0 ≤ (p0.length : Int) ∧ (p0.length : Int) = (p0.length : Int) ∧ (p0.length : Int).toNat * 3 * 64 ≤ 281474976710656) (
  ((loopM (S := Int × List LeapRule_) (X := List LeapRule_) (fun s6 =>
  (if s6.1 < (p0.length : Int) then
  ((atI p0 s6.1).bind fun v7 =>
  ((l_toLeapRule_m v7).bind fun v8 =>
  ((atI s6.2 s6.1).bind fun v9 =>
  some (.inl (w64 (s6.1 + 1), List.set s6.2 s6.1.toNat v8)))))
  else
  some (.inr s6.2))) (0, List.replicate (p0.length : Int).toNat (⟨0, 0, false⟩ : LeapRule_)) : Option (List LeapRule_)).bind fun v10 =>
  some v10)))

def l_toCalendar_m (p0 : Calendar_) : Option Calendar_ :=
  ((l_toMonthS_m p0.Months).bind fun v1 =>
  ((l_toLeapRuleS_m p0.Rules).bind fun v2 =>
  some (⟨p0.Name, v1, v2, p0.Week⟩ : Calendar_)))

def l_toMovement_m (p0 : Movement_) : Option Movement_ :=
  ((l_toWorks_m p0.Works).bind fun v1 =>
  ((l_toCalendar_m p0.Calendar).bind fun v2 =>
  ((l_toInt64S_m p0.Cam).bind fun v3 =>
  some (⟨p0.Name, v1, p0.Minute, p0.Hour, p0.Escape, p0.Teeth, p0.Beats, v2, v3, p0.Strike⟩ : Movement_))))

def l_toDate_m (p0 : Date_) : Option Date_ :=
  some p0

def s_l01Small_m (p0 : Int) : Option Bool :=
  (if 97 ≤ p0 then
  some (decide (p0 ≤ 122))
  else
  some false)

def s_l01Digit_m (p0 : Int) : Option Bool :=
  (if 48 ≤ p0 then
  some (decide (p0 ≤ 57))
  else
  some false)

def s_IsName_m (p0 : ByteArray) : Option Bool :=
  (((if p0 = (⟨#[]⟩ : ByteArray) then
  some true
  else
  (if 12 < (p0.size : Int) then
  some true
  else
  ((strAt p0 0).bind fun v1 =>
  ((s_l01Small_m v1).bind fun v2 =>
  some (!v2))))) : Option Bool).bind fun v3 =>
  (if v3 = true then
  some false
  else
  ((loopM (S := Int) (X := Unit ⊕ Bool) (fun s11 =>
  (if s11 < (p0.size : Int) then
  ((((strAt p0 s11).bind fun v12 =>
  ((s_l01Small_m v12).bind fun v13 =>
  (if (!v13) = true then
  ((strAt p0 s11).bind fun v14 =>
  ((s_l01Digit_m v14).bind fun v15 =>
  (if (!v15) = true then
  ((strAt p0 s11).bind fun v16 =>
  some (decide (v16 ≠ 45)))
  else
  some false)))
  else
  some false))) : Option Bool).bind fun v17 =>
  (if v17 = true then
  some (.inr (.inr false))
  else
  some (.inl (w64 (s11 + 1)))))
  else
  some (.inr (.inl ())))) 0 : Option (Unit ⊕ Bool)).bind fun v18x => orE v18x fun v18 =>
  some true)))

def s_l00In_m (p0 : Int) (p1 : Int) (p2 : Int) : Option Bool :=
  (if p1 ≤ p0 then
  some (decide (p0 ≤ p2))
  else
  some false)

def s_l05Teeth_m (p0 : Int) : Option Bool :=
  ((s_l00In_m p0 6 240).bind fun v1 =>
  some v1)

def s_l08Arbor_m (p0 : Arbor_) : Option Bool :=
  ((loopM (S := Int) (X := Unit ⊕ Bool) (fun s4 =>
  (if s4 < (p0.Wheels.length : Int) then
  ((atI p0.Wheels s4).bind fun v5 =>
  ((s_l05Teeth_m v5).bind fun v6 =>
  (if (!v6) = true then
  some (.inr (.inr false))
  else
  some (.inl (w64 (s4 + 1))))))
  else
  some (.inr (.inl ())))) 0 : Option (Unit ⊕ Bool)).bind fun v7x => orE v7x fun v7 =>
  ((s_IsName_m p0.Name).bind fun v8 =>
  (if v8 = true then
  some (decide ((p0.Wheels.length : Int) ≤ 5))
  else
  some false)))

def s_l08Find_m (p0 : Works_) (p1 : ByteArray) : Option Int :=
  ((loopM (S := Int) (X := Unit ⊕ Int) (fun s3 =>
  (if s3 < (p0.Arbors.length : Int) then
  ((atI p0.Arbors s3).bind fun v4 =>
  (if v4.Name = p1 then
  some (.inr (.inr s3))
  else
  some (.inl (w64 (s3 + 1)))))
  else
  some (.inr (.inl ())))) 0 : Option (Unit ⊕ Int)).bind fun v5x => orE v5x fun v5 =>
  some (-1))

def s_l08Wheel_m (p0 : Works_) (p1 : Int) (p2 : Int) : Option Bool :=
  ((s_l00In_m p1 0 (w64 ((p0.Arbors.length : Int) - 1))).bind fun v1 =>
  (if v1 = true then
  ((atI p0.Arbors p1).bind fun v2 =>
  ((s_l00In_m p2 0 (w64 ((v2.Wheels.length : Int) - 1))).bind fun v3 =>
  some v3))
  else
  some false))

def s_l08Mesh_m (p0 : Works_) (p1 : Mesh_) : Option Bool :=
  (if p1.A ≠ p1.B then
  ((s_l08Wheel_m p0 p1.A p1.WheelA).bind fun v1 =>
  (if v1 = true then
  ((s_l08Wheel_m p0 p1.B p1.WheelB).bind fun v2 =>
  some v2)
  else
  some false))
  else
  some false)

def s_l08Equal_m (p0 : Mesh_) (p1 : Mesh_) : Option Bool :=
  (if p0 = p1 then
  some true
  else
  (if p0.A = p1.B then
  (if p0.WheelA = p1.WheelB then
  (if p0.B = p1.A then
  some (decide (p0.WheelB = p1.WheelA))
  else
  some false)
  else
  some false)
  else
  some false))

def s_l08Known_m (p0 : Works_) (p1 : Mesh_) (p2 : Int) : Option Bool :=
  ((loopM (S := Int) (X := Unit ⊕ Bool) (fun s4 =>
  (if s4 < p2 then
  ((atI p0.Meshes s4).bind fun v5 =>
  ((s_l08Equal_m v5 p1).bind fun v6 =>
  (if v6 = true then
  some (.inr (.inr true))
  else
  some (.inl (w64 (s4 + 1))))))
  else
  some (.inr (.inl ())))) 0 : Option (Unit ⊕ Bool)).bind fun v7x => orE v7x fun v7 =>
  some false)

def s_l08Ok_m (p0 : Works_) : Option Bool :=
  ((loopM (S := Int) (X := Unit ⊕ Bool) (fun s7 =>
  (if s7 < (p0.Arbors.length : Int) then
  ((((atI p0.Arbors s7).bind fun v8 =>
  ((s_l08Arbor_m v8).bind fun v9 =>
  (if (!v9) = true then
  some true
  else
  ((atI p0.Arbors s7).bind fun v10 =>
  ((s_l08Find_m p0 v10.Name).bind fun v11 =>
  some (decide (v11 ≠ s7))))))) : Option Bool).bind fun v12 =>
  (if v12 = true then
  some (.inr (.inr false))
  else
  some (.inl (w64 (s7 + 1)))))
  else
  some (.inr (.inl ())))) 0 : Option (Unit ⊕ Bool)).bind fun v13x => orE v13x fun v13 =>
  ((loopM (S := Int) (X := Unit ⊕ Bool) (fun s20 =>
  (if s20 < (p0.Meshes.length : Int) then
  ((((atI p0.Meshes s20).bind fun v21 =>
  ((s_l08Mesh_m p0 v21).bind fun v22 =>
  (if (!v22) = true then
  some true
  else
  ((atI p0.Meshes s20).bind fun v23 =>
  ((s_l08Known_m p0 v23 s20).bind fun v24 =>
  some v24))))) : Option Bool).bind fun v25 =>
  (if v25 = true then
  some (.inr (.inr false))
  else
  some (.inl (w64 (s20 + 1)))))
  else
  some (.inr (.inl ())))) 0 : Option (Unit ⊕ Bool)).bind fun v26x => orE v26x fun v26 =>
  (if (p0.Arbors.length : Int) ≤ 16 then
  some (decide ((p0.Meshes.length : Int) ≤ 24))
  else
  some false)))

def s_l08Root_m (p0 : Works_) (p1 : Int) : Option Bool :=
  ((s_l00In_m p1 0 (w64 ((p0.Arbors.length : Int) - 1))).bind fun v1 =>
  some v1)

def s_l02Gcd_m (p0 : Int) (p1 : Int) : Option Int :=
  ((loopM (S := Int × Int) (X := Int) (fun s3 =>
  (if 0 < s3.2 then
  (chk (s3.2 ≠ 0) (
  some (.inl (s3.2, s3.1.tmod s3.2))))
  else
  some (.inr s3.1))) (p0, p1) : Option Int).bind fun v5 =>
  some v5)

def s_l15Years_m (p0 : List LeapRule_) : Option (Int × Bool) :=
  ((loopM (S := Int × Int) (X := Int ⊕ (Int × Bool)) (fun s12 =>
  (if s12.2 < (p0.length : Int) then
  ((((atI p0 s12.2).bind fun v13 =>
  ((s_l00In_m v13.Every 1 1000).bind fun v14 =>
  (if (!v14) = true then
  some true
  else
  ((atI p0 s12.2).bind fun v15 =>
  ((atI p0 s12.2).bind fun v16 =>
  ((s_l00In_m v15.Rest 0 (w64 (v16.Every - 1))).bind fun v17 =>
  some (!v17))))))) : Option Bool).bind fun v18 =>
  (if v18 = true then
  some (.inr (.inr (0, false)))
  else
  ((atI p0 s12.2).bind fun v19 =>
  ((atI p0 s12.2).bind fun v20 =>
  ((s_l02Gcd_m s12.1 v19.Every).bind fun v21 =>
  (chk (v21 ≠ 0) (
  (if 2000 < (w64 ((w64 (s12.1.tdiv v21)) * v20.Every)) then
  some (.inr (.inr (0, false)))
  else
  some (.inl (w64 ((w64 (s12.1.tdiv v21)) * v20.Every), w64 (s12.2 + 1)))))))))))
  else
  some (.inr (.inl s12.1)))) (1, 0) : Option (Int ⊕ (Int × Bool))).bind fun v23x => orE v23x fun v23 =>
  some (v23, decide ((p0.length : Int) ≤ 6)))

def s_l15Months_m (p0 : List Month_) : Option Bool :=
  ((loopM (S := Int) (X := Unit ⊕ Bool) (fun s16 =>
  (if s16 < (p0.length : Int) then
  ((((((atI p0 s16).bind fun v17 =>
  ((s_IsName_m v17.Name).bind fun v18 =>
  (if (!v18) = true then
  some true
  else
  ((atI p0 s16).bind fun v19 =>
  ((s_l00In_m v19.Days 1 60).bind fun v20 =>
  (if (!v20) = true then
  some true
  else
  ((atI p0 s16).bind fun v21 =>
  ((s_l00In_m v21.Leap 1 60).bind fun v22 =>
  some (!v22))))))))) : Option Bool).bind fun v23 =>
  (if v23 = true then
  some (.inr (.inr (.inr false)))
  else
  loopM (S := Int) (X := Unit ⊕ (Int ⊕ (Unit ⊕ Bool))) (fun s27 =>
  (if s27 < s16 then
  ((atI p0 s27).bind fun v28 =>
  ((atI p0 s16).bind fun v29 =>
  (if v28.Name = v29.Name then
  some (.inr (.inr (.inr (.inr false))))
  else
  some (.inl (w64 (s27 + 1))))))
  else
  some (.inr (.inl ())))) 0)) : Option (Unit ⊕ (Int ⊕ (Unit ⊕ Bool)))).bind fun v30x => orE v30x fun v30 =>
  some (.inl (w64 (s16 + 1))))
  else
  some (.inr (.inl ())))) 0 : Option (Unit ⊕ Bool)).bind fun v31x => orE v31x fun v31 =>
  ((s_l00In_m (p0.length : Int) 1 20).bind fun v32 =>
  some v32))

def s_l15Ok_m (p0 : Calendar_) : Option Bool :=
  ((s_l15Years_m p0.Rules).bind fun v1 =>
  (if v1.2 = true then
  ((s_IsName_m p0.Name).bind fun v2 =>
  (if v2 = true then
  ((s_l15Months_m p0.Months).bind fun v3 =>
  (if v3 = true then
  ((s_l00In_m p0.Week 1 12).bind fun v4 =>
  some v4)
  else
  some false))
  else
  some false))
  else
  some false))

def s_l17Ok_m (p0 : List Int) : Option Bool :=
  ((loopM (S := Int) (X := Unit ⊕ Bool) (fun s4 =>
  (if s4 < (p0.length : Int) then
  ((atI p0 s4).bind fun v5 =>
  ((s_l00In_m v5 1 60).bind fun v6 =>
  (if (!v6) = true then
  some (.inr (.inr false))
  else
  some (.inl (w64 (s4 + 1))))))
  else
  some (.inr (.inl ())))) 0 : Option (Unit ⊕ Bool)).bind fun v7x => orE v7x fun v7 =>
  ((s_l00In_m (p0.length : Int) 1 260).bind fun v8 =>
  some v8))

def s_l26Ok_m (p0 : Movement_) : Option Bool :=
  ((((s_IsName_m p0.Name).bind fun v1 =>
  (if (!v1) = true then
  some true
  else
  ((s_l08Ok_m p0.Works).bind fun v2 =>
  (if (!v2) = true then
  some true
  else
  ((s_l08Root_m p0.Works p0.Minute).bind fun v3 =>
  (if (!v3) = true then
  some true
  else
  ((s_l08Root_m p0.Works p0.Hour).bind fun v4 =>
  (if (!v4) = true then
  some true
  else
  ((s_l08Root_m p0.Works p0.Escape).bind fun v5 =>
  some (!v5)))))))))) : Option Bool).bind fun v6 =>
  (if v6 = true then
  some false
  else
  ((s_l05Teeth_m p0.Teeth).bind fun v7 =>
  (if v7 = true then
  ((s_l00In_m p0.Beats 1 36000).bind fun v8 =>
  (if v8 = true then
  ((s_l15Ok_m p0.Calendar).bind fun v9 =>
  (if v9 = true then
  ((s_l17Ok_m p0.Cam).bind fun v10 =>
  (if v10 = true then
  ((s_l00In_m p0.Strike 0 2).bind fun v11 =>
  some v11)
  else
  some false))
  else
  some false))
  else
  some false))
  else
  some false))))

def s_l02Whole_m (p0 : Int) : Option Ratio_ :=
  some (⟨p0, 1⟩ : Ratio_)

def s_l08Pair_m (p0 : Works_) (p1 : Mesh_) : Option Pair_ :=
  ((atI p0.Arbors p1.A).bind fun v1 =>
  ((atI v1.Wheels p1.WheelA).bind fun v2 =>
  ((atI p0.Arbors p1.B).bind fun v3 =>
  ((atI v3.Wheels p1.WheelB).bind fun v4 =>
  some (⟨v2, v4⟩ : Pair_)))))

def s_l02Part_m (p0 : Int) : Option Int :=
  (if p0 < 0 then
  some (IntKind.u64.wrap (-(IntKind.u64.wrap p0)))
  else
  some (IntKind.u64.wrap p0))

def s_l02Make_m (p0 : Int) (p1 : Int) : Option (Ratio_ × Bool) :=
  ((s_l02Part_m p0).bind fun v1 =>
  ((s_l02Part_m p1).bind fun v2 =>
  ((loopM (S := Int × Int) (X := Int) (fun s5 =>
  (if 0 < s5.2 then
  (chk (s5.2 ≠ 0) (
  some (.inl (s5.2, s5.1.tmod s5.2))))
  else
  some (.inr s5.1))) (v1, v2) : Option Int).bind fun v7 =>
  (chk (v7 ≠ 0) (
  (chk (v7 ≠ 0) (
  (((if 1000000000 < (IntKind.u64.wrap (v1.tdiv v7)) then
  some true
  else
  some (decide (1000000000 < (IntKind.u64.wrap (v2.tdiv v7))))) : Option Bool).bind fun v10 =>
  (if v10 = true then
  some ((⟨0, 0⟩ : Ratio_), false)
  else
  (((if ((decide (p0 < 0)) != (decide (p1 < 0))) = true then
  some (⟨w64 (-(w64 (IntKind.u64.wrap (v1.tdiv v7)))), w64 (IntKind.u64.wrap (v2.tdiv v7))⟩ : Ratio_)
  else
  some (⟨w64 (IntKind.u64.wrap (v1.tdiv v7)), w64 (IntKind.u64.wrap (v2.tdiv v7))⟩ : Ratio_)) : Option Ratio_).bind fun v11 =>
  some (v11, true)))))))))))

def s_l02Mul_m (p0 : Ratio_) (p1 : Ratio_) : Option (Ratio_ × Bool) :=
  ((s_l02Make_m (w64 (p0.Num * p1.Num)) (w64 (p0.Den * p1.Den))).bind fun v1 =>
  some (v1.1, v1.2))

def s_l08Round_o_o_m (p0 : Works_) (p1 : List Bool) (p2 : List Ratio_) : Option (Bool × Bool × List Bool × List Ratio_) :=
  ((loopM (S := Bool × Int × List Bool × List Ratio_) (X := (Bool × List Bool × List Ratio_) ⊕ (Bool × Bool × List Bool × List Ratio_)) (fun s14 =>
  (if s14.2.1 < (p0.Meshes.length : Int) then
  ((((atI p0.Meshes s14.2.1).bind fun v15 =>
  ((s_l08Pair_m p0 v15).bind fun v16 =>
  ((atI s14.2.2.1 v15.A).bind fun v17 =>
  ((atI s14.2.2.1 v15.B).bind fun v18 =>
  (if (v17 == v18) = true then
  some (.inl (s14.1, s14.2.2.1, s14.2.2.2))
  else
  ((((atI s14.2.2.1 v15.B).bind fun v19 =>
  (if v19 = true then
  some ((⟨v15.B, 0, v15.A, 0⟩ : Mesh_), (⟨v16.Driven, v16.Driver⟩ : Pair_))
  else
  some (v15, v16))) : Option (Mesh_ × Pair_)).bind fun v20 =>
  ((s_l02Make_m (w64 (-v20.2.Driver)) v20.2.Driven).bind fun v21 =>
  ((atI s14.2.2.2 v20.1.A).bind fun v22 =>
  ((s_l02Mul_m v22 v21.1).bind fun v23 =>
  (if (!v23.2) = true then
  some (.inr (.inr (.inr (false, false, s14.2.2.1, s14.2.2.2))))
  else
  ((atI s14.2.2.2 v20.1.B).bind fun v24 =>
  ((atI s14.2.2.1 v20.1.B).bind fun v25 =>
  some (.inl (true, List.set s14.2.2.1 v20.1.B.toNat true, List.set s14.2.2.2 v20.1.B.toNat v23.1)))))))))))))) : Option ((Bool × List Bool × List Ratio_) ⊕ ((Bool × Int × List Bool × List Ratio_) ⊕ ((Bool × List Bool × List Ratio_) ⊕ (Bool × Bool × List Bool × List Ratio_))))).bind fun v26x => orE v26x fun v26 =>
  some (.inl (v26.1, w64 (s14.2.1 + 1), v26.2.1, v26.2.2)))
  else
  some (.inr (.inl (s14.1, s14.2.2.1, s14.2.2.2))))) (false, 0, p1, p2) : Option ((Bool × List Bool × List Ratio_) ⊕ (Bool × Bool × List Bool × List Ratio_))).bind fun v27x => orE v27x fun v27 =>
  some (v27.1, true, v27.2.1, v27.2.2))

def s_l08Fits_m (p0 : Works_) (p1 : Mesh_) (p2 : List Ratio_) : Option Bool :=
  ((s_l08Pair_m p0 p1).bind fun v1 =>
  ((s_l02Make_m (w64 (-v1.Driver)) v1.Driven).bind fun v2 =>
  ((atI p2 p1.A).bind fun v3 =>
  ((s_l02Mul_m v3 v2.1).bind fun v4 =>
  (if v4.2 = true then
  ((atI p2 p1.B).bind fun v5 =>
  some (decide (v4.1 = v5)))
  else
  some false)))))

def s_l08Speeds_m (p0 : Works_) (p1 : Int) : Option (List Ratio_ × Int) :=
  ((s_l08Root_m p0 p1).bind fun v1 =>
  (if (!v1) = true then
  some (([] : List Ratio_), 2)
  else
  (chk (0 ≤ (p0.Arbors.length : Int) ∧ (p0.Arbors.length : Int) = (p0.Arbors.length : Int) ∧ (p0.Arbors.length : Int).toNat * 1 * 64 ≤ 281474976710656) (
  (chk (0 ≤ (p0.Arbors.length : Int) ∧ (p0.Arbors.length : Int) = (p0.Arbors.length : Int) ∧ (p0.Arbors.length : Int).toNat * 2 * 64 ≤ 281474976710656) (
  ((atI (List.replicate (p0.Arbors.length : Int).toNat false) p1).bind fun v4 =>
  ((s_l02Whole_m 1).bind fun v5 =>
  ((atI (List.replicate (p0.Arbors.length : Int).toNat (⟨0, 0⟩ : Ratio_)) p1).bind fun v6 =>
  ((loopM (S := Bool × List Bool × List Ratio_) (X := (List Bool × List Ratio_) ⊕ (List Ratio_ × Int)) (fun s11 =>
  (if s11.1 = true then
  ((s_l08Round_o_o_m p0 s11.2.1 s11.2.2).bind fun v12 =>
  (chk (v12.2.2.1.length = s11.2.1.length) (
  (chk (v12.2.2.2.length = s11.2.2.length) (
  (if (!v12.2.1) = true then
  some (.inr (.inr (([] : List Ratio_), 2)))
  else
  some (.inl (v12.1, v12.2.2.1, v12.2.2.2))))))))
  else
  some (.inr (.inl (s11.2.1, s11.2.2))))) (true, List.set (List.replicate (p0.Arbors.length : Int).toNat false) p1.toNat true, List.set (List.replicate (p0.Arbors.length : Int).toNat (⟨0, 0⟩ : Ratio_)) p1.toNat v5) : Option ((List Bool × List Ratio_) ⊕ (List Ratio_ × Int))).bind fun v15x => orE v15x fun v15 =>
  ((loopM (S := Int) (X := Unit ⊕ (List Ratio_ × Int)) (fun s18 =>
  (if s18 < (v15.1.length : Int) then
  ((atI v15.1 s18).bind fun v19 =>
  (if (!v19) = true then
  some (.inr (.inr (([] : List Ratio_), 6)))
  else
  some (.inl (w64 (s18 + 1)))))
  else
  some (.inr (.inl ())))) 0 : Option (Unit ⊕ (List Ratio_ × Int))).bind fun v20x => orE v20x fun v20 =>
  ((loopM (S := Int) (X := Unit ⊕ (List Ratio_ × Int)) (fun s24 =>
  (if s24 < (p0.Meshes.length : Int) then
  ((atI p0.Meshes s24).bind fun v25 =>
  ((s_l08Fits_m p0 v25 v15.2).bind fun v26 =>
  (if (!v26) = true then
  some (.inr (.inr (([] : List Ratio_), 10)))
  else
  some (.inl (w64 (s24 + 1))))))
  else
  some (.inr (.inl ())))) 0 : Option (Unit ⊕ (List Ratio_ × Int))).bind fun v27x => orE v27x fun v27 =>
  some (v15.2, 0)))))))))))))

def s_l02Size_m (p0 : Int) : Option Int :=
  (if p0 < 0 then
  some (w64 (-p0))
  else
  some p0)

def s_l26Beats_m (p0 : Movement_) (p1 : Ratio_) : Option Bool :=
  ((s_l02Size_m p1.Num).bind fun v1 =>
  some (decide ((w64 ((w64 (2 * p0.Teeth)) * v1)) = (w64 (p0.Beats * p1.Den)))))

def s_l17Ask_m (p0 : Calendar_) (p1 : List Int) : Option Int :=
  ((((s_l15Ok_m p0).bind fun v1 =>
  (if (!v1) = true then
  some true
  else
  ((s_l17Ok_m p1).bind fun v2 =>
  some (!v2)))) : Option Bool).bind fun v3 =>
  (if v3 = true then
  some 1
  else
  (chk ((p0.Months.length : Int) ≠ 0) (
  (if ((p1.length : Int).tmod (p0.Months.length : Int)) ≠ 0 then
  some 6
  else
  some 0)))))

def s_l26Faults_m (p0 : Movement_) : Option (List ByteArray) :=
  ((s_l08Speeds_m p0.Works p0.Minute).bind fun v1 =>
  (((if v1.2 ≠ 0 then
  (chk ((([] : List ByteArray).length + [(⟨#[119, 111, 114, 107, 115]⟩ : ByteArray)].length) * 1 * 64 ≤ 140737488355328) (
  some (([] : List ByteArray) ++ [(⟨#[119, 111, 114, 107, 115]⟩ : ByteArray)])))
  else
  ((((atI v1.1 p0.Hour).bind fun v3 =>
  (if v3 ≠ (⟨1, 12⟩ : Ratio_) then
  (chk ((([] : List ByteArray).length + [(⟨#[104, 111, 117, 114]⟩ : ByteArray)].length) * 1 * 64 ≤ 140737488355328) (
  some (([] : List ByteArray) ++ [(⟨#[104, 111, 117, 114]⟩ : ByteArray)])))
  else
  some ([] : List ByteArray))) : Option (List ByteArray)).bind fun v5 =>
  ((atI v1.1 p0.Escape).bind fun v6 =>
  ((s_l26Beats_m p0 v6).bind fun v7 =>
  (if (!v7) = true then
  (chk ((v5.length + [(⟨#[98, 101, 97, 116, 115]⟩ : ByteArray)].length) * 1 * 64 ≤ 140737488355328) (
  some (v5 ++ [(⟨#[98, 101, 97, 116, 115]⟩ : ByteArray)])))
  else
  some v5))))) : Option (List ByteArray)).bind fun v9 =>
  ((((s_l17Ask_m p0.Calendar p0.Cam).bind fun v10 =>
  (if v10 ≠ 0 then
  (chk ((v9.length + [(⟨#[99, 97, 109]⟩ : ByteArray)].length) * 1 * 64 ≤ 140737488355328) (
  some (v9 ++ [(⟨#[99, 97, 109]⟩ : ByteArray)])))
  else
  some v9)) : Option (List ByteArray)).bind fun v12 =>
  some v12)))

def s_l15Year_m (p0 : Int) : Option Bool :=
  ((s_l00In_m p0 0 9999).bind fun v1 =>
  some v1)

def s_l15Leap_m (p0 : Calendar_) (p1 : Int) : Option Bool :=
  ((loopM (S := Bool × Int) (X := Bool) (fun s7 =>
  (if s7.2 < (p0.Rules.length : Int) then
  ((((atI p0.Rules s7.2).bind fun v8 =>
  (chk (v8.Every ≠ 0) (
  ((atI p0.Rules s7.2).bind fun v10 =>
  (if (p1.tmod v8.Every) = v10.Rest then
  ((atI p0.Rules s7.2).bind fun v11 =>
  some v11.Leap)
  else
  some s7.1))))) : Option Bool).bind fun v12 =>
  some (.inl (v12, w64 (s7.2 + 1))))
  else
  some (.inr s7.1))) (false, 0) : Option Bool).bind fun v13 =>
  some v13)

def s_l15Days_m (p0 : Calendar_) (p1 : Int) (p2 : Int) : Option Int :=
  ((s_l15Leap_m p0 p1).bind fun v1 =>
  (if v1 = true then
  ((atI p0.Months p2).bind fun v2 =>
  some v2.Leap)
  else
  ((atI p0.Months p2).bind fun v3 =>
  some v3.Days)))

def s_l16Ok_m (p0 : Calendar_) (p1 : Date_) : Option Bool :=
  ((((s_l15Year_m p1.Year).bind fun v1 =>
  (if (!v1) = true then
  some true
  else
  ((s_l00In_m p1.Month 1 (p0.Months.length : Int)).bind fun v2 =>
  some (!v2)))) : Option Bool).bind fun v3 =>
  (if v3 = true then
  some false
  else
  ((s_l15Days_m p0 p1.Year (w64 (p1.Month - 1))).bind fun v4 =>
  ((s_l00In_m p1.Day 1 v4).bind fun v5 =>
  some v5))))

def s_l00Own_m (p0 : List Int) : Option (List Int) :=
  (chk ((([] : List Int).length + p0.length) * 1 * 64 ≤ 140737488355328) (
  some (([] : List Int) ++ p0)))

def s_l00Max_m (p0 : Int) (p1 : Int) : Option Int :=
  (if p1 < p0 then
  some p0
  else
  some p1)

def s_SetPerpetual_m (p0 : Calendar_) (p1 : List Int) (p2 : Date_) (p3 : Int) : Option (Perpetual_ × Int) :=
  ((s_l17Ask_m p0 p1).bind fun v1 =>
  (if v1 ≠ 0 then
  some ((⟨([] : List Int), 0, 0, 0, 0, 0, 0⟩ : Perpetual_), v1)
  else
  ((((s_l16Ok_m p0 p2).bind fun v2 =>
  (if (!v2) = true then
  some true
  else
  ((s_l00In_m p3 1 p0.Week).bind fun v3 =>
  some (!v3)))) : Option Bool).bind fun v4 =>
  (if v4 = true then
  some ((⟨([] : List Int), 0, 0, 0, 0, 0, 0⟩ : Perpetual_), 2)
  else
  ((s_l00Own_m p1).bind fun v5 =>
  (chk ((p0.Months.length : Int) ≠ 0) (
  (chk ((w64 ((p1.length : Int).tdiv (p0.Months.length : Int))) ≠ 0) (
  ((loopM (S := Int × Int) (X := Int) (fun s11 =>
  (if s11.1 < (p1.length : Int) then
  ((atI p1 s11.1).bind fun v12 =>
  ((s_l00Max_m s11.2 v12).bind fun v13 =>
  some (.inl (w64 (s11.1 + 1), v13))))
  else
  some (.inr s11.2))) (0, 0) : Option Int).bind fun v14 =>
  ((loopM (S := Int × Int) (X := Int) (fun s20 =>
  (if s20.1 < (p0.Months.length : Int) then
  ((atI p0.Months s20.1).bind fun v21 =>
  ((atI p0.Months s20.1).bind fun v22 =>
  ((s_l00Max_m v21.Days v22.Leap).bind fun v23 =>
  ((s_l00Max_m s20.2 v23).bind fun v24 =>
  some (.inl (w64 (s20.1 + 1), v24))))))
  else
  some (.inr s20.2))) (0, v14) : Option Int).bind fun v25 =>
  some ((⟨v5, (p0.Months.length : Int), v25, w64 ((w64 ((w64 ((p2.Year.tmod (w64 ((p1.length : Int).tdiv (p0.Months.length : Int)))) * (p0.Months.length : Int))) + p2.Month)) - 1), p2.Day, p0.Week, p3⟩ : Perpetual_), 0))))))))))))

def s_l27Dial_m (p0 : Movement_) (p1 : Date_) (p2 : Int) : Option (Perpetual_ × Int) :=
  ((s_SetPerpetual_m p0.Calendar p0.Cam p1 p2).bind fun v1 =>
  some (v1.1, v1.2))

def i_within_m (p0 : Int) (p1 : Int) (p2 : Int) : Option Bool :=
  (if p1 ≤ p0 then
  some (decide (p0 ≤ p2))
  else
  some false)

def i_isArbor_m (p0 : Works_) (p1 : Int) : Option Bool :=
  ((i_within_m p1 0 (w64 ((p0.Arbors.length : Int) - 1))).bind fun v1 =>
  some v1)

def i_toothed_m (p0 : Int) : Option Bool :=
  ((i_within_m p0 6 240).bind fun v1 =>
  some v1)

def i_IsName_m (p0 : ByteArray) : Option Bool :=
  (((if (p0.size : Int) < 1 then
  some true
  else
  some (decide (12 < (p0.size : Int)))) : Option Bool).bind fun v1 =>
  (if v1 = true then
  some false
  else
  (((chk (p0.size ≤ 140737488355328) (
  loopM (S := Int) (X := Unit ⊕ Bool) (fun s8 =>
  (if s8 < ((bytesL p0).length : Int) then
  ((atI (bytesL p0) s8).bind fun v9 =>
  (((if 97 ≤ v9 then
  some (decide (v9 ≤ 122))
  else
  some false) : Option Bool).bind fun v10 =>
  (((if 48 ≤ v9 then
  (if v9 ≤ 57 then
  some true
  else
  some (decide (v9 = 45)))
  else
  some (decide (v9 = 45))) : Option Bool).bind fun v11 =>
  (((if (!v10) = true then
  (if s8 = 0 then
  some true
  else
  some (!v11))
  else
  some false) : Option Bool).bind fun v12 =>
  (if v12 = true then
  some (.inr (.inr false))
  else
  some (.inl (w64 (s8 + 1))))))))
  else
  some (.inr (.inl ())))) 0)) : Option (Unit ⊕ Bool)).bind fun v13x => orE v13x fun v13 =>
  some true)))

def i_validArbor_m (p0 : Arbor_) : Option Bool :=
  ((loopM (S := Int) (X := Unit ⊕ Bool) (fun s4 =>
  (if s4 < (p0.Wheels.length : Int) then
  ((atI p0.Wheels s4).bind fun v5 =>
  ((i_toothed_m v5).bind fun v6 =>
  (if (!v6) = true then
  some (.inr (.inr false))
  else
  some (.inl (w64 (s4 + 1))))))
  else
  some (.inr (.inl ())))) 0 : Option (Unit ⊕ Bool)).bind fun v7x => orE v7x fun v7 =>
  ((i_IsName_m p0.Name).bind fun v8 =>
  (if v8 = true then
  some (decide ((p0.Wheels.length : Int) ≤ 5))
  else
  some false)))

def i_hasWheel_m (p0 : Works_) (p1 : Int) (p2 : Int) : Option Bool :=
  ((i_within_m p1 0 (w64 ((p0.Arbors.length : Int) - 1))).bind fun v1 =>
  (if v1 = true then
  ((atI p0.Arbors p1).bind fun v2 =>
  ((i_within_m p2 0 (w64 ((v2.Wheels.length : Int) - 1))).bind fun v3 =>
  some v3))
  else
  some false))

def i_joins_m (p0 : Works_) (p1 : Mesh_) : Option Bool :=
  (if p1.A ≠ p1.B then
  ((i_hasWheel_m p0 p1.A p1.WheelA).bind fun v1 =>
  (if v1 = true then
  ((i_hasWheel_m p0 p1.B p1.WheelB).bind fun v2 =>
  some v2)
  else
  some false))
  else
  some false)

def i_sameMesh_m (p0 : Mesh_) (p1 : Mesh_) : Option Bool :=
  (if p0 = p1 then
  some true
  else
  some (decide (p0 = (⟨p1.B, p1.WheelB, p1.A, p1.WheelA⟩ : Mesh_))))

def i_ValidWorks_1_m (p0 : Mesh_) (p1 : Mesh_) : Option Bool :=
  ((i_sameMesh_m p1 p0).bind fun v1 =>
  some v1)

def slices_IndexFunc_LMesh_Mesh_i_ValidWorks_1_m (p0 : List Mesh_) (p1_0 : Mesh_) : Option Int :=
  ((loopM (S := Int) (X := Unit ⊕ Int) (fun s4 =>
  (if s4 < (p0.length : Int) then
  ((atI p0 s4).bind fun v5 =>
  ((i_ValidWorks_1_m v5 p1_0).bind fun v6 =>
  (if v6 = true then
  some (.inr (.inr s4))
  else
  some (.inl (w64 (s4 + 1))))))
  else
  some (.inr (.inl ())))) 0 : Option (Unit ⊕ Int)).bind fun v7x => orE v7x fun v7 =>
  some (-1))

def slices_ContainsFunc_LMesh_Mesh_i_ValidWorks_1_m (p0 : List Mesh_) (p1_0 : Mesh_) : Option Bool :=
  ((slices_IndexFunc_LMesh_Mesh_i_ValidWorks_1_m p0 p1_0).bind fun v1 =>
  some (decide (0 ≤ v1)))

def i_ValidWorks_m (p0 : Works_) : Option Bool :=
  (((if 16 < (p0.Arbors.length : Int) then
  some true
  else
  some (decide (24 < (p0.Meshes.length : Int)))) : Option Bool).bind fun v1 =>
  (if v1 = true then
  some false
  else
  ((loopM (S := Int) (X := Unit ⊕ Bool) (fun s11 =>
  (if s11 < (p0.Arbors.length : Int) then
  ((((atI p0.Arbors s11).bind fun v12 =>
  ((i_validArbor_m v12).bind fun v13 =>
  (if (!v13) = true then
  some (.inr (.inr (.inr false)))
  else
  (chk (0 ≤ (0 : Int) ∧ (0 : Int) ≤ s11 ∧ s11 ≤ (p0.Arbors.length : Int)) (
  loopM (S := Int) (X := Unit ⊕ (Int ⊕ (Unit ⊕ Bool))) (fun s17 =>
  (if s17 < ((subL p0.Arbors (0 : Int) s11).length : Int) then
  ((atI (subL p0.Arbors (0 : Int) s11) s17).bind fun v18 =>
  (if v12.Name = v18.Name then
  some (.inr (.inr (.inr (.inr false))))
  else
  some (.inl (w64 (s17 + 1)))))
  else
  some (.inr (.inl ())))) 0))))) : Option (Unit ⊕ (Int ⊕ (Unit ⊕ Bool)))).bind fun v19x => orE v19x fun v19 =>
  some (.inl (w64 (s11 + 1))))
  else
  some (.inr (.inl ())))) 0 : Option (Unit ⊕ Bool)).bind fun v20x => orE v20x fun v20 =>
  ((loopM (S := Int) (X := Unit ⊕ Bool) (fun s27 =>
  (if s27 < (p0.Meshes.length : Int) then
  ((atI p0.Meshes s27).bind fun v28 =>
  ((((i_joins_m p0 v28).bind fun v29 =>
  (if (!v29) = true then
  some true
  else
  (chk (0 ≤ (0 : Int) ∧ (0 : Int) ≤ s27 ∧ s27 ≤ (p0.Meshes.length : Int)) (
  ((slices_ContainsFunc_LMesh_Mesh_i_ValidWorks_1_m (subL p0.Meshes (0 : Int) s27) v28).bind fun v31 =>
  some v31))))) : Option Bool).bind fun v32 =>
  (if v32 = true then
  some (.inr (.inr false))
  else
  some (.inl (w64 (s27 + 1))))))
  else
  some (.inr (.inl ())))) 0 : Option (Unit ⊕ Bool)).bind fun v33x => orE v33x fun v33 =>
  some true))))

def i_ValidCalendar_1_m (p0 : Month_) (p1 : Month_) : Option Bool :=
  some (decide (p0.Name = p1.Name))

def slices_IndexFunc_LMonth_Month_i_ValidCalendar_1_m (p0 : List Month_) (p1_0 : Month_) : Option Int :=
  ((loopM (S := Int) (X := Unit ⊕ Int) (fun s4 =>
  (if s4 < (p0.length : Int) then
  ((atI p0 s4).bind fun v5 =>
  ((i_ValidCalendar_1_m v5 p1_0).bind fun v6 =>
  (if v6 = true then
  some (.inr (.inr s4))
  else
  some (.inl (w64 (s4 + 1))))))
  else
  some (.inr (.inl ())))) 0 : Option (Unit ⊕ Int)).bind fun v7x => orE v7x fun v7 =>
  some (-1))

def slices_ContainsFunc_LMonth_Month_i_ValidCalendar_1_m (p0 : List Month_) (p1_0 : Month_) : Option Bool :=
  ((slices_IndexFunc_LMonth_Month_i_ValidCalendar_1_m p0 p1_0).bind fun v1 =>
  some (decide (0 ≤ v1)))

def i_gcd_m (p0 : Int) (p1 : Int) : Option Int :=
  ((loopM (S := Int × Int) (X := Int) (fun s3 =>
  (if s3.2 ≠ 0 then
  (chk (s3.2 ≠ 0) (
  some (.inl (s3.2, s3.1.tmod s3.2))))
  else
  some (.inr s3.1))) (p0, p1) : Option Int).bind fun v5 =>
  (if v5 < 0 then
  some (w64 (-v5))
  else
  some v5))

def i_cycleYears_m (p0 : List LeapRule_) : Option Int :=
  ((loopM (S := Int × Int) (X := Int) (fun s6 =>
  (if s6.2 < (p0.length : Int) then
  ((((atI p0 s6.2).bind fun v7 =>
  (if s6.1 ≤ 2000 then
  ((i_gcd_m s6.1 v7.Every).bind fun v8 =>
  (chk (v8 ≠ 0) (
  some (w64 ((w64 (s6.1.tdiv v8)) * v7.Every)))))
  else
  some s6.1)) : Option Int).bind fun v10 =>
  some (.inl (v10, w64 (s6.2 + 1))))
  else
  some (.inr s6.1))) (1, 0) : Option Int).bind fun v11 =>
  some v11)

def i_ValidCalendar_m (p0 : Calendar_) : Option Bool :=
  ((((i_IsName_m p0.Name).bind fun v1 =>
  (if (!v1) = true then
  some true
  else
  (if (p0.Months.length : Int) < 1 then
  some true
  else
  (if 20 < (p0.Months.length : Int) then
  some true
  else
  (if 6 < (p0.Rules.length : Int) then
  some true
  else
  ((i_within_m p0.Week 1 12).bind fun v2 =>
  some (!v2))))))) : Option Bool).bind fun v3 =>
  (if v3 = true then
  some false
  else
  ((loopM (S := Int) (X := Unit ⊕ Bool) (fun s12 =>
  (if s12 < (p0.Months.length : Int) then
  ((atI p0.Months s12).bind fun v13 =>
  ((((i_IsName_m v13.Name).bind fun v14 =>
  (if (!v14) = true then
  some true
  else
  ((i_within_m v13.Days 1 60).bind fun v15 =>
  (if (!v15) = true then
  some true
  else
  ((i_within_m v13.Leap 1 60).bind fun v16 =>
  some (!v16)))))) : Option Bool).bind fun v17 =>
  (if v17 = true then
  some (.inr (.inr false))
  else
  (chk (0 ≤ (0 : Int) ∧ (0 : Int) ≤ s12 ∧ s12 ≤ (p0.Months.length : Int)) (
  ((slices_ContainsFunc_LMonth_Month_i_ValidCalendar_1_m (subL p0.Months (0 : Int) s12) v13).bind fun v19 =>
  (if v19 = true then
  some (.inr (.inr false))
  else
  some (.inl (w64 (s12 + 1))))))))))
  else
  some (.inr (.inl ())))) 0 : Option (Unit ⊕ Bool)).bind fun v20x => orE v20x fun v20 =>
  ((loopM (S := Int) (X := Unit ⊕ Bool) (fun s26 =>
  (if s26 < (p0.Rules.length : Int) then
  ((atI p0.Rules s26).bind fun v27 =>
  ((((i_within_m v27.Every 1 1000).bind fun v28 =>
  (if (!v28) = true then
  some true
  else
  ((i_within_m v27.Rest 0 (w64 (v27.Every - 1))).bind fun v29 =>
  some (!v29)))) : Option Bool).bind fun v30 =>
  (if v30 = true then
  some (.inr (.inr false))
  else
  some (.inl (w64 (s26 + 1))))))
  else
  some (.inr (.inl ())))) 0 : Option (Unit ⊕ Bool)).bind fun v31x => orE v31x fun v31 =>
  ((i_cycleYears_m p0.Rules).bind fun v32 =>
  some (decide (v32 ≤ 2000)))))))

def i_ValidCam_m (p0 : List Int) : Option Bool :=
  ((loopM (S := Int) (X := Unit ⊕ Bool) (fun s4 =>
  (if s4 < (p0.length : Int) then
  ((atI p0 s4).bind fun v5 =>
  ((i_within_m v5 1 60).bind fun v6 =>
  (if (!v6) = true then
  some (.inr (.inr false))
  else
  some (.inl (w64 (s4 + 1))))))
  else
  some (.inr (.inl ())))) 0 : Option (Unit ⊕ Bool)).bind fun v7x => orE v7x fun v7 =>
  (if 1 ≤ (p0.length : Int) then
  some (decide ((p0.length : Int) ≤ 260))
  else
  some false))

def i_ValidMovement_m (p0 : Movement_) : Option Bool :=
  ((((i_isArbor_m p0.Works p0.Minute).bind fun v1 =>
  (if v1 = true then
  ((i_isArbor_m p0.Works p0.Hour).bind fun v2 =>
  (if v2 = true then
  ((i_isArbor_m p0.Works p0.Escape).bind fun v3 =>
  some v3)
  else
  some false))
  else
  some false)) : Option Bool).bind fun v4 =>
  ((((i_toothed_m p0.Teeth).bind fun v5 =>
  (if v5 = true then
  ((i_within_m p0.Beats 1 36000).bind fun v6 =>
  (if v6 = true then
  ((i_within_m p0.Strike 0 2).bind fun v7 =>
  some v7)
  else
  some false))
  else
  some false)) : Option Bool).bind fun v8 =>
  (if v4 = true then
  (if v8 = true then
  ((i_IsName_m p0.Name).bind fun v9 =>
  (if v9 = true then
  ((i_ValidWorks_m p0.Works).bind fun v10 =>
  (if v10 = true then
  ((i_ValidCalendar_m p0.Calendar).bind fun v11 =>
  (if v11 = true then
  ((i_ValidCam_m p0.Cam).bind fun v12 =>
  some v12)
  else
  some false))
  else
  some false))
  else
  some false))
  else
  some false)
  else
  some false)))

def i_pairOf_m (p0 : Works_) (p1 : Mesh_) : Option Pair_ :=
  ((atI p0.Arbors p1.A).bind fun v1 =>
  ((atI v1.Wheels p1.WheelA).bind fun v2 =>
  ((atI p0.Arbors p1.B).bind fun v3 =>
  ((atI v3.Wheels p1.WheelB).bind fun v4 =>
  some (⟨v2, v4⟩ : Pair_)))))

def i_magnitude_m (p0 : Int) : Option Int :=
  (if p0 < 0 then
  some (IntKind.u64.wrap (-(IntKind.u64.wrap p0)))
  else
  some (IntKind.u64.wrap p0))

def i_reduced_m (p0 : Int) (p1 : Int) : Option (Ratio_ × Bool) :=
  ((i_magnitude_m p0).bind fun v1 =>
  ((i_magnitude_m p1).bind fun v2 =>
  ((loopM (S := Int × Int) (X := Int) (fun s5 =>
  (if s5.2 ≠ 0 then
  (chk (s5.2 ≠ 0) (
  some (.inl (s5.2, s5.1.tmod s5.2))))
  else
  some (.inr s5.1))) (v1, v2) : Option Int).bind fun v7 =>
  (chk (v7 ≠ 0) (
  (chk (v7 ≠ 0) (
  (((if 1000000000 < (IntKind.u64.wrap (v1.tdiv v7)) then
  some true
  else
  some (decide (1000000000 < (IntKind.u64.wrap (v2.tdiv v7))))) : Option Bool).bind fun v10 =>
  (if v10 = true then
  some ((⟨0, 0⟩ : Ratio_), false)
  else
  (((if ((decide (p0 < 0)) != (decide (p1 < 0))) = true then
  some (⟨w64 (-(w64 (IntKind.u64.wrap (v1.tdiv v7)))), w64 (IntKind.u64.wrap (v2.tdiv v7))⟩ : Ratio_)
  else
  some (⟨w64 (IntKind.u64.wrap (v1.tdiv v7)), w64 (IntKind.u64.wrap (v2.tdiv v7))⟩ : Ratio_)) : Option Ratio_).bind fun v11 =>
  some (v11, true)))))))))))

def i_MakeRatio_m (p0 : Int) (p1 : Int) : Option (Ratio_ × Int) :=
  (if p1 = 0 then
  some ((⟨0, 0⟩ : Ratio_), 6)
  else
  ((i_reduced_m p0 p1).bind fun v1 =>
  (if (!v1.2) = true then
  some ((⟨0, 0⟩ : Ratio_), 2)
  else
  some (v1.1, 0))))

def i_ValidRatio_m (p0 : Ratio_) : Option Bool :=
  ((i_within_m p0.Den 1 1000000000).bind fun v1 =>
  (if v1 = true then
  ((i_within_m p0.Num (-1000000000) 1000000000).bind fun v2 =>
  (if v2 = true then
  ((i_gcd_m p0.Num p0.Den).bind fun v3 =>
  some (decide (v3 = 1)))
  else
  some false))
  else
  some false))

def i_MulRatio_m (p0 : Ratio_) (p1 : Ratio_) : Option (Ratio_ × Int) :=
  ((((i_ValidRatio_m p0).bind fun v1 =>
  (if (!v1) = true then
  some true
  else
  ((i_ValidRatio_m p1).bind fun v2 =>
  some (!v2)))) : Option Bool).bind fun v3 =>
  (if v3 = true then
  some ((⟨0, 0⟩ : Ratio_), 1)
  else
  ((i_MakeRatio_m (w64 (p0.Num * p1.Num)) (w64 (p0.Den * p1.Den))).bind fun v4 =>
  some (v4.1, v4.2))))

def i_meshed_m (p0 : Ratio_) (p1 : Int) (p2 : Int) : Option (Ratio_ × Int) :=
  ((i_MakeRatio_m (w64 (-p1)) p2).bind fun v1 =>
  ((i_MulRatio_m p0 v1.1).bind fun v2 =>
  some (v2.1, v2.2)))

def i_speedsFrom_m (p0 : Works_) (p1 : Int) : Option (List Ratio_ × Int) :=
  (chk (0 ≤ (p0.Arbors.length : Int) ∧ (p0.Arbors.length : Int) = (p0.Arbors.length : Int) ∧ (p0.Arbors.length : Int).toNat * 2 * 64 ≤ 281474976710656) (
  ((atI (List.replicate (p0.Arbors.length : Int).toNat (⟨0, 0⟩ : Ratio_)) p1).bind fun v2 =>
  ((loopM (S := Bool × List Ratio_) (X := (List Ratio_) ⊕ (List Ratio_ × Int)) (fun s28 =>
  (if s28.1 = true then
  loopM (S := Bool × Int × List Ratio_) (X := (Bool × List Ratio_) ⊕ ((List Ratio_) ⊕ (List Ratio_ × Int))) (fun s41 =>
  (if s41.2.1 < (p0.Meshes.length : Int) then
  ((((atI p0.Meshes s41.2.1).bind fun v42 =>
  ((i_pairOf_m p0 v42).bind fun v43 =>
  ((((atI s41.2.2 v42.A).bind fun v44 =>
  (if v44.Den = 0 then
  some (v42.B, v42.A, (⟨v43.Driven, v43.Driver⟩ : Pair_))
  else
  some (v42.A, v42.B, v43))) : Option (Int × Int × Pair_)).bind fun v45 =>
  ((((atI s41.2.2 v45.1).bind fun v46 =>
  (if v46.Den = 0 then
  some true
  else
  ((atI s41.2.2 v45.2.1).bind fun v47 =>
  some (decide (v47.Den ≠ 0))))) : Option Bool).bind fun v48 =>
  (if v48 = true then
  some (.inl (s41.1, s41.2.2))
  else
  ((atI s41.2.2 v45.1).bind fun v49 =>
  ((i_meshed_m v49 v45.2.2.Driver v45.2.2.Driven).bind fun v50 =>
  (if v50.2 ≠ 0 then
  some (.inr (.inr (.inr (.inr (([] : List Ratio_), v50.2)))))
  else
  ((atI s41.2.2 v45.2.1).bind fun v51 =>
  some (.inl (true, List.set s41.2.2 v45.2.1.toNat v50.1))))))))))) : Option ((Bool × List Ratio_) ⊕ ((Bool × Int × List Ratio_) ⊕ ((Bool × List Ratio_) ⊕ ((List Ratio_) ⊕ (List Ratio_ × Int)))))).bind fun v52x => orE v52x fun v52 =>
  some (.inl (v52.1, w64 (s41.2.1 + 1), v52.2)))
  else
  some (.inr (.inl (s41.1, s41.2.2))))) (false, 0, s28.2)
  else
  some (.inr (.inl s28.2)))) (true, List.set (List.replicate (p0.Arbors.length : Int).toNat (⟨0, 0⟩ : Ratio_)) p1.toNat (⟨1, 1⟩ : Ratio_)) : Option ((List Ratio_) ⊕ (List Ratio_ × Int))).bind fun v53x => orE v53x fun v53 =>
  some (v53, 0)))))

def i_SpeedsOf_1_m (p0 : Ratio_) : Option Bool :=
  some (decide (p0.Den = 0))

def slices_IndexFunc_LRatio_Ratio_i_SpeedsOf_1_m (p0 : List Ratio_) : Option Int :=
  ((loopM (S := Int) (X := Unit ⊕ Int) (fun s4 =>
  (if s4 < (p0.length : Int) then
  ((atI p0 s4).bind fun v5 =>
  ((i_SpeedsOf_1_m v5).bind fun v6 =>
  (if v6 = true then
  some (.inr (.inr s4))
  else
  some (.inl (w64 (s4 + 1))))))
  else
  some (.inr (.inl ())))) 0 : Option (Unit ⊕ Int)).bind fun v7x => orE v7x fun v7 =>
  some (-1))

def slices_ContainsFunc_LRatio_Ratio_i_SpeedsOf_1_m (p0 : List Ratio_) : Option Bool :=
  ((slices_IndexFunc_LRatio_Ratio_i_SpeedsOf_1_m p0).bind fun v1 =>
  some (decide (0 ≤ v1)))

def i_SpeedsOf_m (p0 : Works_) (p1 : Int) : Option (List Ratio_ × Int) :=
  ((i_ValidWorks_m p0).bind fun v1 =>
  (if (!v1) = true then
  some (([] : List Ratio_), 1)
  else
  ((i_within_m p1 0 (w64 ((p0.Arbors.length : Int) - 1))).bind fun v2 =>
  (if (!v2) = true then
  some (([] : List Ratio_), 2)
  else
  ((i_speedsFrom_m p0 p1).bind fun v3 =>
  (if v3.2 ≠ 0 then
  some (([] : List Ratio_), v3.2)
  else
  ((slices_ContainsFunc_LRatio_Ratio_i_SpeedsOf_1_m v3.1).bind fun v4 =>
  (if v4 = true then
  some (([] : List Ratio_), 6)
  else
  ((loopM (S := Int) (X := Unit ⊕ (List Ratio_ × Int)) (fun s12 =>
  (if s12 < (p0.Meshes.length : Int) then
  ((atI p0.Meshes s12).bind fun v13 =>
  ((i_pairOf_m p0 v13).bind fun v14 =>
  ((atI v3.1 v13.A).bind fun v15 =>
  ((i_meshed_m v15 v14.Driver v14.Driven).bind fun v16 =>
  (((if v16.2 ≠ 0 then
  some true
  else
  ((atI v3.1 v13.B).bind fun v17 =>
  some (decide (v16.1 ≠ v17)))) : Option Bool).bind fun v18 =>
  (if v18 = true then
  some (.inr (.inr (([] : List Ratio_), 10)))
  else
  some (.inl (w64 (s12 + 1)))))))))
  else
  some (.inr (.inl ())))) 0 : Option (Unit ⊕ (List Ratio_ × Int))).bind fun v19x => orE v19x fun v19 =>
  some (v3.1, 0))))))))))

def i_abs_m (p0 : Int) : Option Int :=
  (if p0 < 0 then
  some (w64 (-p0))
  else
  some p0)

def i_belongs_m (p0 : Calendar_) (p1 : List Int) : Option Int :=
  (chk ((p0.Months.length : Int) ≠ 0) (
  (if ((p1.length : Int).tmod (p0.Months.length : Int)) ≠ 0 then
  some 0
  else
  (chk ((p0.Months.length : Int) ≠ 0) (
  some (w64 ((p1.length : Int).tdiv (p0.Months.length : Int))))))))

def i_MovementFaults_m (p0 : Movement_) : Option (List ByteArray) :=
  ((i_ValidMovement_m p0).bind fun v1 =>
  (if (!v1) = true then
  some [(⟨#[109, 111, 118, 101, 109, 101, 110, 116]⟩ : ByteArray)]
  else
  ((i_SpeedsOf_m p0.Works p0.Minute).bind fun v2 =>
  (((if v2.2 ≠ 0 then
  (chk ([(⟨#[119, 111, 114, 107, 115]⟩ : ByteArray)].length * 1 * 64 ≤ 140737488355328) (
  some [(⟨#[119, 111, 114, 107, 115]⟩ : ByteArray)]))
  else
  ((((atI v2.1 p0.Hour).bind fun v4 =>
  (if v4 ≠ (⟨1, 12⟩ : Ratio_) then
  (chk ([(⟨#[104, 111, 117, 114]⟩ : ByteArray)].length * 1 * 64 ≤ 140737488355328) (
  some [(⟨#[104, 111, 117, 114]⟩ : ByteArray)]))
  else
  some ([] : List ByteArray))) : Option (List ByteArray)).bind fun v6 =>
  ((atI v2.1 p0.Escape).bind fun v7 =>
  ((i_abs_m v7.Num).bind fun v8 =>
  (if (w64 ((w64 (2 * p0.Teeth)) * v8)) ≠ (w64 (p0.Beats * v7.Den)) then
  (chk ((v6.length + [(⟨#[98, 101, 97, 116, 115]⟩ : ByteArray)].length) * 1 * 64 ≤ 140737488355328) (
  some (v6 ++ [(⟨#[98, 101, 97, 116, 115]⟩ : ByteArray)])))
  else
  some v6))))) : Option (List ByteArray)).bind fun v10 =>
  ((((i_belongs_m p0.Calendar p0.Cam).bind fun v11 =>
  (if v11 = 0 then
  (chk ((v10.length + [(⟨#[99, 97, 109]⟩ : ByteArray)].length) * 1 * 64 ≤ 140737488355328) (
  some (v10 ++ [(⟨#[99, 97, 109]⟩ : ByteArray)])))
  else
  some v10)) : Option (List ByteArray)).bind fun v13 =>
  some v13)))))

def i_askedCam_m (p0 : Calendar_) (p1 : List Int) : Option Int :=
  ((((i_ValidCalendar_m p0).bind fun v1 =>
  (if (!v1) = true then
  some true
  else
  ((i_ValidCam_m p1).bind fun v2 =>
  some (!v2)))) : Option Bool).bind fun v3 =>
  (if v3 = true then
  some 1
  else
  ((i_belongs_m p0 p1).bind fun v4 =>
  (if v4 = 0 then
  some 6
  else
  some 0))))

def i_isYear_m (p0 : Int) : Option Bool :=
  ((i_within_m p0 0 9999).bind fun v1 =>
  some v1)

def i_isMonth_m (p0 : Calendar_) (p1 : Int) : Option Bool :=
  ((i_within_m p1 1 (p0.Months.length : Int)).bind fun v1 =>
  some v1)

def i_isLeap_m (p0 : Calendar_) (p1 : Int) : Option Bool :=
  ((loopM (S := Bool × Int) (X := Bool) (fun s5 =>
  (if s5.2 < (p0.Rules.length : Int) then
  ((((atI p0.Rules s5.2).bind fun v6 =>
  (chk (v6.Every ≠ 0) (
  (if (p1.tmod v6.Every) = v6.Rest then
  some v6.Leap
  else
  some s5.1)))) : Option Bool).bind fun v8 =>
  some (.inl (v8, w64 (s5.2 + 1))))
  else
  some (.inr s5.1))) (false, 0) : Option Bool).bind fun v9 =>
  some v9)

def i_daysOfMonth_m (p0 : Calendar_) (p1 : Bool) (p2 : Int) : Option Int :=
  (if p1 = true then
  ((atI p0.Months (w64 (p2 - 1))).bind fun v1 =>
  some v1.Leap)
  else
  ((atI p0.Months (w64 (p2 - 1))).bind fun v2 =>
  some v2.Days))

def i_ValidDate_m (p0 : Calendar_) (p1 : Date_) : Option Bool :=
  ((i_ValidCalendar_m p0).bind fun v1 =>
  (if v1 = true then
  ((i_isYear_m p1.Year).bind fun v2 =>
  (if v2 = true then
  ((i_isMonth_m p0 p1.Month).bind fun v3 =>
  (if v3 = true then
  ((i_isLeap_m p0 p1.Year).bind fun v4 =>
  ((i_daysOfMonth_m p0 v4 p1.Month).bind fun v5 =>
  ((i_within_m p1.Day 1 v5).bind fun v6 =>
  some v6)))
  else
  some false))
  else
  some false))
  else
  some false))

def slices_Max_Lint64_int64_m (p0 : List Int) : Option Int :=
  (((if (p0.length : Int) < 1 then
  none
  else
  some ()) : Option Unit).bind fun v1 =>
  ((atI p0 0).bind fun v2 =>
  ((loopM (S := Int × Int) (X := Int) (fun s5 =>
  (if s5.2 < (p0.length : Int) then
  ((atI p0 s5.2).bind fun v6 =>
  some (.inl (max s5.1 v6, w64 (s5.2 + 1))))
  else
  some (.inr s5.1))) (v2, 1) : Option Int).bind fun v7 =>
  some v7)))

def slices_Clone_Lint64_int64_m (p0 : List Int) : Option (List Int) :=
  (chk ((([] : List Int).length + p0.length) * 1 * 64 ≤ 140737488355328) (
  some (([] : List Int) ++ p0)))

def i_SetPerpetual_m (p0 : Calendar_) (p1 : List Int) (p2 : Date_) (p3 : Int) : Option (Perpetual_ × Int) :=
  ((i_askedCam_m p0 p1).bind fun v1 =>
  (if v1 ≠ 0 then
  some ((⟨([] : List Int), 0, 0, 0, 0, 0, 0⟩ : Perpetual_), v1)
  else
  ((((i_ValidDate_m p0 p2).bind fun v2 =>
  (if (!v2) = true then
  some true
  else
  ((i_within_m p3 1 p0.Week).bind fun v3 =>
  some (!v3)))) : Option Bool).bind fun v4 =>
  (if v4 = true then
  some ((⟨([] : List Int), 0, 0, 0, 0, 0, 0⟩ : Perpetual_), 2)
  else
  ((slices_Max_Lint64_int64_m p1).bind fun v5 =>
  ((loopM (S := Int × Int) (X := Int) (fun s8 =>
  (if s8.2 < (p0.Months.length : Int) then
  ((atI p0.Months s8.2).bind fun v9 =>
  some (.inl (max (max s8.1 v9.Days) v9.Leap, w64 (s8.2 + 1))))
  else
  some (.inr s8.1))) (v5, 0) : Option Int).bind fun v10 =>
  ((slices_Clone_Lint64_int64_m p1).bind fun v11 =>
  ((i_belongs_m p0 p1).bind fun v12 =>
  (chk (v12 ≠ 0) (
  some ((⟨v11, (p0.Months.length : Int), v10, w64 ((w64 ((w64 ((p2.Year.tmod v12) * (p0.Months.length : Int))) + p2.Month)) - 1), p2.Day, p0.Week, p3⟩ : Perpetual_), 0)))))))))))

def slices_Clone_LMesh_Mesh_m (p0 : List Mesh_) : Option (List Mesh_) :=
  (chk ((([] : List Mesh_).length + p0.length) * 4 * 64 ≤ 140737488355328) (
  some (([] : List Mesh_) ++ p0)))

def i_copyWorks_m (p0 : Works_) : Option Works_ :=
  ((loopM (S := Int × List Arbor_) (X := List Arbor_) (fun s5 =>
  (if s5.1 < (p0.Arbors.length : Int) then
  ((atI p0.Arbors s5.1).bind fun v6 =>
  ((slices_Clone_Lint64_int64_m v6.Wheels).bind fun v7 =>
  (chk ((s5.2.length + 1) * 2 * 64 ≤ 140737488355328) (
  some (.inl (w64 (s5.1 + 1), s5.2 ++ [(⟨v6.Name, v7⟩ : Arbor_)]))))))
  else
  some (.inr s5.2))) (0, ([] : List Arbor_)) : Option (List Arbor_)).bind fun v9 =>
  ((slices_Clone_LMesh_Mesh_m p0.Meshes).bind fun v10 =>
  some (⟨v9, v10⟩ : Works_)))

def slices_Clone_LMonth_Month_m (p0 : List Month_) : Option (List Month_) :=
  (chk ((([] : List Month_).length + p0.length) * 3 * 64 ≤ 140737488355328) (
  some (([] : List Month_) ++ p0)))

def slices_Clone_LLeapRule_LeapRule_m (p0 : List LeapRule_) : Option (List LeapRule_) :=
  (chk ((([] : List LeapRule_).length + p0.length) * 3 * 64 ≤ 140737488355328) (
  some (([] : List LeapRule_) ++ p0)))

def i_copyMovement_m (p0 : Movement_) : Option Movement_ :=
  ((i_copyWorks_m p0.Works).bind fun v1 =>
  ((slices_Clone_LMonth_Month_m p0.Calendar.Months).bind fun v2 =>
  ((slices_Clone_LLeapRule_LeapRule_m p0.Calendar.Rules).bind fun v3 =>
  ((slices_Clone_Lint64_int64_m p0.Cam).bind fun v4 =>
  some (⟨p0.Name, v1, p0.Minute, p0.Hour, p0.Escape, p0.Teeth, p0.Beats, (⟨p0.Calendar.Name, v2, v3, p0.Calendar.Week⟩ : Calendar_), v4, p0.Strike⟩ : Movement_)))))

def i_NewSim_m (p0 : Movement_) (p1 : Date_) (p2 : Int) : Option (Sim_ × Int) :=
  ((i_ValidMovement_m p0).bind fun v1 =>
  (if (!v1) = true then
  some ((⟨(⟨(⟨#[]⟩ : ByteArray), (⟨([] : List Arbor_), ([] : List Mesh_)⟩ : Works_), 0, 0, 0, 0, 0, (⟨(⟨#[]⟩ : ByteArray), ([] : List Month_), ([] : List LeapRule_), 0⟩ : Calendar_), ([] : List Int), 0⟩ : Movement_), (⟨0, 0, 0⟩ : Date_), 0, 0, (⟨([] : List Int), 0, 0, 0, 0, 0, 0⟩ : Perpetual_)⟩ : Sim_), 1)
  else
  ((i_MovementFaults_m p0).bind fun v2 =>
  (if 0 < (v2.length : Int) then
  some ((⟨(⟨(⟨#[]⟩ : ByteArray), (⟨([] : List Arbor_), ([] : List Mesh_)⟩ : Works_), 0, 0, 0, 0, 0, (⟨(⟨#[]⟩ : ByteArray), ([] : List Month_), ([] : List LeapRule_), 0⟩ : Calendar_), ([] : List Int), 0⟩ : Movement_), (⟨0, 0, 0⟩ : Date_), 0, 0, (⟨([] : List Int), 0, 0, 0, 0, 0, 0⟩ : Perpetual_)⟩ : Sim_), 6)
  else
  ((i_SetPerpetual_m p0.Calendar p0.Cam p1 p2).bind fun v3 =>
  (if v3.2 ≠ 0 then
  some ((⟨(⟨(⟨#[]⟩ : ByteArray), (⟨([] : List Arbor_), ([] : List Mesh_)⟩ : Works_), 0, 0, 0, 0, 0, (⟨(⟨#[]⟩ : ByteArray), ([] : List Month_), ([] : List LeapRule_), 0⟩ : Calendar_), ([] : List Int), 0⟩ : Movement_), (⟨0, 0, 0⟩ : Date_), 0, 0, (⟨([] : List Int), 0, 0, 0, 0, 0, 0⟩ : Perpetual_)⟩ : Sim_), v3.2)
  else
  ((i_copyMovement_m p0).bind fun v4 =>
  some ((⟨v4, p1, p2, 0, v3.1⟩ : Sim_), 0))))))))

def l_eqInt64S_m (p0 : List Int) (p1 : List Int) : Option Bool :=
  (if (p0.length : Int) ≠ (p1.length : Int) then
  some false
  else
  ((loopM (S := Int) (X := Unit ⊕ Bool) (fun s4 =>
  (if s4 < (p0.length : Int) then
  ((atI p0 s4).bind fun v5 =>
  ((atI p1 s4).bind fun v6 =>
  (if v5 ≠ v6 then
  some (.inr (.inr false))
  else
  some (.inl (w64 (s4 + 1))))))
  else
  some (.inr (.inl ())))) 0 : Option (Unit ⊕ Bool)).bind fun v7x => orE v7x fun v7 =>
  some true))

def l_eqArbor_m (p0 : Arbor_) (p1 : Arbor_) : Option Bool :=
  (if p0.Name ≠ p1.Name then
  some false
  else
  ((l_eqInt64S_m p0.Wheels p1.Wheels).bind fun v1 =>
  (if (!v1) = true then
  some false
  else
  some true)))

def l_eqArborS_m (p0 : List Arbor_) (p1 : List Arbor_) : Option Bool :=
  (if (p0.length : Int) ≠ (p1.length : Int) then
  some false
  else
  ((loopM (S := Int) (X := Unit ⊕ Bool) (fun s5 =>
  (if s5 < (p0.length : Int) then
  ((atI p0 s5).bind fun v6 =>
  ((atI p1 s5).bind fun v7 =>
  ((l_eqArbor_m v6 v7).bind fun v8 =>
  (if (!v8) = true then
  some (.inr (.inr false))
  else
  some (.inl (w64 (s5 + 1)))))))
  else
  some (.inr (.inl ())))) 0 : Option (Unit ⊕ Bool)).bind fun v9x => orE v9x fun v9 =>
  some true))

def l_eqMesh_m (p0 : Mesh_) (p1 : Mesh_) : Option Bool :=
  (if p0.A ≠ p1.A then
  some false
  else
  (if p0.WheelA ≠ p1.WheelA then
  some false
  else
  (if p0.B ≠ p1.B then
  some false
  else
  (if p0.WheelB ≠ p1.WheelB then
  some false
  else
  some true))))

def l_eqMeshS_m (p0 : List Mesh_) (p1 : List Mesh_) : Option Bool :=
  (if (p0.length : Int) ≠ (p1.length : Int) then
  some false
  else
  ((loopM (S := Int) (X := Unit ⊕ Bool) (fun s5 =>
  (if s5 < (p0.length : Int) then
  ((atI p0 s5).bind fun v6 =>
  ((atI p1 s5).bind fun v7 =>
  ((l_eqMesh_m v6 v7).bind fun v8 =>
  (if (!v8) = true then
  some (.inr (.inr false))
  else
  some (.inl (w64 (s5 + 1)))))))
  else
  some (.inr (.inl ())))) 0 : Option (Unit ⊕ Bool)).bind fun v9x => orE v9x fun v9 =>
  some true))

def l_eqWorks_m (p0 : Works_) (p1 : Works_) : Option Bool :=
  ((l_eqArborS_m p0.Arbors p1.Arbors).bind fun v1 =>
  (if (!v1) = true then
  some false
  else
  ((l_eqMeshS_m p0.Meshes p1.Meshes).bind fun v2 =>
  (if (!v2) = true then
  some false
  else
  some true))))

def l_eqMonth_m (p0 : Month_) (p1 : Month_) : Option Bool :=
  (if p0.Name ≠ p1.Name then
  some false
  else
  (if p0.Days ≠ p1.Days then
  some false
  else
  (if p0.Leap ≠ p1.Leap then
  some false
  else
  some true)))

def l_eqMonthS_m (p0 : List Month_) (p1 : List Month_) : Option Bool :=
  (if (p0.length : Int) ≠ (p1.length : Int) then
  some false
  else
  ((loopM (S := Int) (X := Unit ⊕ Bool) (fun s5 =>
  (if s5 < (p0.length : Int) then
  ((atI p0 s5).bind fun v6 =>
  ((atI p1 s5).bind fun v7 =>
  ((l_eqMonth_m v6 v7).bind fun v8 =>
  (if (!v8) = true then
  some (.inr (.inr false))
  else
  some (.inl (w64 (s5 + 1)))))))
  else
  some (.inr (.inl ())))) 0 : Option (Unit ⊕ Bool)).bind fun v9x => orE v9x fun v9 =>
  some true))

def l_eqLeapRule_m (p0 : LeapRule_) (p1 : LeapRule_) : Option Bool :=
  (if p0.Every ≠ p1.Every then
  some false
  else
  (if p0.Rest ≠ p1.Rest then
  some false
  else
  (if (p0.Leap != p1.Leap) = true then
  some false
  else
  some true)))

def l_eqLeapRuleS_m (p0 : List LeapRule_) (p1 : List LeapRule_) : Option Bool :=
  (if (p0.length : Int) ≠ (p1.length : Int) then
  some false
  else
  ((loopM (S := Int) (X := Unit ⊕ Bool) (fun s5 =>
  (if s5 < (p0.length : Int) then
  ((atI p0 s5).bind fun v6 =>
  ((atI p1 s5).bind fun v7 =>
  ((l_eqLeapRule_m v6 v7).bind fun v8 =>
  (if (!v8) = true then
  some (.inr (.inr false))
  else
  some (.inl (w64 (s5 + 1)))))))
  else
  some (.inr (.inl ())))) 0 : Option (Unit ⊕ Bool)).bind fun v9x => orE v9x fun v9 =>
  some true))

def l_eqCalendar_m (p0 : Calendar_) (p1 : Calendar_) : Option Bool :=
  (if p0.Name ≠ p1.Name then
  some false
  else
  ((l_eqMonthS_m p0.Months p1.Months).bind fun v1 =>
  (if (!v1) = true then
  some false
  else
  ((l_eqLeapRuleS_m p0.Rules p1.Rules).bind fun v2 =>
  (if (!v2) = true then
  some false
  else
  (if p0.Week ≠ p1.Week then
  some false
  else
  some true))))))

def l_eqMovement_m (p0 : Movement_) (p1 : Movement_) : Option Bool :=
  (if p0.Name ≠ p1.Name then
  some false
  else
  ((l_eqWorks_m p0.Works p1.Works).bind fun v1 =>
  (if (!v1) = true then
  some false
  else
  (if p0.Minute ≠ p1.Minute then
  some false
  else
  (if p0.Hour ≠ p1.Hour then
  some false
  else
  (if p0.Escape ≠ p1.Escape then
  some false
  else
  (if p0.Teeth ≠ p1.Teeth then
  some false
  else
  (if p0.Beats ≠ p1.Beats then
  some false
  else
  ((l_eqCalendar_m p0.Calendar p1.Calendar).bind fun v2 =>
  (if (!v2) = true then
  some false
  else
  ((l_eqInt64S_m p0.Cam p1.Cam).bind fun v3 =>
  (if (!v3) = true then
  some false
  else
  (if p0.Strike ≠ p1.Strike then
  some false
  else
  some true)))))))))))))

def l_eqDate_m (p0 : Date_) (p1 : Date_) : Option Bool :=
  (if p0.Year ≠ p1.Year then
  some false
  else
  (if p0.Month ≠ p1.Month then
  some false
  else
  (if p0.Day ≠ p1.Day then
  some false
  else
  some true)))

def l_eqPerpetual_m (p0 : Perpetual_) (p1 : Perpetual_) : Option Bool :=
  ((l_eqInt64S_m p0.Cam p1.Cam).bind fun v1 =>
  (if (!v1) = true then
  some false
  else
  (if p0.Months ≠ p1.Months then
  some false
  else
  (if p0.Teeth ≠ p1.Teeth then
  some false
  else
  (if p0.At ≠ p1.At then
  some false
  else
  (if p0.Day ≠ p1.Day then
  some false
  else
  (if p0.Week ≠ p1.Week then
  some false
  else
  (if p0.Weekday ≠ p1.Weekday then
  some false
  else
  some true))))))))

def l_eqSim_m (p0 : Sim_) (p1 : Sim_) : Option Bool :=
  ((l_eqMovement_m p0.Movement p1.Movement).bind fun v1 =>
  (if (!v1) = true then
  some false
  else
  ((l_eqDate_m p0.Start p1.Start).bind fun v2 =>
  (if (!v2) = true then
  some false
  else
  (if p0.First ≠ p1.First then
  some false
  else
  (if p0.Clock ≠ p1.Clock then
  some false
  else
  ((l_eqPerpetual_m p0.Dial p1.Dial).bind fun v3 =>
  (if (!v3) = true then
  some false
  else
  some true))))))))

def s_l08Own_m (p0 : Works_) : Option Works_ :=
  (chk ((([] : List Mesh_).length + p0.Meshes.length) * 4 * 64 ≤ 140737488355328) (
  ((loopM (S := Int × List Arbor_) (X := List Arbor_) (fun s7 =>
  (if s7.1 < (p0.Arbors.length : Int) then
  ((atI p0.Arbors s7.1).bind fun v8 =>
  ((atI p0.Arbors s7.1).bind fun v9 =>
  ((s_l00Own_m v9.Wheels).bind fun v10 =>
  (chk ((s7.2.length + 1) * 2 * 64 ≤ 140737488355328) (
  some (.inl (w64 (s7.1 + 1), s7.2 ++ [(⟨v8.Name, v10⟩ : Arbor_)])))))))
  else
  some (.inr s7.2))) (0, ([] : List Arbor_)) : Option (List Arbor_)).bind fun v12 =>
  some (⟨v12, ([] : List Mesh_) ++ p0.Meshes⟩ : Works_))))

def s_l15Own_m (p0 : Calendar_) : Option Calendar_ :=
  (chk ((([] : List Month_).length + p0.Months.length) * 3 * 64 ≤ 140737488355328) (
  (chk ((([] : List LeapRule_).length + p0.Rules.length) * 3 * 64 ≤ 140737488355328) (
  some (⟨p0.Name, ([] : List Month_) ++ p0.Months, ([] : List LeapRule_) ++ p0.Rules, p0.Week⟩ : Calendar_)))))

def s_l26Own_m (p0 : Movement_) : Option Movement_ :=
  ((s_l08Own_m p0.Works).bind fun v1 =>
  ((s_l15Own_m p0.Calendar).bind fun v2 =>
  ((s_l00Own_m p0.Cam).bind fun v3 =>
  some (⟨p0.Name, v1, p0.Minute, p0.Hour, p0.Escape, p0.Teeth, p0.Beats, v2, v3, p0.Strike⟩ : Movement_))))

def s_NewSim_m (p0 : Movement_) (p1 : Date_) (p2 : Int) : Option (Sim_ × Int) :=
  ((s_l26Ok_m p0).bind fun v1 =>
  (if (!v1) = true then
  some ((⟨(⟨(⟨#[]⟩ : ByteArray), (⟨([] : List Arbor_), ([] : List Mesh_)⟩ : Works_), 0, 0, 0, 0, 0, (⟨(⟨#[]⟩ : ByteArray), ([] : List Month_), ([] : List LeapRule_), 0⟩ : Calendar_), ([] : List Int), 0⟩ : Movement_), (⟨0, 0, 0⟩ : Date_), 0, 0, (⟨([] : List Int), 0, 0, 0, 0, 0, 0⟩ : Perpetual_)⟩ : Sim_), 1)
  else
  ((s_l26Faults_m p0).bind fun v2 =>
  (if 0 < (v2.length : Int) then
  some ((⟨(⟨(⟨#[]⟩ : ByteArray), (⟨([] : List Arbor_), ([] : List Mesh_)⟩ : Works_), 0, 0, 0, 0, 0, (⟨(⟨#[]⟩ : ByteArray), ([] : List Month_), ([] : List LeapRule_), 0⟩ : Calendar_), ([] : List Int), 0⟩ : Movement_), (⟨0, 0, 0⟩ : Date_), 0, 0, (⟨([] : List Int), 0, 0, 0, 0, 0, 0⟩ : Perpetual_)⟩ : Sim_), 6)
  else
  ((s_l27Dial_m p0 p1 p2).bind fun v3 =>
  (if v3.2 ≠ 0 then
  some ((⟨(⟨(⟨#[]⟩ : ByteArray), (⟨([] : List Arbor_), ([] : List Mesh_)⟩ : Works_), 0, 0, 0, 0, 0, (⟨(⟨#[]⟩ : ByteArray), ([] : List Month_), ([] : List LeapRule_), 0⟩ : Calendar_), ([] : List Int), 0⟩ : Movement_), (⟨0, 0, 0⟩ : Date_), 0, 0, (⟨([] : List Int), 0, 0, 0, 0, 0, 0⟩ : Perpetual_)⟩ : Sim_), v3.2)
  else
  ((s_l26Own_m p0).bind fun v4 =>
  some ((⟨v4, p1, p2, 0, v3.1⟩ : Sim_), 0))))))))

def l_markText_m (p0 : Int) : Option ByteArray :=
  (if p0 ≤ 0 then
  some (⟨#[109, 48]⟩ : ByteArray)
  else
  ((loopM (S := Int × ByteArray) (X := ByteArray) (fun s5 =>
  (if 0 < s5.1 then
  (chk ((strOfNums [IntKind.u8.wrap (w64 (48 + (s5.1.tmod 10)))]).size + s5.2.size ≤ 9223372036854775807) (
  some (.inl (w64 (s5.1.tdiv 10), (strOfNums [IntKind.u8.wrap (w64 (48 + (s5.1.tmod 10)))]) ++ s5.2))))
  else
  some (.inr s5.2))) (p0, (⟨#[]⟩ : ByteArray)) : Option ByteArray).bind fun v9 =>
  (chk ((⟨#[109]⟩ : ByteArray).size + v9.size ≤ 9223372036854775807) (
  some ((⟨#[109]⟩ : ByteArray) ++ v9)))))

def l_markInt64S_o_m (p0 : List Int) (p1 : Int) : Option (Int × List Int) :=
  ((loopM (S := Int × Int × List Int) (X := Int × List Int) (fun s3 =>
  (if s3.2.1 < (s3.2.2.length : Int) then
  ((atI s3.2.2 s3.2.1).bind fun v4 =>
  some (.inl (w64 (s3.1 + 1), w64 (s3.2.1 + 1), List.set s3.2.2 s3.2.1.toNat s3.1)))
  else
  some (.inr (s3.1, s3.2.2)))) (p1, 0, p0) : Option (Int × List Int)).bind fun v5 =>
  some (v5.1, v5.2))

def l_markArborS_o_m (p0 : List Arbor_) (p1 : Int) : Option (Int × List Arbor_) :=
  ((loopM (S := Int × Int × List Arbor_) (X := Int × List Arbor_) (fun s7 =>
  (if s7.2.1 < (s7.2.2.length : Int) then
  ((l_markText_m s7.1).bind fun v8 =>
  ((atI s7.2.2 s7.2.1).bind fun v9 =>
  ((atI (List.set s7.2.2 s7.2.1.toNat (⟨v8, v9.Wheels⟩ : Arbor_)) s7.2.1).bind fun v10 =>
  ((l_markInt64S_o_m v10.Wheels (w64 (s7.1 + 1))).bind fun v11 =>
  (chk (v11.2.length = v10.Wheels.length) (
  some (.inl (v11.1, w64 (s7.2.1 + 1), List.set (List.set s7.2.2 s7.2.1.toNat (⟨v8, v9.Wheels⟩ : Arbor_)) s7.2.1.toNat (⟨v10.Name, v11.2⟩ : Arbor_)))))))))
  else
  some (.inr (s7.1, s7.2.2)))) (p1, 0, p0) : Option (Int × List Arbor_)).bind fun v13 =>
  some (v13.1, v13.2))

def l_markMeshS_o_m (p0 : List Mesh_) (p1 : Int) : Option (Int × List Mesh_) :=
  ((loopM (S := Int × Int × List Mesh_) (X := Int × List Mesh_) (fun s6 =>
  (if s6.2.1 < (s6.2.2.length : Int) then
  ((atI s6.2.2 s6.2.1).bind fun v7 =>
  ((atI (List.set s6.2.2 s6.2.1.toNat (⟨s6.1, v7.WheelA, v7.B, v7.WheelB⟩ : Mesh_)) s6.2.1).bind fun v8 =>
  ((atI (List.set (List.set s6.2.2 s6.2.1.toNat (⟨s6.1, v7.WheelA, v7.B, v7.WheelB⟩ : Mesh_)) s6.2.1.toNat (⟨v8.A, w64 (s6.1 + 1), v8.B, v8.WheelB⟩ : Mesh_)) s6.2.1).bind fun v9 =>
  ((atI (List.set (List.set (List.set s6.2.2 s6.2.1.toNat (⟨s6.1, v7.WheelA, v7.B, v7.WheelB⟩ : Mesh_)) s6.2.1.toNat (⟨v8.A, w64 (s6.1 + 1), v8.B, v8.WheelB⟩ : Mesh_)) s6.2.1.toNat (⟨v9.A, v9.WheelA, w64 ((w64 (s6.1 + 1)) + 1), v9.WheelB⟩ : Mesh_)) s6.2.1).bind fun v10 =>
  some (.inl (w64 ((w64 ((w64 ((w64 (s6.1 + 1)) + 1)) + 1)) + 1), w64 (s6.2.1 + 1), List.set (List.set (List.set (List.set s6.2.2 s6.2.1.toNat (⟨s6.1, v7.WheelA, v7.B, v7.WheelB⟩ : Mesh_)) s6.2.1.toNat (⟨v8.A, w64 (s6.1 + 1), v8.B, v8.WheelB⟩ : Mesh_)) s6.2.1.toNat (⟨v9.A, v9.WheelA, w64 ((w64 (s6.1 + 1)) + 1), v9.WheelB⟩ : Mesh_)) s6.2.1.toNat (⟨v10.A, v10.WheelA, v10.B, w64 ((w64 ((w64 (s6.1 + 1)) + 1)) + 1)⟩ : Mesh_)))))))
  else
  some (.inr (s6.1, s6.2.2)))) (p1, 0, p0) : Option (Int × List Mesh_)).bind fun v11 =>
  some (v11.1, v11.2))

def l_markWorks_o_m (p0 : Works_) (p1 : Int) : Option (Int × List Arbor_ × List Mesh_) :=
  ((l_markArborS_o_m p0.Arbors p1).bind fun v1 =>
  (chk (v1.2.length = p0.Arbors.length) (
  ((l_markMeshS_o_m p0.Meshes v1.1).bind fun v3 =>
  (chk (v3.2.length = p0.Meshes.length) (
  some (v3.1, v1.2, v3.2)))))))

def l_markMonthS_o_m (p0 : List Month_) (p1 : Int) : Option (Int × List Month_) :=
  ((loopM (S := Int × Int × List Month_) (X := Int × List Month_) (fun s6 =>
  (if s6.2.1 < (s6.2.2.length : Int) then
  ((l_markText_m s6.1).bind fun v7 =>
  ((atI s6.2.2 s6.2.1).bind fun v8 =>
  ((atI (List.set s6.2.2 s6.2.1.toNat (⟨v7, v8.Days, v8.Leap⟩ : Month_)) s6.2.1).bind fun v9 =>
  ((atI (List.set (List.set s6.2.2 s6.2.1.toNat (⟨v7, v8.Days, v8.Leap⟩ : Month_)) s6.2.1.toNat (⟨v9.Name, w64 (s6.1 + 1), v9.Leap⟩ : Month_)) s6.2.1).bind fun v10 =>
  some (.inl (w64 ((w64 ((w64 (s6.1 + 1)) + 1)) + 1), w64 (s6.2.1 + 1), List.set (List.set (List.set s6.2.2 s6.2.1.toNat (⟨v7, v8.Days, v8.Leap⟩ : Month_)) s6.2.1.toNat (⟨v9.Name, w64 (s6.1 + 1), v9.Leap⟩ : Month_)) s6.2.1.toNat (⟨v10.Name, v10.Days, w64 ((w64 (s6.1 + 1)) + 1)⟩ : Month_)))))))
  else
  some (.inr (s6.1, s6.2.2)))) (p1, 0, p0) : Option (Int × List Month_)).bind fun v11 =>
  some (v11.1, v11.2))

def l_markLeapRuleS_o_m (p0 : List LeapRule_) (p1 : Int) : Option (Int × List LeapRule_) :=
  ((loopM (S := Int × Int × List LeapRule_) (X := Int × List LeapRule_) (fun s6 =>
  (if s6.2.1 < (s6.2.2.length : Int) then
  ((atI s6.2.2 s6.2.1).bind fun v7 =>
  ((atI (List.set s6.2.2 s6.2.1.toNat (⟨s6.1, v7.Rest, v7.Leap⟩ : LeapRule_)) s6.2.1).bind fun v8 =>
  ((atI (List.set (List.set s6.2.2 s6.2.1.toNat (⟨s6.1, v7.Rest, v7.Leap⟩ : LeapRule_)) s6.2.1.toNat (⟨v8.Every, w64 (s6.1 + 1), v8.Leap⟩ : LeapRule_)) s6.2.1).bind fun v10 =>
  some (.inl (w64 ((w64 ((w64 (s6.1 + 1)) + 1)) + 1), w64 (s6.2.1 + 1), List.set (List.set (List.set s6.2.2 s6.2.1.toNat (⟨s6.1, v7.Rest, v7.Leap⟩ : LeapRule_)) s6.2.1.toNat (⟨v8.Every, w64 (s6.1 + 1), v8.Leap⟩ : LeapRule_)) s6.2.1.toNat (⟨v10.Every, v10.Rest, decide (((w64 ((w64 (s6.1 + 1)) + 1)).tmod 3) = 0)⟩ : LeapRule_))))))
  else
  some (.inr (s6.1, s6.2.2)))) (p1, 0, p0) : Option (Int × List LeapRule_)).bind fun v11 =>
  some (v11.1, v11.2))

def l_markCalendar_o_m (p0 : Calendar_) (p1 : Int) : Option (Int × List Month_ × List LeapRule_) :=
  ((l_markMonthS_o_m p0.Months p1).bind fun v1 =>
  (chk (v1.2.length = p0.Months.length) (
  ((l_markLeapRuleS_o_m p0.Rules v1.1).bind fun v3 =>
  (chk (v3.2.length = p0.Rules.length) (
  some (v3.1, v1.2, v3.2)))))))

def l_markMovement_o_m (p0 : Movement_) (p1 : Int) : Option (Int × List Arbor_ × List Mesh_ × List Month_ × List LeapRule_ × List Int) :=
  ((l_markWorks_o_m p0.Works p1).bind fun v1 =>
  (chk (v1.2.1.length = p0.Works.Arbors.length) (
  (chk (v1.2.2.length = p0.Works.Meshes.length) (
  ((l_markCalendar_o_m p0.Calendar v1.1).bind fun v4 =>
  (chk (v4.2.1.length = p0.Calendar.Months.length) (
  (chk (v4.2.2.length = p0.Calendar.Rules.length) (
  ((l_markInt64S_o_m p0.Cam v4.1).bind fun v7 =>
  (chk (v7.2.length = p0.Cam.length) (
  some (v7.1, v1.2.1, v1.2.2, v4.2.1, v4.2.2, v7.2))))))))))))))

def l_markPerpetual_o_m (p0 : Perpetual_) (p1 : Int) : Option (Int × List Int) :=
  ((l_markInt64S_o_m p0.Cam p1).bind fun v1 =>
  (chk (v1.2.length = p0.Cam.length) (
  some (v1.1, v1.2))))

def l_markSim_o_m (p0 : Sim_) (p1 : Int) : Option (Int × List Arbor_ × List Mesh_ × List Month_ × List LeapRule_ × List Int × List Int) :=
  ((l_markMovement_o_m p0.Movement p1).bind fun v1 =>
  (chk (v1.2.1.length = p0.Movement.Works.Arbors.length) (
  (chk (v1.2.2.1.length = p0.Movement.Works.Meshes.length) (
  (chk (v1.2.2.2.1.length = p0.Movement.Calendar.Months.length) (
  (chk (v1.2.2.2.2.1.length = p0.Movement.Calendar.Rules.length) (
  (chk (v1.2.2.2.2.2.length = p0.Movement.Cam.length) (
  ((l_markPerpetual_o_m p0.Dial v1.1).bind fun v7 =>
  (chk (v7.2.length = p0.Dial.Cam.length) (
  some (v7.1, v1.2.1, v1.2.2.1, v1.2.2.2.1, v1.2.2.2.2.1, v1.2.2.2.2.2, v7.2)))))))))))))))

def l_heldInt64S_m (p0 : List Int) (p1 : Int) : Option Int :=
  ((loopM (S := Int × Int) (X := Int ⊕ Int) (fun s3 =>
  (if s3.2 < (p0.length : Int) then
  ((atI p0 s3.2).bind fun v4 =>
  (if v4 ≠ s3.1 then
  some (.inr (.inr (-1)))
  else
  some (.inl (w64 (s3.1 + 1), w64 (s3.2 + 1)))))
  else
  some (.inr (.inl s3.1)))) (p1, 0) : Option (Int ⊕ Int)).bind fun v5x => orE v5x fun v5 =>
  some v5)

def l_heldArborS_m (p0 : List Arbor_) (p1 : Int) : Option Int :=
  ((loopM (S := Int × Int) (X := Int ⊕ Int) (fun s6 =>
  (if s6.2 < (p0.length : Int) then
  ((atI p0 s6.2).bind fun v7 =>
  ((l_markText_m s6.1).bind fun v8 =>
  (if v7.Name ≠ v8 then
  some (.inr (.inr (-1)))
  else
  ((atI p0 s6.2).bind fun v9 =>
  ((l_heldInt64S_m v9.Wheels (w64 (s6.1 + 1))).bind fun v10 =>
  (if v10 < 0 then
  some (.inr (.inr (-1)))
  else
  some (.inl (v10, w64 (s6.2 + 1)))))))))
  else
  some (.inr (.inl s6.1)))) (p1, 0) : Option (Int ⊕ Int)).bind fun v11x => orE v11x fun v11 =>
  some v11)

def l_heldMeshS_m (p0 : List Mesh_) (p1 : Int) : Option Int :=
  ((loopM (S := Int × Int) (X := Int ⊕ Int) (fun s6 =>
  (if s6.2 < (p0.length : Int) then
  ((atI p0 s6.2).bind fun v7 =>
  (if v7.A ≠ s6.1 then
  some (.inr (.inr (-1)))
  else
  ((atI p0 s6.2).bind fun v8 =>
  (if v8.WheelA ≠ (w64 (s6.1 + 1)) then
  some (.inr (.inr (-1)))
  else
  ((atI p0 s6.2).bind fun v9 =>
  (if v9.B ≠ (w64 ((w64 (s6.1 + 1)) + 1)) then
  some (.inr (.inr (-1)))
  else
  ((atI p0 s6.2).bind fun v10 =>
  (if v10.WheelB ≠ (w64 ((w64 ((w64 (s6.1 + 1)) + 1)) + 1)) then
  some (.inr (.inr (-1)))
  else
  some (.inl (w64 ((w64 ((w64 ((w64 (s6.1 + 1)) + 1)) + 1)) + 1), w64 (s6.2 + 1)))))))))))
  else
  some (.inr (.inl s6.1)))) (p1, 0) : Option (Int ⊕ Int)).bind fun v11x => orE v11x fun v11 =>
  some v11)

def l_heldWorks_m (p0 : Works_) (p1 : Int) : Option Int :=
  ((l_heldArborS_m p0.Arbors p1).bind fun v1 =>
  (if v1 < 0 then
  some (-1)
  else
  ((l_heldMeshS_m p0.Meshes v1).bind fun v2 =>
  (if v2 < 0 then
  some (-1)
  else
  some v2))))

def l_heldMonthS_m (p0 : List Month_) (p1 : Int) : Option Int :=
  ((loopM (S := Int × Int) (X := Int ⊕ Int) (fun s6 =>
  (if s6.2 < (p0.length : Int) then
  ((atI p0 s6.2).bind fun v7 =>
  ((l_markText_m s6.1).bind fun v8 =>
  (if v7.Name ≠ v8 then
  some (.inr (.inr (-1)))
  else
  ((atI p0 s6.2).bind fun v9 =>
  (if v9.Days ≠ (w64 (s6.1 + 1)) then
  some (.inr (.inr (-1)))
  else
  ((atI p0 s6.2).bind fun v10 =>
  (if v10.Leap ≠ (w64 ((w64 (s6.1 + 1)) + 1)) then
  some (.inr (.inr (-1)))
  else
  some (.inl (w64 ((w64 ((w64 (s6.1 + 1)) + 1)) + 1), w64 (s6.2 + 1))))))))))
  else
  some (.inr (.inl s6.1)))) (p1, 0) : Option (Int ⊕ Int)).bind fun v11x => orE v11x fun v11 =>
  some v11)

def l_heldLeapRuleS_m (p0 : List LeapRule_) (p1 : Int) : Option Int :=
  ((loopM (S := Int × Int) (X := Int ⊕ Int) (fun s6 =>
  (if s6.2 < (p0.length : Int) then
  ((atI p0 s6.2).bind fun v7 =>
  (if v7.Every ≠ s6.1 then
  some (.inr (.inr (-1)))
  else
  ((atI p0 s6.2).bind fun v8 =>
  (if v8.Rest ≠ (w64 (s6.1 + 1)) then
  some (.inr (.inr (-1)))
  else
  ((atI p0 s6.2).bind fun v9 =>
  (if (v9.Leap != (decide (((w64 ((w64 (s6.1 + 1)) + 1)).tmod 3) = 0))) = true then
  some (.inr (.inr (-1)))
  else
  some (.inl (w64 ((w64 ((w64 (s6.1 + 1)) + 1)) + 1), w64 (s6.2 + 1)))))))))
  else
  some (.inr (.inl s6.1)))) (p1, 0) : Option (Int ⊕ Int)).bind fun v11x => orE v11x fun v11 =>
  some v11)

def l_heldCalendar_m (p0 : Calendar_) (p1 : Int) : Option Int :=
  ((l_heldMonthS_m p0.Months p1).bind fun v1 =>
  (if v1 < 0 then
  some (-1)
  else
  ((l_heldLeapRuleS_m p0.Rules v1).bind fun v2 =>
  (if v2 < 0 then
  some (-1)
  else
  some v2))))

def l_heldMovement_m (p0 : Movement_) (p1 : Int) : Option Int :=
  ((l_heldWorks_m p0.Works p1).bind fun v1 =>
  (if v1 < 0 then
  some (-1)
  else
  ((l_heldCalendar_m p0.Calendar v1).bind fun v2 =>
  (if v2 < 0 then
  some (-1)
  else
  ((l_heldInt64S_m p0.Cam v2).bind fun v3 =>
  (if v3 < 0 then
  some (-1)
  else
  some v3))))))

def l_heldPerpetual_m (p0 : Perpetual_) (p1 : Int) : Option Int :=
  ((l_heldInt64S_m p0.Cam p1).bind fun v1 =>
  (if v1 < 0 then
  some (-1)
  else
  some v1))

def l_heldSim_m (p0 : Sim_) (p1 : Int) : Option Int :=
  ((l_heldMovement_m p0.Movement p1).bind fun v1 =>
  (if v1 < 0 then
  some (-1)
  else
  ((l_heldPerpetual_m p0.Dial v1).bind fun v2 =>
  (if v2 < 0 then
  some (-1)
  else
  some v2))))

def l_FnExactNewSim_m (p0 : Movement_) (p1 : Date_) (p2 : Int) : Option Bool :=
  ((l_szMovement_m p0 1048576).bind fun v1 =>
  (if v1 < 0 then
  some true
  else
  ((l_toMovement_m p0).bind fun v2 =>
  ((l_toDate_m p1).bind fun v3 =>
  ((s_NewSim_m v2 v3 p2).bind fun v4 =>
  ((l_toMovement_m p0).bind fun v5 =>
  ((l_toDate_m p1).bind fun v6 =>
  ((i_NewSim_m v5 v6 p2).bind fun v7 =>
  ((((l_eqSim_m v7.1 v4.1).bind fun v8 =>
  (if (!v8) = true then
  some true
  else
  some (decide (v7.2 ≠ v4.2)))) : Option Bool).bind fun v9 =>
  (if v9 = true then
  some false
  else
  ((l_toMovement_m p0).bind fun v10 =>
  ((l_eqMovement_m v5 v10).bind fun v11 =>
  (if (!v11) = true then
  some false
  else
  ((l_markMovement_o_m v5 1).bind fun v12 =>
  (chk (v12.2.1.length = v5.Works.Arbors.length) (
  (chk (v12.2.2.1.length = v5.Works.Meshes.length) (
  (chk (v12.2.2.2.1.length = v5.Calendar.Months.length) (
  (chk (v12.2.2.2.2.1.length = v5.Calendar.Rules.length) (
  (chk (v12.2.2.2.2.2.length = v5.Cam.length) (
  (((if v12.1 < 0 then
  some true
  else
  ((l_eqSim_m v7.1 v4.1).bind fun v18 =>
  (if (!v18) = true then
  some true
  else
  some (decide (v7.2 ≠ v4.2))))) : Option Bool).bind fun v19 =>
  (if v19 = true then
  some false
  else
  ((l_markSim_o_m v7.1 1).bind fun v20 =>
  (chk (v20.2.1.length = v7.1.Movement.Works.Arbors.length) (
  (chk (v20.2.2.1.length = v7.1.Movement.Works.Meshes.length) (
  (chk (v20.2.2.2.1.length = v7.1.Movement.Calendar.Months.length) (
  (chk (v20.2.2.2.2.1.length = v7.1.Movement.Calendar.Rules.length) (
  (chk (v20.2.2.2.2.2.1.length = v7.1.Movement.Cam.length) (
  (chk (v20.2.2.2.2.2.2.length = v7.1.Dial.Cam.length) (
  ((l_heldSim_m (⟨(⟨v7.1.Movement.Name, (⟨v20.2.1, v20.2.2.1⟩ : Works_), v7.1.Movement.Minute, v7.1.Movement.Hour, v7.1.Movement.Escape, v7.1.Movement.Teeth, v7.1.Movement.Beats, (⟨v7.1.Movement.Calendar.Name, v20.2.2.2.1, v20.2.2.2.2.1, v7.1.Movement.Calendar.Week⟩ : Calendar_), v20.2.2.2.2.2.1, v7.1.Movement.Strike⟩ : Movement_), v7.1.Start, v7.1.First, v7.1.Clock, (⟨v20.2.2.2.2.2.2, v7.1.Dial.Months, v7.1.Dial.Teeth, v7.1.Dial.At, v7.1.Dial.Day, v7.1.Dial.Week, v7.1.Dial.Weekday⟩ : Perpetual_)⟩ : Sim_) 1).bind fun v27 =>
  (if v27 < 0 then
  some false
  else
  (if v27 ≠ v20.1 then
  some false
  else
  ((l_toMovement_m p0).bind fun v28 =>
  ((l_toDate_m p1).bind fun v29 =>
  ((i_NewSim_m v28 v29 p2).bind fun v30 =>
  ((((l_eqSim_m v30.1 v4.1).bind fun v31 =>
  (if (!v31) = true then
  some true
  else
  some (decide (v30.2 ≠ v4.2)))) : Option Bool).bind fun v32 =>
  (if v32 = true then
  some false
  else
  ((l_heldSim_m (⟨(⟨v7.1.Movement.Name, (⟨v20.2.1, v20.2.2.1⟩ : Works_), v7.1.Movement.Minute, v7.1.Movement.Hour, v7.1.Movement.Escape, v7.1.Movement.Teeth, v7.1.Movement.Beats, (⟨v7.1.Movement.Calendar.Name, v20.2.2.2.1, v20.2.2.2.2.1, v7.1.Movement.Calendar.Week⟩ : Calendar_), v20.2.2.2.2.2.1, v7.1.Movement.Strike⟩ : Movement_), v7.1.Start, v7.1.First, v7.1.Clock, (⟨v20.2.2.2.2.2.2, v7.1.Dial.Months, v7.1.Dial.Teeth, v7.1.Dial.At, v7.1.Dial.Day, v7.1.Dial.Week, v7.1.Dial.Weekday⟩ : Perpetual_)⟩ : Sim_) 1).bind fun v33 =>
  (if v33 < 0 then
  some false
  else
  (if v33 ≠ v20.1 then
  some false
  else
  some true))))))))))))))))))))))))))))))))))))))))))))))))))

end Go.Proofs.YtjhadibjjldpdabGreat
namespace Go.Proofs.YtjhadibjjldpdabGreat
open Go.ChangeShapes Go.WideShapes Go.ChangeAt Go.RowKit
open Go.ChangeMaps (open_string shut_string)
set_option maxRecDepth 100000

theorem own : ownKnob Tryz.prog.godebug = none := by kernel_rfl
theorem laidOut : laidOutB Tryz.prog = true := by kernel_rfl

end Go.Proofs.YtjhadibjjldpdabGreat
namespace Go.Proofs.YtjhadibjjldpdabGreat
open Go.ChangeShapes Go.WideShapes Go.ChangeAt Go.RowKit Go.Deep
set_option linter.unusedVariables false
set_option maxRecDepth 100000
theorem cell_ltA {w : World} {a : Addr} {v : Value} (h : w.cell? a = some v) : a.block < w.heap.size := by
  unfold World.cell? at h
  cases hb : w.heap[a.block]? with
  | none => simp [hb] at h
  | some b => exact (Array.getElem?_eq_some_iff.1 hb).1
def RepL (w : World) (cs : List Value) (ds : List DV) : Prop := cs.length = ds.length ∧ ∀ (j : Nat) v x, cs[j]? = some v → ds[j]? = some x → DRep w (fun b => b < w.heap.size) v x
theorem repL_nil {w : World} : RepL w [] [] := ⟨rfl, fun j v x h => by simp at h⟩
theorem repL_cons {w : World} {v : Value} {x : DV} {cs : List Value} {ds : List DV} (h : DRep w (fun b => b < w.heap.size) v x) (k : RepL w cs ds) : RepL w (v :: cs) (x :: ds) := by
  refine ⟨by simp [k.1], fun j a b h1 h2 => ?_⟩
  cases j with
  | zero => simp at h1 h2; subst h1 h2; exact h
  | succ j => simp at h1 h2; exact k.2 j a b h1 h2
theorem repL_app {w : World} {cs : List Value} {ds : List DV} {cs2 : List Value} {ds2 : List DV} (h : RepL w cs ds) (k : RepL w cs2 ds2) : RepL w (cs ++ cs2) (ds ++ ds2) := by
  refine ⟨by simp [h.1, k.1], fun j a b h1 h2 => ?_⟩
  rw [List.getElem?_append] at h1 h2
  rw [← h.1] at h2
  split at h1
  · rename_i hj; rw [if_pos hj] at h2; exact h.2 j a b h1 h2
  · rename_i hj; rw [if_neg hj] at h2; exact k.2 _ a b h1 h2
theorem repL_int {w : World} (k : IntKind) (z : Int) : DRep w (fun b => b < w.heap.size) (.int k z) (.v (.int k z)) := .v _ rfl
theorem repL_str {w : World} (s : ByteArray) : DRep w (fun b => b < w.heap.size) (.string s) (.v (.string s)) := .v _ rfl
theorem repL_bool {w : World} (s : Bool) : DRep w (fun b => b < w.heap.size) (.bool s) (.v (.bool s)) := .v _ rfl
theorem agg_rep {w : World} {μ : Places} {h : Heap} {cs : Array Value} {ds : List DV} (r : RepL w cs.toList ds) : ARep w (fun b => b < w.heap.size) μ h (.agg cs) (.agg (ds.map .d)) := by
  refine .agg _ _ (by simpa using r.1) fun i v c h1 h2 => ?_
  rw [List.getElem?_map] at h2
  obtain ⟨x, hx, rfl⟩ := Option.map_eq_some_iff.1 h2
  exact .d _ _ (r.2 i v x (by simpa using h1) hx)
theorem args_nil {w : World} : ∀ (i : Nat) v a, (List.toArray ([] : List Value))[i]? = some v → ([] : List AV)[i]? = some a → ARep w (fun b => b < w.heap.size) (fun _ _ => none) (lks []) v a := fun i v a h => by simp at h
theorem args_cons {w : World} {v0 : Value} {a0 : AV} {vs : List Value} {bs : List AV} (h : ARep w (fun b => b < w.heap.size) (fun _ _ => none) (lks []) v0 a0) (k : ∀ (i : Nat) v a, vs.toArray[i]? = some v → bs[i]? = some a → ARep w (fun b => b < w.heap.size) (fun _ _ => none) (lks []) v a) :
    ∀ (i : Nat) v a, (v0 :: vs).toArray[i]? = some v → (a0 :: bs)[i]? = some a → ARep w (fun b => b < w.heap.size) (fun _ _ => none) (lks []) v a := fun i v a h1 h2 => by
  cases i with
  | zero => simp at h1 h2; subst h1 h2; exact h
  | succ i =>
    simp at h1 h2
    exact k i v a (by simpa using h1) h2
theorem int_rep {w : World} {μ : Places} {h : Heap} {F : Nat → Prop} (k : IntKind) (z : Int) : ARep w F μ h (.int k z) (.d (.v (.int k z))) := .d _ _ (.v _ rfl)
section
variable {H : Type} {enc : TypeId × Value → H} {W : World} {b0 : Nat} {spare : Nat → Bool} {held : Bool} {fuel : Nat} {cs : List Value} {x : DataW H × List MemPlace}
theorem fieldR {P : Program} {t : TypeId} {fs : Array Field} (ht : P.underlying t = some (.struct fs)) (h : DataW.trod enc P W b0 spare held fuel t cs = some x) (i : Nat) (T : TypeId) (sub : List Value)
    (hk : (fs[i]?).map (fun f => (f.type, (cs.drop f.offset).take (P.cellsOf f.type))) = some (T, sub)) : ∃ n y, DataW.trod enc P W b0 spare held n T sub = some y := by
  obtain ⟨xs, n, _, _, hl, hxl, hf⟩ := DataW.trod_struct ht h
  cases hfi : fs[i]? with
  | none => rw [hfi] at hk; cases hk
  | some f =>
    rw [hfi] at hk
    simp only [Option.map_some, Option.some.injEq, Prod.mk.injEq] at hk
    obtain ⟨rfl, rfl⟩ := hk
    have hi : i < fs.size := (Array.getElem?_eq_some_iff.1 hfi).1
    refine ⟨n, xs[i]'(by omega), (hf i f hfi).trans (List.getElem?_eq_getElem (by omega))⟩
theorem cellsR {P : Program} {t : TypeId} {fs : Array Field} (ht : P.underlying t = some (.struct fs)) (h : DataW.trod enc P W b0 spare held fuel t cs = some x) : cs.length = P.cellsOf t := by
  obtain ⟨xs, n, _, _, hl, hxl, hf⟩ := DataW.trod_struct ht h
  exact hl
theorem sliceA {P : Program} {t e : TypeId} {α : Type} [Inhabited α] {a : Value} (f : α → List DV) (ok : α → Prop) (sz : Nat) (hf : ∀ a, (f a).length = sz) (hsz : 0 < sz) (ht : P.underlying t = some (.slice e)) (hC : P.cellsOf e = sz)
    (rd : ∀ (fuel : Nat) (cs : List Value) (x : DataW H × List MemPlace), DataW.trod enc P W b0 spare held fuel e cs = some x → ∃ m, RepL W cs (f m) ∧ ok m)
    (h : ∃ n y, DataW.trod enc P W b0 spare held n t [a] = some y) :
    ∃ xs : List α, DRep W (fun b => b < W.heap.size) a (.sl (xs.map f)) ∧ xs.length ≤ 9223372036854775807 ∧ ∀ m ∈ xs, ok m := by
  obtain ⟨n, y, h⟩ := h
  rcases DataW.trod_slice ht h with ⟨h0, _⟩ | ⟨ad, len, cap, elems, rest, n', _, hcs, _, hb, hl, hm, hel, hi, _, _⟩
  · simp at h0
    subst h0
    exact ⟨[], .nil, by simp, fun m hm => by simp at hm⟩
  · simp at hcs
    subst hcs
    rw [hC] at hi
    obtain ⟨q, hq⟩ := choose_lt (α := α) (n := len) (p := fun k q => (∃ cs', W.cells? b0 (ad.add (k * sz)) sz = some cs' ∧ RepL W cs' (f q)) ∧ ok q) (fun k hk => by
      have h1 := hi k hk
      rw [List.getElem?_eq_getElem (by omega)] at h1
      obtain ⟨cs', hc, htr⟩ := Option.bind_eq_some_iff.1 h1
      obtain ⟨m, hm1, hm2⟩ := rd _ _ _ htr
      exact ⟨m, ⟨cs', hc, hm1⟩, hm2⟩)
    have hxl : ((List.range len).map q).length = len := by simp
    refine ⟨(List.range len).map q, ?_, by rw [hxl]; unfold maxLen at hm; omega, fun m hm' => ?_⟩
    · have hcell : ∀ k, k < len → ∀ j, j < sz → ∃ v, W.cell? (ad.add (k * sz + j)) = some v ∧ ∀ x, (f (q k))[j]? = some x → DRep W (fun b => b < W.heap.size) v x := by
        intro k hk j hj
        obtain ⟨⟨cs', hc, hr⟩, _⟩ := hq k hk
        obtain ⟨_, hl', hat⟩ := World.cells?_some hc
        have hjl : j < cs'.length := by rw [hr.1, hf]; exact hj
        refine ⟨cs'[j], ?_, fun x hx => hr.2 j _ x (List.getElem?_eq_getElem hjl) hx⟩
        rw [← Go.Deep.add_add, ← List.getElem?_eq_getElem hjl]
        exact hat j hj
      rcases Nat.eq_zero_or_pos len with h0 | h0
      · subst h0
        exact .emp _ _ hm
      · obtain ⟨v0, h00, _⟩ := hcell 0 h0 0 hsz
        obtain ⟨b, off, spot⟩ := ad
        have hspot : spot = none := by
          have := World.cell?_spot h00
          simpa [Addr.add] using this
        subst hspot
        have hdd : DRep W (fun b => b < W.heap.size) (.slice (some ⟨b, off, none⟩) ((List.range len).map (fun k => f (q k))).length cap) (.sl ((List.range len).map fun k => f (q k))) := by
          refine .sl b off cap sz _ (fun i j => (W.cell? ⟨b, off + i * sz + j, none⟩).getD undef) ?_ (by simpa using hl) hm (fun i e he => ?_) (fun i e j x he hx => ?_) (fun i e j x he hx => ?_)
          · have h01 := cell_ltA h00
            simp only [Addr.add] at h01
            split at h01 <;> exact h01
          · rw [List.getElem?_map] at he
            obtain ⟨k, _, rfl⟩ := Option.map_eq_some_iff.1 he
            exact hf _
          all_goals
            rw [List.getElem?_map] at he
            obtain ⟨k, hk, rfl⟩ := Option.map_eq_some_iff.1 he
            obtain ⟨hil, rfl⟩ := List.getElem?_eq_some_iff.1 hk
            simp only [List.length_range] at hil
            simp only [List.getElem_range] at hx
            have hjl : j < sz := by have := (List.getElem?_eq_some_iff.1 hx).1; rw [hf] at this; exact this
            obtain ⟨v, hv, hr⟩ := hcell i hil j hjl
            rw [add_plain, ← Nat.add_assoc] at hv
            rw [hv]
          · rfl
          · exact hr x hx
        simpa [List.map_map, Function.comp_def] using hdd
    · obtain ⟨k, hk, rfl⟩ := List.mem_map.1 hm'
      exact (hq k (by simpa using hk)).2
end
end Go.Proofs.YtjhadibjjldpdabGreat
namespace Go.Proofs.YtjhadibjjldpdabGreat
open Go.ChangeShapes Go.WideShapes Go.ChangeAt Go.RowKit Go.Deep
set_option linter.unusedVariables false
set_option maxRecDepth 100000
def osI (x : Int) : Prop := -9223372036854775808 ≤ x ∧ x ≤ 9223372036854775807
def osS (x : ByteArray) : Prop := x.size ≤ 9223372036854775807
def osL {α : Type} (ok : α → Prop) (xs : List α) : Prop := xs.length ≤ 9223372036854775807 ∧ ∀ m ∈ xs, ok m
section
variable {H : Type} {enc : TypeId × Value → H} {W : World} {b0 : Nat} {spare : Nat → Bool} {held : Bool} {fuel : Nat} {cs : List Value} {x : DataW H × List MemPlace}
theorem sl_one {P : Program} {t e : TypeId} (ht : P.underlying t = some (.slice e)) (h : DataW.trod enc P W b0 spare held fuel t cs = some x) : ∃ v, cs = [v] := by
  rcases DataW.trod_slice ht h with ⟨h0, _⟩ | ⟨ad, len, cap, elems, rest, n', _, hcs, _⟩
  · exact ⟨_, h0⟩
  · exact ⟨_, hcs⟩
theorem sliceX {P : Program} {t e : TypeId} {α : Type} {a : Value} (f : α → List DV) (ok : α → Prop) (sz : Nat) (hf : ∀ a, (f a).length = sz) (hsz : 0 < sz) (ht : P.underlying t = some (.slice e)) (hC : P.cellsOf e = sz)
    (rd : ∀ (fuel : Nat) (cs : List Value) (x : DataW H × List MemPlace), DataW.trod enc P W b0 spare held fuel e cs = some x → ∃ m, RepL W cs (f m) ∧ ok m)
    (h : ∃ n y, DataW.trod enc P W b0 spare held n t [a] = some y) :
    ∃ xs : List α, DRep W (fun b => b < W.heap.size) a (.sl (xs.map f)) ∧ xs.length ≤ 9223372036854775807 ∧ ∀ m ∈ xs, ok m := by
  by_cases hne : Nonempty α
  · haveI : Inhabited α := ⟨Classical.choice hne⟩
    exact sliceA f ok sz hf hsz ht hC rd h
  · obtain ⟨n, y, h⟩ := h
    rcases DataW.trod_slice ht h with ⟨h0, _⟩ | ⟨ad, len, cap, elems, rest, n', _, hcs, _, hb, hl, hm, hel, hi, _, _⟩
    · simp at h0
      subst h0
      exact ⟨[], .nil, by simp, fun m hm => by simp at hm⟩
    · simp at hcs
      subst hcs
      rcases Nat.eq_zero_or_pos len with h0 | h0
      · subst h0
        exact ⟨[], .emp _ _ hm, by simp, fun m hm => by simp at hm⟩
      · exfalso
        have h1 := hi 0 h0
        rw [List.getElem?_eq_getElem (by omega)] at h1
        obtain ⟨cs', hc, htr⟩ := Option.bind_eq_some_iff.1 h1
        obtain ⟨m, _⟩ := rd _ _ _ htr
        exact hne ⟨m⟩
end
end Go.Proofs.YtjhadibjjldpdabGreat
namespace Go.Proofs.YtjhadibjjldpdabGreat
open Go.RowKit
set_option linter.unusedVariables false
set_option maxRecDepth 100000
set_option maxHeartbeats 2000000
def okArbor_ (x : Arbor_) : Prop := osS x.Name ∧ (osL osI) x.Wheels
def okMesh_ (x : Mesh_) : Prop := osI x.A ∧ osI x.WheelA ∧ osI x.B ∧ osI x.WheelB
def okWorks_ (x : Works_) : Prop := (osL okArbor_) x.Arbors ∧ (osL okMesh_) x.Meshes
def okMonth_ (x : Month_) : Prop := osS x.Name ∧ osI x.Days ∧ osI x.Leap
def okLeapRule_ (x : LeapRule_) : Prop := osI x.Every ∧ osI x.Rest ∧ (fun _ => True) x.Leap
def okCalendar_ (x : Calendar_) : Prop := osS x.Name ∧ (osL okMonth_) x.Months ∧ (osL okLeapRule_) x.Rules ∧ osI x.Week
def okMovement_ (x : Movement_) : Prop := osS x.Name ∧ okWorks_ x.Works ∧ osI x.Minute ∧ osI x.Hour ∧ osI x.Escape ∧ osI x.Teeth ∧ osI x.Beats ∧ okCalendar_ x.Calendar ∧ (osL osI) x.Cam ∧ osI x.Strike
def okDate_ (x : Date_) : Prop := osI x.Year ∧ osI x.Month ∧ osI x.Day
end Go.Proofs.YtjhadibjjldpdabGreat
namespace Go.Proofs.YtjhadibjjldpdabGreat
open Go.ChangeShapes Go.WideShapes Go.ChangeAt Go.RowKit Go.Deep
set_option linter.unusedVariables false
set_option maxRecDepth 100000
set_option maxHeartbeats 2000000
theorem lst2 {α : Type} (l : List α) (h : l.length = 2) : ∃ a0 a1, l = [a0, a1] := by
  match l, h with
  | [a0, a1], _ => exact ⟨a0, a1, rfl⟩
theorem lst3 {α : Type} (l : List α) (h : l.length = 3) : ∃ a0 a1 a2, l = [a0, a1, a2] := by
  match l, h with
  | [a0, a1, a2], _ => exact ⟨a0, a1, a2, rfl⟩
theorem lst4 {α : Type} (l : List α) (h : l.length = 4) : ∃ a0 a1 a2 a3, l = [a0, a1, a2, a3] := by
  match l, h with
  | [a0, a1, a2, a3], _ => exact ⟨a0, a1, a2, a3, rfl⟩
theorem lst14 {α : Type} (l : List α) (h : l.length = 14) : ∃ a0 a1 a2 a3 a4 a5 a6 a7 a8 a9 a10 a11 a12 a13, l = [a0, a1, a2, a3, a4, a5, a6, a7, a8, a9, a10, a11, a12, a13] := by
  match l, h with
  | [a0, a1, a2, a3, a4, a5, a6, a7, a8, a9, a10, a11, a12, a13], _ => exact ⟨a0, a1, a2, a3, a4, a5, a6, a7, a8, a9, a10, a11, a12, a13, rfl⟩
theorem rd_9 {H : Type} {enc : TypeId × Value → H} {W : World} {b0 : Nat} {spare : Nat → Bool} {held : Bool} {fuel : Nat} {cs : List Value} {x : DataW H × List MemPlace} (h : DataW.trod enc Tryz.prog W b0 spare held fuel 9 cs = some x) : ∃ v : ByteArray, RepL W cs (cS v) ∧ osS v := by
  obtain ⟨z, rfl, _, hw⟩ := DataW.trod_string Tryz.underlying9 h
  exact ⟨z, repL_cons (repL_str _) repL_nil, by unfold osS; unfold maxLen at hw; exact hw⟩
theorem rd_2 {H : Type} {enc : TypeId × Value → H} {W : World} {b0 : Nat} {spare : Nat → Bool} {held : Bool} {fuel : Nat} {cs : List Value} {x : DataW H × List MemPlace} (h : DataW.trod enc Tryz.prog W b0 spare held fuel 2 cs = some x) : ∃ v : Int, RepL W cs (cI v) ∧ osI v := by
  obtain ⟨z, rfl, _, hw⟩ := DataW.trod_int Tryz.underlying2 h
  exact ⟨z, repL_cons (repL_int _ _) repL_nil, by simpa [osI, Lit.wf, IntKind.min, IntKind.max, IntKind.bits, IntKind.signed] using hw⟩
theorem rd_30 {H : Type} {enc : TypeId × Value → H} {W : World} {b0 : Nat} {spare : Nat → Bool} {held : Bool} {fuel : Nat} {cs : List Value} {x : DataW H × List MemPlace} (h : DataW.trod enc Tryz.prog W b0 spare held fuel 30 cs = some x) : ∃ v : List Int, RepL W cs ((cL cI) v) ∧ (osL osI) v := by
  obtain ⟨v, hv⟩ : ∃ v, cs = [v] := sl_one (t := 30) Tryz.underlying30 h
  subst hv
  obtain ⟨xs, hr, hm, hok⟩ := sliceX cI osI 1 (fun _ => rfl) (by omega) Tryz.underlying30 (by kernel_rfl) (fun fuel cs x h => rd_2 h) ⟨_, _, h⟩
  exact ⟨xs, repL_cons hr repL_nil, hm, hok⟩
theorem rd_198 {H : Type} {enc : TypeId × Value → H} {W : World} {b0 : Nat} {spare : Nat → Bool} {held : Bool} {fuel : Nat} {cs : List Value} {x : DataW H × List MemPlace} (h : DataW.trod enc Tryz.prog W b0 spare held fuel 198 cs = some x) : ∃ v : Arbor_, RepL W cs (cArbor_ v) ∧ okArbor_ v := by
  obtain ⟨a0, a1, rfl⟩ := lst2 cs ((cellsR Tryz.underlying198 h).trans (by kernel_rfl))
  obtain ⟨n0, y0, h0⟩ := fieldR Tryz.underlying198 h 0 9 [a0] (by kernel_rfl)
  obtain ⟨v0, r0, o0⟩ := rd_9 h0
  obtain ⟨n1, y1, h1⟩ := fieldR Tryz.underlying198 h 1 30 [a1] (by kernel_rfl)
  obtain ⟨v1, r1, o1⟩ := rd_30 h1
  exact ⟨⟨v0, v1⟩, (repL_app r0 (repL_app r1 repL_nil)), ⟨o0, o1⟩⟩
theorem rd_22 {H : Type} {enc : TypeId × Value → H} {W : World} {b0 : Nat} {spare : Nat → Bool} {held : Bool} {fuel : Nat} {cs : List Value} {x : DataW H × List MemPlace} (h : DataW.trod enc Tryz.prog W b0 spare held fuel 22 cs = some x) : ∃ v : List Arbor_, RepL W cs ((cL cArbor_) v) ∧ (osL okArbor_) v := by
  obtain ⟨v, hv⟩ : ∃ v, cs = [v] := sl_one (t := 22) Tryz.underlying22 h
  subst hv
  obtain ⟨xs, hr, hm, hok⟩ := sliceX cArbor_ okArbor_ 2 (fun _ => rfl) (by omega) Tryz.underlying22 (by kernel_rfl) (fun fuel cs x h => rd_198 h) ⟨_, _, h⟩
  exact ⟨xs, repL_cons hr repL_nil, hm, hok⟩
theorem rd_220 {H : Type} {enc : TypeId × Value → H} {W : World} {b0 : Nat} {spare : Nat → Bool} {held : Bool} {fuel : Nat} {cs : List Value} {x : DataW H × List MemPlace} (h : DataW.trod enc Tryz.prog W b0 spare held fuel 220 cs = some x) : ∃ v : Mesh_, RepL W cs (cMesh_ v) ∧ okMesh_ v := by
  obtain ⟨a0, a1, a2, a3, rfl⟩ := lst4 cs ((cellsR Tryz.underlying220 h).trans (by kernel_rfl))
  obtain ⟨n0, y0, h0⟩ := fieldR Tryz.underlying220 h 0 2 [a0] (by kernel_rfl)
  obtain ⟨v0, r0, o0⟩ := rd_2 h0
  obtain ⟨n1, y1, h1⟩ := fieldR Tryz.underlying220 h 1 2 [a1] (by kernel_rfl)
  obtain ⟨v1, r1, o1⟩ := rd_2 h1
  obtain ⟨n2, y2, h2⟩ := fieldR Tryz.underlying220 h 2 2 [a2] (by kernel_rfl)
  obtain ⟨v2, r2, o2⟩ := rd_2 h2
  obtain ⟨n3, y3, h3⟩ := fieldR Tryz.underlying220 h 3 2 [a3] (by kernel_rfl)
  obtain ⟨v3, r3, o3⟩ := rd_2 h3
  exact ⟨⟨v0, v1, v2, v3⟩, (repL_app r0 (repL_app r1 (repL_app r2 (repL_app r3 repL_nil)))), ⟨o0, o1, o2, o3⟩⟩
theorem rd_23 {H : Type} {enc : TypeId × Value → H} {W : World} {b0 : Nat} {spare : Nat → Bool} {held : Bool} {fuel : Nat} {cs : List Value} {x : DataW H × List MemPlace} (h : DataW.trod enc Tryz.prog W b0 spare held fuel 23 cs = some x) : ∃ v : List Mesh_, RepL W cs ((cL cMesh_) v) ∧ (osL okMesh_) v := by
  obtain ⟨v, hv⟩ : ∃ v, cs = [v] := sl_one (t := 23) Tryz.underlying23 h
  subst hv
  obtain ⟨xs, hr, hm, hok⟩ := sliceX cMesh_ okMesh_ 4 (fun _ => rfl) (by omega) Tryz.underlying23 (by kernel_rfl) (fun fuel cs x h => rd_220 h) ⟨_, _, h⟩
  exact ⟨xs, repL_cons hr repL_nil, hm, hok⟩
theorem rd_25 {H : Type} {enc : TypeId × Value → H} {W : World} {b0 : Nat} {spare : Nat → Bool} {held : Bool} {fuel : Nat} {cs : List Value} {x : DataW H × List MemPlace} (h : DataW.trod enc Tryz.prog W b0 spare held fuel 25 cs = some x) : ∃ v : Works_, RepL W cs (cWorks_ v) ∧ okWorks_ v := by
  obtain ⟨a0, a1, rfl⟩ := lst2 cs ((cellsR Tryz.underlying25 h).trans (by kernel_rfl))
  obtain ⟨n0, y0, h0⟩ := fieldR Tryz.underlying25 h 0 22 [a0] (by kernel_rfl)
  obtain ⟨v0, r0, o0⟩ := rd_22 h0
  obtain ⟨n1, y1, h1⟩ := fieldR Tryz.underlying25 h 1 23 [a1] (by kernel_rfl)
  obtain ⟨v1, r1, o1⟩ := rd_23 h1
  exact ⟨⟨v0, v1⟩, (repL_app r0 (repL_app r1 repL_nil)), ⟨o0, o1⟩⟩
theorem rd_200 {H : Type} {enc : TypeId × Value → H} {W : World} {b0 : Nat} {spare : Nat → Bool} {held : Bool} {fuel : Nat} {cs : List Value} {x : DataW H × List MemPlace} (h : DataW.trod enc Tryz.prog W b0 spare held fuel 200 cs = some x) : ∃ v : Month_, RepL W cs (cMonth_ v) ∧ okMonth_ v := by
  obtain ⟨a0, a1, a2, rfl⟩ := lst3 cs ((cellsR Tryz.underlying200 h).trans (by kernel_rfl))
  obtain ⟨n0, y0, h0⟩ := fieldR Tryz.underlying200 h 0 9 [a0] (by kernel_rfl)
  obtain ⟨v0, r0, o0⟩ := rd_9 h0
  obtain ⟨n1, y1, h1⟩ := fieldR Tryz.underlying200 h 1 2 [a1] (by kernel_rfl)
  obtain ⟨v1, r1, o1⟩ := rd_2 h1
  obtain ⟨n2, y2, h2⟩ := fieldR Tryz.underlying200 h 2 2 [a2] (by kernel_rfl)
  obtain ⟨v2, r2, o2⟩ := rd_2 h2
  exact ⟨⟨v0, v1, v2⟩, (repL_app r0 (repL_app r1 (repL_app r2 repL_nil))), ⟨o0, o1, o2⟩⟩
theorem rd_26 {H : Type} {enc : TypeId × Value → H} {W : World} {b0 : Nat} {spare : Nat → Bool} {held : Bool} {fuel : Nat} {cs : List Value} {x : DataW H × List MemPlace} (h : DataW.trod enc Tryz.prog W b0 spare held fuel 26 cs = some x) : ∃ v : List Month_, RepL W cs ((cL cMonth_) v) ∧ (osL okMonth_) v := by
  obtain ⟨v, hv⟩ : ∃ v, cs = [v] := sl_one (t := 26) Tryz.underlying26 h
  subst hv
  obtain ⟨xs, hr, hm, hok⟩ := sliceX cMonth_ okMonth_ 3 (fun _ => rfl) (by omega) Tryz.underlying26 (by kernel_rfl) (fun fuel cs x h => rd_200 h) ⟨_, _, h⟩
  exact ⟨xs, repL_cons hr repL_nil, hm, hok⟩
theorem rd_4 {H : Type} {enc : TypeId × Value → H} {W : World} {b0 : Nat} {spare : Nat → Bool} {held : Bool} {fuel : Nat} {cs : List Value} {x : DataW H × List MemPlace} (h : DataW.trod enc Tryz.prog W b0 spare held fuel 4 cs = some x) : ∃ v : Bool, RepL W cs (cB v) ∧ (fun _ => True) v := by
  obtain ⟨z, rfl, _⟩ := DataW.trod_bool Tryz.underlying4 h
  exact ⟨z, repL_cons (repL_bool _) repL_nil, trivial⟩
theorem rd_223 {H : Type} {enc : TypeId × Value → H} {W : World} {b0 : Nat} {spare : Nat → Bool} {held : Bool} {fuel : Nat} {cs : List Value} {x : DataW H × List MemPlace} (h : DataW.trod enc Tryz.prog W b0 spare held fuel 223 cs = some x) : ∃ v : LeapRule_, RepL W cs (cLeapRule_ v) ∧ okLeapRule_ v := by
  obtain ⟨a0, a1, a2, rfl⟩ := lst3 cs ((cellsR Tryz.underlying223 h).trans (by kernel_rfl))
  obtain ⟨n0, y0, h0⟩ := fieldR Tryz.underlying223 h 0 2 [a0] (by kernel_rfl)
  obtain ⟨v0, r0, o0⟩ := rd_2 h0
  obtain ⟨n1, y1, h1⟩ := fieldR Tryz.underlying223 h 1 2 [a1] (by kernel_rfl)
  obtain ⟨v1, r1, o1⟩ := rd_2 h1
  obtain ⟨n2, y2, h2⟩ := fieldR Tryz.underlying223 h 2 4 [a2] (by kernel_rfl)
  obtain ⟨v2, r2, o2⟩ := rd_4 h2
  exact ⟨⟨v0, v1, v2⟩, (repL_app r0 (repL_app r1 (repL_app r2 repL_nil))), ⟨o0, o1, o2⟩⟩
theorem rd_27 {H : Type} {enc : TypeId × Value → H} {W : World} {b0 : Nat} {spare : Nat → Bool} {held : Bool} {fuel : Nat} {cs : List Value} {x : DataW H × List MemPlace} (h : DataW.trod enc Tryz.prog W b0 spare held fuel 27 cs = some x) : ∃ v : List LeapRule_, RepL W cs ((cL cLeapRule_) v) ∧ (osL okLeapRule_) v := by
  obtain ⟨v, hv⟩ : ∃ v, cs = [v] := sl_one (t := 27) Tryz.underlying27 h
  subst hv
  obtain ⟨xs, hr, hm, hok⟩ := sliceX cLeapRule_ okLeapRule_ 3 (fun _ => rfl) (by omega) Tryz.underlying27 (by kernel_rfl) (fun fuel cs x h => rd_223 h) ⟨_, _, h⟩
  exact ⟨xs, repL_cons hr repL_nil, hm, hok⟩
theorem rd_29 {H : Type} {enc : TypeId × Value → H} {W : World} {b0 : Nat} {spare : Nat → Bool} {held : Bool} {fuel : Nat} {cs : List Value} {x : DataW H × List MemPlace} (h : DataW.trod enc Tryz.prog W b0 spare held fuel 29 cs = some x) : ∃ v : Calendar_, RepL W cs (cCalendar_ v) ∧ okCalendar_ v := by
  obtain ⟨a0, a1, a2, a3, rfl⟩ := lst4 cs ((cellsR Tryz.underlying29 h).trans (by kernel_rfl))
  obtain ⟨n0, y0, h0⟩ := fieldR Tryz.underlying29 h 0 9 [a0] (by kernel_rfl)
  obtain ⟨v0, r0, o0⟩ := rd_9 h0
  obtain ⟨n1, y1, h1⟩ := fieldR Tryz.underlying29 h 1 26 [a1] (by kernel_rfl)
  obtain ⟨v1, r1, o1⟩ := rd_26 h1
  obtain ⟨n2, y2, h2⟩ := fieldR Tryz.underlying29 h 2 27 [a2] (by kernel_rfl)
  obtain ⟨v2, r2, o2⟩ := rd_27 h2
  obtain ⟨n3, y3, h3⟩ := fieldR Tryz.underlying29 h 3 2 [a3] (by kernel_rfl)
  obtain ⟨v3, r3, o3⟩ := rd_2 h3
  exact ⟨⟨v0, v1, v2, v3⟩, (repL_app r0 (repL_app r1 (repL_app r2 (repL_app r3 repL_nil)))), ⟨o0, o1, o2, o3⟩⟩
theorem rd_32 {H : Type} {enc : TypeId × Value → H} {W : World} {b0 : Nat} {spare : Nat → Bool} {held : Bool} {fuel : Nat} {cs : List Value} {x : DataW H × List MemPlace} (h : DataW.trod enc Tryz.prog W b0 spare held fuel 32 cs = some x) : ∃ v : Movement_, RepL W cs (cMovement_ v) ∧ okMovement_ v := by
  obtain ⟨a0, a1, a2, a3, a4, a5, a6, a7, a8, a9, a10, a11, a12, a13, rfl⟩ := lst14 cs ((cellsR Tryz.underlying32 h).trans (by kernel_rfl))
  obtain ⟨n0, y0, h0⟩ := fieldR Tryz.underlying32 h 0 9 [a0] (by kernel_rfl)
  obtain ⟨v0, r0, o0⟩ := rd_9 h0
  obtain ⟨n1, y1, h1⟩ := fieldR Tryz.underlying32 h 1 25 [a1, a2] (by kernel_rfl)
  obtain ⟨v1, r1, o1⟩ := rd_25 h1
  obtain ⟨n2, y2, h2⟩ := fieldR Tryz.underlying32 h 2 2 [a3] (by kernel_rfl)
  obtain ⟨v2, r2, o2⟩ := rd_2 h2
  obtain ⟨n3, y3, h3⟩ := fieldR Tryz.underlying32 h 3 2 [a4] (by kernel_rfl)
  obtain ⟨v3, r3, o3⟩ := rd_2 h3
  obtain ⟨n4, y4, h4⟩ := fieldR Tryz.underlying32 h 4 2 [a5] (by kernel_rfl)
  obtain ⟨v4, r4, o4⟩ := rd_2 h4
  obtain ⟨n5, y5, h5⟩ := fieldR Tryz.underlying32 h 5 2 [a6] (by kernel_rfl)
  obtain ⟨v5, r5, o5⟩ := rd_2 h5
  obtain ⟨n6, y6, h6⟩ := fieldR Tryz.underlying32 h 6 2 [a7] (by kernel_rfl)
  obtain ⟨v6, r6, o6⟩ := rd_2 h6
  obtain ⟨n7, y7, h7⟩ := fieldR Tryz.underlying32 h 7 29 [a8, a9, a10, a11] (by kernel_rfl)
  obtain ⟨v7, r7, o7⟩ := rd_29 h7
  obtain ⟨n8, y8, h8⟩ := fieldR Tryz.underlying32 h 8 30 [a12] (by kernel_rfl)
  obtain ⟨v8, r8, o8⟩ := rd_30 h8
  obtain ⟨n9, y9, h9⟩ := fieldR Tryz.underlying32 h 9 2 [a13] (by kernel_rfl)
  obtain ⟨v9, r9, o9⟩ := rd_2 h9
  exact ⟨⟨v0, v1, v2, v3, v4, v5, v6, v7, v8, v9⟩, (repL_app r0 (repL_app r1 (repL_app r2 (repL_app r3 (repL_app r4 (repL_app r5 (repL_app r6 (repL_app r7 (repL_app r8 (repL_app r9 repL_nil)))))))))), ⟨o0, o1, o2, o3, o4, o5, o6, o7, o8, o9⟩⟩
theorem rd_34 {H : Type} {enc : TypeId × Value → H} {W : World} {b0 : Nat} {spare : Nat → Bool} {held : Bool} {fuel : Nat} {cs : List Value} {x : DataW H × List MemPlace} (h : DataW.trod enc Tryz.prog W b0 spare held fuel 34 cs = some x) : ∃ v : Date_, RepL W cs (cDate_ v) ∧ okDate_ v := by
  obtain ⟨a0, a1, a2, rfl⟩ := lst3 cs ((cellsR Tryz.underlying34 h).trans (by kernel_rfl))
  obtain ⟨n0, y0, h0⟩ := fieldR Tryz.underlying34 h 0 2 [a0] (by kernel_rfl)
  obtain ⟨v0, r0, o0⟩ := rd_2 h0
  obtain ⟨n1, y1, h1⟩ := fieldR Tryz.underlying34 h 1 2 [a1] (by kernel_rfl)
  obtain ⟨v1, r1, o1⟩ := rd_2 h1
  obtain ⟨n2, y2, h2⟩ := fieldR Tryz.underlying34 h 2 2 [a2] (by kernel_rfl)
  obtain ⟨v2, r2, o2⟩ := rd_2 h2
  exact ⟨⟨v0, v1, v2⟩, (repL_app r0 (repL_app r1 (repL_app r2 repL_nil))), ⟨o0, o1, o2⟩⟩
theorem open_32 {H : Type} {enc : TypeId × Value → H} {W : World} {b0 base : Nat} {spare : Nat → Bool} {held : Bool} {v : Value} {d : DataW H} {p : List MemPlace} (hv : Value.okWide Tryz.prog W .any base 32 v) (h : DataW.Trod enc Tryz.prog W b0 spare held 32 v d p) : ∃ x : Movement_, ARep W (fun b => b < W.heap.size) (fun _ _ => none) (lks []) v (.agg [.d (.v (.string x.Name)), .d (.sl (List.map cArbor_ x.Works.Arbors)), .d (.sl (List.map cMesh_ x.Works.Meshes)), .d (.v (.int .i64 x.Minute)), .d (.v (.int .i64 x.Hour)), .d (.v (.int .i64 x.Escape)), .d (.v (.int .i64 x.Teeth)), .d (.v (.int .i64 x.Beats)), .d (.v (.string x.Calendar.Name)), .d (.sl (List.map cMonth_ x.Calendar.Months)), .d (.sl (List.map cLeapRule_ x.Calendar.Rules)), .d (.v (.int .i64 x.Calendar.Week)), .d (.sl (List.map cI x.Cam)), .d (.v (.int .i64 x.Strike))]) ∧ okMovement_ x := by
  obtain ⟨cs, rfl, hsz⟩ := okWide_struct Tryz.underlying32 hv
  obtain ⟨fuel, hf⟩ := h
  obtain ⟨x, hr, hok⟩ := rd_32 hf
  exact ⟨x, agg_rep (ds := cMovement_ x) (by simpa [Value.cells] using hr), hok⟩
theorem open_34 {H : Type} {enc : TypeId × Value → H} {W : World} {b0 base : Nat} {spare : Nat → Bool} {held : Bool} {v : Value} {d : DataW H} {p : List MemPlace} (hv : Value.okWide Tryz.prog W .any base 34 v) (h : DataW.Trod enc Tryz.prog W b0 spare held 34 v d p) : ∃ x : Date_, ARep W (fun b => b < W.heap.size) (fun _ _ => none) (lks []) v (.agg [.d (.v (.int .i64 x.Year)), .d (.v (.int .i64 x.Month)), .d (.v (.int .i64 x.Day))]) ∧ okDate_ x := by
  obtain ⟨cs, rfl, hsz⟩ := okWide_struct Tryz.underlying34 hv
  obtain ⟨fuel, hf⟩ := h
  obtain ⟨x, hr, hok⟩ := rd_34 hf
  exact ⟨x, agg_rep (ds := cDate_ x) (by simpa [Value.cells] using hr), hok⟩
end Go.Proofs.YtjhadibjjldpdabGreat
namespace Go.Proofs.YtjhadibjjldpdabGreat
open Go.RowKit
set_option linter.unusedVariables false
set_option maxRecDepth 100000
theorem ty2 : TyIs Tryz.prog 2 ⟨.int .i64, 1, 8, .int .i64 0⟩ := tyIs_of (by kernel_rfl)
theorem ty3 : TyIs Tryz.prog 3 ⟨.int .i64, 1, 8, .int .i64 0⟩ := tyIs_of (by kernel_rfl)
theorem ty4 : TyIs Tryz.prog 4 ⟨.bool, 1, 1, .bool false⟩ := tyIs_of (by kernel_rfl)
theorem ty5 : TyIs Tryz.prog 5 ⟨.int .u8, 1, 1, .int .u8 0⟩ := tyIs_of (by kernel_rfl)
theorem ty6 : TyIs Tryz.prog 6 ⟨.int .u8, 1, 1, .int .u8 0⟩ := tyIs_of (by kernel_rfl)
theorem ty8 : TyIs Tryz.prog 8 ⟨.struct #[⟨ "x", 2, 0, false, "", "runtime", 0⟩, ⟨ "y", 3, 1, false, "", "runtime", 8⟩, ⟨ "signed", 4, 2, false, "", "runtime", 16⟩, ⟨ "code", 6, 3, false, "", "runtime", 17⟩], 4, 24, .agg #[.int .i64 0, .int .i64 0, .bool false, .int .u8 0]⟩ := tyIs_of (by kernel_rfl)
theorem ty9 : TyIs Tryz.prog 9 ⟨.string, 1, 16, .string ⟨#[]⟩⟩ := tyIs_of (by kernel_rfl)
theorem ty10 : TyIs Tryz.prog 10 ⟨.string, 1, 16, .string ⟨#[]⟩⟩ := tyIs_of (by kernel_rfl)
theorem ty11 : TyIs Tryz.prog 11 ⟨.string, 1, 16, .string ⟨#[]⟩⟩ := tyIs_of (by kernel_rfl)
theorem ty12 : TyIs Tryz.prog 12 ⟨.int .u64, 1, 8, .int .u64 0⟩ := tyIs_of (by kernel_rfl)
theorem ty14 : TyIs Tryz.prog 14 ⟨.struct #[⟨ "msg", 9, 0, false, "", "runtime", 0⟩, ⟨ "addr", 12, 1, false, "", "runtime", 16⟩], 2, 24, .agg #[.string ⟨#[]⟩, .int .u64 0]⟩ := tyIs_of (by kernel_rfl)
theorem ty15 : TyIs Tryz.prog 15 ⟨.pointer 261, 1, 8, .pointer none⟩ := tyIs_of (by kernel_rfl)
theorem ty16 : TyIs Tryz.prog 16 ⟨.pointer 264, 1, 8, .pointer none⟩ := tyIs_of (by kernel_rfl)
theorem ty17 : TyIs Tryz.prog 17 ⟨.pointer 274, 1, 8, .pointer none⟩ := tyIs_of (by kernel_rfl)
theorem ty19 : TyIs Tryz.prog 19 ⟨.struct #[⟨ "typ", 17, 0, false, "", "internal/runtime/maps", 0⟩], 1, 8, .agg #[.pointer none]⟩ := tyIs_of (by kernel_rfl)
theorem ty22 : TyIs Tryz.prog 22 ⟨.slice 198, 1, 24, .slice none 0 0⟩ := tyIs_of (by kernel_rfl)
theorem ty23 : TyIs Tryz.prog 23 ⟨.slice 220, 1, 24, .slice none 0 0⟩ := tyIs_of (by kernel_rfl)
theorem ty25 : TyIs Tryz.prog 25 ⟨.struct #[⟨ "Arbors", 22, 0, false, "", "", 0⟩, ⟨ "Meshes", 23, 1, false, "", "", 24⟩], 2, 48, .agg #[.slice none 0 0, .slice none 0 0]⟩ := tyIs_of (by kernel_rfl)
theorem ty26 : TyIs Tryz.prog 26 ⟨.slice 200, 1, 24, .slice none 0 0⟩ := tyIs_of (by kernel_rfl)
theorem ty27 : TyIs Tryz.prog 27 ⟨.slice 223, 1, 24, .slice none 0 0⟩ := tyIs_of (by kernel_rfl)
theorem ty29 : TyIs Tryz.prog 29 ⟨.struct #[⟨ "Name", 9, 0, false, "", "", 0⟩, ⟨ "Months", 26, 1, false, "", "", 16⟩, ⟨ "Rules", 27, 2, false, "", "", 40⟩, ⟨ "Week", 2, 3, false, "", "", 64⟩], 4, 72, .agg #[.string ⟨#[]⟩, .slice none 0 0, .slice none 0 0, .int .i64 0]⟩ := tyIs_of (by kernel_rfl)
theorem ty30 : TyIs Tryz.prog 30 ⟨.slice 2, 1, 24, .slice none 0 0⟩ := tyIs_of (by kernel_rfl)
theorem ty32 : TyIs Tryz.prog 32 ⟨.struct #[⟨ "Name", 9, 0, false, "", "", 0⟩, ⟨ "Works", 25, 1, false, "", "", 16⟩, ⟨ "Minute", 2, 3, false, "", "", 64⟩, ⟨ "Hour", 2, 4, false, "", "", 72⟩, ⟨ "Escape", 2, 5, false, "", "", 80⟩, ⟨ "Teeth", 2, 6, false, "", "", 88⟩, ⟨ "Beats", 2, 7, false, "", "", 96⟩, ⟨ "Calendar", 29, 8, false, "", "", 104⟩, ⟨ "Cam", 30, 12, false, "", "", 176⟩, ⟨ "Strike", 2, 13, false, "", "", 200⟩], 14, 208, .agg #[.string ⟨#[]⟩, .slice none 0 0, .slice none 0 0, .int .i64 0, .int .i64 0, .int .i64 0, .int .i64 0, .int .i64 0, .string ⟨#[]⟩, .slice none 0 0, .slice none 0 0, .int .i64 0, .slice none 0 0, .int .i64 0]⟩ := tyIs_of (by kernel_rfl)
theorem ty34 : TyIs Tryz.prog 34 ⟨.struct #[⟨ "Year", 2, 0, false, "", "", 0⟩, ⟨ "Month", 2, 1, false, "", "", 8⟩, ⟨ "Day", 2, 2, false, "", "", 16⟩], 3, 24, .agg #[.int .i64 0, .int .i64 0, .int .i64 0]⟩ := tyIs_of (by kernel_rfl)
theorem ty36 : TyIs Tryz.prog 36 ⟨.struct #[⟨ "Cam", 30, 0, false, "", "", 0⟩, ⟨ "Months", 2, 1, false, "", "", 24⟩, ⟨ "Teeth", 2, 2, false, "", "", 32⟩, ⟨ "At", 2, 3, false, "", "", 40⟩, ⟨ "Day", 2, 4, false, "", "", 48⟩, ⟨ "Week", 2, 5, false, "", "", 56⟩, ⟨ "Weekday", 2, 6, false, "", "", 64⟩], 7, 72, .agg #[.slice none 0 0, .int .i64 0, .int .i64 0, .int .i64 0, .int .i64 0, .int .i64 0, .int .i64 0]⟩ := tyIs_of (by kernel_rfl)
theorem ty38 : TyIs Tryz.prog 38 ⟨.struct #[⟨ "Movement", 32, 0, false, "", "", 0⟩, ⟨ "Start", 34, 14, false, "", "", 208⟩, ⟨ "First", 2, 17, false, "", "", 232⟩, ⟨ "Clock", 2, 18, false, "", "", 240⟩, ⟨ "Dial", 36, 19, false, "", "", 248⟩], 26, 320, .agg #[.string ⟨#[]⟩, .slice none 0 0, .slice none 0 0, .int .i64 0, .int .i64 0, .int .i64 0, .int .i64 0, .int .i64 0, .string ⟨#[]⟩, .slice none 0 0, .slice none 0 0, .int .i64 0, .slice none 0 0, .int .i64 0, .int .i64 0, .int .i64 0, .int .i64 0, .int .i64 0, .int .i64 0, .slice none 0 0, .int .i64 0, .int .i64 0, .int .i64 0, .int .i64 0, .int .i64 0, .int .i64 0]⟩ := tyIs_of (by kernel_rfl)
theorem ty40 : TyIs Tryz.prog 40 ⟨.struct #[⟨ "Sim", 38, 0, false, "", "", 0⟩], 26, 320, .agg #[.string ⟨#[]⟩, .slice none 0 0, .slice none 0 0, .int .i64 0, .int .i64 0, .int .i64 0, .int .i64 0, .int .i64 0, .string ⟨#[]⟩, .slice none 0 0, .slice none 0 0, .int .i64 0, .slice none 0 0, .int .i64 0, .int .i64 0, .int .i64 0, .int .i64 0, .int .i64 0, .int .i64 0, .slice none 0 0, .int .i64 0, .int .i64 0, .int .i64 0, .int .i64 0, .int .i64 0, .int .i64 0]⟩ := tyIs_of (by kernel_rfl)
theorem ty43 : TyIs Tryz.prog 43 ⟨.slice 204, 1, 24, .slice none 0 0⟩ := tyIs_of (by kernel_rfl)
theorem ty44 : TyIs Tryz.prog 44 ⟨.slice 208, 1, 24, .slice none 0 0⟩ := tyIs_of (by kernel_rfl)
theorem ty46 : TyIs Tryz.prog 46 ⟨.struct #[⟨ "Arbors", 43, 0, false, "", "", 0⟩, ⟨ "Meshes", 44, 1, false, "", "", 24⟩], 2, 48, .agg #[.slice none 0 0, .slice none 0 0]⟩ := tyIs_of (by kernel_rfl)
theorem ty47 : TyIs Tryz.prog 47 ⟨.slice 169, 1, 24, .slice none 0 0⟩ := tyIs_of (by kernel_rfl)
theorem ty48 : TyIs Tryz.prog 48 ⟨.slice 174, 1, 24, .slice none 0 0⟩ := tyIs_of (by kernel_rfl)
theorem ty50 : TyIs Tryz.prog 50 ⟨.struct #[⟨ "Name", 9, 0, false, "", "", 0⟩, ⟨ "Months", 47, 1, false, "", "", 16⟩, ⟨ "Rules", 48, 2, false, "", "", 40⟩, ⟨ "Week", 2, 3, false, "", "", 64⟩], 4, 72, .agg #[.string ⟨#[]⟩, .slice none 0 0, .slice none 0 0, .int .i64 0]⟩ := tyIs_of (by kernel_rfl)
theorem ty52 : TyIs Tryz.prog 52 ⟨.struct #[⟨ "Name", 9, 0, false, "", "", 0⟩, ⟨ "Works", 46, 1, false, "", "", 16⟩, ⟨ "Minute", 2, 3, false, "", "", 64⟩, ⟨ "Hour", 2, 4, false, "", "", 72⟩, ⟨ "Escape", 2, 5, false, "", "", 80⟩, ⟨ "Teeth", 2, 6, false, "", "", 88⟩, ⟨ "Beats", 2, 7, false, "", "", 96⟩, ⟨ "Calendar", 50, 8, false, "", "", 104⟩, ⟨ "Cam", 30, 12, false, "", "", 176⟩, ⟨ "Strike", 2, 13, false, "", "", 200⟩], 14, 208, .agg #[.string ⟨#[]⟩, .slice none 0 0, .slice none 0 0, .int .i64 0, .int .i64 0, .int .i64 0, .int .i64 0, .int .i64 0, .string ⟨#[]⟩, .slice none 0 0, .slice none 0 0, .int .i64 0, .slice none 0 0, .int .i64 0]⟩ := tyIs_of (by kernel_rfl)
theorem ty53 : TyIs Tryz.prog 53 ⟨.struct #[⟨ "Year", 2, 0, false, "", "", 0⟩, ⟨ "Month", 2, 1, false, "", "", 8⟩, ⟨ "Day", 2, 2, false, "", "", 16⟩], 3, 24, .agg #[.int .i64 0, .int .i64 0, .int .i64 0]⟩ := tyIs_of (by kernel_rfl)
theorem ty54 : TyIs Tryz.prog 54 ⟨.struct #[⟨ "Cam", 30, 0, false, "", "", 0⟩, ⟨ "Months", 2, 1, false, "", "", 24⟩, ⟨ "Teeth", 2, 2, false, "", "", 32⟩, ⟨ "At", 2, 3, false, "", "", 40⟩, ⟨ "Day", 2, 4, false, "", "", 48⟩, ⟨ "Week", 2, 5, false, "", "", 56⟩, ⟨ "Weekday", 2, 6, false, "", "", 64⟩], 7, 72, .agg #[.slice none 0 0, .int .i64 0, .int .i64 0, .int .i64 0, .int .i64 0, .int .i64 0, .int .i64 0]⟩ := tyIs_of (by kernel_rfl)
theorem ty56 : TyIs Tryz.prog 56 ⟨.struct #[⟨ "Movement", 52, 0, false, "", "", 0⟩, ⟨ "Start", 53, 14, false, "", "", 208⟩, ⟨ "First", 2, 17, false, "", "", 232⟩, ⟨ "Clock", 2, 18, false, "", "", 240⟩, ⟨ "Dial", 54, 19, false, "", "", 248⟩], 26, 320, .agg #[.string ⟨#[]⟩, .slice none 0 0, .slice none 0 0, .int .i64 0, .int .i64 0, .int .i64 0, .int .i64 0, .int .i64 0, .string ⟨#[]⟩, .slice none 0 0, .slice none 0 0, .int .i64 0, .slice none 0 0, .int .i64 0, .int .i64 0, .int .i64 0, .int .i64 0, .int .i64 0, .int .i64 0, .slice none 0 0, .int .i64 0, .int .i64 0, .int .i64 0, .int .i64 0, .int .i64 0, .int .i64 0]⟩ := tyIs_of (by kernel_rfl)
theorem ty58 : TyIs Tryz.prog 58 ⟨.struct #[⟨ "Sim", 56, 0, false, "", "", 0⟩], 26, 320, .agg #[.string ⟨#[]⟩, .slice none 0 0, .slice none 0 0, .int .i64 0, .int .i64 0, .int .i64 0, .int .i64 0, .int .i64 0, .string ⟨#[]⟩, .slice none 0 0, .slice none 0 0, .int .i64 0, .slice none 0 0, .int .i64 0, .int .i64 0, .int .i64 0, .int .i64 0, .int .i64 0, .int .i64 0, .slice none 0 0, .int .i64 0, .int .i64 0, .int .i64 0, .int .i64 0, .int .i64 0, .int .i64 0]⟩ := tyIs_of (by kernel_rfl)
theorem ty64 : TyIs Tryz.prog 64 ⟨.struct #[⟨ "Num", 2, 0, false, "", "", 0⟩, ⟨ "Den", 2, 1, false, "", "", 8⟩], 2, 16, .agg #[.int .i64 0, .int .i64 0]⟩ := tyIs_of (by kernel_rfl)
theorem ty85 : TyIs Tryz.prog 85 ⟨.pointer 56, 1, 8, .pointer none⟩ := tyIs_of (by kernel_rfl)
theorem ty100 : TyIs Tryz.prog 100 ⟨.pointer 52, 1, 8, .pointer none⟩ := tyIs_of (by kernel_rfl)
theorem ty101 : TyIs Tryz.prog 101 ⟨.slice 9, 1, 24, .slice none 0 0⟩ := tyIs_of (by kernel_rfl)
theorem ty120 : TyIs Tryz.prog 120 ⟨.pointer 54, 1, 8, .pointer none⟩ := tyIs_of (by kernel_rfl)
theorem ty134 : TyIs Tryz.prog 134 ⟨.pointer 50, 1, 8, .pointer none⟩ := tyIs_of (by kernel_rfl)
theorem ty144 : TyIs Tryz.prog 144 ⟨.pointer 46, 1, 8, .pointer none⟩ := tyIs_of (by kernel_rfl)
theorem ty149 : TyIs Tryz.prog 149 ⟨.slice 64, 1, 24, .slice none 0 0⟩ := tyIs_of (by kernel_rfl)
theorem ty169 : TyIs Tryz.prog 169 ⟨.struct #[⟨ "Name", 9, 0, false, "", "", 0⟩, ⟨ "Days", 2, 1, false, "", "", 16⟩, ⟨ "Leap", 2, 2, false, "", "", 24⟩], 3, 32, .agg #[.string ⟨#[]⟩, .int .i64 0, .int .i64 0]⟩ := tyIs_of (by kernel_rfl)
theorem ty174 : TyIs Tryz.prog 174 ⟨.struct #[⟨ "Every", 2, 0, false, "", "", 0⟩, ⟨ "Rest", 2, 1, false, "", "", 8⟩, ⟨ "Leap", 4, 2, false, "", "", 16⟩], 3, 24, .agg #[.int .i64 0, .int .i64 0, .bool false]⟩ := tyIs_of (by kernel_rfl)
theorem ty198 : TyIs Tryz.prog 198 ⟨.struct #[⟨ "Name", 9, 0, false, "", "", 0⟩, ⟨ "Wheels", 30, 1, false, "", "", 16⟩], 2, 40, .agg #[.string ⟨#[]⟩, .slice none 0 0]⟩ := tyIs_of (by kernel_rfl)
theorem ty200 : TyIs Tryz.prog 200 ⟨.struct #[⟨ "Name", 9, 0, false, "", "", 0⟩, ⟨ "Days", 2, 1, false, "", "", 16⟩, ⟨ "Leap", 2, 2, false, "", "", 24⟩], 3, 32, .agg #[.string ⟨#[]⟩, .int .i64 0, .int .i64 0]⟩ := tyIs_of (by kernel_rfl)
theorem ty203 : TyIs Tryz.prog 203 ⟨.pointer 204, 1, 8, .pointer none⟩ := tyIs_of (by kernel_rfl)
theorem ty204 : TyIs Tryz.prog 204 ⟨.struct #[⟨ "Name", 9, 0, false, "", "", 0⟩, ⟨ "Wheels", 30, 1, false, "", "", 16⟩], 2, 40, .agg #[.string ⟨#[]⟩, .slice none 0 0]⟩ := tyIs_of (by kernel_rfl)
theorem ty208 : TyIs Tryz.prog 208 ⟨.struct #[⟨ "A", 2, 0, false, "", "", 0⟩, ⟨ "WheelA", 2, 1, false, "", "", 8⟩, ⟨ "B", 2, 2, false, "", "", 16⟩, ⟨ "WheelB", 2, 3, false, "", "", 24⟩], 4, 32, .agg #[.int .i64 0, .int .i64 0, .int .i64 0, .int .i64 0]⟩ := tyIs_of (by kernel_rfl)
theorem ty213 : TyIs Tryz.prog 213 ⟨.slice 4, 1, 24, .slice none 0 0⟩ := tyIs_of (by kernel_rfl)
theorem ty220 : TyIs Tryz.prog 220 ⟨.struct #[⟨ "A", 2, 0, false, "", "", 0⟩, ⟨ "WheelA", 2, 1, false, "", "", 8⟩, ⟨ "B", 2, 2, false, "", "", 16⟩, ⟨ "WheelB", 2, 3, false, "", "", 24⟩], 4, 32, .agg #[.int .i64 0, .int .i64 0, .int .i64 0, .int .i64 0]⟩ := tyIs_of (by kernel_rfl)
theorem ty223 : TyIs Tryz.prog 223 ⟨.struct #[⟨ "Every", 2, 0, false, "", "", 0⟩, ⟨ "Rest", 2, 1, false, "", "", 8⟩, ⟨ "Leap", 4, 2, false, "", "", 16⟩], 3, 24, .agg #[.int .i64 0, .int .i64 0, .bool false]⟩ := tyIs_of (by kernel_rfl)
theorem ty224 : TyIs Tryz.prog 224 ⟨.slice 5, 1, 24, .slice none 0 0⟩ := tyIs_of (by kernel_rfl)
theorem ty235 : TyIs Tryz.prog 235 ⟨.struct #[⟨ "Driver", 2, 0, false, "", "", 0⟩, ⟨ "Driven", 2, 1, false, "", "", 8⟩], 2, 16, .agg #[.int .i64 0, .int .i64 0]⟩ := tyIs_of (by kernel_rfl)
theorem ty245 : TyIs Tryz.prog 245 ⟨.int .u64, 1, 8, .int .u64 0⟩ := tyIs_of (by kernel_rfl)
theorem ty268 : TyIs Tryz.prog 268 ⟨.int .u8, 1, 1, .int .u8 0⟩ := tyIs_of (by kernel_rfl)
def tt : Tab := updT (updT (updT (updT (updT (updT (updT (updT (updT (updT (updT (updT (updT (updT (updT (updT (updT (updT (updT (updT (updT (updT (updT (updT (updT (updT (updT (updT (updT (updT (updT (updT (updT (updT (updT (updT (updT (updT (updT (updT (updT (updT (updT (updT (updT (updT (updT (updT (updT (updT (updT (updT (updT (updT (updT (updT (updT (updT (updT (updT ((fun _ => none)) 2 ⟨.int .i64, 1, 8, .int .i64 0⟩) 3 ⟨.int .i64, 1, 8, .int .i64 0⟩) 4 ⟨.bool, 1, 1, .bool false⟩) 5 ⟨.int .u8, 1, 1, .int .u8 0⟩) 6 ⟨.int .u8, 1, 1, .int .u8 0⟩) 8 ⟨.struct #[⟨ "x", 2, 0, false, "", "runtime", 0⟩, ⟨ "y", 3, 1, false, "", "runtime", 8⟩, ⟨ "signed", 4, 2, false, "", "runtime", 16⟩, ⟨ "code", 6, 3, false, "", "runtime", 17⟩], 4, 24, .agg #[.int .i64 0, .int .i64 0, .bool false, .int .u8 0]⟩) 9 ⟨.string, 1, 16, .string ⟨#[]⟩⟩) 10 ⟨.string, 1, 16, .string ⟨#[]⟩⟩) 11 ⟨.string, 1, 16, .string ⟨#[]⟩⟩) 12 ⟨.int .u64, 1, 8, .int .u64 0⟩) 14 ⟨.struct #[⟨ "msg", 9, 0, false, "", "runtime", 0⟩, ⟨ "addr", 12, 1, false, "", "runtime", 16⟩], 2, 24, .agg #[.string ⟨#[]⟩, .int .u64 0]⟩) 15 ⟨.pointer 261, 1, 8, .pointer none⟩) 16 ⟨.pointer 264, 1, 8, .pointer none⟩) 17 ⟨.pointer 274, 1, 8, .pointer none⟩) 19 ⟨.struct #[⟨ "typ", 17, 0, false, "", "internal/runtime/maps", 0⟩], 1, 8, .agg #[.pointer none]⟩) 22 ⟨.slice 198, 1, 24, .slice none 0 0⟩) 23 ⟨.slice 220, 1, 24, .slice none 0 0⟩) 25 ⟨.struct #[⟨ "Arbors", 22, 0, false, "", "", 0⟩, ⟨ "Meshes", 23, 1, false, "", "", 24⟩], 2, 48, .agg #[.slice none 0 0, .slice none 0 0]⟩) 26 ⟨.slice 200, 1, 24, .slice none 0 0⟩) 27 ⟨.slice 223, 1, 24, .slice none 0 0⟩) 29 ⟨.struct #[⟨ "Name", 9, 0, false, "", "", 0⟩, ⟨ "Months", 26, 1, false, "", "", 16⟩, ⟨ "Rules", 27, 2, false, "", "", 40⟩, ⟨ "Week", 2, 3, false, "", "", 64⟩], 4, 72, .agg #[.string ⟨#[]⟩, .slice none 0 0, .slice none 0 0, .int .i64 0]⟩) 30 ⟨.slice 2, 1, 24, .slice none 0 0⟩) 32 ⟨.struct #[⟨ "Name", 9, 0, false, "", "", 0⟩, ⟨ "Works", 25, 1, false, "", "", 16⟩, ⟨ "Minute", 2, 3, false, "", "", 64⟩, ⟨ "Hour", 2, 4, false, "", "", 72⟩, ⟨ "Escape", 2, 5, false, "", "", 80⟩, ⟨ "Teeth", 2, 6, false, "", "", 88⟩, ⟨ "Beats", 2, 7, false, "", "", 96⟩, ⟨ "Calendar", 29, 8, false, "", "", 104⟩, ⟨ "Cam", 30, 12, false, "", "", 176⟩, ⟨ "Strike", 2, 13, false, "", "", 200⟩], 14, 208, .agg #[.string ⟨#[]⟩, .slice none 0 0, .slice none 0 0, .int .i64 0, .int .i64 0, .int .i64 0, .int .i64 0, .int .i64 0, .string ⟨#[]⟩, .slice none 0 0, .slice none 0 0, .int .i64 0, .slice none 0 0, .int .i64 0]⟩) 34 ⟨.struct #[⟨ "Year", 2, 0, false, "", "", 0⟩, ⟨ "Month", 2, 1, false, "", "", 8⟩, ⟨ "Day", 2, 2, false, "", "", 16⟩], 3, 24, .agg #[.int .i64 0, .int .i64 0, .int .i64 0]⟩) 36 ⟨.struct #[⟨ "Cam", 30, 0, false, "", "", 0⟩, ⟨ "Months", 2, 1, false, "", "", 24⟩, ⟨ "Teeth", 2, 2, false, "", "", 32⟩, ⟨ "At", 2, 3, false, "", "", 40⟩, ⟨ "Day", 2, 4, false, "", "", 48⟩, ⟨ "Week", 2, 5, false, "", "", 56⟩, ⟨ "Weekday", 2, 6, false, "", "", 64⟩], 7, 72, .agg #[.slice none 0 0, .int .i64 0, .int .i64 0, .int .i64 0, .int .i64 0, .int .i64 0, .int .i64 0]⟩) 38 ⟨.struct #[⟨ "Movement", 32, 0, false, "", "", 0⟩, ⟨ "Start", 34, 14, false, "", "", 208⟩, ⟨ "First", 2, 17, false, "", "", 232⟩, ⟨ "Clock", 2, 18, false, "", "", 240⟩, ⟨ "Dial", 36, 19, false, "", "", 248⟩], 26, 320, .agg #[.string ⟨#[]⟩, .slice none 0 0, .slice none 0 0, .int .i64 0, .int .i64 0, .int .i64 0, .int .i64 0, .int .i64 0, .string ⟨#[]⟩, .slice none 0 0, .slice none 0 0, .int .i64 0, .slice none 0 0, .int .i64 0, .int .i64 0, .int .i64 0, .int .i64 0, .int .i64 0, .int .i64 0, .slice none 0 0, .int .i64 0, .int .i64 0, .int .i64 0, .int .i64 0, .int .i64 0, .int .i64 0]⟩) 40 ⟨.struct #[⟨ "Sim", 38, 0, false, "", "", 0⟩], 26, 320, .agg #[.string ⟨#[]⟩, .slice none 0 0, .slice none 0 0, .int .i64 0, .int .i64 0, .int .i64 0, .int .i64 0, .int .i64 0, .string ⟨#[]⟩, .slice none 0 0, .slice none 0 0, .int .i64 0, .slice none 0 0, .int .i64 0, .int .i64 0, .int .i64 0, .int .i64 0, .int .i64 0, .int .i64 0, .slice none 0 0, .int .i64 0, .int .i64 0, .int .i64 0, .int .i64 0, .int .i64 0, .int .i64 0]⟩) 43 ⟨.slice 204, 1, 24, .slice none 0 0⟩) 44 ⟨.slice 208, 1, 24, .slice none 0 0⟩) 46 ⟨.struct #[⟨ "Arbors", 43, 0, false, "", "", 0⟩, ⟨ "Meshes", 44, 1, false, "", "", 24⟩], 2, 48, .agg #[.slice none 0 0, .slice none 0 0]⟩) 47 ⟨.slice 169, 1, 24, .slice none 0 0⟩) 48 ⟨.slice 174, 1, 24, .slice none 0 0⟩) 50 ⟨.struct #[⟨ "Name", 9, 0, false, "", "", 0⟩, ⟨ "Months", 47, 1, false, "", "", 16⟩, ⟨ "Rules", 48, 2, false, "", "", 40⟩, ⟨ "Week", 2, 3, false, "", "", 64⟩], 4, 72, .agg #[.string ⟨#[]⟩, .slice none 0 0, .slice none 0 0, .int .i64 0]⟩) 52 ⟨.struct #[⟨ "Name", 9, 0, false, "", "", 0⟩, ⟨ "Works", 46, 1, false, "", "", 16⟩, ⟨ "Minute", 2, 3, false, "", "", 64⟩, ⟨ "Hour", 2, 4, false, "", "", 72⟩, ⟨ "Escape", 2, 5, false, "", "", 80⟩, ⟨ "Teeth", 2, 6, false, "", "", 88⟩, ⟨ "Beats", 2, 7, false, "", "", 96⟩, ⟨ "Calendar", 50, 8, false, "", "", 104⟩, ⟨ "Cam", 30, 12, false, "", "", 176⟩, ⟨ "Strike", 2, 13, false, "", "", 200⟩], 14, 208, .agg #[.string ⟨#[]⟩, .slice none 0 0, .slice none 0 0, .int .i64 0, .int .i64 0, .int .i64 0, .int .i64 0, .int .i64 0, .string ⟨#[]⟩, .slice none 0 0, .slice none 0 0, .int .i64 0, .slice none 0 0, .int .i64 0]⟩) 53 ⟨.struct #[⟨ "Year", 2, 0, false, "", "", 0⟩, ⟨ "Month", 2, 1, false, "", "", 8⟩, ⟨ "Day", 2, 2, false, "", "", 16⟩], 3, 24, .agg #[.int .i64 0, .int .i64 0, .int .i64 0]⟩) 54 ⟨.struct #[⟨ "Cam", 30, 0, false, "", "", 0⟩, ⟨ "Months", 2, 1, false, "", "", 24⟩, ⟨ "Teeth", 2, 2, false, "", "", 32⟩, ⟨ "At", 2, 3, false, "", "", 40⟩, ⟨ "Day", 2, 4, false, "", "", 48⟩, ⟨ "Week", 2, 5, false, "", "", 56⟩, ⟨ "Weekday", 2, 6, false, "", "", 64⟩], 7, 72, .agg #[.slice none 0 0, .int .i64 0, .int .i64 0, .int .i64 0, .int .i64 0, .int .i64 0, .int .i64 0]⟩) 56 ⟨.struct #[⟨ "Movement", 52, 0, false, "", "", 0⟩, ⟨ "Start", 53, 14, false, "", "", 208⟩, ⟨ "First", 2, 17, false, "", "", 232⟩, ⟨ "Clock", 2, 18, false, "", "", 240⟩, ⟨ "Dial", 54, 19, false, "", "", 248⟩], 26, 320, .agg #[.string ⟨#[]⟩, .slice none 0 0, .slice none 0 0, .int .i64 0, .int .i64 0, .int .i64 0, .int .i64 0, .int .i64 0, .string ⟨#[]⟩, .slice none 0 0, .slice none 0 0, .int .i64 0, .slice none 0 0, .int .i64 0, .int .i64 0, .int .i64 0, .int .i64 0, .int .i64 0, .int .i64 0, .slice none 0 0, .int .i64 0, .int .i64 0, .int .i64 0, .int .i64 0, .int .i64 0, .int .i64 0]⟩) 58 ⟨.struct #[⟨ "Sim", 56, 0, false, "", "", 0⟩], 26, 320, .agg #[.string ⟨#[]⟩, .slice none 0 0, .slice none 0 0, .int .i64 0, .int .i64 0, .int .i64 0, .int .i64 0, .int .i64 0, .string ⟨#[]⟩, .slice none 0 0, .slice none 0 0, .int .i64 0, .slice none 0 0, .int .i64 0, .int .i64 0, .int .i64 0, .int .i64 0, .int .i64 0, .int .i64 0, .slice none 0 0, .int .i64 0, .int .i64 0, .int .i64 0, .int .i64 0, .int .i64 0, .int .i64 0]⟩) 64 ⟨.struct #[⟨ "Num", 2, 0, false, "", "", 0⟩, ⟨ "Den", 2, 1, false, "", "", 8⟩], 2, 16, .agg #[.int .i64 0, .int .i64 0]⟩) 85 ⟨.pointer 56, 1, 8, .pointer none⟩) 100 ⟨.pointer 52, 1, 8, .pointer none⟩) 101 ⟨.slice 9, 1, 24, .slice none 0 0⟩) 120 ⟨.pointer 54, 1, 8, .pointer none⟩) 134 ⟨.pointer 50, 1, 8, .pointer none⟩) 144 ⟨.pointer 46, 1, 8, .pointer none⟩) 149 ⟨.slice 64, 1, 24, .slice none 0 0⟩) 169 ⟨.struct #[⟨ "Name", 9, 0, false, "", "", 0⟩, ⟨ "Days", 2, 1, false, "", "", 16⟩, ⟨ "Leap", 2, 2, false, "", "", 24⟩], 3, 32, .agg #[.string ⟨#[]⟩, .int .i64 0, .int .i64 0]⟩) 174 ⟨.struct #[⟨ "Every", 2, 0, false, "", "", 0⟩, ⟨ "Rest", 2, 1, false, "", "", 8⟩, ⟨ "Leap", 4, 2, false, "", "", 16⟩], 3, 24, .agg #[.int .i64 0, .int .i64 0, .bool false]⟩) 198 ⟨.struct #[⟨ "Name", 9, 0, false, "", "", 0⟩, ⟨ "Wheels", 30, 1, false, "", "", 16⟩], 2, 40, .agg #[.string ⟨#[]⟩, .slice none 0 0]⟩) 200 ⟨.struct #[⟨ "Name", 9, 0, false, "", "", 0⟩, ⟨ "Days", 2, 1, false, "", "", 16⟩, ⟨ "Leap", 2, 2, false, "", "", 24⟩], 3, 32, .agg #[.string ⟨#[]⟩, .int .i64 0, .int .i64 0]⟩) 203 ⟨.pointer 204, 1, 8, .pointer none⟩) 204 ⟨.struct #[⟨ "Name", 9, 0, false, "", "", 0⟩, ⟨ "Wheels", 30, 1, false, "", "", 16⟩], 2, 40, .agg #[.string ⟨#[]⟩, .slice none 0 0]⟩) 208 ⟨.struct #[⟨ "A", 2, 0, false, "", "", 0⟩, ⟨ "WheelA", 2, 1, false, "", "", 8⟩, ⟨ "B", 2, 2, false, "", "", 16⟩, ⟨ "WheelB", 2, 3, false, "", "", 24⟩], 4, 32, .agg #[.int .i64 0, .int .i64 0, .int .i64 0, .int .i64 0]⟩) 213 ⟨.slice 4, 1, 24, .slice none 0 0⟩) 220 ⟨.struct #[⟨ "A", 2, 0, false, "", "", 0⟩, ⟨ "WheelA", 2, 1, false, "", "", 8⟩, ⟨ "B", 2, 2, false, "", "", 16⟩, ⟨ "WheelB", 2, 3, false, "", "", 24⟩], 4, 32, .agg #[.int .i64 0, .int .i64 0, .int .i64 0, .int .i64 0]⟩) 223 ⟨.struct #[⟨ "Every", 2, 0, false, "", "", 0⟩, ⟨ "Rest", 2, 1, false, "", "", 8⟩, ⟨ "Leap", 4, 2, false, "", "", 16⟩], 3, 24, .agg #[.int .i64 0, .int .i64 0, .bool false]⟩) 224 ⟨.slice 5, 1, 24, .slice none 0 0⟩) 235 ⟨.struct #[⟨ "Driver", 2, 0, false, "", "", 0⟩, ⟨ "Driven", 2, 1, false, "", "", 8⟩], 2, 16, .agg #[.int .i64 0, .int .i64 0]⟩) 245 ⟨.int .u64, 1, 8, .int .u64 0⟩) 268 ⟨.int .u8, 1, 1, .int .u8 0⟩
theorem tok : TOk Tryz.prog tt := (tok_upd (tok_upd (tok_upd (tok_upd (tok_upd (tok_upd (tok_upd (tok_upd (tok_upd (tok_upd (tok_upd (tok_upd (tok_upd (tok_upd (tok_upd (tok_upd (tok_upd (tok_upd (tok_upd (tok_upd (tok_upd (tok_upd (tok_upd (tok_upd (tok_upd (tok_upd (tok_upd (tok_upd (tok_upd (tok_upd (tok_upd (tok_upd (tok_upd (tok_upd (tok_upd (tok_upd (tok_upd (tok_upd (tok_upd (tok_upd (tok_upd (tok_upd (tok_upd (tok_upd (tok_upd (tok_upd (tok_upd (tok_upd (tok_upd (tok_upd (tok_upd (tok_upd (tok_upd (tok_upd (tok_upd (tok_upd (tok_upd (tok_upd (tok_upd (tok_upd (tok_nil _) ty2) ty3) ty4) ty5) ty6) ty8) ty9) ty10) ty11) ty12) ty14) ty15) ty16) ty17) ty19) ty22) ty23) ty25) ty26) ty27) ty29) ty30) ty32) ty34) ty36) ty38) ty40) ty43) ty44) ty46) ty47) ty48) ty50) ty52) ty53) ty54) ty56) ty58) ty64) ty85) ty100) ty101) ty120) ty134) ty144) ty149) ty169) ty174) ty198) ty200) ty203) ty204) ty208) ty213) ty220) ty223) ty224) ty235) ty245) ty268)
theorem follows : Tryz.prog.follows .mixedOrders = true := by kernel_rfl
end Go.Proofs.YtjhadibjjldpdabGreat
