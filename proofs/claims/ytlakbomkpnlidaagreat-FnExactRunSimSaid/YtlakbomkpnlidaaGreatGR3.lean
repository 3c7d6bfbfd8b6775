/- Texts of this claim, one behind the other (merged by a program of mine). -/
import Derived.Test.YtlakbomkpnlidaaGreatGR2
set_option linter.unusedSimpArgs false
set_option linter.unusedVariables false
namespace Go.Proofs.YtlakbomkpnlidaaGreat
open Go.RowKit
set_option linter.unusedVariables false
set_option maxRecDepth 100000
set_option maxHeartbeats 2000000
structure Arbor_ where
  Name : ByteArray
  Wheels : List Int
deriving DecidableEq
def cArbor_ (x : Arbor_) : List DV := [.v (.string x.Name), .sl (List.map cI x.Wheels)]
structure Mesh_ where
  A : Int
  WheelA : Int
  B : Int
  WheelB : Int
deriving DecidableEq
def cMesh_ (x : Mesh_) : List DV := [.v (.int .i64 x.A), .v (.int .i64 x.WheelA), .v (.int .i64 x.B), .v (.int .i64 x.WheelB)]
structure Works_ where
  Arbors : List Arbor_
  Meshes : List Mesh_
deriving DecidableEq
def cWorks_ (x : Works_) : List DV := [.sl (List.map cArbor_ x.Arbors), .sl (List.map cMesh_ x.Meshes)]
structure Month_ where
  Name : ByteArray
  Days : Int
  Leap : Int
deriving DecidableEq
def cMonth_ (x : Month_) : List DV := [.v (.string x.Name), .v (.int .i64 x.Days), .v (.int .i64 x.Leap)]
structure LeapRule_ where
  Every : Int
  Rest : Int
  Leap : Bool
deriving DecidableEq
def cLeapRule_ (x : LeapRule_) : List DV := [.v (.int .i64 x.Every), .v (.int .i64 x.Rest), .v (.bool x.Leap)]
structure Calendar_ where
  Name : ByteArray
  Months : List Month_
  Rules : List LeapRule_
  Week : Int
deriving DecidableEq
def cCalendar_ (x : Calendar_) : List DV := [.v (.string x.Name), .sl (List.map cMonth_ x.Months), .sl (List.map cLeapRule_ x.Rules), .v (.int .i64 x.Week)]
structure Movement_ where
  Name : ByteArray
  Works : Works_
  Minute : Int
  Hour : Int
  Escape : Int
  Teeth : Int
  Beats : Int
  Calendar : Calendar_
  Cam : List Int
  Strike : Int
deriving DecidableEq
def cMovement_ (x : Movement_) : List DV := [.v (.string x.Name), .sl (List.map cArbor_ x.Works.Arbors), .sl (List.map cMesh_ x.Works.Meshes), .v (.int .i64 x.Minute), .v (.int .i64 x.Hour), .v (.int .i64 x.Escape), .v (.int .i64 x.Teeth), .v (.int .i64 x.Beats), .v (.string x.Calendar.Name), .sl (List.map cMonth_ x.Calendar.Months), .sl (List.map cLeapRule_ x.Calendar.Rules), .v (.int .i64 x.Calendar.Week), .sl (List.map cI x.Cam), .v (.int .i64 x.Strike)]
structure Date_ where
  Year : Int
  Month : Int
  Day : Int
deriving DecidableEq
def cDate_ (x : Date_) : List DV := [.v (.int .i64 x.Year), .v (.int .i64 x.Month), .v (.int .i64 x.Day)]
structure Perpetual_ where
  Cam : List Int
  Months : Int
  Teeth : Int
  At : Int
  Day : Int
  Week : Int
  Weekday : Int
deriving DecidableEq
def cPerpetual_ (x : Perpetual_) : List DV := [.sl (List.map cI x.Cam), .v (.int .i64 x.Months), .v (.int .i64 x.Teeth), .v (.int .i64 x.At), .v (.int .i64 x.Day), .v (.int .i64 x.Week), .v (.int .i64 x.Weekday)]
structure Sim_ where
  Movement : Movement_
  Start : Date_
  First : Int
  Clock : Int
  Dial : Perpetual_
deriving DecidableEq
def cSim_ (x : Sim_) : List DV := [.v (.string x.Movement.Name), .sl (List.map cArbor_ x.Movement.Works.Arbors), .sl (List.map cMesh_ x.Movement.Works.Meshes), .v (.int .i64 x.Movement.Minute), .v (.int .i64 x.Movement.Hour), .v (.int .i64 x.Movement.Escape), .v (.int .i64 x.Movement.Teeth), .v (.int .i64 x.Movement.Beats), .v (.string x.Movement.Calendar.Name), .sl (List.map cMonth_ x.Movement.Calendar.Months), .sl (List.map cLeapRule_ x.Movement.Calendar.Rules), .v (.int .i64 x.Movement.Calendar.Week), .sl (List.map cI x.Movement.Cam), .v (.int .i64 x.Movement.Strike), .v (.int .i64 x.Start.Year), .v (.int .i64 x.Start.Month), .v (.int .i64 x.Start.Day), .v (.int .i64 x.First), .v (.int .i64 x.Clock), .sl (List.map cI x.Dial.Cam), .v (.int .i64 x.Dial.Months), .v (.int .i64 x.Dial.Teeth), .v (.int .i64 x.Dial.At), .v (.int .i64 x.Dial.Day), .v (.int .i64 x.Dial.Week), .v (.int .i64 x.Dial.Weekday)]
structure Ratio_ where
  Num : Int
  Den : Int
deriving DecidableEq
def cRatio_ (x : Ratio_) : List DV := [.v (.int .i64 x.Num), .v (.int .i64 x.Den)]
structure Pair_ where
  Driver : Int
  Driven : Int
deriving DecidableEq
structure L00Src_ where
  code : List Int
  at_ : Int
  seed : Int
deriving DecidableEq
structure Fault_ where
  Year : Int
  Month : Int
  Shown : Int
  Right : Int
deriving DecidableEq
structure Limits_ where
  LowDriver : Int
  HighDriver : Int
  LowDriven : Int
  HighDriven : Int
  Stages : Int
deriving DecidableEq
structure Found_ where
  Train : List Pair_
  Error : Ratio_
deriving DecidableEq
structure L06Product_ where
  value : Int
  teeth : List Int
deriving DecidableEq
structure L06Best_ where
  driver : Int
  driven : Int
  off : Int
  train : List Pair_
deriving DecidableEq
def l_szInt64S_m (p0 : List Int) (p1 : Int) : Option Int :=
  (if (w64 (p1 - (p0.length : Int))) < 0 then
  some (-1)
  else
  some (w64 (p1 - (p0.length : Int))))

def l_szArbor_m (p0 : Arbor_) (p1 : Int) : Option Int :=
  (if (w64 (p1 - (p0.Name.size : Int))) < 0 then
  some (-1)
  else
  ((l_szInt64S_m p0.Wheels (w64 (p1 - (p0.Name.size : Int)))).bind fun v1 =>
  (if v1 < 0 then
  some (-1)
  else
  some v1)))

def l_szArborS_m (p0 : List Arbor_) (p1 : Int) : Option Int :=
  (if (w64 (p1 - (p0.length : Int))) < 0 then
  some (-1)
  else
  ((loopM (S := Int × Int) (X := Int ⊕ Int) (fun s4 =>
  (if s4.2 < (p0.length : Int) then
  ((atI p0 s4.2).bind fun v5 =>
  ((l_szArbor_m v5 s4.1).bind fun v6 =>
  (if v6 < 0 then
  some (.inr (.inr (-1)))
  else
  some (.inl (v6, w64 (s4.2 + 1))))))
  else
  some (.inr (.inl s4.1)))) (w64 (p1 - (p0.length : Int)), 0) : Option (Int ⊕ Int)).bind fun v7x => orE v7x fun v7 =>
  some v7))

def l_szMeshS_m (p0 : List Mesh_) (p1 : Int) : Option Int :=
  (if (w64 (p1 - (p0.length : Int))) < 0 then
  some (-1)
  else
  some (w64 (p1 - (p0.length : Int))))

def l_szWorks_m (p0 : Works_) (p1 : Int) : Option Int :=
  ((l_szArborS_m p0.Arbors p1).bind fun v1 =>
  (if v1 < 0 then
  some (-1)
  else
  ((l_szMeshS_m p0.Meshes v1).bind fun v2 =>
  (if v2 < 0 then
  some (-1)
  else
  some v2))))

def l_szMonth_m (p0 : Month_) (p1 : Int) : Option Int :=
  (if (w64 (p1 - (p0.Name.size : Int))) < 0 then
  some (-1)
  else
  some (w64 (p1 - (p0.Name.size : Int))))

def l_szMonthS_m (p0 : List Month_) (p1 : Int) : Option Int :=
  (if (w64 (p1 - (p0.length : Int))) < 0 then
  some (-1)
  else
  ((loopM (S := Int × Int) (X := Int ⊕ Int) (fun s4 =>
  (if s4.2 < (p0.length : Int) then
  ((atI p0 s4.2).bind fun v5 =>
  ((l_szMonth_m v5 s4.1).bind fun v6 =>
  (if v6 < 0 then
  some (.inr (.inr (-1)))
  else
  some (.inl (v6, w64 (s4.2 + 1))))))
  else
  some (.inr (.inl s4.1)))) (w64 (p1 - (p0.length : Int)), 0) : Option (Int ⊕ Int)).bind fun v7x => orE v7x fun v7 =>
  some v7))

def l_szLeapRuleS_m (p0 : List LeapRule_) (p1 : Int) : Option Int :=
  (if (w64 (p1 - (p0.length : Int))) < 0 then
  some (-1)
  else
  some (w64 (p1 - (p0.length : Int))))

def l_szCalendar_m (p0 : Calendar_) (p1 : Int) : Option Int :=
  (if (w64 (p1 - (p0.Name.size : Int))) < 0 then
  some (-1)
  else
  ((l_szMonthS_m p0.Months (w64 (p1 - (p0.Name.size : Int)))).bind fun v1 =>
  (if v1 < 0 then
  some (-1)
  else
  ((l_szLeapRuleS_m p0.Rules v1).bind fun v2 =>
  (if v2 < 0 then
  some (-1)
  else
  some v2)))))

def l_szMovement_m (p0 : Movement_) (p1 : Int) : Option Int :=
  (if (w64 (p1 - (p0.Name.size : Int))) < 0 then
  some (-1)
  else
  ((l_szWorks_m p0.Works (w64 (p1 - (p0.Name.size : Int)))).bind fun v1 =>
  (if v1 < 0 then
  some (-1)
  else
  ((l_szCalendar_m p0.Calendar v1).bind fun v2 =>
  (if v2 < 0 then
  some (-1)
  else
  ((l_szInt64S_m p0.Cam v2).bind fun v3 =>
  (if v3 < 0 then
  some (-1)
  else
  some v3)))))))

def l_szPerpetual_m (p0 : Perpetual_) (p1 : Int) : Option Int :=
  ((l_szInt64S_m p0.Cam p1).bind fun v1 =>
  (if v1 < 0 then
  some (-1)
  else
  some v1))

def l_szSim_m (p0 : Sim_) (p1 : Int) : Option Int :=
  ((l_szMovement_m p0.Movement p1).bind fun v1 =>
  (if v1 < 0 then
  some (-1)
  else
  ((l_szPerpetual_m p0.Dial v1).bind fun v2 =>
  (if v2 < 0 then
  some (-1)
  else
  some v2))))

def l_toInt64S_m (p0 : List Int) : Option (List Int) :=
  (chk (0 ≤ (p0.length : Int) ∧ (p0.length : Int) = (p0.length : Int) ∧ (p0.length : Int).toNat * 1 * 64 ≤ 281474976710656) (
  ((loopM (S := Int × List Int) (X := List Int) (fun s5 =>
  (if s5.1 < (p0.length : Int) then
  ((atI p0 s5.1).bind fun v6 =>
  ((atI s5.2 s5.1).bind fun v7 =>
  some (.inl (w64 (s5.1 + 1), List.set s5.2 s5.1.toNat v6))))
  else
  some (.inr s5.2))) (0, List.replicate (p0.length : Int).toNat 0) : Option (List Int)).bind fun v8 =>
  some v8)))

def l_toArbor_m (p0 : Arbor_) : Option Arbor_ :=
  ((l_toInt64S_m p0.Wheels).bind fun v1 =>
  some (⟨p0.Name, v1⟩ : Arbor_))

def l_toArborS_m (p0 : List Arbor_) : Option (List Arbor_) :=
  (chk (0 ≤ (p0.length : Int) ∧ (p0.length : Int) = (p0.length : Int) ∧ (p0.length : Int).toNat * 2 * 64 ≤ 281474976710656) (
  ((loopM (S := Int × List Arbor_) (X := List Arbor_) (fun s6 =>
  (if s6.1 < (p0.length : Int) then
  ((atI p0 s6.1).bind fun v7 =>
  ((l_toArbor_m v7).bind fun v8 =>
  ((atI s6.2 s6.1).bind fun v9 =>
  some (.inl (w64 (s6.1 + 1), List.set s6.2 s6.1.toNat v8)))))
  else
  some (.inr s6.2))) (0, List.replicate (p0.length : Int).toNat (⟨(⟨#[]⟩ : ByteArray), []⟩ : Arbor_)) : Option (List Arbor_)).bind fun v10 =>
  some v10)))

def l_toMesh_m (p0 : Mesh_) : Option Mesh_ :=
  some p0

def l_toMeshS_m (p0 : List Mesh_) : Option (List Mesh_) :=
  (chk (0 ≤ (p0.length : Int) ∧ (p0.length : Int) = (p0.length : Int) ∧ (p0.length : Int).toNat * 4 * 64 ≤ 281474976710656) (
  ((loopM (S := Int × List Mesh_) (X := List Mesh_) (fun s6 =>
  (if s6.1 < (p0.length : Int) then
  ((atI p0 s6.1).bind fun v7 =>
  ((l_toMesh_m v7).bind fun v8 =>
  ((atI s6.2 s6.1).bind fun v9 =>
  some (.inl (w64 (s6.1 + 1), List.set s6.2 s6.1.toNat v8)))))
  else
  some (.inr s6.2))) (0, List.replicate (p0.length : Int).toNat (⟨0, 0, 0, 0⟩ : Mesh_)) : Option (List Mesh_)).bind fun v10 =>
  some v10)))

def l_toWorks_m (p0 : Works_) : Option Works_ :=
  ((l_toArborS_m p0.Arbors).bind fun v1 =>
  ((l_toMeshS_m p0.Meshes).bind fun v2 =>
  some (⟨v1, v2⟩ : Works_)))

def l_toMonth_m (p0 : Month_) : Option Month_ :=
  some p0

def l_toMonthS_m (p0 : List Month_) : Option (List Month_) :=
  (chk (0 ≤ (p0.length : Int) ∧ (p0.length : Int) = (p0.length : Int) ∧ (p0.length : Int).toNat * 3 * 64 ≤ 281474976710656) (
  ((loopM (S := Int × List Month_) (X := List Month_) (fun s6 =>
  (if s6.1 < (p0.length : Int) then
  ((atI p0 s6.1).bind fun v7 =>
  ((l_toMonth_m v7).bind fun v8 =>
  ((atI s6.2 s6.1).bind fun v9 =>
  some (.inl (w64 (s6.1 + 1), List.set s6.2 s6.1.toNat v8)))))
  else
  some (.inr s6.2))) (0, List.replicate (p0.length : Int).toNat (⟨(⟨#[]⟩ : ByteArray), 0, 0⟩ : Month_)) : Option (List Month_)).bind fun v10 =>
  some v10)))

def l_toLeapRule_m (p0 : LeapRule_) : Option LeapRule_ :=
  some p0

def l_toLeapRuleS_m (p0 : List LeapRule_) : Option (List LeapRule_) :=
  (chk (0 ≤ (p0.length : Int) ∧ (p0.length : Int) = (p0.length : Int) ∧ (p0.length : Int).toNat * 3 * 64 ≤ 281474976710656) (
  ((loopM (S := Int × List LeapRule_) (X := List LeapRule_) (fun s6 =>
  (if s6.1 < (p0.length : Int) then
  ((atI p0 s6.1).bind fun v7 =>
  ((l_toLeapRule_m v7).bind fun v8 =>
  ((atI s6.2 s6.1).bind fun v9 =>
  some (.inl (w64 (s6.1 + 1), List.set s6.2 s6.1.toNat v8)))))
  else
  some (.inr s6.2))) (0, List.replicate (p0.length : Int).toNat (⟨0, 0, false⟩ : LeapRule_)) : Option (List LeapRule_)).bind fun v10 =>
  some v10)))

def l_toCalendar_m (p0 : Calendar_) : Option Calendar_ :=
  ((l_toMonthS_m p0.Months).bind fun v1 =>
  ((l_toLeapRuleS_m p0.Rules).bind fun v2 =>
  some (⟨p0.Name, v1, v2, p0.Week⟩ : Calendar_)))

def l_toMovement_m (p0 : Movement_) : Option Movement_ :=
  ((l_toWorks_m p0.Works).bind fun v1 =>
  ((l_toCalendar_m p0.Calendar).bind fun v2 =>
  ((l_toInt64S_m p0.Cam).bind fun v3 =>
  some (⟨p0.Name, v1, p0.Minute, p0.Hour, p0.Escape, p0.Teeth, p0.Beats, v2, v3, p0.Strike⟩ : Movement_))))

def l_toDate_m (p0 : Date_) : Option Date_ :=
  some p0

def l_toPerpetual_m (p0 : Perpetual_) : Option Perpetual_ :=
  ((l_toInt64S_m p0.Cam).bind fun v1 =>
  some (⟨v1, p0.Months, p0.Teeth, p0.At, p0.Day, p0.Week, p0.Weekday⟩ : Perpetual_))

def l_toSim_m (p0 : Sim_) : Option Sim_ :=
  ((l_toMovement_m p0.Movement).bind fun v1 =>
  ((l_toDate_m p0.Start).bind fun v2 =>
  ((l_toPerpetual_m p0.Dial).bind fun v3 =>
  some (⟨v1, v2, p0.First, p0.Clock, v3⟩ : Sim_))))

def s_l01Small_m (p0 : Int) : Option Bool :=
  (if 97 ≤ p0 then
  some (decide (p0 ≤ 122))
  else
  some false)

def s_l01Digit_m (p0 : Int) : Option Bool :=
  (if 48 ≤ p0 then
  some (decide (p0 ≤ 57))
  else
  some false)

def s_IsName_m (p0 : ByteArray) : Option Bool :=
  (((if p0 = (⟨#[]⟩ : ByteArray) then
  some true
  else
  (if 12 < (p0.size : Int) then
  some true
  else
  ((strAt p0 0).bind fun v1 =>
  ((s_l01Small_m v1).bind fun v2 =>
  some (!v2))))) : Option Bool).bind fun v3 =>
  (if v3 = true then
  some false
  else
  ((loopM (S := Int) (X := Unit ⊕ Bool) (fun s11 =>
  (if s11 < (p0.size : Int) then
  ((((strAt p0 s11).bind fun v12 =>
  ((s_l01Small_m v12).bind fun v13 =>
  (if (!v13) = true then
  ((strAt p0 s11).bind fun v14 =>
  ((s_l01Digit_m v14).bind fun v15 =>
  (if (!v15) = true then
  ((strAt p0 s11).bind fun v16 =>
  some (decide (v16 ≠ 45)))
  else
  some false)))
  else
  some false))) : Option Bool).bind fun v17 =>
  (if v17 = true then
  some (.inr (.inr false))
  else
  some (.inl (w64 (s11 + 1)))))
  else
  some (.inr (.inl ())))) 0 : Option (Unit ⊕ Bool)).bind fun v18x => orE v18x fun v18 =>
  some true)))

def s_l00In_m (p0 : Int) (p1 : Int) (p2 : Int) : Option Bool :=
  (if p1 ≤ p0 then
  some (decide (p0 ≤ p2))
  else
  some false)

def s_l05Teeth_m (p0 : Int) : Option Bool :=
  ((s_l00In_m p0 6 240).bind fun v1 =>
  some v1)

def s_l08Arbor_m (p0 : Arbor_) : Option Bool :=
  ((loopM (S := Int) (X := Unit ⊕ Bool) (fun s4 =>
  (if s4 < (p0.Wheels.length : Int) then
  ((atI p0.Wheels s4).bind fun v5 =>
  ((s_l05Teeth_m v5).bind fun v6 =>
  (if (!v6) = true then
  some (.inr (.inr false))
  else
  some (.inl (w64 (s4 + 1))))))
  else
  some (.inr (.inl ())))) 0 : Option (Unit ⊕ Bool)).bind fun v7x => orE v7x fun v7 =>
  ((s_IsName_m p0.Name).bind fun v8 =>
  (if v8 = true then
  some (decide ((p0.Wheels.length : Int) ≤ 5))
  else
  some false)))

def s_l08Find_m (p0 : Works_) (p1 : ByteArray) : Option Int :=
  ((loopM (S := Int) (X := Unit ⊕ Int) (fun s3 =>
  (if s3 < (p0.Arbors.length : Int) then
  ((atI p0.Arbors s3).bind fun v4 =>
  (if v4.Name = p1 then
  some (.inr (.inr s3))
  else
  some (.inl (w64 (s3 + 1)))))
  else
  some (.inr (.inl ())))) 0 : Option (Unit ⊕ Int)).bind fun v5x => orE v5x fun v5 =>
  some (-1))

def s_l08Wheel_m (p0 : Works_) (p1 : Int) (p2 : Int) : Option Bool :=
  ((s_l00In_m p1 0 (w64 ((p0.Arbors.length : Int) - 1))).bind fun v1 =>
  (if v1 = true then
  ((atI p0.Arbors p1).bind fun v2 =>
  ((s_l00In_m p2 0 (w64 ((v2.Wheels.length : Int) - 1))).bind fun v3 =>
  some v3))
  else
  some false))

def s_l08Mesh_m (p0 : Works_) (p1 : Mesh_) : Option Bool :=
  (if p1.A ≠ p1.B then
  ((s_l08Wheel_m p0 p1.A p1.WheelA).bind fun v1 =>
  (if v1 = true then
  ((s_l08Wheel_m p0 p1.B p1.WheelB).bind fun v2 =>
  some v2)
  else
  some false))
  else
  some false)

def s_l08Equal_m (p0 : Mesh_) (p1 : Mesh_) : Option Bool :=
  (if p0 = p1 then
  some true
  else
  (if p0.A = p1.B then
  (if p0.WheelA = p1.WheelB then
  (if p0.B = p1.A then
  some (decide (p0.WheelB = p1.WheelA))
  else
  some false)
  else
  some false)
  else
  some false))

def s_l08Known_m (p0 : Works_) (p1 : Mesh_) (p2 : Int) : Option Bool :=
  ((loopM (S := Int) (X := Unit ⊕ Bool) (fun s4 =>
  (if s4 < p2 then
  ((atI p0.Meshes s4).bind fun v5 =>
  ((s_l08Equal_m v5 p1).bind fun v6 =>
  (if v6 = true then
  some (.inr (.inr true))
  else
  some (.inl (w64 (s4 + 1))))))
  else
  some (.inr (.inl ())))) 0 : Option (Unit ⊕ Bool)).bind fun v7x => orE v7x fun v7 =>
  some false)

def s_l08Ok_m (p0 : Works_) : Option Bool :=
  ((loopM (S := Int) (X := Unit ⊕ Bool) (fun s7 =>
  (if s7 < (p0.Arbors.length : Int) then
  ((((atI p0.Arbors s7).bind fun v8 =>
  ((s_l08Arbor_m v8).bind fun v9 =>
  (if (!v9) = true then
  some true
  else
  ((atI p0.Arbors s7).bind fun v10 =>
  ((s_l08Find_m p0 v10.Name).bind fun v11 =>
  some (decide (v11 ≠ s7))))))) : Option Bool).bind fun v12 =>
  (if v12 = true then
  some (.inr (.inr false))
  else
  some (.inl (w64 (s7 + 1)))))
  else
  some (.inr (.inl ())))) 0 : Option (Unit ⊕ Bool)).bind fun v13x => orE v13x fun v13 =>
  ((loopM (S := Int) (X := Unit ⊕ Bool) (fun s20 =>
  (if s20 < (p0.Meshes.length : Int) then
  ((((atI p0.Meshes s20).bind fun v21 =>
  ((s_l08Mesh_m p0 v21).bind fun v22 =>
  (if (!v22) = true then
  some true
  else
  ((atI p0.Meshes s20).bind fun v23 =>
  ((s_l08Known_m p0 v23 s20).bind fun v24 =>
  some v24))))) : Option Bool).bind fun v25 =>
  (if v25 = true then
  some (.inr (.inr false))
  else
  some (.inl (w64 (s20 + 1)))))
  else
  some (.inr (.inl ())))) 0 : Option (Unit ⊕ Bool)).bind fun v26x => orE v26x fun v26 =>
  (if (p0.Arbors.length : Int) ≤ 16 then
  some (decide ((p0.Meshes.length : Int) ≤ 24))
  else
  some false)))

def s_l08Root_m (p0 : Works_) (p1 : Int) : Option Bool :=
  ((s_l00In_m p1 0 (w64 ((p0.Arbors.length : Int) - 1))).bind fun v1 =>
  some v1)

def s_l02Gcd_m (p0 : Int) (p1 : Int) : Option Int :=
  ((loopM (S := Int × Int) (X := Int) (fun s3 =>
  (if 0 < s3.2 then
  (chk (s3.2 ≠ 0) (
  some (.inl (s3.2, s3.1.tmod s3.2))))
  else
  some (.inr s3.1))) (p0, p1) : Option Int).bind fun v5 =>
  some v5)

def s_l15Years_m (p0 : List LeapRule_) : Option (Int × Bool) :=
  ((loopM (S := Int × Int) (X := Int ⊕ (Int × Bool)) (fun s12 =>
  (if s12.2 < (p0.length : Int) then
  ((((atI p0 s12.2).bind fun v13 =>
  ((s_l00In_m v13.Every 1 1000).bind fun v14 =>
  (if (!v14) = true then
  some true
  else
  ((atI p0 s12.2).bind fun v15 =>
  ((atI p0 s12.2).bind fun v16 =>
  ((s_l00In_m v15.Rest 0 (w64 (v16.Every - 1))).bind fun v17 =>
  some (!v17))))))) : Option Bool).bind fun v18 =>
  (if v18 = true then
  some (.inr (.inr (0, false)))
  else
  ((atI p0 s12.2).bind fun v19 =>
  ((atI p0 s12.2).bind fun v20 =>
  ((s_l02Gcd_m s12.1 v19.Every).bind fun v21 =>
  (chk (v21 ≠ 0) (
  (if 2000 < (w64 ((w64 (s12.1.tdiv v21)) * v20.Every)) then
  some (.inr (.inr (0, false)))
  else
  some (.inl (w64 ((w64 (s12.1.tdiv v21)) * v20.Every), w64 (s12.2 + 1)))))))))))
  else
  some (.inr (.inl s12.1)))) (1, 0) : Option (Int ⊕ (Int × Bool))).bind fun v23x => orE v23x fun v23 =>
  some (v23, decide ((p0.length : Int) ≤ 6)))

def s_l15Months_m (p0 : List Month_) : Option Bool :=
  ((loopM (S := Int) (X := Unit ⊕ Bool) (fun s16 =>
  (if s16 < (p0.length : Int) then
  ((((((atI p0 s16).bind fun v17 =>
  ((s_IsName_m v17.Name).bind fun v18 =>
  (if (!v18) = true then
  some true
  else
  ((atI p0 s16).bind fun v19 =>
  ((s_l00In_m v19.Days 1 60).bind fun v20 =>
  (if (!v20) = true then
  some true
  else
  ((atI p0 s16).bind fun v21 =>
  ((s_l00In_m v21.Leap 1 60).bind fun v22 =>
  some (!v22))))))))) : Option Bool).bind fun v23 =>
  (if v23 = true then
  some (.inr (.inr (.inr false)))
  else
  loopM (S := Int) (X := Unit ⊕ (Int ⊕ (Unit ⊕ Bool))) (fun s27 =>
  (if s27 < s16 then
  ((atI p0 s27).bind fun v28 =>
  ((atI p0 s16).bind fun v29 =>
  (if v28.Name = v29.Name then
  some (.inr (.inr (.inr (.inr false))))
  else
  some (.inl (w64 (s27 + 1))))))
  else
  some (.inr (.inl ())))) 0)) : Option (Unit ⊕ (Int ⊕ (Unit ⊕ Bool)))).bind fun v30x => orE v30x fun v30 =>
  some (.inl (w64 (s16 + 1))))
  else
  some (.inr (.inl ())))) 0 : Option (Unit ⊕ Bool)).bind fun v31x => orE v31x fun v31 =>
  ((s_l00In_m (p0.length : Int) 1 20).bind fun v32 =>
  some v32))

def s_l15Ok_m (p0 : Calendar_) : Option Bool :=
  ((s_l15Years_m p0.Rules).bind fun v1 =>
  (if v1.2 = true then
  ((s_IsName_m p0.Name).bind fun v2 =>
  (if v2 = true then
  ((s_l15Months_m p0.Months).bind fun v3 =>
  (if v3 = true then
  ((s_l00In_m p0.Week 1 12).bind fun v4 =>
  some v4)
  else
  some false))
  else
  some false))
  else
  some false))

def s_l17Ok_m (p0 : List Int) : Option Bool :=
  ((loopM (S := Int) (X := Unit ⊕ Bool) (fun s4 =>
  (if s4 < (p0.length : Int) then
  ((atI p0 s4).bind fun v5 =>
  ((s_l00In_m v5 1 60).bind fun v6 =>
  (if (!v6) = true then
  some (.inr (.inr false))
  else
  some (.inl (w64 (s4 + 1))))))
  else
  some (.inr (.inl ())))) 0 : Option (Unit ⊕ Bool)).bind fun v7x => orE v7x fun v7 =>
  ((s_l00In_m (p0.length : Int) 1 260).bind fun v8 =>
  some v8))

def s_l26Ok_m (p0 : Movement_) : Option Bool :=
  ((((s_IsName_m p0.Name).bind fun v1 =>
  (if (!v1) = true then
  some true
  else
  ((s_l08Ok_m p0.Works).bind fun v2 =>
  (if (!v2) = true then
  some true
  else
  ((s_l08Root_m p0.Works p0.Minute).bind fun v3 =>
  (if (!v3) = true then
  some true
  else
  ((s_l08Root_m p0.Works p0.Hour).bind fun v4 =>
  (if (!v4) = true then
  some true
  else
  ((s_l08Root_m p0.Works p0.Escape).bind fun v5 =>
  some (!v5)))))))))) : Option Bool).bind fun v6 =>
  (if v6 = true then
  some false
  else
  ((s_l05Teeth_m p0.Teeth).bind fun v7 =>
  (if v7 = true then
  ((s_l00In_m p0.Beats 1 36000).bind fun v8 =>
  (if v8 = true then
  ((s_l15Ok_m p0.Calendar).bind fun v9 =>
  (if v9 = true then
  ((s_l17Ok_m p0.Cam).bind fun v10 =>
  (if v10 = true then
  ((s_l00In_m p0.Strike 0 2).bind fun v11 =>
  some v11)
  else
  some false))
  else
  some false))
  else
  some false))
  else
  some false))))

def s_l02Whole_m (p0 : Int) : Option Ratio_ :=
  some (⟨p0, 1⟩ : Ratio_)

def s_l08Pair_m (p0 : Works_) (p1 : Mesh_) : Option Pair_ :=
  ((atI p0.Arbors p1.A).bind fun v1 =>
  ((atI v1.Wheels p1.WheelA).bind fun v2 =>
  ((atI p0.Arbors p1.B).bind fun v3 =>
  ((atI v3.Wheels p1.WheelB).bind fun v4 =>
  some (⟨v2, v4⟩ : Pair_)))))

def s_l02Part_m (p0 : Int) : Option Int :=
  (if p0 < 0 then
  some (IntKind.u64.wrap (-(IntKind.u64.wrap p0)))
  else
  some (IntKind.u64.wrap p0))

def s_l02Make_m (p0 : Int) (p1 : Int) : Option (Ratio_ × Bool) :=
  ((s_l02Part_m p0).bind fun v1 =>
  ((s_l02Part_m p1).bind fun v2 =>
  ((loopM (S := Int × Int) (X := Int) (fun s5 =>
  (if 0 < s5.2 then
  (chk (s5.2 ≠ 0) (
  some (.inl (s5.2, s5.1.tmod s5.2))))
  else
  some (.inr s5.1))) (v1, v2) : Option Int).bind fun v7 =>
  (chk (v7 ≠ 0) (
  (chk (v7 ≠ 0) (
  (((if 1000000000 < (IntKind.u64.wrap (v1.tdiv v7)) then
  some true
  else
  some (decide (1000000000 < (IntKind.u64.wrap (v2.tdiv v7))))) : Option Bool).bind fun v10 =>
  (if v10 = true then
  some ((⟨0, 0⟩ : Ratio_), false)
  else
  (((if ((decide (p0 < 0)) != (decide (p1 < 0))) = true then
  some (⟨w64 (-(w64 (IntKind.u64.wrap (v1.tdiv v7)))), w64 (IntKind.u64.wrap (v2.tdiv v7))⟩ : Ratio_)
  else
  some (⟨w64 (IntKind.u64.wrap (v1.tdiv v7)), w64 (IntKind.u64.wrap (v2.tdiv v7))⟩ : Ratio_)) : Option Ratio_).bind fun v11 =>
  some (v11, true)))))))))))

def s_l02Mul_m (p0 : Ratio_) (p1 : Ratio_) : Option (Ratio_ × Bool) :=
  ((s_l02Make_m (w64 (p0.Num * p1.Num)) (w64 (p0.Den * p1.Den))).bind fun v1 =>
  some (v1.1, v1.2))

def s_l08Round_o_o_m (p0 : Works_) (p1 : List Bool) (p2 : List Ratio_) : Option (Bool × Bool × List Bool × List Ratio_) :=
  ((loopM (S := Bool × Int × List Bool × List Ratio_) (X := (Bool × List Bool × List Ratio_) ⊕ (Bool × Bool × List Bool × List Ratio_)) (fun s14 =>
  (if s14.2.1 < (p0.Meshes.length : Int) then
  ((((atI p0.Meshes s14.2.1).bind fun v15 =>
  ((s_l08Pair_m p0 v15).bind fun v16 =>
  ((atI s14.2.2.1 v15.A).bind fun v17 =>
  ((atI s14.2.2.1 v15.B).bind fun v18 =>
  (if (v17 == v18) = true then
  some (.inl (s14.1, s14.2.2.1, s14.2.2.2))
  else
  ((((atI s14.2.2.1 v15.B).bind fun v19 =>
  (if v19 = true then
  some ((⟨v15.B, 0, v15.A, 0⟩ : Mesh_), (⟨v16.Driven, v16.Driver⟩ : Pair_))
  else
  some (v15, v16))) : Option (Mesh_ × Pair_)).bind fun v20 =>
  ((s_l02Make_m (w64 (-v20.2.Driver)) v20.2.Driven).bind fun v21 =>
  ((atI s14.2.2.2 v20.1.A).bind fun v22 =>
  ((s_l02Mul_m v22 v21.1).bind fun v23 =>
  (if (!v23.2) = true then
  some (.inr (.inr (.inr (false, false, s14.2.2.1, s14.2.2.2))))
  else
  ((atI s14.2.2.2 v20.1.B).bind fun v24 =>
  ((atI s14.2.2.1 v20.1.B).bind fun v25 =>
  some (.inl (true, List.set s14.2.2.1 v20.1.B.toNat true, List.set s14.2.2.2 v20.1.B.toNat v23.1)))))))))))))) : Option ((Bool × List Bool × List Ratio_) ⊕ ((Bool × Int × List Bool × List Ratio_) ⊕ ((Bool × List Bool × List Ratio_) ⊕ (Bool × Bool × List Bool × List Ratio_))))).bind fun v26x => orE v26x fun v26 =>
  some (.inl (v26.1, w64 (s14.2.1 + 1), v26.2.1, v26.2.2)))
  else
  some (.inr (.inl (s14.1, s14.2.2.1, s14.2.2.2))))) (false, 0, p1, p2) : Option ((Bool × List Bool × List Ratio_) ⊕ (Bool × Bool × List Bool × List Ratio_))).bind fun v27x => orE v27x fun v27 =>
  some (v27.1, true, v27.2.1, v27.2.2))

def s_l08Fits_m (p0 : Works_) (p1 : Mesh_) (p2 : List Ratio_) : Option Bool :=
  ((s_l08Pair_m p0 p1).bind fun v1 =>
  ((s_l02Make_m (w64 (-v1.Driver)) v1.Driven).bind fun v2 =>
  ((atI p2 p1.A).bind fun v3 =>
  ((s_l02Mul_m v3 v2.1).bind fun v4 =>
  (if v4.2 = true then
  ((atI p2 p1.B).bind fun v5 =>
  some (decide (v4.1 = v5)))
  else
  some false)))))

def s_l08Speeds_m (p0 : Works_) (p1 : Int) : Option (List Ratio_ × Int) :=
  ((s_l08Root_m p0 p1).bind fun v1 =>
  (if (!v1) = true then
  some (([] : List Ratio_), 2)
  else
  (chk (0 ≤ (p0.Arbors.length : Int) ∧ (p0.Arbors.length : Int) = (p0.Arbors.length : Int) ∧ (p0.Arbors.length : Int).toNat * 1 * 64 ≤ 281474976710656) (
  (chk (0 ≤ (p0.Arbors.length : Int) ∧ (p0.Arbors.length : Int) = (p0.Arbors.length : Int) ∧ (p0.Arbors.length : Int).toNat * 2 * 64 ≤ 281474976710656) (
  ((atI (List.replicate (p0.Arbors.length : Int).toNat false) p1).bind fun v4 =>
  ((s_l02Whole_m 1).bind fun v5 =>
  ((atI (List.replicate (p0.Arbors.length : Int).toNat (⟨0, 0⟩ : Ratio_)) p1).bind fun v6 =>
  ((loopM (S := Bool × List Bool × List Ratio_) (X := (List Bool × List Ratio_) ⊕ (List Ratio_ × Int)) (fun s11 =>
  (if s11.1 = true then
  ((s_l08Round_o_o_m p0 s11.2.1 s11.2.2).bind fun v12 =>
  (chk (v12.2.2.1.length = s11.2.1.length) (
  (chk (v12.2.2.2.length = s11.2.2.length) (
  (if (!v12.2.1) = true then
  some (.inr (.inr (([] : List Ratio_), 2)))
  else
  some (.inl (v12.1, v12.2.2.1, v12.2.2.2))))))))
  else
  some (.inr (.inl (s11.2.1, s11.2.2))))) (true, List.set (List.replicate (p0.Arbors.length : Int).toNat false) p1.toNat true, List.set (List.replicate (p0.Arbors.length : Int).toNat (⟨0, 0⟩ : Ratio_)) p1.toNat v5) : Option ((List Bool × List Ratio_) ⊕ (List Ratio_ × Int))).bind fun v15x => orE v15x fun v15 =>
  ((loopM (S := Int) (X := Unit ⊕ (List Ratio_ × Int)) (fun s18 =>
  (if s18 < (v15.1.length : Int) then
  ((atI v15.1 s18).bind fun v19 =>
  (if (!v19) = true then
  some (.inr (.inr (([] : List Ratio_), 6)))
  else
  some (.inl (w64 (s18 + 1)))))
  else
  some (.inr (.inl ())))) 0 : Option (Unit ⊕ (List Ratio_ × Int))).bind fun v20x => orE v20x fun v20 =>
  ((loopM (S := Int) (X := Unit ⊕ (List Ratio_ × Int)) (fun s24 =>
  (if s24 < (p0.Meshes.length : Int) then
  ((atI p0.Meshes s24).bind fun v25 =>
  ((s_l08Fits_m p0 v25 v15.2).bind fun v26 =>
  (if (!v26) = true then
  some (.inr (.inr (([] : List Ratio_), 10)))
  else
  some (.inl (w64 (s24 + 1))))))
  else
  some (.inr (.inl ())))) 0 : Option (Unit ⊕ (List Ratio_ × Int))).bind fun v27x => orE v27x fun v27 =>
  some (v15.2, 0)))))))))))))

def s_l02Size_m (p0 : Int) : Option Int :=
  (if p0 < 0 then
  some (w64 (-p0))
  else
  some p0)

def s_l26Beats_m (p0 : Movement_) (p1 : Ratio_) : Option Bool :=
  ((s_l02Size_m p1.Num).bind fun v1 =>
  some (decide ((w64 ((w64 (2 * p0.Teeth)) * v1)) = (w64 (p0.Beats * p1.Den)))))

def s_l17Ask_m (p0 : Calendar_) (p1 : List Int) : Option Int :=
  ((((s_l15Ok_m p0).bind fun v1 =>
  (if (!v1) = true then
  some true
  else
  ((s_l17Ok_m p1).bind fun v2 =>
  some (!v2)))) : Option Bool).bind fun v3 =>
  (if v3 = true then
  some 1
  else
  (chk ((p0.Months.length : Int) ≠ 0) (
  (if ((p1.length : Int).tmod (p0.Months.length : Int)) ≠ 0 then
  some 6
  else
  some 0)))))

def s_l26Faults_m (p0 : Movement_) : Option (List ByteArray) :=
  ((s_l08Speeds_m p0.Works p0.Minute).bind fun v1 =>
  (((if v1.2 ≠ 0 then
  (chk ((([] : List ByteArray).length + [(⟨#[119, 111, 114, 107, 115]⟩ : ByteArray)].length) * 1 * 64 ≤ 140737488355328) (
  some (([] : List ByteArray) ++ [(⟨#[119, 111, 114, 107, 115]⟩ : ByteArray)])))
  else
  ((((atI v1.1 p0.Hour).bind fun v3 =>
  (if v3 ≠ (⟨1, 12⟩ : Ratio_) then
  (chk ((([] : List ByteArray).length + [(⟨#[104, 111, 117, 114]⟩ : ByteArray)].length) * 1 * 64 ≤ 140737488355328) (
  some (([] : List ByteArray) ++ [(⟨#[104, 111, 117, 114]⟩ : ByteArray)])))
  else
  some ([] : List ByteArray))) : Option (List ByteArray)).bind fun v5 =>
  ((atI v1.1 p0.Escape).bind fun v6 =>
  ((s_l26Beats_m p0 v6).bind fun v7 =>
  (if (!v7) = true then
  (chk ((v5.length + [(⟨#[98, 101, 97, 116, 115]⟩ : ByteArray)].length) * 1 * 64 ≤ 140737488355328) (
  some (v5 ++ [(⟨#[98, 101, 97, 116, 115]⟩ : ByteArray)])))
  else
  some v5))))) : Option (List ByteArray)).bind fun v9 =>
  ((((s_l17Ask_m p0.Calendar p0.Cam).bind fun v10 =>
  (if v10 ≠ 0 then
  (chk ((v9.length + [(⟨#[99, 97, 109]⟩ : ByteArray)].length) * 1 * 64 ≤ 140737488355328) (
  some (v9 ++ [(⟨#[99, 97, 109]⟩ : ByteArray)])))
  else
  some v9)) : Option (List ByteArray)).bind fun v12 =>
  some v12)))

def s_l18Ok_m (p0 : Perpetual_) : Option Bool :=
  ((((s_l17Ok_m p0.Cam).bind fun v1 =>
  (if (!v1) = true then
  some true
  else
  (if p0.Months < 1 then
  some true
  else
  (chk (p0.Months ≠ 0) (
  (if ((p0.Cam.length : Int).tmod p0.Months) ≠ 0 then
  some true
  else
  ((s_l00In_m p0.Teeth 1 60).bind fun v3 =>
  some (!v3)))))))) : Option Bool).bind fun v4 =>
  (if v4 = true then
  some false
  else
  ((loopM (S := Int) (X := Unit ⊕ Bool) (fun s7 =>
  (if s7 < (p0.Cam.length : Int) then
  ((atI p0.Cam s7).bind fun v8 =>
  (if p0.Teeth < v8 then
  some (.inr (.inr false))
  else
  some (.inl (w64 (s7 + 1)))))
  else
  some (.inr (.inl ())))) 0 : Option (Unit ⊕ Bool)).bind fun v9x => orE v9x fun v9 =>
  ((s_l00In_m p0.At 0 (w64 ((p0.Cam.length : Int) - 1))).bind fun v10 =>
  (if v10 = true then
  ((s_l00In_m p0.Day 1 p0.Teeth).bind fun v11 =>
  (if v11 = true then
  ((s_l00In_m p0.Week 1 12).bind fun v12 =>
  (if v12 = true then
  ((s_l00In_m p0.Weekday 1 p0.Week).bind fun v13 =>
  some v13)
  else
  some false))
  else
  some false))
  else
  some false)))))

def s_l15Year_m (p0 : Int) : Option Bool :=
  ((s_l00In_m p0 0 9999).bind fun v1 =>
  some v1)

def s_l15Leap_m (p0 : Calendar_) (p1 : Int) : Option Bool :=
  ((loopM (S := Bool × Int) (X := Bool) (fun s7 =>
  (if s7.2 < (p0.Rules.length : Int) then
  ((((atI p0.Rules s7.2).bind fun v8 =>
  (chk (v8.Every ≠ 0) (
  ((atI p0.Rules s7.2).bind fun v10 =>
  (if (p1.tmod v8.Every) = v10.Rest then
  ((atI p0.Rules s7.2).bind fun v11 =>
  some v11.Leap)
  else
  some s7.1))))) : Option Bool).bind fun v12 =>
  some (.inl (v12, w64 (s7.2 + 1))))
  else
  some (.inr s7.1))) (false, 0) : Option Bool).bind fun v13 =>
  some v13)

def s_l15Days_m (p0 : Calendar_) (p1 : Int) (p2 : Int) : Option Int :=
  ((s_l15Leap_m p0 p1).bind fun v1 =>
  (if v1 = true then
  ((atI p0.Months p2).bind fun v2 =>
  some v2.Leap)
  else
  ((atI p0.Months p2).bind fun v3 =>
  some v3.Days)))

def s_l16Ok_m (p0 : Calendar_) (p1 : Date_) : Option Bool :=
  ((((s_l15Year_m p1.Year).bind fun v1 =>
  (if (!v1) = true then
  some true
  else
  ((s_l00In_m p1.Month 1 (p0.Months.length : Int)).bind fun v2 =>
  some (!v2)))) : Option Bool).bind fun v3 =>
  (if v3 = true then
  some false
  else
  ((s_l15Days_m p0 p1.Year (w64 (p1.Month - 1))).bind fun v4 =>
  ((s_l00In_m p1.Day 1 v4).bind fun v5 =>
  some v5))))

def s_l00Own_m (p0 : List Int) : Option (List Int) :=
  (chk ((([] : List Int).length + p0.length) * 1 * 64 ≤ 140737488355328) (
  some (([] : List Int) ++ p0)))

def s_l00Max_m (p0 : Int) (p1 : Int) : Option Int :=
  (if p1 < p0 then
  some p0
  else
  some p1)

def s_SetPerpetual_m (p0 : Calendar_) (p1 : List Int) (p2 : Date_) (p3 : Int) : Option (Perpetual_ × Int) :=
  ((s_l17Ask_m p0 p1).bind fun v1 =>
  (if v1 ≠ 0 then
  some ((⟨([] : List Int), 0, 0, 0, 0, 0, 0⟩ : Perpetual_), v1)
  else
  ((((s_l16Ok_m p0 p2).bind fun v2 =>
  (if (!v2) = true then
  some true
  else
  ((s_l00In_m p3 1 p0.Week).bind fun v3 =>
  some (!v3)))) : Option Bool).bind fun v4 =>
  (if v4 = true then
  some ((⟨([] : List Int), 0, 0, 0, 0, 0, 0⟩ : Perpetual_), 2)
  else
  ((s_l00Own_m p1).bind fun v5 =>
  (chk ((p0.Months.length : Int) ≠ 0) (
  (chk ((w64 ((p1.length : Int).tdiv (p0.Months.length : Int))) ≠ 0) (
  ((loopM (S := Int × Int) (X := Int) (fun s11 =>
  (if s11.1 < (p1.length : Int) then
  ((atI p1 s11.1).bind fun v12 =>
  ((s_l00Max_m s11.2 v12).bind fun v13 =>
  some (.inl (w64 (s11.1 + 1), v13))))
  else
  some (.inr s11.2))) (0, 0) : Option Int).bind fun v14 =>
  ((loopM (S := Int × Int) (X := Int) (fun s20 =>
  (if s20.1 < (p0.Months.length : Int) then
  ((atI p0.Months s20.1).bind fun v21 =>
  ((atI p0.Months s20.1).bind fun v22 =>
  ((s_l00Max_m v21.Days v22.Leap).bind fun v23 =>
  ((s_l00Max_m s20.2 v23).bind fun v24 =>
  some (.inl (w64 (s20.1 + 1), v24))))))
  else
  some (.inr s20.2))) (0, v14) : Option Int).bind fun v25 =>
  some ((⟨v5, (p0.Months.length : Int), v25, w64 ((w64 ((w64 ((p2.Year.tmod (w64 ((p1.length : Int).tdiv (p0.Months.length : Int)))) * (p0.Months.length : Int))) + p2.Month)) - 1), p2.Day, p0.Week, p3⟩ : Perpetual_), 0))))))))))))

def s_l27Dial_m (p0 : Movement_) (p1 : Date_) (p2 : Int) : Option (Perpetual_ × Int) :=
  ((s_SetPerpetual_m p0.Calendar p0.Cam p1 p2).bind fun v1 =>
  some (v1.1, v1.2))

def s_l00Same_m (p0 : List Int) (p1 : List Int) : Option Bool :=
  (if (p0.length : Int) ≠ (p1.length : Int) then
  some false
  else
  ((loopM (S := Int) (X := Unit ⊕ Bool) (fun s4 =>
  (if s4 < (p0.length : Int) then
  ((atI p0 s4).bind fun v5 =>
  ((atI p1 s4).bind fun v6 =>
  (if v5 ≠ v6 then
  some (.inr (.inr false))
  else
  some (.inl (w64 (s4 + 1))))))
  else
  some (.inr (.inl ())))) 0 : Option (Unit ⊕ Bool)).bind fun v7x => orE v7x fun v7 =>
  some true))

def s_l27Ok_m (p0 : Sim_) : Option Bool :=
  ((((s_l26Ok_m p0.Movement).bind fun v1 =>
  (if (!v1) = true then
  some true
  else
  ((s_l26Faults_m p0.Movement).bind fun v2 =>
  (if 0 < (v2.length : Int) then
  some true
  else
  ((s_l00In_m p0.Clock 0 1000000000).bind fun v3 =>
  (if (!v3) = true then
  some true
  else
  ((s_l18Ok_m p0.Dial).bind fun v4 =>
  some (!v4)))))))) : Option Bool).bind fun v5 =>
  (if v5 = true then
  some false
  else
  ((s_l27Dial_m p0.Movement p0.Start p0.First).bind fun v6 =>
  (if v6.2 = 0 then
  ((s_l00Same_m p0.Dial.Cam p0.Movement.Cam).bind fun v7 =>
  (if v7 = true then
  (if p0.Dial.Months = v6.1.Months then
  (if p0.Dial.Week = v6.1.Week then
  some (decide (p0.Dial.Teeth = v6.1.Teeth))
  else
  some false)
  else
  some false)
  else
  some false))
  else
  some false))))

def s_l08Own_m (p0 : Works_) : Option Works_ :=
  (chk ((([] : List Mesh_).length + p0.Meshes.length) * 4 * 64 ≤ 140737488355328) (
  ((loopM (S := Int × List Arbor_) (X := List Arbor_) (fun s7 =>
  (if s7.1 < (p0.Arbors.length : Int) then
  ((atI p0.Arbors s7.1).bind fun v8 =>
  ((atI p0.Arbors s7.1).bind fun v9 =>
  ((s_l00Own_m v9.Wheels).bind fun v10 =>
  (chk ((s7.2.length + 1) * 2 * 64 ≤ 140737488355328) (
  some (.inl (w64 (s7.1 + 1), s7.2 ++ [(⟨v8.Name, v10⟩ : Arbor_)])))))))
  else
  some (.inr s7.2))) (0, ([] : List Arbor_)) : Option (List Arbor_)).bind fun v12 =>
  some (⟨v12, ([] : List Mesh_) ++ p0.Meshes⟩ : Works_))))

def s_l15Own_m (p0 : Calendar_) : Option Calendar_ :=
  (chk ((([] : List Month_).length + p0.Months.length) * 3 * 64 ≤ 140737488355328) (
  (chk ((([] : List LeapRule_).length + p0.Rules.length) * 3 * 64 ≤ 140737488355328) (
  some (⟨p0.Name, ([] : List Month_) ++ p0.Months, ([] : List LeapRule_) ++ p0.Rules, p0.Week⟩ : Calendar_)))))

def s_l26Own_m (p0 : Movement_) : Option Movement_ :=
  ((s_l08Own_m p0.Works).bind fun v1 =>
  ((s_l15Own_m p0.Calendar).bind fun v2 =>
  ((s_l00Own_m p0.Cam).bind fun v3 =>
  some (⟨p0.Name, v1, p0.Minute, p0.Hour, p0.Escape, p0.Teeth, p0.Beats, v2, v3, p0.Strike⟩ : Movement_))))

def s_l18Own_m (p0 : Perpetual_) : Option Perpetual_ :=
  ((s_l00Own_m p0.Cam).bind fun v1 =>
  some (⟨v1, p0.Months, p0.Teeth, p0.At, p0.Day, p0.Week, p0.Weekday⟩ : Perpetual_))

def s_l27Own_m (p0 : Sim_) : Option Sim_ :=
  ((s_l26Own_m p0.Movement).bind fun v1 =>
  ((s_l18Own_m p0.Dial).bind fun v2 =>
  some (⟨v1, p0.Start, p0.First, p0.Clock, v2⟩ : Sim_)))

def i_within_m (p0 : Int) (p1 : Int) (p2 : Int) : Option Bool :=
  (if p1 ≤ p0 then
  some (decide (p0 ≤ p2))
  else
  some false)

def i_isArbor_m (p0 : Works_) (p1 : Int) : Option Bool :=
  ((i_within_m p1 0 (w64 ((p0.Arbors.length : Int) - 1))).bind fun v1 =>
  some v1)

def i_toothed_m (p0 : Int) : Option Bool :=
  ((i_within_m p0 6 240).bind fun v1 =>
  some v1)

def i_IsName_m (p0 : ByteArray) : Option Bool :=
  (((if (p0.size : Int) < 1 then
  some true
  else
  some (decide (12 < (p0.size : Int)))) : Option Bool).bind fun v1 =>
  (if v1 = true then
  some false
  else
  (((chk (p0.size ≤ 140737488355328) (
  loopM (S := Int) (X := Unit ⊕ Bool) (fun s8 =>
  (if s8 < ((bytesL p0).length : Int) then
  ((atI (bytesL p0) s8).bind fun v9 =>
  (((if 97 ≤ v9 then
  some (decide (v9 ≤ 122))
  else
  some false) : Option Bool).bind fun v10 =>
  (((if 48 ≤ v9 then
  (if v9 ≤ 57 then
  some true
  else
  some (decide (v9 = 45)))
  else
  some (decide (v9 = 45))) : Option Bool).bind fun v11 =>
  (((if (!v10) = true then
  (if s8 = 0 then
  some true
  else
  some (!v11))
  else
  some false) : Option Bool).bind fun v12 =>
  (if v12 = true then
  some (.inr (.inr false))
  else
  some (.inl (w64 (s8 + 1))))))))
  else
  some (.inr (.inl ())))) 0)) : Option (Unit ⊕ Bool)).bind fun v13x => orE v13x fun v13 =>
  some true)))

def i_validArbor_m (p0 : Arbor_) : Option Bool :=
  ((loopM (S := Int) (X := Unit ⊕ Bool) (fun s4 =>
  (if s4 < (p0.Wheels.length : Int) then
  ((atI p0.Wheels s4).bind fun v5 =>
  ((i_toothed_m v5).bind fun v6 =>
  (if (!v6) = true then
  some (.inr (.inr false))
  else
  some (.inl (w64 (s4 + 1))))))
  else
  some (.inr (.inl ())))) 0 : Option (Unit ⊕ Bool)).bind fun v7x => orE v7x fun v7 =>
  ((i_IsName_m p0.Name).bind fun v8 =>
  (if v8 = true then
  some (decide ((p0.Wheels.length : Int) ≤ 5))
  else
  some false)))

def i_hasWheel_m (p0 : Works_) (p1 : Int) (p2 : Int) : Option Bool :=
  ((i_within_m p1 0 (w64 ((p0.Arbors.length : Int) - 1))).bind fun v1 =>
  (if v1 = true then
  ((atI p0.Arbors p1).bind fun v2 =>
  ((i_within_m p2 0 (w64 ((v2.Wheels.length : Int) - 1))).bind fun v3 =>
  some v3))
  else
  some false))

def i_joins_m (p0 : Works_) (p1 : Mesh_) : Option Bool :=
  (if p1.A ≠ p1.B then
  ((i_hasWheel_m p0 p1.A p1.WheelA).bind fun v1 =>
  (if v1 = true then
  ((i_hasWheel_m p0 p1.B p1.WheelB).bind fun v2 =>
  some v2)
  else
  some false))
  else
  some false)

def i_sameMesh_m (p0 : Mesh_) (p1 : Mesh_) : Option Bool :=
  (if p0 = p1 then
  some true
  else
  some (decide (p0 = (⟨p1.B, p1.WheelB, p1.A, p1.WheelA⟩ : Mesh_))))

def i_ValidWorks_1_m (p0 : Mesh_) (p1 : Mesh_) : Option Bool :=
  ((i_sameMesh_m p1 p0).bind fun v1 =>
  some v1)

def slices_IndexFunc_LMesh_Mesh_i_ValidWorks_1_m (p0 : List Mesh_) (p1_0 : Mesh_) : Option Int :=
  ((loopM (S := Int) (X := Unit ⊕ Int) (fun s4 =>
  (if s4 < (p0.length : Int) then
  ((atI p0 s4).bind fun v5 =>
  ((i_ValidWorks_1_m v5 p1_0).bind fun v6 =>
  (if v6 = true then
  some (.inr (.inr s4))
  else
  some (.inl (w64 (s4 + 1))))))
  else
  some (.inr (.inl ())))) 0 : Option (Unit ⊕ Int)).bind fun v7x => orE v7x fun v7 =>
  some (-1))

def slices_ContainsFunc_LMesh_Mesh_i_ValidWorks_1_m (p0 : List Mesh_) (p1_0 : Mesh_) : Option Bool :=
  ((slices_IndexFunc_LMesh_Mesh_i_ValidWorks_1_m p0 p1_0).bind fun v1 =>
  some (decide (0 ≤ v1)))

def i_ValidWorks_m (p0 : Works_) : Option Bool :=
  (((if 16 < (p0.Arbors.length : Int) then
  some true
  else
  some (decide (24 < (p0.Meshes.length : Int)))) : Option Bool).bind fun v1 =>
  (if v1 = true then
  some false
  else
  ((loopM (S := Int) (X := Unit ⊕ Bool) (fun s11 =>
  (if s11 < (p0.Arbors.length : Int) then
  ((((atI p0.Arbors s11).bind fun v12 =>
  ((i_validArbor_m v12).bind fun v13 =>
  (if (!v13) = true then
  some (.inr (.inr (.inr false)))
  else
  (chk (0 ≤ (0 : Int) ∧ (0 : Int) ≤ s11 ∧ s11 ≤ (p0.Arbors.length : Int)) (
  loopM (S := Int) (X := Unit ⊕ (Int ⊕ (Unit ⊕ Bool))) (fun s17 =>
  (if s17 < ((subL p0.Arbors (0 : Int) s11).length : Int) then
  ((atI (subL p0.Arbors (0 : Int) s11) s17).bind fun v18 =>
  (if v12.Name = v18.Name then
  some (.inr (.inr (.inr (.inr false))))
  else
  some (.inl (w64 (s17 + 1)))))
  else
  some (.inr (.inl ())))) 0))))) : Option (Unit ⊕ (Int ⊕ (Unit ⊕ Bool)))).bind fun v19x => orE v19x fun v19 =>
  some (.inl (w64 (s11 + 1))))
  else
  some (.inr (.inl ())))) 0 : Option (Unit ⊕ Bool)).bind fun v20x => orE v20x fun v20 =>
  ((loopM (S := Int) (X := Unit ⊕ Bool) (fun s27 =>
  (if s27 < (p0.Meshes.length : Int) then
  ((atI p0.Meshes s27).bind fun v28 =>
  ((((i_joins_m p0 v28).bind fun v29 =>
  (if (!v29) = true then
  some true
  else
  (chk (0 ≤ (0 : Int) ∧ (0 : Int) ≤ s27 ∧ s27 ≤ (p0.Meshes.length : Int)) (
  ((slices_ContainsFunc_LMesh_Mesh_i_ValidWorks_1_m (subL p0.Meshes (0 : Int) s27) v28).bind fun v31 =>
  some v31))))) : Option Bool).bind fun v32 =>
  (if v32 = true then
  some (.inr (.inr false))
  else
  some (.inl (w64 (s27 + 1))))))
  else
  some (.inr (.inl ())))) 0 : Option (Unit ⊕ Bool)).bind fun v33x => orE v33x fun v33 =>
  some true))))

def i_ValidCalendar_1_m (p0 : Month_) (p1 : Month_) : Option Bool :=
  some (decide (p0.Name = p1.Name))

def slices_IndexFunc_LMonth_Month_i_ValidCalendar_1_m (p0 : List Month_) (p1_0 : Month_) : Option Int :=
  ((loopM (S := Int) (X := Unit ⊕ Int) (fun s4 =>
  (if s4 < (p0.length : Int) then
  ((atI p0 s4).bind fun v5 =>
  ((i_ValidCalendar_1_m v5 p1_0).bind fun v6 =>
  (if v6 = true then
  some (.inr (.inr s4))
  else
  some (.inl (w64 (s4 + 1))))))
  else
  some (.inr (.inl ())))) 0 : Option (Unit ⊕ Int)).bind fun v7x => orE v7x fun v7 =>
  some (-1))

def slices_ContainsFunc_LMonth_Month_i_ValidCalendar_1_m (p0 : List Month_) (p1_0 : Month_) : Option Bool :=
  ((slices_IndexFunc_LMonth_Month_i_ValidCalendar_1_m p0 p1_0).bind fun v1 =>
  some (decide (0 ≤ v1)))

def i_gcd_m (p0 : Int) (p1 : Int) : Option Int :=
  ((loopM (S := Int × Int) (X := Int) (fun s3 =>
  (if s3.2 ≠ 0 then
  (chk (s3.2 ≠ 0) (
  some (.inl (s3.2, s3.1.tmod s3.2))))
  else
  some (.inr s3.1))) (p0, p1) : Option Int).bind fun v5 =>
  (if v5 < 0 then
  some (w64 (-v5))
  else
  some v5))

def i_cycleYears_m (p0 : List LeapRule_) : Option Int :=
  ((loopM (S := Int × Int) (X := Int) (fun s6 =>
  (if s6.2 < (p0.length : Int) then
  ((((atI p0 s6.2).bind fun v7 =>
  (if s6.1 ≤ 2000 then
  ((i_gcd_m s6.1 v7.Every).bind fun v8 =>
  (chk (v8 ≠ 0) (
  some (w64 ((w64 (s6.1.tdiv v8)) * v7.Every)))))
  else
  some s6.1)) : Option Int).bind fun v10 =>
  some (.inl (v10, w64 (s6.2 + 1))))
  else
  some (.inr s6.1))) (1, 0) : Option Int).bind fun v11 =>
  some v11)

def i_ValidCalendar_m (p0 : Calendar_) : Option Bool :=
  ((((i_IsName_m p0.Name).bind fun v1 =>
  (if (!v1) = true then
  some true
  else
  (if (p0.Months.length : Int) < 1 then
  some true
  else
  (if 20 < (p0.Months.length : Int) then
  some true
  else
  (if 6 < (p0.Rules.length : Int) then
  some true
  else
  ((i_within_m p0.Week 1 12).bind fun v2 =>
  some (!v2))))))) : Option Bool).bind fun v3 =>
  (if v3 = true then
  some false
  else
  ((loopM (S := Int) (X := Unit ⊕ Bool) (fun s12 =>
  (if s12 < (p0.Months.length : Int) then
  ((atI p0.Months s12).bind fun v13 =>
  ((((i_IsName_m v13.Name).bind fun v14 =>
  (if (!v14) = true then
  some true
  else
  ((i_within_m v13.Days 1 60).bind fun v15 =>
  (if (!v15) = true then
  some true
  else
  ((i_within_m v13.Leap 1 60).bind fun v16 =>
  some (!v16)))))) : Option Bool).bind fun v17 =>
  (if v17 = true then
  some (.inr (.inr false))
  else
  (chk (0 ≤ (0 : Int) ∧ (0 : Int) ≤ s12 ∧ s12 ≤ (p0.Months.length : Int)) (
  ((slices_ContainsFunc_LMonth_Month_i_ValidCalendar_1_m (subL p0.Months (0 : Int) s12) v13).bind fun v19 =>
  (if v19 = true then
  some (.inr (.inr false))
  else
  some (.inl (w64 (s12 + 1))))))))))
  else
  some (.inr (.inl ())))) 0 : Option (Unit ⊕ Bool)).bind fun v20x => orE v20x fun v20 =>
  ((loopM (S := Int) (X := Unit ⊕ Bool) (fun s26 =>
  (if s26 < (p0.Rules.length : Int) then
  ((atI p0.Rules s26).bind fun v27 =>
  ((((i_within_m v27.Every 1 1000).bind fun v28 =>
  (if (!v28) = true then
  some true
  else
  ((i_within_m v27.Rest 0 (w64 (v27.Every - 1))).bind fun v29 =>
  some (!v29)))) : Option Bool).bind fun v30 =>
  (if v30 = true then
  some (.inr (.inr false))
  else
  some (.inl (w64 (s26 + 1))))))
  else
  some (.inr (.inl ())))) 0 : Option (Unit ⊕ Bool)).bind fun v31x => orE v31x fun v31 =>
  ((i_cycleYears_m p0.Rules).bind fun v32 =>
  some (decide (v32 ≤ 2000)))))))

def i_ValidCam_m (p0 : List Int) : Option Bool :=
  ((loopM (S := Int) (X := Unit ⊕ Bool) (fun s4 =>
  (if s4 < (p0.length : Int) then
  ((atI p0 s4).bind fun v5 =>
  ((i_within_m v5 1 60).bind fun v6 =>
  (if (!v6) = true then
  some (.inr (.inr false))
  else
  some (.inl (w64 (s4 + 1))))))
  else
  some (.inr (.inl ())))) 0 : Option (Unit ⊕ Bool)).bind fun v7x => orE v7x fun v7 =>
  (if 1 ≤ (p0.length : Int) then
  some (decide ((p0.length : Int) ≤ 260))
  else
  some false))

def i_ValidMovement_m (p0 : Movement_) : Option Bool :=
  ((((i_isArbor_m p0.Works p0.Minute).bind fun v1 =>
  (if v1 = true then
  ((i_isArbor_m p0.Works p0.Hour).bind fun v2 =>
  (if v2 = true then
  ((i_isArbor_m p0.Works p0.Escape).bind fun v3 =>
  some v3)
  else
  some false))
  else
  some false)) : Option Bool).bind fun v4 =>
  ((((i_toothed_m p0.Teeth).bind fun v5 =>
  (if v5 = true then
  ((i_within_m p0.Beats 1 36000).bind fun v6 =>
  (if v6 = true then
  ((i_within_m p0.Strike 0 2).bind fun v7 =>
  some v7)
  else
  some false))
  else
  some false)) : Option Bool).bind fun v8 =>
  (if v4 = true then
  (if v8 = true then
  ((i_IsName_m p0.Name).bind fun v9 =>
  (if v9 = true then
  ((i_ValidWorks_m p0.Works).bind fun v10 =>
  (if v10 = true then
  ((i_ValidCalendar_m p0.Calendar).bind fun v11 =>
  (if v11 = true then
  ((i_ValidCam_m p0.Cam).bind fun v12 =>
  some v12)
  else
  some false))
  else
  some false))
  else
  some false))
  else
  some false)
  else
  some false)))

def i_pairOf_m (p0 : Works_) (p1 : Mesh_) : Option Pair_ :=
  ((atI p0.Arbors p1.A).bind fun v1 =>
  ((atI v1.Wheels p1.WheelA).bind fun v2 =>
  ((atI p0.Arbors p1.B).bind fun v3 =>
  ((atI v3.Wheels p1.WheelB).bind fun v4 =>
  some (⟨v2, v4⟩ : Pair_)))))

def i_magnitude_m (p0 : Int) : Option Int :=
  (if p0 < 0 then
  some (IntKind.u64.wrap (-(IntKind.u64.wrap p0)))
  else
  some (IntKind.u64.wrap p0))

def i_reduced_m (p0 : Int) (p1 : Int) : Option (Ratio_ × Bool) :=
  ((i_magnitude_m p0).bind fun v1 =>
  ((i_magnitude_m p1).bind fun v2 =>
  ((loopM (S := Int × Int) (X := Int) (fun s5 =>
  (if s5.2 ≠ 0 then
  (chk (s5.2 ≠ 0) (
  some (.inl (s5.2, s5.1.tmod s5.2))))
  else
  some (.inr s5.1))) (v1, v2) : Option Int).bind fun v7 =>
  (chk (v7 ≠ 0) (
  (chk (v7 ≠ 0) (
  (((if 1000000000 < (IntKind.u64.wrap (v1.tdiv v7)) then
  some true
  else
  some (decide (1000000000 < (IntKind.u64.wrap (v2.tdiv v7))))) : Option Bool).bind fun v10 =>
  (if v10 = true then
  some ((⟨0, 0⟩ : Ratio_), false)
  else
  (((if ((decide (p0 < 0)) != (decide (p1 < 0))) = true then
  some (⟨w64 (-(w64 (IntKind.u64.wrap (v1.tdiv v7)))), w64 (IntKind.u64.wrap (v2.tdiv v7))⟩ : Ratio_)
  else
  some (⟨w64 (IntKind.u64.wrap (v1.tdiv v7)), w64 (IntKind.u64.wrap (v2.tdiv v7))⟩ : Ratio_)) : Option Ratio_).bind fun v11 =>
  some (v11, true)))))))))))

def i_MakeRatio_m (p0 : Int) (p1 : Int) : Option (Ratio_ × Int) :=
  (if p1 = 0 then
  some ((⟨0, 0⟩ : Ratio_), 6)
  else
  ((i_reduced_m p0 p1).bind fun v1 =>
  (if (!v1.2) = true then
  some ((⟨0, 0⟩ : Ratio_), 2)
  else
  some (v1.1, 0))))

def i_ValidRatio_m (p0 : Ratio_) : Option Bool :=
  ((i_within_m p0.Den 1 1000000000).bind fun v1 =>
  (if v1 = true then
  ((i_within_m p0.Num (-1000000000) 1000000000).bind fun v2 =>
  (if v2 = true then
  ((i_gcd_m p0.Num p0.Den).bind fun v3 =>
  some (decide (v3 = 1)))
  else
  some false))
  else
  some false))

def i_MulRatio_m (p0 : Ratio_) (p1 : Ratio_) : Option (Ratio_ × Int) :=
  ((((i_ValidRatio_m p0).bind fun v1 =>
  (if (!v1) = true then
  some true
  else
  ((i_ValidRatio_m p1).bind fun v2 =>
  some (!v2)))) : Option Bool).bind fun v3 =>
  (if v3 = true then
  some ((⟨0, 0⟩ : Ratio_), 1)
  else
  ((i_MakeRatio_m (w64 (p0.Num * p1.Num)) (w64 (p0.Den * p1.Den))).bind fun v4 =>
  some (v4.1, v4.2))))

def i_meshed_m (p0 : Ratio_) (p1 : Int) (p2 : Int) : Option (Ratio_ × Int) :=
  ((i_MakeRatio_m (w64 (-p1)) p2).bind fun v1 =>
  ((i_MulRatio_m p0 v1.1).bind fun v2 =>
  some (v2.1, v2.2)))

def i_speedsFrom_m (p0 : Works_) (p1 : Int) : Option (List Ratio_ × Int) :=
  (chk (0 ≤ (p0.Arbors.length : Int) ∧ (p0.Arbors.length : Int) = (p0.Arbors.length : Int) ∧ (p0.Arbors.length : Int).toNat * 2 * 64 ≤ 281474976710656) (
  ((atI (List.replicate (p0.Arbors.length : Int).toNat (⟨0, 0⟩ : Ratio_)) p1).bind fun v2 =>
  ((loopM (S := Bool × List Ratio_) (X := (List Ratio_) ⊕ (List Ratio_ × Int)) (fun s28 =>
  (if s28.1 = true then
  loopM (S := Bool × Int × List Ratio_) (X := (Bool × List Ratio_) ⊕ ((List Ratio_) ⊕ (List Ratio_ × Int))) (fun s41 =>
  (if s41.2.1 < (p0.Meshes.length : Int) then
  ((((atI p0.Meshes s41.2.1).bind fun v42 =>
  ((i_pairOf_m p0 v42).bind fun v43 =>
  ((((atI s41.2.2 v42.A).bind fun v44 =>
  (if v44.Den = 0 then
  some (v42.B, v42.A, (⟨v43.Driven, v43.Driver⟩ : Pair_))
  else
  some (v42.A, v42.B, v43))) : Option (Int × Int × Pair_)).bind fun v45 =>
  ((((atI s41.2.2 v45.1).bind fun v46 =>
  (if v46.Den = 0 then
  some true
  else
  ((atI s41.2.2 v45.2.1).bind fun v47 =>
  some (decide (v47.Den ≠ 0))))) : Option Bool).bind fun v48 =>
  (if v48 = true then
  some (.inl (s41.1, s41.2.2))
  else
  ((atI s41.2.2 v45.1).bind fun v49 =>
  ((i_meshed_m v49 v45.2.2.Driver v45.2.2.Driven).bind fun v50 =>
  (if v50.2 ≠ 0 then
  some (.inr (.inr (.inr (.inr (([] : List Ratio_), v50.2)))))
  else
  ((atI s41.2.2 v45.2.1).bind fun v51 =>
  some (.inl (true, List.set s41.2.2 v45.2.1.toNat v50.1))))))))))) : Option ((Bool × List Ratio_) ⊕ ((Bool × Int × List Ratio_) ⊕ ((Bool × List Ratio_) ⊕ ((List Ratio_) ⊕ (List Ratio_ × Int)))))).bind fun v52x => orE v52x fun v52 =>
  some (.inl (v52.1, w64 (s41.2.1 + 1), v52.2)))
  else
  some (.inr (.inl (s41.1, s41.2.2))))) (false, 0, s28.2)
  else
  some (.inr (.inl s28.2)))) (true, List.set (List.replicate (p0.Arbors.length : Int).toNat (⟨0, 0⟩ : Ratio_)) p1.toNat (⟨1, 1⟩ : Ratio_)) : Option ((List Ratio_) ⊕ (List Ratio_ × Int))).bind fun v53x => orE v53x fun v53 =>
  some (v53, 0)))))

def i_SpeedsOf_1_m (p0 : Ratio_) : Option Bool :=
  some (decide (p0.Den = 0))

def slices_IndexFunc_LRatio_Ratio_i_SpeedsOf_1_m (p0 : List Ratio_) : Option Int :=
  ((loopM (S := Int) (X := Unit ⊕ Int) (fun s4 =>
  (if s4 < (p0.length : Int) then
  ((atI p0 s4).bind fun v5 =>
  ((i_SpeedsOf_1_m v5).bind fun v6 =>
  (if v6 = true then
  some (.inr (.inr s4))
  else
  some (.inl (w64 (s4 + 1))))))
  else
  some (.inr (.inl ())))) 0 : Option (Unit ⊕ Int)).bind fun v7x => orE v7x fun v7 =>
  some (-1))

def slices_ContainsFunc_LRatio_Ratio_i_SpeedsOf_1_m (p0 : List Ratio_) : Option Bool :=
  ((slices_IndexFunc_LRatio_Ratio_i_SpeedsOf_1_m p0).bind fun v1 =>
  some (decide (0 ≤ v1)))

def i_SpeedsOf_m (p0 : Works_) (p1 : Int) : Option (List Ratio_ × Int) :=
  ((i_ValidWorks_m p0).bind fun v1 =>
  (if (!v1) = true then
  some (([] : List Ratio_), 1)
  else
  ((i_within_m p1 0 (w64 ((p0.Arbors.length : Int) - 1))).bind fun v2 =>
  (if (!v2) = true then
  some (([] : List Ratio_), 2)
  else
  ((i_speedsFrom_m p0 p1).bind fun v3 =>
  (if v3.2 ≠ 0 then
  some (([] : List Ratio_), v3.2)
  else
  ((slices_ContainsFunc_LRatio_Ratio_i_SpeedsOf_1_m v3.1).bind fun v4 =>
  (if v4 = true then
  some (([] : List Ratio_), 6)
  else
  ((loopM (S := Int) (X := Unit ⊕ (List Ratio_ × Int)) (fun s12 =>
  (if s12 < (p0.Meshes.length : Int) then
  ((atI p0.Meshes s12).bind fun v13 =>
  ((i_pairOf_m p0 v13).bind fun v14 =>
  ((atI v3.1 v13.A).bind fun v15 =>
  ((i_meshed_m v15 v14.Driver v14.Driven).bind fun v16 =>
  (((if v16.2 ≠ 0 then
  some true
  else
  ((atI v3.1 v13.B).bind fun v17 =>
  some (decide (v16.1 ≠ v17)))) : Option Bool).bind fun v18 =>
  (if v18 = true then
  some (.inr (.inr (([] : List Ratio_), 10)))
  else
  some (.inl (w64 (s12 + 1)))))))))
  else
  some (.inr (.inl ())))) 0 : Option (Unit ⊕ (List Ratio_ × Int))).bind fun v19x => orE v19x fun v19 =>
  some (v3.1, 0))))))))))

def i_abs_m (p0 : Int) : Option Int :=
  (if p0 < 0 then
  some (w64 (-p0))
  else
  some p0)

def i_belongs_m (p0 : Calendar_) (p1 : List Int) : Option Int :=
  (chk ((p0.Months.length : Int) ≠ 0) (
  (if ((p1.length : Int).tmod (p0.Months.length : Int)) ≠ 0 then
  some 0
  else
  (chk ((p0.Months.length : Int) ≠ 0) (
  some (w64 ((p1.length : Int).tdiv (p0.Months.length : Int))))))))

def i_MovementFaults_m (p0 : Movement_) : Option (List ByteArray) :=
  ((i_ValidMovement_m p0).bind fun v1 =>
  (if (!v1) = true then
  some [(⟨#[109, 111, 118, 101, 109, 101, 110, 116]⟩ : ByteArray)]
  else
  ((i_SpeedsOf_m p0.Works p0.Minute).bind fun v2 =>
  (((if v2.2 ≠ 0 then
  (chk ([(⟨#[119, 111, 114, 107, 115]⟩ : ByteArray)].length * 1 * 64 ≤ 140737488355328) (
  some [(⟨#[119, 111, 114, 107, 115]⟩ : ByteArray)]))
  else
  ((((atI v2.1 p0.Hour).bind fun v4 =>
  (if v4 ≠ (⟨1, 12⟩ : Ratio_) then
  (chk ([(⟨#[104, 111, 117, 114]⟩ : ByteArray)].length * 1 * 64 ≤ 140737488355328) (
  some [(⟨#[104, 111, 117, 114]⟩ : ByteArray)]))
  else
  some ([] : List ByteArray))) : Option (List ByteArray)).bind fun v6 =>
  ((atI v2.1 p0.Escape).bind fun v7 =>
  ((i_abs_m v7.Num).bind fun v8 =>
  (if (w64 ((w64 (2 * p0.Teeth)) * v8)) ≠ (w64 (p0.Beats * v7.Den)) then
  (chk ((v6.length + [(⟨#[98, 101, 97, 116, 115]⟩ : ByteArray)].length) * 1 * 64 ≤ 140737488355328) (
  some (v6 ++ [(⟨#[98, 101, 97, 116, 115]⟩ : ByteArray)])))
  else
  some v6))))) : Option (List ByteArray)).bind fun v10 =>
  ((((i_belongs_m p0.Calendar p0.Cam).bind fun v11 =>
  (if v11 = 0 then
  (chk ((v10.length + [(⟨#[99, 97, 109]⟩ : ByteArray)].length) * 1 * 64 ≤ 140737488355328) (
  some (v10 ++ [(⟨#[99, 97, 109]⟩ : ByteArray)])))
  else
  some v10)) : Option (List ByteArray)).bind fun v13 =>
  some v13)))))

def i_askedCam_m (p0 : Calendar_) (p1 : List Int) : Option Int :=
  ((((i_ValidCalendar_m p0).bind fun v1 =>
  (if (!v1) = true then
  some true
  else
  ((i_ValidCam_m p1).bind fun v2 =>
  some (!v2)))) : Option Bool).bind fun v3 =>
  (if v3 = true then
  some 1
  else
  ((i_belongs_m p0 p1).bind fun v4 =>
  (if v4 = 0 then
  some 6
  else
  some 0))))

def i_isYear_m (p0 : Int) : Option Bool :=
  ((i_within_m p0 0 9999).bind fun v1 =>
  some v1)

def i_isMonth_m (p0 : Calendar_) (p1 : Int) : Option Bool :=
  ((i_within_m p1 1 (p0.Months.length : Int)).bind fun v1 =>
  some v1)

def i_isLeap_m (p0 : Calendar_) (p1 : Int) : Option Bool :=
  ((loopM (S := Bool × Int) (X := Bool) (fun s5 =>
  (if s5.2 < (p0.Rules.length : Int) then
  ((((atI p0.Rules s5.2).bind fun v6 =>
  (chk (v6.Every ≠ 0) (
  (if (p1.tmod v6.Every) = v6.Rest then
  some v6.Leap
  else
  some s5.1)))) : Option Bool).bind fun v8 =>
  some (.inl (v8, w64 (s5.2 + 1))))
  else
  some (.inr s5.1))) (false, 0) : Option Bool).bind fun v9 =>
  some v9)

def i_daysOfMonth_m (p0 : Calendar_) (p1 : Bool) (p2 : Int) : Option Int :=
  (if p1 = true then
  ((atI p0.Months (w64 (p2 - 1))).bind fun v1 =>
  some v1.Leap)
  else
  ((atI p0.Months (w64 (p2 - 1))).bind fun v2 =>
  some v2.Days))

def i_ValidDate_m (p0 : Calendar_) (p1 : Date_) : Option Bool :=
  ((i_ValidCalendar_m p0).bind fun v1 =>
  (if v1 = true then
  ((i_isYear_m p1.Year).bind fun v2 =>
  (if v2 = true then
  ((i_isMonth_m p0 p1.Month).bind fun v3 =>
  (if v3 = true then
  ((i_isLeap_m p0 p1.Year).bind fun v4 =>
  ((i_daysOfMonth_m p0 v4 p1.Month).bind fun v5 =>
  ((i_within_m p1.Day 1 v5).bind fun v6 =>
  some v6)))
  else
  some false))
  else
  some false))
  else
  some false))

def slices_Max_Lint64_int64_m (p0 : List Int) : Option Int :=
  (((if (p0.length : Int) < 1 then
  none
  else
  some ()) : Option Unit).bind fun v1 =>
  ((atI p0 0).bind fun v2 =>
  ((loopM (S := Int × Int) (X := Int) (fun s5 =>
  (if s5.2 < (p0.length : Int) then
  ((atI p0 s5.2).bind fun v6 =>
  some (.inl (max s5.1 v6, w64 (s5.2 + 1))))
  else
  some (.inr s5.1))) (v2, 1) : Option Int).bind fun v7 =>
  some v7)))

def slices_Clone_Lint64_int64_m (p0 : List Int) : Option (List Int) :=
  (chk ((([] : List Int).length + p0.length) * 1 * 64 ≤ 140737488355328) (
  some (([] : List Int) ++ p0)))

def i_SetPerpetual_m (p0 : Calendar_) (p1 : List Int) (p2 : Date_) (p3 : Int) : Option (Perpetual_ × Int) :=
  ((i_askedCam_m p0 p1).bind fun v1 =>
  (if v1 ≠ 0 then
  some ((⟨([] : List Int), 0, 0, 0, 0, 0, 0⟩ : Perpetual_), v1)
  else
  ((((i_ValidDate_m p0 p2).bind fun v2 =>
  (if (!v2) = true then
  some true
  else
  ((i_within_m p3 1 p0.Week).bind fun v3 =>
  some (!v3)))) : Option Bool).bind fun v4 =>
  (if v4 = true then
  some ((⟨([] : List Int), 0, 0, 0, 0, 0, 0⟩ : Perpetual_), 2)
  else
  ((slices_Max_Lint64_int64_m p1).bind fun v5 =>
  ((loopM (S := Int × Int) (X := Int) (fun s8 =>
  (if s8.2 < (p0.Months.length : Int) then
  ((atI p0.Months s8.2).bind fun v9 =>
  some (.inl (max (max s8.1 v9.Days) v9.Leap, w64 (s8.2 + 1))))
  else
  some (.inr s8.1))) (v5, 0) : Option Int).bind fun v10 =>
  ((slices_Clone_Lint64_int64_m p1).bind fun v11 =>
  ((i_belongs_m p0 p1).bind fun v12 =>
  (chk (v12 ≠ 0) (
  some ((⟨v11, (p0.Months.length : Int), v10, w64 ((w64 ((w64 ((p2.Year.tmod v12) * (p0.Months.length : Int))) + p2.Month)) - 1), p2.Day, p0.Week, p3⟩ : Perpetual_), 0)))))))))))

def slices_Clone_LMesh_Mesh_m (p0 : List Mesh_) : Option (List Mesh_) :=
  (chk ((([] : List Mesh_).length + p0.length) * 4 * 64 ≤ 140737488355328) (
  some (([] : List Mesh_) ++ p0)))

def i_copyWorks_m (p0 : Works_) : Option Works_ :=
  ((loopM (S := Int × List Arbor_) (X := List Arbor_) (fun s5 =>
  (if s5.1 < (p0.Arbors.length : Int) then
  ((atI p0.Arbors s5.1).bind fun v6 =>
  ((slices_Clone_Lint64_int64_m v6.Wheels).bind fun v7 =>
  (chk ((s5.2.length + 1) * 2 * 64 ≤ 140737488355328) (
  some (.inl (w64 (s5.1 + 1), s5.2 ++ [(⟨v6.Name, v7⟩ : Arbor_)]))))))
  else
  some (.inr s5.2))) (0, ([] : List Arbor_)) : Option (List Arbor_)).bind fun v9 =>
  ((slices_Clone_LMesh_Mesh_m p0.Meshes).bind fun v10 =>
  some (⟨v9, v10⟩ : Works_)))

def slices_Clone_LMonth_Month_m (p0 : List Month_) : Option (List Month_) :=
  (chk ((([] : List Month_).length + p0.length) * 3 * 64 ≤ 140737488355328) (
  some (([] : List Month_) ++ p0)))

def slices_Clone_LLeapRule_LeapRule_m (p0 : List LeapRule_) : Option (List LeapRule_) :=
  (chk ((([] : List LeapRule_).length + p0.length) * 3 * 64 ≤ 140737488355328) (
  some (([] : List LeapRule_) ++ p0)))

def i_copyMovement_m (p0 : Movement_) : Option Movement_ :=
  ((i_copyWorks_m p0.Works).bind fun v1 =>
  ((slices_Clone_LMonth_Month_m p0.Calendar.Months).bind fun v2 =>
  ((slices_Clone_LLeapRule_LeapRule_m p0.Calendar.Rules).bind fun v3 =>
  ((slices_Clone_Lint64_int64_m p0.Cam).bind fun v4 =>
  some (⟨p0.Name, v1, p0.Minute, p0.Hour, p0.Escape, p0.Teeth, p0.Beats, (⟨p0.Calendar.Name, v2, v3, p0.Calendar.Week⟩ : Calendar_), v4, p0.Strike⟩ : Movement_)))))

def i_NewSim_m (p0 : Movement_) (p1 : Date_) (p2 : Int) : Option (Sim_ × Int) :=
  ((i_ValidMovement_m p0).bind fun v1 =>
  (if (!v1) = true then
  some ((⟨(⟨(⟨#[]⟩ : ByteArray), (⟨([] : List Arbor_), ([] : List Mesh_)⟩ : Works_), 0, 0, 0, 0, 0, (⟨(⟨#[]⟩ : ByteArray), ([] : List Month_), ([] : List LeapRule_), 0⟩ : Calendar_), ([] : List Int), 0⟩ : Movement_), (⟨0, 0, 0⟩ : Date_), 0, 0, (⟨([] : List Int), 0, 0, 0, 0, 0, 0⟩ : Perpetual_)⟩ : Sim_), 1)
  else
  ((i_MovementFaults_m p0).bind fun v2 =>
  (if 0 < (v2.length : Int) then
  some ((⟨(⟨(⟨#[]⟩ : ByteArray), (⟨([] : List Arbor_), ([] : List Mesh_)⟩ : Works_), 0, 0, 0, 0, 0, (⟨(⟨#[]⟩ : ByteArray), ([] : List Month_), ([] : List LeapRule_), 0⟩ : Calendar_), ([] : List Int), 0⟩ : Movement_), (⟨0, 0, 0⟩ : Date_), 0, 0, (⟨([] : List Int), 0, 0, 0, 0, 0, 0⟩ : Perpetual_)⟩ : Sim_), 6)
  else
  ((i_SetPerpetual_m p0.Calendar p0.Cam p1 p2).bind fun v3 =>
  (if v3.2 ≠ 0 then
  some ((⟨(⟨(⟨#[]⟩ : ByteArray), (⟨([] : List Arbor_), ([] : List Mesh_)⟩ : Works_), 0, 0, 0, 0, 0, (⟨(⟨#[]⟩ : ByteArray), ([] : List Month_), ([] : List LeapRule_), 0⟩ : Calendar_), ([] : List Int), 0⟩ : Movement_), (⟨0, 0, 0⟩ : Date_), 0, 0, (⟨([] : List Int), 0, 0, 0, 0, 0, 0⟩ : Perpetual_)⟩ : Sim_), v3.2)
  else
  ((i_copyMovement_m p0).bind fun v4 =>
  some ((⟨v4, p1, p2, 0, v3.1⟩ : Sim_), 0))))))))

def i_ValidPerpetual_m (p0 : Perpetual_) : Option Bool :=
  ((((i_ValidCam_m p0.Cam).bind fun v1 =>
  (if (!v1) = true then
  some true
  else
  (if p0.Months < 1 then
  some true
  else
  (chk (p0.Months ≠ 0) (
  some (decide (((p0.Cam.length : Int).tmod p0.Months) ≠ 0))))))) : Option Bool).bind fun v3 =>
  (if v3 = true then
  some false
  else
  (((if 60 < p0.Teeth then
  some true
  else
  ((slices_Max_Lint64_int64_m p0.Cam).bind fun v4 =>
  some (decide (p0.Teeth < v4)))) : Option Bool).bind fun v5 =>
  (if v5 = true then
  some false
  else
  ((i_within_m p0.At 0 (w64 ((p0.Cam.length : Int) - 1))).bind fun v6 =>
  (if v6 = true then
  ((i_within_m p0.Day 1 p0.Teeth).bind fun v7 =>
  (if v7 = true then
  ((i_within_m p0.Week 1 12).bind fun v8 =>
  (if v8 = true then
  ((i_within_m p0.Weekday 1 p0.Week).bind fun v9 =>
  some v9)
  else
  some false))
  else
  some false))
  else
  some false))))))

def slices_Equal_Lint64_int64_m (p0 : List Int) (p1 : List Int) : Option Bool :=
  (if (p0.length : Int) ≠ (p1.length : Int) then
  some false
  else
  ((loopM (S := Int) (X := Unit ⊕ Bool) (fun s4 =>
  (if s4 < (p0.length : Int) then
  ((atI p0 s4).bind fun v5 =>
  ((atI p1 s4).bind fun v6 =>
  (if v5 ≠ v6 then
  some (.inr (.inr false))
  else
  some (.inl (w64 (s4 + 1))))))
  else
  some (.inr (.inl ())))) 0 : Option (Unit ⊕ Bool)).bind fun v7x => orE v7x fun v7 =>
  some true))

def i_ValidSim_m (p0 : Sim_) : Option Bool :=
  ((i_NewSim_m p0.Movement p0.Start p0.First).bind fun v1 =>
  (((if v1.2 ≠ 0 then
  some true
  else
  ((i_within_m p0.Clock 0 1000000000).bind fun v2 =>
  (if (!v2) = true then
  some true
  else
  ((i_ValidPerpetual_m p0.Dial).bind fun v3 =>
  some (!v3))))) : Option Bool).bind fun v4 =>
  (if v4 = true then
  some false
  else
  ((slices_Equal_Lint64_int64_m p0.Dial.Cam v1.1.Dial.Cam).bind fun v5 =>
  (if v5 = true then
  (if p0.Dial.Months = v1.1.Dial.Months then
  (if p0.Dial.Teeth = v1.1.Dial.Teeth then
  some (decide (p0.Dial.Week = v1.1.Dial.Week))
  else
  some false)
  else
  some false)
  else
  some false)))))

def Perpetual_own_m (p0 : Perpetual_) : Option Perpetual_ :=
  ((slices_Clone_Lint64_int64_m p0.Cam).bind fun v1 =>
  some (⟨v1, p0.Months, p0.Teeth, p0.At, p0.Day, p0.Week, p0.Weekday⟩ : Perpetual_))

def i_copySim_m (p0 : Sim_) : Option Sim_ :=
  ((i_copyMovement_m p0.Movement).bind fun v1 =>
  ((Perpetual_own_m p0.Dial).bind fun v2 =>
  some (⟨v1, p0.Start, p0.First, p0.Clock, v2⟩ : Sim_)))

def Perpetual_moveMonth_Sim_4_m (p0 : Sim_) : Option Sim_ :=
  (chk ((p0.Dial.Cam.length : Int) ≠ 0) (
  some (⟨p0.Movement, p0.Start, p0.First, p0.Clock, (⟨p0.Dial.Cam, p0.Dial.Months, p0.Dial.Teeth, (w64 (p0.Dial.At + 1)).tmod (p0.Dial.Cam.length : Int), p0.Dial.Day, p0.Dial.Week, p0.Dial.Weekday⟩ : Perpetual_)⟩ : Sim_)))

def Perpetual_moveDate_Sim_4_m (p0 : Sim_) (p1 : Int) : Option Sim_ :=
  (if p0.Dial.Teeth < (w64 (p0.Dial.Day + p1)) then
  ((Perpetual_moveMonth_Sim_4_m (⟨p0.Movement, p0.Start, p0.First, p0.Clock, (⟨p0.Dial.Cam, p0.Dial.Months, p0.Dial.Teeth, p0.Dial.At, w64 ((w64 (p0.Dial.Day + p1)) - p0.Dial.Teeth), p0.Dial.Week, p0.Dial.Weekday⟩ : Perpetual_)⟩ : Sim_)).bind fun v1 =>
  some v1)
  else
  some (⟨p0.Movement, p0.Start, p0.First, p0.Clock, (⟨p0.Dial.Cam, p0.Dial.Months, p0.Dial.Teeth, p0.Dial.At, w64 (p0.Dial.Day + p1), p0.Dial.Week, p0.Dial.Weekday⟩ : Perpetual_)⟩ : Sim_))

def Perpetual_moveWeekday_Sim_4_m (p0 : Sim_) : Option Sim_ :=
  (chk (p0.Dial.Week ≠ 0) (
  some (⟨p0.Movement, p0.Start, p0.First, p0.Clock, (⟨p0.Dial.Cam, p0.Dial.Months, p0.Dial.Teeth, p0.Dial.At, p0.Dial.Day, p0.Dial.Week, w64 ((p0.Dial.Weekday.tmod p0.Dial.Week) + 1)⟩ : Perpetual_)⟩ : Sim_)))

def l_eqInt64S_m (p0 : List Int) (p1 : List Int) : Option Bool :=
  (if (p0.length : Int) ≠ (p1.length : Int) then
  some false
  else
  ((loopM (S := Int) (X := Unit ⊕ Bool) (fun s4 =>
  (if s4 < (p0.length : Int) then
  ((atI p0 s4).bind fun v5 =>
  ((atI p1 s4).bind fun v6 =>
  (if v5 ≠ v6 then
  some (.inr (.inr false))
  else
  some (.inl (w64 (s4 + 1))))))
  else
  some (.inr (.inl ())))) 0 : Option (Unit ⊕ Bool)).bind fun v7x => orE v7x fun v7 =>
  some true))

def l_eqArbor_m (p0 : Arbor_) (p1 : Arbor_) : Option Bool :=
  (if p0.Name ≠ p1.Name then
  some false
  else
  ((l_eqInt64S_m p0.Wheels p1.Wheels).bind fun v1 =>
  (if (!v1) = true then
  some false
  else
  some true)))

def l_eqArborS_m (p0 : List Arbor_) (p1 : List Arbor_) : Option Bool :=
  (if (p0.length : Int) ≠ (p1.length : Int) then
  some false
  else
  ((loopM (S := Int) (X := Unit ⊕ Bool) (fun s5 =>
  (if s5 < (p0.length : Int) then
  ((atI p0 s5).bind fun v6 =>
  ((atI p1 s5).bind fun v7 =>
  ((l_eqArbor_m v6 v7).bind fun v8 =>
  (if (!v8) = true then
  some (.inr (.inr false))
  else
  some (.inl (w64 (s5 + 1)))))))
  else
  some (.inr (.inl ())))) 0 : Option (Unit ⊕ Bool)).bind fun v9x => orE v9x fun v9 =>
  some true))

def l_eqMesh_m (p0 : Mesh_) (p1 : Mesh_) : Option Bool :=
  (if p0.A ≠ p1.A then
  some false
  else
  (if p0.WheelA ≠ p1.WheelA then
  some false
  else
  (if p0.B ≠ p1.B then
  some false
  else
  (if p0.WheelB ≠ p1.WheelB then
  some false
  else
  some true))))

def l_eqMeshS_m (p0 : List Mesh_) (p1 : List Mesh_) : Option Bool :=
  (if (p0.length : Int) ≠ (p1.length : Int) then
  some false
  else
  ((loopM (S := Int) (X := Unit ⊕ Bool) (fun s5 =>
  (if s5 < (p0.length : Int) then
  ((atI p0 s5).bind fun v6 =>
  ((atI p1 s5).bind fun v7 =>
  ((l_eqMesh_m v6 v7).bind fun v8 =>
  (if (!v8) = true then
  some (.inr (.inr false))
  else
  some (.inl (w64 (s5 + 1)))))))
  else
  some (.inr (.inl ())))) 0 : Option (Unit ⊕ Bool)).bind fun v9x => orE v9x fun v9 =>
  some true))

def l_eqWorks_m (p0 : Works_) (p1 : Works_) : Option Bool :=
  ((l_eqArborS_m p0.Arbors p1.Arbors).bind fun v1 =>
  (if (!v1) = true then
  some false
  else
  ((l_eqMeshS_m p0.Meshes p1.Meshes).bind fun v2 =>
  (if (!v2) = true then
  some false
  else
  some true))))

def l_eqMonth_m (p0 : Month_) (p1 : Month_) : Option Bool :=
  (if p0.Name ≠ p1.Name then
  some false
  else
  (if p0.Days ≠ p1.Days then
  some false
  else
  (if p0.Leap ≠ p1.Leap then
  some false
  else
  some true)))

def l_eqMonthS_m (p0 : List Month_) (p1 : List Month_) : Option Bool :=
  (if (p0.length : Int) ≠ (p1.length : Int) then
  some false
  else
  ((loopM (S := Int) (X := Unit ⊕ Bool) (fun s5 =>
  (if s5 < (p0.length : Int) then
  ((atI p0 s5).bind fun v6 =>
  ((atI p1 s5).bind fun v7 =>
  ((l_eqMonth_m v6 v7).bind fun v8 =>
  (if (!v8) = true then
  some (.inr (.inr false))
  else
  some (.inl (w64 (s5 + 1)))))))
  else
  some (.inr (.inl ())))) 0 : Option (Unit ⊕ Bool)).bind fun v9x => orE v9x fun v9 =>
  some true))

def l_eqLeapRule_m (p0 : LeapRule_) (p1 : LeapRule_) : Option Bool :=
  (if p0.Every ≠ p1.Every then
  some false
  else
  (if p0.Rest ≠ p1.Rest then
  some false
  else
  (if (p0.Leap != p1.Leap) = true then
  some false
  else
  some true)))

def l_eqLeapRuleS_m (p0 : List LeapRule_) (p1 : List LeapRule_) : Option Bool :=
  (if (p0.length : Int) ≠ (p1.length : Int) then
  some false
  else
  ((loopM (S := Int) (X := Unit ⊕ Bool) (fun s5 =>
  (if s5 < (p0.length : Int) then
  ((atI p0 s5).bind fun v6 =>
  ((atI p1 s5).bind fun v7 =>
  ((l_eqLeapRule_m v6 v7).bind fun v8 =>
  (if (!v8) = true then
  some (.inr (.inr false))
  else
  some (.inl (w64 (s5 + 1)))))))
  else
  some (.inr (.inl ())))) 0 : Option (Unit ⊕ Bool)).bind fun v9x => orE v9x fun v9 =>
  some true))

def l_eqCalendar_m (p0 : Calendar_) (p1 : Calendar_) : Option Bool :=
  (if p0.Name ≠ p1.Name then
  some false
  else
  ((l_eqMonthS_m p0.Months p1.Months).bind fun v1 =>
  (if (!v1) = true then
  some false
  else
  ((l_eqLeapRuleS_m p0.Rules p1.Rules).bind fun v2 =>
  (if (!v2) = true then
  some false
  else
  (if p0.Week ≠ p1.Week then
  some false
  else
  some true))))))

def l_eqMovement_m (p0 : Movement_) (p1 : Movement_) : Option Bool :=
  (if p0.Name ≠ p1.Name then
  some false
  else
  ((l_eqWorks_m p0.Works p1.Works).bind fun v1 =>
  (if (!v1) = true then
  some false
  else
  (if p0.Minute ≠ p1.Minute then
  some false
  else
  (if p0.Hour ≠ p1.Hour then
  some false
  else
  (if p0.Escape ≠ p1.Escape then
  some false
  else
  (if p0.Teeth ≠ p1.Teeth then
  some false
  else
  (if p0.Beats ≠ p1.Beats then
  some false
  else
  ((l_eqCalendar_m p0.Calendar p1.Calendar).bind fun v2 =>
  (if (!v2) = true then
  some false
  else
  ((l_eqInt64S_m p0.Cam p1.Cam).bind fun v3 =>
  (if (!v3) = true then
  some false
  else
  (if p0.Strike ≠ p1.Strike then
  some false
  else
  some true)))))))))))))

def l_eqDate_m (p0 : Date_) (p1 : Date_) : Option Bool :=
  (if p0.Year ≠ p1.Year then
  some false
  else
  (if p0.Month ≠ p1.Month then
  some false
  else
  (if p0.Day ≠ p1.Day then
  some false
  else
  some true)))

def l_eqPerpetual_m (p0 : Perpetual_) (p1 : Perpetual_) : Option Bool :=
  ((l_eqInt64S_m p0.Cam p1.Cam).bind fun v1 =>
  (if (!v1) = true then
  some false
  else
  (if p0.Months ≠ p1.Months then
  some false
  else
  (if p0.Teeth ≠ p1.Teeth then
  some false
  else
  (if p0.At ≠ p1.At then
  some false
  else
  (if p0.Day ≠ p1.Day then
  some false
  else
  (if p0.Week ≠ p1.Week then
  some false
  else
  (if p0.Weekday ≠ p1.Weekday then
  some false
  else
  some true))))))))

def l_eqSim_m (p0 : Sim_) (p1 : Sim_) : Option Bool :=
  ((l_eqMovement_m p0.Movement p1.Movement).bind fun v1 =>
  (if (!v1) = true then
  some false
  else
  ((l_eqDate_m p0.Start p1.Start).bind fun v2 =>
  (if (!v2) = true then
  some false
  else
  (if p0.First ≠ p1.First then
  some false
  else
  (if p0.Clock ≠ p1.Clock then
  some false
  else
  ((l_eqPerpetual_m p0.Dial p1.Dial).bind fun v3 =>
  (if (!v3) = true then
  some false
  else
  some true))))))))

def l_markText_m (p0 : Int) : Option ByteArray :=
  (if p0 ≤ 0 then
  some (⟨#[109, 48]⟩ : ByteArray)
  else
  ((loopM (S := Int × ByteArray) (X := ByteArray) (fun s5 =>
  (if 0 < s5.1 then
  (chk ((strOfNums [IntKind.u8.wrap (w64 (48 + (s5.1.tmod 10)))]).size + s5.2.size ≤ 9223372036854775807) (
  some (.inl (w64 (s5.1.tdiv 10), (strOfNums [IntKind.u8.wrap (w64 (48 + (s5.1.tmod 10)))]) ++ s5.2))))
  else
  some (.inr s5.2))) (p0, (⟨#[]⟩ : ByteArray)) : Option ByteArray).bind fun v9 =>
  (chk ((⟨#[109]⟩ : ByteArray).size + v9.size ≤ 9223372036854775807) (
  some ((⟨#[109]⟩ : ByteArray) ++ v9)))))

def l_markInt64S_o_m (p0 : List Int) (p1 : Int) : Option (Int × List Int) :=
  ((loopM (S := Int × Int × List Int) (X := Int × List Int) (fun s3 =>
  (if s3.2.1 < (s3.2.2.length : Int) then
  ((atI s3.2.2 s3.2.1).bind fun v4 =>
  some (.inl (w64 (s3.1 + 1), w64 (s3.2.1 + 1), List.set s3.2.2 s3.2.1.toNat s3.1)))
  else
  some (.inr (s3.1, s3.2.2)))) (p1, 0, p0) : Option (Int × List Int)).bind fun v5 =>
  some (v5.1, v5.2))

def l_markArborS_o_m (p0 : List Arbor_) (p1 : Int) : Option (Int × List Arbor_) :=
  ((loopM (S := Int × Int × List Arbor_) (X := Int × List Arbor_) (fun s7 =>
  (if s7.2.1 < (s7.2.2.length : Int) then
  ((l_markText_m s7.1).bind fun v8 =>
  ((atI s7.2.2 s7.2.1).bind fun v9 =>
  ((atI (List.set s7.2.2 s7.2.1.toNat (⟨v8, v9.Wheels⟩ : Arbor_)) s7.2.1).bind fun v10 =>
  ((l_markInt64S_o_m v10.Wheels (w64 (s7.1 + 1))).bind fun v11 =>
  (chk (v11.2.length = v10.Wheels.length) (
  some (.inl (v11.1, w64 (s7.2.1 + 1), List.set (List.set s7.2.2 s7.2.1.toNat (⟨v8, v9.Wheels⟩ : Arbor_)) s7.2.1.toNat (⟨v10.Name, v11.2⟩ : Arbor_)))))))))
  else
  some (.inr (s7.1, s7.2.2)))) (p1, 0, p0) : Option (Int × List Arbor_)).bind fun v13 =>
  some (v13.1, v13.2))

def l_markMeshS_o_m (p0 : List Mesh_) (p1 : Int) : Option (Int × List Mesh_) :=
  ((loopM (S := Int × Int × List Mesh_) (X := Int × List Mesh_) (fun s6 =>
  (if s6.2.1 < (s6.2.2.length : Int) then
  ((atI s6.2.2 s6.2.1).bind fun v7 =>
  ((atI (List.set s6.2.2 s6.2.1.toNat (⟨s6.1, v7.WheelA, v7.B, v7.WheelB⟩ : Mesh_)) s6.2.1).bind fun v8 =>
  ((atI (List.set (List.set s6.2.2 s6.2.1.toNat (⟨s6.1, v7.WheelA, v7.B, v7.WheelB⟩ : Mesh_)) s6.2.1.toNat (⟨v8.A, w64 (s6.1 + 1), v8.B, v8.WheelB⟩ : Mesh_)) s6.2.1).bind fun v9 =>
  ((atI (List.set (List.set (List.set s6.2.2 s6.2.1.toNat (⟨s6.1, v7.WheelA, v7.B, v7.WheelB⟩ : Mesh_)) s6.2.1.toNat (⟨v8.A, w64 (s6.1 + 1), v8.B, v8.WheelB⟩ : Mesh_)) s6.2.1.toNat (⟨v9.A, v9.WheelA, w64 ((w64 (s6.1 + 1)) + 1), v9.WheelB⟩ : Mesh_)) s6.2.1).bind fun v10 =>
  some (.inl (w64 ((w64 ((w64 ((w64 (s6.1 + 1)) + 1)) + 1)) + 1), w64 (s6.2.1 + 1), List.set (List.set (List.set (List.set s6.2.2 s6.2.1.toNat (⟨s6.1, v7.WheelA, v7.B, v7.WheelB⟩ : Mesh_)) s6.2.1.toNat (⟨v8.A, w64 (s6.1 + 1), v8.B, v8.WheelB⟩ : Mesh_)) s6.2.1.toNat (⟨v9.A, v9.WheelA, w64 ((w64 (s6.1 + 1)) + 1), v9.WheelB⟩ : Mesh_)) s6.2.1.toNat (⟨v10.A, v10.WheelA, v10.B, w64 ((w64 ((w64 (s6.1 + 1)) + 1)) + 1)⟩ : Mesh_)))))))
  else
  some (.inr (s6.1, s6.2.2)))) (p1, 0, p0) : Option (Int × List Mesh_)).bind fun v11 =>
  some (v11.1, v11.2))

def l_markWorks_o_m (p0 : Works_) (p1 : Int) : Option (Int × List Arbor_ × List Mesh_) :=
  ((l_markArborS_o_m p0.Arbors p1).bind fun v1 =>
  (chk (v1.2.length = p0.Arbors.length) (
  ((l_markMeshS_o_m p0.Meshes v1.1).bind fun v3 =>
  (chk (v3.2.length = p0.Meshes.length) (
  some (v3.1, v1.2, v3.2)))))))

def l_markMonthS_o_m (p0 : List Month_) (p1 : Int) : Option (Int × List Month_) :=
  ((loopM (S := Int × Int × List Month_) (X := Int × List Month_) (fun s6 =>
  (if s6.2.1 < (s6.2.2.length : Int) then
  ((l_markText_m s6.1).bind fun v7 =>
  ((atI s6.2.2 s6.2.1).bind fun v8 =>
  ((atI (List.set s6.2.2 s6.2.1.toNat (⟨v7, v8.Days, v8.Leap⟩ : Month_)) s6.2.1).bind fun v9 =>
  ((atI (List.set (List.set s6.2.2 s6.2.1.toNat (⟨v7, v8.Days, v8.Leap⟩ : Month_)) s6.2.1.toNat (⟨v9.Name, w64 (s6.1 + 1), v9.Leap⟩ : Month_)) s6.2.1).bind fun v10 =>
  some (.inl (w64 ((w64 ((w64 (s6.1 + 1)) + 1)) + 1), w64 (s6.2.1 + 1), List.set (List.set (List.set s6.2.2 s6.2.1.toNat (⟨v7, v8.Days, v8.Leap⟩ : Month_)) s6.2.1.toNat (⟨v9.Name, w64 (s6.1 + 1), v9.Leap⟩ : Month_)) s6.2.1.toNat (⟨v10.Name, v10.Days, w64 ((w64 (s6.1 + 1)) + 1)⟩ : Month_)))))))
  else
  some (.inr (s6.1, s6.2.2)))) (p1, 0, p0) : Option (Int × List Month_)).bind fun v11 =>
  some (v11.1, v11.2))

def l_markLeapRuleS_o_m (p0 : List LeapRule_) (p1 : Int) : Option (Int × List LeapRule_) :=
  ((loopM (S := Int × Int × List LeapRule_) (X := Int × List LeapRule_) (fun s6 =>
  (if s6.2.1 < (s6.2.2.length : Int) then
  ((atI s6.2.2 s6.2.1).bind fun v7 =>
  ((atI (List.set s6.2.2 s6.2.1.toNat (⟨s6.1, v7.Rest, v7.Leap⟩ : LeapRule_)) s6.2.1).bind fun v8 =>
  ((atI (List.set (List.set s6.2.2 s6.2.1.toNat (⟨s6.1, v7.Rest, v7.Leap⟩ : LeapRule_)) s6.2.1.toNat (⟨v8.Every, w64 (s6.1 + 1), v8.Leap⟩ : LeapRule_)) s6.2.1).bind fun v10 =>
  some (.inl (w64 ((w64 ((w64 (s6.1 + 1)) + 1)) + 1), w64 (s6.2.1 + 1), List.set (List.set (List.set s6.2.2 s6.2.1.toNat (⟨s6.1, v7.Rest, v7.Leap⟩ : LeapRule_)) s6.2.1.toNat (⟨v8.Every, w64 (s6.1 + 1), v8.Leap⟩ : LeapRule_)) s6.2.1.toNat (⟨v10.Every, v10.Rest, decide (((w64 ((w64 (s6.1 + 1)) + 1)).tmod 3) = 0)⟩ : LeapRule_))))))
  else
  some (.inr (s6.1, s6.2.2)))) (p1, 0, p0) : Option (Int × List LeapRule_)).bind fun v11 =>
  some (v11.1, v11.2))

def l_markCalendar_o_m (p0 : Calendar_) (p1 : Int) : Option (Int × List Month_ × List LeapRule_) :=
  ((l_markMonthS_o_m p0.Months p1).bind fun v1 =>
  (chk (v1.2.length = p0.Months.length) (
  ((l_markLeapRuleS_o_m p0.Rules v1.1).bind fun v3 =>
  (chk (v3.2.length = p0.Rules.length) (
  some (v3.1, v1.2, v3.2)))))))

def l_markMovement_o_m (p0 : Movement_) (p1 : Int) : Option (Int × List Arbor_ × List Mesh_ × List Month_ × List LeapRule_ × List Int) :=
  ((l_markWorks_o_m p0.Works p1).bind fun v1 =>
  (chk (v1.2.1.length = p0.Works.Arbors.length) (
  (chk (v1.2.2.length = p0.Works.Meshes.length) (
  ((l_markCalendar_o_m p0.Calendar v1.1).bind fun v4 =>
  (chk (v4.2.1.length = p0.Calendar.Months.length) (
  (chk (v4.2.2.length = p0.Calendar.Rules.length) (
  ((l_markInt64S_o_m p0.Cam v4.1).bind fun v7 =>
  (chk (v7.2.length = p0.Cam.length) (
  some (v7.1, v1.2.1, v1.2.2, v4.2.1, v4.2.2, v7.2))))))))))))))

def l_markPerpetual_o_m (p0 : Perpetual_) (p1 : Int) : Option (Int × List Int) :=
  ((l_markInt64S_o_m p0.Cam p1).bind fun v1 =>
  (chk (v1.2.length = p0.Cam.length) (
  some (v1.1, v1.2))))

def l_markSim_o_m (p0 : Sim_) (p1 : Int) : Option (Int × List Arbor_ × List Mesh_ × List Month_ × List LeapRule_ × List Int × List Int) :=
  ((l_markMovement_o_m p0.Movement p1).bind fun v1 =>
  (chk (v1.2.1.length = p0.Movement.Works.Arbors.length) (
  (chk (v1.2.2.1.length = p0.Movement.Works.Meshes.length) (
  (chk (v1.2.2.2.1.length = p0.Movement.Calendar.Months.length) (
  (chk (v1.2.2.2.2.1.length = p0.Movement.Calendar.Rules.length) (
  (chk (v1.2.2.2.2.2.length = p0.Movement.Cam.length) (
  ((l_markPerpetual_o_m p0.Dial v1.1).bind fun v7 =>
  (chk (v7.2.length = p0.Dial.Cam.length) (
  some (v7.1, v1.2.1, v1.2.2.1, v1.2.2.2.1, v1.2.2.2.2.1, v1.2.2.2.2.2, v7.2)))))))))))))))

def l_heldInt64S_m (p0 : List Int) (p1 : Int) : Option Int :=
  ((loopM (S := Int × Int) (X := Int ⊕ Int) (fun s3 =>
  (if s3.2 < (p0.length : Int) then
  ((atI p0 s3.2).bind fun v4 =>
  (if v4 ≠ s3.1 then
  some (.inr (.inr (-1)))
  else
  some (.inl (w64 (s3.1 + 1), w64 (s3.2 + 1)))))
  else
  some (.inr (.inl s3.1)))) (p1, 0) : Option (Int ⊕ Int)).bind fun v5x => orE v5x fun v5 =>
  some v5)

def l_heldArborS_m (p0 : List Arbor_) (p1 : Int) : Option Int :=
  ((loopM (S := Int × Int) (X := Int ⊕ Int) (fun s6 =>
  (if s6.2 < (p0.length : Int) then
  ((atI p0 s6.2).bind fun v7 =>
  ((l_markText_m s6.1).bind fun v8 =>
  (if v7.Name ≠ v8 then
  some (.inr (.inr (-1)))
  else
  ((atI p0 s6.2).bind fun v9 =>
  ((l_heldInt64S_m v9.Wheels (w64 (s6.1 + 1))).bind fun v10 =>
  (if v10 < 0 then
  some (.inr (.inr (-1)))
  else
  some (.inl (v10, w64 (s6.2 + 1)))))))))
  else
  some (.inr (.inl s6.1)))) (p1, 0) : Option (Int ⊕ Int)).bind fun v11x => orE v11x fun v11 =>
  some v11)

def l_heldMeshS_m (p0 : List Mesh_) (p1 : Int) : Option Int :=
  ((loopM (S := Int × Int) (X := Int ⊕ Int) (fun s6 =>
  (if s6.2 < (p0.length : Int) then
  ((atI p0 s6.2).bind fun v7 =>
  (if v7.A ≠ s6.1 then
  some (.inr (.inr (-1)))
  else
  ((atI p0 s6.2).bind fun v8 =>
  (if v8.WheelA ≠ (w64 (s6.1 + 1)) then
  some (.inr (.inr (-1)))
  else
  ((atI p0 s6.2).bind fun v9 =>
  (if v9.B ≠ (w64 ((w64 (s6.1 + 1)) + 1)) then
  some (.inr (.inr (-1)))
  else
  ((atI p0 s6.2).bind fun v10 =>
  (if v10.WheelB ≠ (w64 ((w64 ((w64 (s6.1 + 1)) + 1)) + 1)) then
  some (.inr (.inr (-1)))
  else
  some (.inl (w64 ((w64 ((w64 ((w64 (s6.1 + 1)) + 1)) + 1)) + 1), w64 (s6.2 + 1)))))))))))
  else
  some (.inr (.inl s6.1)))) (p1, 0) : Option (Int ⊕ Int)).bind fun v11x => orE v11x fun v11 =>
  some v11)

def l_heldWorks_m (p0 : Works_) (p1 : Int) : Option Int :=
  ((l_heldArborS_m p0.Arbors p1).bind fun v1 =>
  (if v1 < 0 then
  some (-1)
  else
  ((l_heldMeshS_m p0.Meshes v1).bind fun v2 =>
  (if v2 < 0 then
  some (-1)
  else
  some v2))))

def l_heldMonthS_m (p0 : List Month_) (p1 : Int) : Option Int :=
  ((loopM (S := Int × Int) (X := Int ⊕ Int) (fun s6 =>
  (if s6.2 < (p0.length : Int) then
  ((atI p0 s6.2).bind fun v7 =>
  ((l_markText_m s6.1).bind fun v8 =>
  (if v7.Name ≠ v8 then
  some (.inr (.inr (-1)))
  else
  ((atI p0 s6.2).bind fun v9 =>
  (if v9.Days ≠ (w64 (s6.1 + 1)) then
  some (.inr (.inr (-1)))
  else
  ((atI p0 s6.2).bind fun v10 =>
  (if v10.Leap ≠ (w64 ((w64 (s6.1 + 1)) + 1)) then
  some (.inr (.inr (-1)))
  else
  some (.inl (w64 ((w64 ((w64 (s6.1 + 1)) + 1)) + 1), w64 (s6.2 + 1))))))))))
  else
  some (.inr (.inl s6.1)))) (p1, 0) : Option (Int ⊕ Int)).bind fun v11x => orE v11x fun v11 =>
  some v11)

def l_heldLeapRuleS_m (p0 : List LeapRule_) (p1 : Int) : Option Int :=
  ((loopM (S := Int × Int) (X := Int ⊕ Int) (fun s6 =>
  (if s6.2 < (p0.length : Int) then
  ((atI p0 s6.2).bind fun v7 =>
  (if v7.Every ≠ s6.1 then
  some (.inr (.inr (-1)))
  else
  ((atI p0 s6.2).bind fun v8 =>
  (if v8.Rest ≠ (w64 (s6.1 + 1)) then
  some (.inr (.inr (-1)))
  else
  ((atI p0 s6.2).bind fun v9 =>
  (if (v9.Leap != (decide (((w64 ((w64 (s6.1 + 1)) + 1)).tmod 3) = 0))) = true then
  some (.inr (.inr (-1)))
  else
  some (.inl (w64 ((w64 ((w64 (s6.1 + 1)) + 1)) + 1), w64 (s6.2 + 1)))))))))
  else
  some (.inr (.inl s6.1)))) (p1, 0) : Option (Int ⊕ Int)).bind fun v11x => orE v11x fun v11 =>
  some v11)

def l_heldCalendar_m (p0 : Calendar_) (p1 : Int) : Option Int :=
  ((l_heldMonthS_m p0.Months p1).bind fun v1 =>
  (if v1 < 0 then
  some (-1)
  else
  ((l_heldLeapRuleS_m p0.Rules v1).bind fun v2 =>
  (if v2 < 0 then
  some (-1)
  else
  some v2))))

def l_heldMovement_m (p0 : Movement_) (p1 : Int) : Option Int :=
  ((l_heldWorks_m p0.Works p1).bind fun v1 =>
  (if v1 < 0 then
  some (-1)
  else
  ((l_heldCalendar_m p0.Calendar v1).bind fun v2 =>
  (if v2 < 0 then
  some (-1)
  else
  ((l_heldInt64S_m p0.Cam v2).bind fun v3 =>
  (if v3 < 0 then
  some (-1)
  else
  some v3))))))

def l_heldPerpetual_m (p0 : Perpetual_) (p1 : Int) : Option Int :=
  ((l_heldInt64S_m p0.Cam p1).bind fun v1 =>
  (if v1 < 0 then
  some (-1)
  else
  some v1))

def l_heldSim_m (p0 : Sim_) (p1 : Int) : Option Int :=
  ((l_heldMovement_m p0.Movement p1).bind fun v1 =>
  (if v1 < 0 then
  some (-1)
  else
  ((l_heldPerpetual_m p0.Dial v1).bind fun v2 =>
  (if v2 < 0 then
  some (-1)
  else
  some v2))))

def s_l18Steps_m (p0 : Perpetual_) : Option Int :=
  ((atI p0.Cam p0.At).bind fun v1 =>
  (if p0.Day = v1 then
  some (w64 ((w64 (p0.Teeth + 1)) - p0.Day))
  else
  some 1))

def s_l18Move_Sim_4_m (p0 : Sim_) (p1 : Int) : Option Sim_ :=
  (if p0.Dial.Teeth < (w64 (p0.Dial.Day + p1)) then
  (chk ((p0.Dial.Cam.length : Int) ≠ 0) (
  some (⟨p0.Movement, p0.Start, p0.First, p0.Clock, (⟨p0.Dial.Cam, p0.Dial.Months, p0.Dial.Teeth, (w64 (p0.Dial.At + 1)).tmod (p0.Dial.Cam.length : Int), w64 ((w64 (p0.Dial.Day + p1)) - p0.Dial.Teeth), p0.Dial.Week, p0.Dial.Weekday⟩ : Perpetual_)⟩ : Sim_)))
  else
  some (⟨p0.Movement, p0.Start, p0.First, p0.Clock, (⟨p0.Dial.Cam, p0.Dial.Months, p0.Dial.Teeth, p0.Dial.At, w64 (p0.Dial.Day + p1), p0.Dial.Week, p0.Dial.Weekday⟩ : Perpetual_)⟩ : Sim_))

def s_l18Night_Sim_4_m (p0 : Sim_) : Option Sim_ :=
  ((s_l18Steps_m p0.Dial).bind fun v1 =>
  ((s_l18Move_Sim_4_m p0 v1).bind fun v2 =>
  (chk (v2.Dial.Week ≠ 0) (
  some (⟨v2.Movement, v2.Start, v2.First, v2.Clock, (⟨v2.Dial.Cam, v2.Dial.Months, v2.Dial.Teeth, v2.Dial.At, v2.Dial.Day, v2.Dial.Week, w64 ((v2.Dial.Weekday.tmod v2.Dial.Week) + 1)⟩ : Perpetual_)⟩ : Sim_)))))

def s_l27Blows_m (p0 : Int) : Option Int :=
  some (w64 ((w64 ((w64 (p0.tdiv 12)) * 78)) + (w64 ((w64 ((p0.tmod 12) * (w64 ((p0.tmod 12) + 1)))).tdiv 2))))

def s_BlowsBetween_m (p0 : Int) (p1 : Int) (p2 : Int) : Option (Int × Int) :=
  ((((s_l00In_m p0 0 2).bind fun v1 =>
  (if (!v1) = true then
  some true
  else
  ((s_l00In_m p1 0 p2).bind fun v2 =>
  (if (!v2) = true then
  some true
  else
  some (decide (1000000000 < p2)))))) : Option Bool).bind fun v3 =>
  (if v3 = true then
  some (0, 2)
  else
  (if p0 = 0 then
  some (0, 0)
  else
  ((s_l27Blows_m (w64 (p2.tdiv 3600))).bind fun v5 =>
  ((s_l27Blows_m (w64 (p1.tdiv 3600))).bind fun v7 =>
  some (w64 (v5 - v7), 0))))))

def s_RunSim_m (p0 : Sim_) (p1 : Int) : Option (Sim_ × Int × Int) :=
  ((s_l27Ok_m p0).bind fun v1 =>
  (if (!v1) = true then
  some ((⟨(⟨(⟨#[]⟩ : ByteArray), (⟨([] : List Arbor_), ([] : List Mesh_)⟩ : Works_), 0, 0, 0, 0, 0, (⟨(⟨#[]⟩ : ByteArray), ([] : List Month_), ([] : List LeapRule_), 0⟩ : Calendar_), ([] : List Int), 0⟩ : Movement_), (⟨0, 0, 0⟩ : Date_), 0, 0, (⟨([] : List Int), 0, 0, 0, 0, 0, 0⟩ : Perpetual_)⟩ : Sim_), 0, 1)
  else
  ((((s_l00In_m p1 0 3000000).bind fun v2 =>
  (if (!v2) = true then
  some true
  else
  some (decide (1000000000 < (w64 (p0.Clock + p1)))))) : Option Bool).bind fun v3 =>
  (if v3 = true then
  some ((⟨(⟨(⟨#[]⟩ : ByteArray), (⟨([] : List Arbor_), ([] : List Mesh_)⟩ : Works_), 0, 0, 0, 0, 0, (⟨(⟨#[]⟩ : ByteArray), ([] : List Month_), ([] : List LeapRule_), 0⟩ : Calendar_), ([] : List Int), 0⟩ : Movement_), (⟨0, 0, 0⟩ : Date_), 0, 0, (⟨([] : List Int), 0, 0, 0, 0, 0, 0⟩ : Perpetual_)⟩ : Sim_), 0, 2)
  else
  ((s_l27Own_m p0).bind fun v4 =>
  ((loopM (S := Int × ByteArray × Int × Int × Int × Int × Int × ByteArray × Int × Int × Date_ × Int × Int × Int × Int × Int × Int × Int × Int × List Arbor_ × List Mesh_ × List Month_ × List LeapRule_ × List Int × List Int) (X := ByteArray × Int × Int × Int × Int × Int × ByteArray × Int × Int × Date_ × Int × Int × Int × Int × Int × Int × Int × Int × List Arbor_ × List Mesh_ × List Month_ × List LeapRule_ × List Int × List Int) (fun s9 =>
  (if s9.1 < (w64 (s9.2.2.2.2.2.2.2.2.2.2.2.2.1.tdiv 86400)) then
  ((s_l18Night_Sim_4_m (⟨(⟨s9.2.1, (⟨s9.2.2.2.2.2.2.2.2.2.2.2.2.2.2.2.2.2.2.2.1, s9.2.2.2.2.2.2.2.2.2.2.2.2.2.2.2.2.2.2.2.2.1⟩ : Works_), s9.2.2.1, s9.2.2.2.1, s9.2.2.2.2.1, s9.2.2.2.2.2.1, s9.2.2.2.2.2.2.1, (⟨s9.2.2.2.2.2.2.2.1, s9.2.2.2.2.2.2.2.2.2.2.2.2.2.2.2.2.2.2.2.2.2.1, s9.2.2.2.2.2.2.2.2.2.2.2.2.2.2.2.2.2.2.2.2.2.2.1, s9.2.2.2.2.2.2.2.2.1⟩ : Calendar_), s9.2.2.2.2.2.2.2.2.2.2.2.2.2.2.2.2.2.2.2.2.2.2.2.1, s9.2.2.2.2.2.2.2.2.2.1⟩ : Movement_), s9.2.2.2.2.2.2.2.2.2.2.1, s9.2.2.2.2.2.2.2.2.2.2.2.1, s9.2.2.2.2.2.2.2.2.2.2.2.2.1, (⟨s9.2.2.2.2.2.2.2.2.2.2.2.2.2.2.2.2.2.2.2.2.2.2.2.2, s9.2.2.2.2.2.2.2.2.2.2.2.2.2.1, s9.2.2.2.2.2.2.2.2.2.2.2.2.2.2.1, s9.2.2.2.2.2.2.2.2.2.2.2.2.2.2.2.1, s9.2.2.2.2.2.2.2.2.2.2.2.2.2.2.2.2.1, s9.2.2.2.2.2.2.2.2.2.2.2.2.2.2.2.2.2.1, s9.2.2.2.2.2.2.2.2.2.2.2.2.2.2.2.2.2.2.1⟩ : Perpetual_)⟩ : Sim_)).bind fun v11 =>
  some (.inl (w64 (s9.1 + 1), v11.Movement.Name, v11.Movement.Minute, v11.Movement.Hour, v11.Movement.Escape, v11.Movement.Teeth, v11.Movement.Beats, v11.Movement.Calendar.Name, v11.Movement.Calendar.Week, v11.Movement.Strike, v11.Start, v11.First, v11.Clock, v11.Dial.Months, v11.Dial.Teeth, v11.Dial.At, v11.Dial.Day, v11.Dial.Week, v11.Dial.Weekday, v11.Movement.Works.Arbors, v11.Movement.Works.Meshes, v11.Movement.Calendar.Months, v11.Movement.Calendar.Rules, v11.Movement.Cam, v11.Dial.Cam)))
  else
  some (.inr (s9.2.1, s9.2.2.1, s9.2.2.2.1, s9.2.2.2.2.1, s9.2.2.2.2.2.1, s9.2.2.2.2.2.2.1, s9.2.2.2.2.2.2.2.1, s9.2.2.2.2.2.2.2.2.1, s9.2.2.2.2.2.2.2.2.2.1, s9.2.2.2.2.2.2.2.2.2.2.1, s9.2.2.2.2.2.2.2.2.2.2.2.1, s9.2.2.2.2.2.2.2.2.2.2.2.2.1, s9.2.2.2.2.2.2.2.2.2.2.2.2.2.1, s9.2.2.2.2.2.2.2.2.2.2.2.2.2.2.1, s9.2.2.2.2.2.2.2.2.2.2.2.2.2.2.2.1, s9.2.2.2.2.2.2.2.2.2.2.2.2.2.2.2.2.1, s9.2.2.2.2.2.2.2.2.2.2.2.2.2.2.2.2.2.1, s9.2.2.2.2.2.2.2.2.2.2.2.2.2.2.2.2.2.2.1, s9.2.2.2.2.2.2.2.2.2.2.2.2.2.2.2.2.2.2.2.1, s9.2.2.2.2.2.2.2.2.2.2.2.2.2.2.2.2.2.2.2.2.1, s9.2.2.2.2.2.2.2.2.2.2.2.2.2.2.2.2.2.2.2.2.2.1, s9.2.2.2.2.2.2.2.2.2.2.2.2.2.2.2.2.2.2.2.2.2.2.1, s9.2.2.2.2.2.2.2.2.2.2.2.2.2.2.2.2.2.2.2.2.2.2.2.1, s9.2.2.2.2.2.2.2.2.2.2.2.2.2.2.2.2.2.2.2.2.2.2.2.2)))) (w64 (p0.Clock.tdiv 86400), v4.Movement.Name, v4.Movement.Minute, v4.Movement.Hour, v4.Movement.Escape, v4.Movement.Teeth, v4.Movement.Beats, v4.Movement.Calendar.Name, v4.Movement.Calendar.Week, v4.Movement.Strike, v4.Start, v4.First, w64 (v4.Clock + p1), v4.Dial.Months, v4.Dial.Teeth, v4.Dial.At, v4.Dial.Day, v4.Dial.Week, v4.Dial.Weekday, v4.Movement.Works.Arbors, v4.Movement.Works.Meshes, v4.Movement.Calendar.Months, v4.Movement.Calendar.Rules, v4.Movement.Cam, v4.Dial.Cam) : Option (ByteArray × Int × Int × Int × Int × Int × ByteArray × Int × Int × Date_ × Int × Int × Int × Int × Int × Int × Int × Int × List Arbor_ × List Mesh_ × List Month_ × List LeapRule_ × List Int × List Int)).bind fun v12 =>
  ((s_BlowsBetween_m p0.Movement.Strike p0.Clock v12.2.2.2.2.2.2.2.2.2.2.2.1).bind fun v13 =>
  some ((⟨(⟨v12.1, (⟨v12.2.2.2.2.2.2.2.2.2.2.2.2.2.2.2.2.2.2.1, v12.2.2.2.2.2.2.2.2.2.2.2.2.2.2.2.2.2.2.2.1⟩ : Works_), v12.2.1, v12.2.2.1, v12.2.2.2.1, v12.2.2.2.2.1, v12.2.2.2.2.2.1, (⟨v12.2.2.2.2.2.2.1, v12.2.2.2.2.2.2.2.2.2.2.2.2.2.2.2.2.2.2.2.2.1, v12.2.2.2.2.2.2.2.2.2.2.2.2.2.2.2.2.2.2.2.2.2.1, v12.2.2.2.2.2.2.2.1⟩ : Calendar_), v12.2.2.2.2.2.2.2.2.2.2.2.2.2.2.2.2.2.2.2.2.2.2.1, v12.2.2.2.2.2.2.2.2.1⟩ : Movement_), v12.2.2.2.2.2.2.2.2.2.1, v12.2.2.2.2.2.2.2.2.2.2.1, v12.2.2.2.2.2.2.2.2.2.2.2.1, (⟨v12.2.2.2.2.2.2.2.2.2.2.2.2.2.2.2.2.2.2.2.2.2.2.2, v12.2.2.2.2.2.2.2.2.2.2.2.2.1, v12.2.2.2.2.2.2.2.2.2.2.2.2.2.1, v12.2.2.2.2.2.2.2.2.2.2.2.2.2.2.1, v12.2.2.2.2.2.2.2.2.2.2.2.2.2.2.2.1, v12.2.2.2.2.2.2.2.2.2.2.2.2.2.2.2.2.1, v12.2.2.2.2.2.2.2.2.2.2.2.2.2.2.2.2.2.1⟩ : Perpetual_)⟩ : Sim_), v13.1, 0))))))))

def i_midnightSteps_m (p0 : Perpetual_) : Option Int :=
  ((atI p0.Cam p0.At).bind fun v1 =>
  (if p0.Day = v1 then
  some (w64 ((w64 (p0.Teeth + 1)) - p0.Day))
  else
  some 1))

def Perpetual_midnight_Sim_4_m (p0 : Sim_) : Option Sim_ :=
  ((i_midnightSteps_m p0.Dial).bind fun v1 =>
  ((Perpetual_moveDate_Sim_4_m p0 v1).bind fun v2 =>
  ((Perpetual_moveWeekday_Sim_4_m v2).bind fun v3 =>
  some v3)))

def i_blowsUntil_m (p0 : Int) : Option Int :=
  some (w64 ((w64 ((w64 (p0.tdiv 12)) * 78)) + (w64 ((w64 ((p0.tmod 12) * (w64 ((p0.tmod 12) + 1)))).tdiv 2))))

def i_BlowsBetween_m (p0 : Int) (p1 : Int) (p2 : Int) : Option (Int × Int) :=
  ((((i_within_m p0 0 2).bind fun v1 =>
  (if (!v1) = true then
  some true
  else
  ((i_within_m p1 0 p2).bind fun v2 =>
  (if (!v2) = true then
  some true
  else
  some (decide (1000000000 < p2)))))) : Option Bool).bind fun v3 =>
  (if v3 = true then
  some (0, 2)
  else
  (if p0 = 0 then
  some (0, 0)
  else
  ((i_blowsUntil_m (w64 (p2.tdiv 3600))).bind fun v5 =>
  ((i_blowsUntil_m (w64 (p1.tdiv 3600))).bind fun v7 =>
  some (w64 (v5 - v7), 0))))))

def i_RunSim_m (p0 : Sim_) (p1 : Int) : Option (Sim_ × Int × Int) :=
  ((i_ValidSim_m p0).bind fun v1 =>
  (if (!v1) = true then
  some ((⟨(⟨(⟨#[]⟩ : ByteArray), (⟨([] : List Arbor_), ([] : List Mesh_)⟩ : Works_), 0, 0, 0, 0, 0, (⟨(⟨#[]⟩ : ByteArray), ([] : List Month_), ([] : List LeapRule_), 0⟩ : Calendar_), ([] : List Int), 0⟩ : Movement_), (⟨0, 0, 0⟩ : Date_), 0, 0, (⟨([] : List Int), 0, 0, 0, 0, 0, 0⟩ : Perpetual_)⟩ : Sim_), 0, 1)
  else
  ((((i_within_m p1 0 3000000).bind fun v2 =>
  (if (!v2) = true then
  some true
  else
  some (decide (1000000000 < (w64 (p0.Clock + p1)))))) : Option Bool).bind fun v3 =>
  (if v3 = true then
  some ((⟨(⟨(⟨#[]⟩ : ByteArray), (⟨([] : List Arbor_), ([] : List Mesh_)⟩ : Works_), 0, 0, 0, 0, 0, (⟨(⟨#[]⟩ : ByteArray), ([] : List Month_), ([] : List LeapRule_), 0⟩ : Calendar_), ([] : List Int), 0⟩ : Movement_), (⟨0, 0, 0⟩ : Date_), 0, 0, (⟨([] : List Int), 0, 0, 0, 0, 0, 0⟩ : Perpetual_)⟩ : Sim_), 0, 2)
  else
  ((i_copySim_m p0).bind fun v4 =>
  ((loopM (S := Int × ByteArray × Int × Int × Int × Int × Int × ByteArray × Int × Int × Date_ × Int × Int × Int × Int × Int × Int × Int × Int × List Arbor_ × List Mesh_ × List Month_ × List LeapRule_ × List Int × List Int) (X := ByteArray × Int × Int × Int × Int × Int × ByteArray × Int × Int × Date_ × Int × Int × Int × Int × Int × Int × Int × Int × List Arbor_ × List Mesh_ × List Month_ × List LeapRule_ × List Int × List Int) (fun s9 =>
  (if 0 < s9.1 then
  ((Perpetual_midnight_Sim_4_m (⟨(⟨s9.2.1, (⟨s9.2.2.2.2.2.2.2.2.2.2.2.2.2.2.2.2.2.2.2.1, s9.2.2.2.2.2.2.2.2.2.2.2.2.2.2.2.2.2.2.2.2.1⟩ : Works_), s9.2.2.1, s9.2.2.2.1, s9.2.2.2.2.1, s9.2.2.2.2.2.1, s9.2.2.2.2.2.2.1, (⟨s9.2.2.2.2.2.2.2.1, s9.2.2.2.2.2.2.2.2.2.2.2.2.2.2.2.2.2.2.2.2.2.1, s9.2.2.2.2.2.2.2.2.2.2.2.2.2.2.2.2.2.2.2.2.2.2.1, s9.2.2.2.2.2.2.2.2.1⟩ : Calendar_), s9.2.2.2.2.2.2.2.2.2.2.2.2.2.2.2.2.2.2.2.2.2.2.2.1, s9.2.2.2.2.2.2.2.2.2.1⟩ : Movement_), s9.2.2.2.2.2.2.2.2.2.2.1, s9.2.2.2.2.2.2.2.2.2.2.2.1, s9.2.2.2.2.2.2.2.2.2.2.2.2.1, (⟨s9.2.2.2.2.2.2.2.2.2.2.2.2.2.2.2.2.2.2.2.2.2.2.2.2, s9.2.2.2.2.2.2.2.2.2.2.2.2.2.1, s9.2.2.2.2.2.2.2.2.2.2.2.2.2.2.1, s9.2.2.2.2.2.2.2.2.2.2.2.2.2.2.2.1, s9.2.2.2.2.2.2.2.2.2.2.2.2.2.2.2.2.1, s9.2.2.2.2.2.2.2.2.2.2.2.2.2.2.2.2.2.1, s9.2.2.2.2.2.2.2.2.2.2.2.2.2.2.2.2.2.2.1⟩ : Perpetual_)⟩ : Sim_)).bind fun v10 =>
  some (.inl (w64 (s9.1 - 1), v10.Movement.Name, v10.Movement.Minute, v10.Movement.Hour, v10.Movement.Escape, v10.Movement.Teeth, v10.Movement.Beats, v10.Movement.Calendar.Name, v10.Movement.Calendar.Week, v10.Movement.Strike, v10.Start, v10.First, v10.Clock, v10.Dial.Months, v10.Dial.Teeth, v10.Dial.At, v10.Dial.Day, v10.Dial.Week, v10.Dial.Weekday, v10.Movement.Works.Arbors, v10.Movement.Works.Meshes, v10.Movement.Calendar.Months, v10.Movement.Calendar.Rules, v10.Movement.Cam, v10.Dial.Cam)))
  else
  some (.inr (s9.2.1, s9.2.2.1, s9.2.2.2.1, s9.2.2.2.2.1, s9.2.2.2.2.2.1, s9.2.2.2.2.2.2.1, s9.2.2.2.2.2.2.2.1, s9.2.2.2.2.2.2.2.2.1, s9.2.2.2.2.2.2.2.2.2.1, s9.2.2.2.2.2.2.2.2.2.2.1, s9.2.2.2.2.2.2.2.2.2.2.2.1, s9.2.2.2.2.2.2.2.2.2.2.2.2.1, s9.2.2.2.2.2.2.2.2.2.2.2.2.2.1, s9.2.2.2.2.2.2.2.2.2.2.2.2.2.2.1, s9.2.2.2.2.2.2.2.2.2.2.2.2.2.2.2.1, s9.2.2.2.2.2.2.2.2.2.2.2.2.2.2.2.2.1, s9.2.2.2.2.2.2.2.2.2.2.2.2.2.2.2.2.2.1, s9.2.2.2.2.2.2.2.2.2.2.2.2.2.2.2.2.2.2.1, s9.2.2.2.2.2.2.2.2.2.2.2.2.2.2.2.2.2.2.2.1, s9.2.2.2.2.2.2.2.2.2.2.2.2.2.2.2.2.2.2.2.2.1, s9.2.2.2.2.2.2.2.2.2.2.2.2.2.2.2.2.2.2.2.2.2.1, s9.2.2.2.2.2.2.2.2.2.2.2.2.2.2.2.2.2.2.2.2.2.2.1, s9.2.2.2.2.2.2.2.2.2.2.2.2.2.2.2.2.2.2.2.2.2.2.2.1, s9.2.2.2.2.2.2.2.2.2.2.2.2.2.2.2.2.2.2.2.2.2.2.2.2)))) (w64 ((w64 ((w64 (v4.Clock + p1)).tdiv 86400)) - (w64 (p0.Clock.tdiv 86400))), v4.Movement.Name, v4.Movement.Minute, v4.Movement.Hour, v4.Movement.Escape, v4.Movement.Teeth, v4.Movement.Beats, v4.Movement.Calendar.Name, v4.Movement.Calendar.Week, v4.Movement.Strike, v4.Start, v4.First, w64 (v4.Clock + p1), v4.Dial.Months, v4.Dial.Teeth, v4.Dial.At, v4.Dial.Day, v4.Dial.Week, v4.Dial.Weekday, v4.Movement.Works.Arbors, v4.Movement.Works.Meshes, v4.Movement.Calendar.Months, v4.Movement.Calendar.Rules, v4.Movement.Cam, v4.Dial.Cam) : Option (ByteArray × Int × Int × Int × Int × Int × ByteArray × Int × Int × Date_ × Int × Int × Int × Int × Int × Int × Int × Int × List Arbor_ × List Mesh_ × List Month_ × List LeapRule_ × List Int × List Int)).bind fun v11 =>
  ((i_BlowsBetween_m v11.2.2.2.2.2.2.2.2.1 p0.Clock v11.2.2.2.2.2.2.2.2.2.2.2.1).bind fun v12 =>
  some ((⟨(⟨v11.1, (⟨v11.2.2.2.2.2.2.2.2.2.2.2.2.2.2.2.2.2.2.1, v11.2.2.2.2.2.2.2.2.2.2.2.2.2.2.2.2.2.2.2.1⟩ : Works_), v11.2.1, v11.2.2.1, v11.2.2.2.1, v11.2.2.2.2.1, v11.2.2.2.2.2.1, (⟨v11.2.2.2.2.2.2.1, v11.2.2.2.2.2.2.2.2.2.2.2.2.2.2.2.2.2.2.2.2.1, v11.2.2.2.2.2.2.2.2.2.2.2.2.2.2.2.2.2.2.2.2.2.1, v11.2.2.2.2.2.2.2.1⟩ : Calendar_), v11.2.2.2.2.2.2.2.2.2.2.2.2.2.2.2.2.2.2.2.2.2.2.1, v11.2.2.2.2.2.2.2.2.1⟩ : Movement_), v11.2.2.2.2.2.2.2.2.2.1, v11.2.2.2.2.2.2.2.2.2.2.1, v11.2.2.2.2.2.2.2.2.2.2.2.1, (⟨v11.2.2.2.2.2.2.2.2.2.2.2.2.2.2.2.2.2.2.2.2.2.2.2, v11.2.2.2.2.2.2.2.2.2.2.2.2.1, v11.2.2.2.2.2.2.2.2.2.2.2.2.2.1, v11.2.2.2.2.2.2.2.2.2.2.2.2.2.2.1, v11.2.2.2.2.2.2.2.2.2.2.2.2.2.2.2.1, v11.2.2.2.2.2.2.2.2.2.2.2.2.2.2.2.2.1, v11.2.2.2.2.2.2.2.2.2.2.2.2.2.2.2.2.2.1⟩ : Perpetual_)⟩ : Sim_), v12.1, 0))))))))

def l_FnExactRunSim_m (p0 : Sim_) (p1 : Int) : Option Bool :=
  ((l_szSim_m p0 1048576).bind fun v1 =>
  (if v1 < 0 then
  some true
  else
  ((l_toSim_m p0).bind fun v2 =>
  ((s_RunSim_m v2 p1).bind fun v3 =>
  ((l_toSim_m p0).bind fun v4 =>
  ((i_RunSim_m v4 p1).bind fun v5 =>
  ((((l_eqSim_m v5.1 v3.1).bind fun v6 =>
  (if (!v6) = true then
  some true
  else
  (if v5.2.1 ≠ v3.2.1 then
  some true
  else
  some (decide (v5.2.2 ≠ v3.2.2))))) : Option Bool).bind fun v7 =>
  (if v7 = true then
  some false
  else
  ((l_toSim_m p0).bind fun v8 =>
  ((l_eqSim_m v4 v8).bind fun v9 =>
  (if (!v9) = true then
  some false
  else
  ((l_markSim_o_m v4 1).bind fun v10 =>
  (chk (v10.2.1.length = v4.Movement.Works.Arbors.length) (
  (chk (v10.2.2.1.length = v4.Movement.Works.Meshes.length) (
  (chk (v10.2.2.2.1.length = v4.Movement.Calendar.Months.length) (
  (chk (v10.2.2.2.2.1.length = v4.Movement.Calendar.Rules.length) (
  (chk (v10.2.2.2.2.2.1.length = v4.Movement.Cam.length) (
  (chk (v10.2.2.2.2.2.2.length = v4.Dial.Cam.length) (
  (((if v10.1 < 0 then
  some true
  else
  ((l_eqSim_m v5.1 v3.1).bind fun v17 =>
  (if (!v17) = true then
  some true
  else
  (if v5.2.1 ≠ v3.2.1 then
  some true
  else
  some (decide (v5.2.2 ≠ v3.2.2)))))) : Option Bool).bind fun v18 =>
  (if v18 = true then
  some false
  else
  ((l_markSim_o_m v5.1 1).bind fun v19 =>
  (chk (v19.2.1.length = v5.1.Movement.Works.Arbors.length) (
  (chk (v19.2.2.1.length = v5.1.Movement.Works.Meshes.length) (
  (chk (v19.2.2.2.1.length = v5.1.Movement.Calendar.Months.length) (
  (chk (v19.2.2.2.2.1.length = v5.1.Movement.Calendar.Rules.length) (
  (chk (v19.2.2.2.2.2.1.length = v5.1.Movement.Cam.length) (
  (chk (v19.2.2.2.2.2.2.length = v5.1.Dial.Cam.length) (
  ((l_heldSim_m (⟨(⟨v5.1.Movement.Name, (⟨v19.2.1, v19.2.2.1⟩ : Works_), v5.1.Movement.Minute, v5.1.Movement.Hour, v5.1.Movement.Escape, v5.1.Movement.Teeth, v5.1.Movement.Beats, (⟨v5.1.Movement.Calendar.Name, v19.2.2.2.1, v19.2.2.2.2.1, v5.1.Movement.Calendar.Week⟩ : Calendar_), v19.2.2.2.2.2.1, v5.1.Movement.Strike⟩ : Movement_), v5.1.Start, v5.1.First, v5.1.Clock, (⟨v19.2.2.2.2.2.2, v5.1.Dial.Months, v5.1.Dial.Teeth, v5.1.Dial.At, v5.1.Dial.Day, v5.1.Dial.Week, v5.1.Dial.Weekday⟩ : Perpetual_)⟩ : Sim_) 1).bind fun v26 =>
  (if v26 < 0 then
  some false
  else
  (if v26 ≠ v19.1 then
  some false
  else
  ((l_toSim_m p0).bind fun v27 =>
  ((i_RunSim_m v27 p1).bind fun v28 =>
  ((((l_eqSim_m v28.1 v3.1).bind fun v29 =>
  (if (!v29) = true then
  some true
  else
  (if v28.2.1 ≠ v3.2.1 then
  some true
  else
  some (decide (v28.2.2 ≠ v3.2.2))))) : Option Bool).bind fun v30 =>
  (if v30 = true then
  some false
  else
  ((l_heldSim_m (⟨(⟨v5.1.Movement.Name, (⟨v19.2.1, v19.2.2.1⟩ : Works_), v5.1.Movement.Minute, v5.1.Movement.Hour, v5.1.Movement.Escape, v5.1.Movement.Teeth, v5.1.Movement.Beats, (⟨v5.1.Movement.Calendar.Name, v19.2.2.2.1, v19.2.2.2.2.1, v5.1.Movement.Calendar.Week⟩ : Calendar_), v19.2.2.2.2.2.1, v5.1.Movement.Strike⟩ : Movement_), v5.1.Start, v5.1.First, v5.1.Clock, (⟨v19.2.2.2.2.2.2, v5.1.Dial.Months, v5.1.Dial.Teeth, v5.1.Dial.At, v5.1.Dial.Day, v5.1.Dial.Week, v5.1.Dial.Weekday⟩ : Perpetual_)⟩ : Sim_) 1).bind fun v31 =>
  (if v31 < 0 then
  some false
  else
  (if v31 ≠ v19.1 then
  some false
  else
  some true)))))))))))))))))))))))))))))))))))))))))))))))))

end Go.Proofs.YtlakbomkpnlidaaGreat
namespace Go.Proofs.YtlakbomkpnlidaaGreat
set_option linter.unusedVariables false
theorem atI_some {α : Type} {xs : List α} {i : Int} (h0 : 0 ≤ i) (h1 : i < xs.length) : ∃ e, atI xs i = some e ∧ e ∈ xs ∧ xs[i.toNat]? = some e := by
  have hl : i.toNat < xs.length := by omega
  refine ⟨xs[i.toNat], ?_, List.getElem_mem hl, List.getElem?_eq_getElem hl⟩
  unfold atI; rw [if_pos h0]; exact List.getElem?_eq_getElem hl
theorem atI_set {α : Type} {xs : List α} {i : Int} {x : α} (h0 : 0 ≤ i) (h1 : i < xs.length) : atI (List.set xs i.toNat x) i = some x := by
  unfold atI; rw [if_pos h0]; exact List.getElem?_set_self (by omega)
theorem chk_true {α : Type} {k : Option α} : chk True k = k := if_pos trivial
theorem w64_inc {i : Int} {n : Nat} (h0 : 0 ≤ i) (h1 : i < n) (hn : n ≤ 9223372036854775807) : w64 (i + 1) = i + 1 := w64_in (by omega) (by omega)
theorem take_set {α : Type} {xs ys : List α} {k : Nat} {e : α} (h : xs[k]? = some e) (hl : ys.length = xs.length) (hy : ys.take k = xs.take k) : (ys.set k e).take (k + 1) = xs.take (k + 1) := by
  have hk : k < xs.length := (List.getElem?_eq_some_iff.1 h).1
  rw [List.take_add_one, List.take_add_one, h, List.getElem?_set_self (by omega), List.take_set_of_le (Nat.le_refl _), hy]
theorem eqS_refl {α : Type} {f : α → α → Option Bool} {xs : List α} (hl : xs.length ≤ 9223372036854775807) (h : ∀ v ∈ xs, f v v = some true) :
    loopM (S := Int) (X := Unit ⊕ Bool) (fun s => (if s < (xs.length : Int) then ((atI xs s).bind fun v => ((atI xs s).bind fun u => ((f v u).bind fun b => (if (!b) = true then some (.inr (.inr false)) else some (.inl (w64 (s + 1))))))) else some (.inr (.inl ())))) 0 = some (.inl ()) := by
  refine loopM_eq (fun (s : Int) => 0 ≤ s ∧ s ≤ xs.length) (fun (s : Int) => ((xs.length : Int) - s).toNat) (fun s hI => ?_) (by omega) (by omega)
  by_cases hs : s < xs.length
  · obtain ⟨e, he, hm, _⟩ := atI_some hI.1 hs
    left
    refine ⟨s + 1, ?_, by omega, by omega⟩
    simp [hs, he, h e hm, w64_inc hI.1 hs hl]
  · right; simp [hs]
theorem eqS_refl' {α : Type} [DecidableEq α] {xs : List α} (hl : xs.length ≤ 9223372036854775807) :
    loopM (S := Int) (X := Unit ⊕ Bool) (fun s => (if s < (xs.length : Int) then ((atI xs s).bind fun v => ((atI xs s).bind fun u => (if v ≠ u then some (.inr (.inr false)) else some (.inl (w64 (s + 1)))))) else some (.inr (.inl ())))) 0 = some (.inl ()) := by
  refine loopM_eq (fun (s : Int) => 0 ≤ s ∧ s ≤ xs.length) (fun (s : Int) => ((xs.length : Int) - s).toNat) (fun s hI => ?_) (by omega) (by omega)
  by_cases hs : s < xs.length
  · obtain ⟨e, he, hm, _⟩ := atI_some hI.1 hs
    left
    refine ⟨s + 1, ?_, by omega, by omega⟩
    simp [hs, he, w64_inc hI.1 hs hl]
  · right; simp [hs]
theorem toS_id {α : Type} {f : α → Option α} {xs : List α} {z : α} (hl : xs.length ≤ 9223372036854775807) (h : ∀ v ∈ xs, f v = some v) :
    loopM (S := Int × List α) (X := List α) (fun s => (if s.1 < (xs.length : Int) then ((atI xs s.1).bind fun v => ((f v).bind fun u => ((atI s.2 s.1).bind fun _ => some (.inl (w64 (s.1 + 1), List.set s.2 (s.1).toNat u))))) else some (.inr s.2))) (0, List.replicate ((xs.length : Int)).toNat z) = some xs := by
  refine loopM_eq (fun (s : Int × List α) => 0 ≤ s.1 ∧ s.1 ≤ xs.length ∧ s.2.length = xs.length ∧ s.2.take s.1.toNat = xs.take s.1.toNat) (fun (s : Int × List α) => ((xs.length : Int) - s.1).toNat) (fun s hI => ?_) (by simp) (by simp; omega)
  obtain ⟨i, ys⟩ := s
  obtain ⟨h0, h1, h2, h3⟩ := hI
  dsimp only at h0 h1 h2 h3 ⊢
  by_cases hs : i < xs.length
  · obtain ⟨e, he, hm, hg⟩ := atI_some h0 hs
    obtain ⟨e2, he2, _, _⟩ := atI_some (xs := ys) h0 (by omega)
    left
    refine ⟨(i + 1, ys.set i.toNat e), ?_, ⟨by omega, by omega, by simpa using h2, ?_⟩, by dsimp only; omega⟩
    · simp [hs, he, he2, h e hm, w64_inc h0 hs hl]
    · have : (i + 1).toNat = i.toNat + 1 := by omega
      dsimp only
      rw [this]
      exact take_set hg h2 h3
  · right
    have hi : i.toNat = xs.length := by omega
    rw [hi, List.take_length, List.take_of_length_le (by omega)] at h3
    simp [hs, h3]
theorem toS_id' {α : Type} {xs : List α} {z : α} (hl : xs.length ≤ 9223372036854775807) :
    loopM (S := Int × List α) (X := List α) (fun s => (if s.1 < (xs.length : Int) then ((atI xs s.1).bind fun v => ((atI s.2 s.1).bind fun _ => some (.inl (w64 (s.1 + 1), List.set s.2 (s.1).toNat v)))) else some (.inr s.2))) (0, List.replicate ((xs.length : Int)).toNat z) = some xs := by
  have := toS_id (f := fun x => some x) (z := z) hl (fun v _ => rfl)
  simpa using this
theorem szS_ok {α : Type} {f : α → Int → Option Int} {sm : α → Prop} {xs : List α} (hl : xs.length ≤ 9223372036854775807) (h : ∀ v ∈ xs, ∀ l, 0 ≤ l → l ≤ 1048576 → ∃ r, f v l = some r ∧ r ≤ l ∧ (0 ≤ r → sm v)) (l0 : Int) (h0 : 0 ≤ l0) (h1 : l0 ≤ 1048576) :
    ∃ x, loopM (S := Int × Int) (X := Int ⊕ Int) (fun s => (if s.2 < (xs.length : Int) then ((atI xs s.2).bind fun v => ((f v s.1).bind fun u => (if u < 0 then some (.inr (.inr (-1))) else some (.inl (u, w64 (s.2 + 1)))))) else some (.inr (.inl s.1)))) (l0, 0) = some x ∧ (x = .inr (-1) ∨ ∃ r, x = .inl r ∧ 0 ≤ r ∧ r ≤ l0 ∧ ∀ v ∈ xs, sm v) := by
  refine loopM_of (fun (s : Int × Int) => 0 ≤ s.2 ∧ s.2 ≤ xs.length ∧ 0 ≤ s.1 ∧ s.1 ≤ l0 ∧ ∀ v ∈ xs.take s.2.toNat, sm v) (fun (s : Int × Int) => ((xs.length : Int) - s.2).toNat) _ (fun s hI => ?_) _ (by simp; omega) (by simp; omega)
  obtain ⟨l, i⟩ := s
  obtain ⟨q0, q1, q2, q3, q4⟩ := hI
  dsimp only at q0 q1 q2 q3 q4 ⊢
  by_cases hs : i < xs.length
  · obtain ⟨e, he, hm, hg⟩ := atI_some q0 hs
    obtain ⟨r, hr, hrl, hsm⟩ := h e hm l q2 (by omega)
    by_cases hneg : r < 0
    · right
      exact ⟨.inr (-1), by simp [hs, he, hr, hneg], .inl rfl⟩
    · left
      refine ⟨(r, i + 1), by simp [hs, he, hr, hneg, w64_inc q0 hs hl], ⟨by omega, by omega, by omega, by omega, fun v hv => ?_⟩, by dsimp only; omega⟩
      have : (i + 1).toNat = i.toNat + 1 := by omega
      dsimp only at hv
      rw [this, List.take_add_one, hg] at hv
      simp only [Option.toList_some, List.mem_append, List.mem_singleton] at hv
      rcases hv with hv | rfl
      · exact q4 v hv
      · exact hsm (by omega)
  · right
    have hi : i.toNat = xs.length := by omega
    rw [hi, List.take_length] at q4
    exact ⟨.inl l, by simp [hs], .inr ⟨l, rfl, q2, q3, q4⟩⟩
theorem markS_ok {α : Type} {c : Int} {B : Int} {M : Int → α} {step : Int × Int × List α → Option ((Int × Int × List α) ⊕ (Int × List α))} (hc : 0 ≤ c)
    (hM : ∀ k i ys, 0 ≤ k → k ≤ B → 0 ≤ i → i < ys.length → ys.length ≤ 1048576 → step (k, i, ys) = some (.inl (k + c, i + 1, List.set ys i.toNat (M k)))) (hE : ∀ k i ys, ¬ i < ys.length → step (k, i, ys) = some (.inr (k, ys)))
    {xs : List α} {k0 : Int} (h0 : 0 ≤ k0) (hl : xs.length ≤ 1048576) (hB : k0 + c * xs.length ≤ B) : loopM step (k0, 0, xs) = some (k0 + c * xs.length, (List.range xs.length).map fun (j : Nat) => M (k0 + c * (j : Int))) := by
  refine loopM_eq (fun (s : Int × Int × List α) => 0 ≤ s.2.1 ∧ s.2.1 ≤ xs.length ∧ s.1 = k0 + c * s.2.1 ∧ s.2.2 = ((List.range s.2.1.toNat).map fun (j : Nat) => M (k0 + c * (j : Int))) ++ xs.drop s.2.1.toNat) (fun (s : Int × Int × List α) => ((xs.length : Int) - s.2.1).toNat) (fun s hI => ?_) (by simp) (by simp; omega)
  obtain ⟨k, i, ys⟩ := s
  obtain ⟨q0, q1, q2, q3⟩ := hI
  dsimp only at q0 q1 q2 q3 ⊢
  have hyl : ys.length = xs.length := by rw [q3]; simp; omega
  by_cases hs : i < xs.length
  · left
    have hci : 0 ≤ c * i := Int.mul_nonneg hc q0
    have hcl : c * i ≤ c * xs.length := Int.mul_le_mul_of_nonneg_left (by omega) hc
    refine ⟨_, hM k i ys (by omega) (by omega) q0 (by omega) (by omega), ⟨by dsimp only; omega, by dsimp only; omega, ?_, ?_⟩, by dsimp only; omega⟩
    · dsimp only
      rw [q2, Int.mul_add]; omega
    · have e1 : (i + 1).toNat = i.toNat + 1 := by omega
      dsimp only
      rw [e1, q3, List.set_append_right _ _ (by simp), List.range_succ, List.map_append, List.length_map, List.length_range, Nat.sub_self, List.drop_eq_getElem_cons (show i.toNat < xs.length by omega), List.set_cons_zero]
      have e2 : ((i.toNat : Nat) : Int) = i := by omega
      simp [q2, e2]
  · right
    have hi : i = xs.length := by omega
    rw [hE k i ys (by omega), q3, q2, hi]
    simp
theorem heldS_ok {α : Type} {c : Int} {B : Int} {M : Int → α} {n : Nat} {step : Int × Int → Option ((Int × Int) ⊕ (Int ⊕ Int))} (hc : 0 ≤ c)
    {k0 : Int} (hM : ∀ k i : Int, 0 ≤ k → k ≤ B → 0 ≤ i → i < n → k = k0 + c * i → step (k, i) = some (.inl (k + c, i + 1))) (hE : ∀ k i, ¬ i < (n : Int) → step (k, i) = some (.inr (.inl k)))
    (h0 : 0 ≤ k0) (hl : n ≤ 1048576) (hB : k0 + c * n ≤ B) : loopM step (k0, 0) = some (.inl (k0 + c * n)) := by
  refine loopM_eq (fun (s : Int × Int) => 0 ≤ s.2 ∧ s.2 ≤ n ∧ s.1 = k0 + c * s.2) (fun (s : Int × Int) => ((n : Int) - s.2).toNat) (fun s hI => ?_) (by simp) (by simp; omega)
  obtain ⟨k, i⟩ := s
  obtain ⟨q0, q1, q2⟩ := hI
  dsimp only at q0 q1 q2 ⊢
  by_cases hs : i < n
  · left
    have hci : 0 ≤ c * i := Int.mul_nonneg hc q0
    have hcl : c * i ≤ c * n := Int.mul_le_mul_of_nonneg_left (by omega) hc
    refine ⟨_, hM k i (by omega) (by omega) q0 hs q2, ⟨by dsimp only; omega, by dsimp only; omega, by dsimp only; rw [q2, Int.mul_add]; omega⟩, by dsimp only; omega⟩
  · right
    have hi : i = n := by omega
    rw [hE k i (by omega), q2, hi]
theorem marked_get {α : Type} {M : Int → α} {k0 c : Int} {n : Nat} {i : Int} (h0 : 0 ≤ i) (h1 : i < n) : atI ((List.range n).map fun (j : Nat) => M (k0 + c * (j : Int))) i = some (M (k0 + c * i)) := by
  unfold atI
  rw [if_pos h0, List.getElem?_map, List.getElem?_range (by omega)]
  have : ((i.toNat : Nat) : Int) = i := by omega
  simp [this]
theorem find_ok {X : Type} {n : Nat} {g : Nat → Bool} {d : X} {e : Nat → X} {step : Int → Option (Int ⊕ X)} (hS : ∀ i : Nat, i < n → step (i : Int) = some (if g i = true then .inl ((i : Int) + 1) else .inr (e i))) (hE : step (n : Int) = some (.inr d)) (hn : n ≤ 9223372036854775807) :
    ∃ x, loopM step 0 = some x ∧ (((∀ j, j < n → g j = true) ∧ x = d) ∨ ∃ i, i < n ∧ g i = false ∧ (∀ j, j < i → g j = true) ∧ x = e i) := by
  refine loopM_of (fun (s : Int) => 0 ≤ s ∧ s ≤ n ∧ ∀ j : Nat, (j : Int) < s → g j = true) (fun (s : Int) => ((n : Int) - s).toNat) _ (fun s hI => ?_) 0 ⟨by omega, by omega, fun j hj => by omega⟩ (by omega)
  obtain ⟨q0, q1, q2⟩ := hI
  obtain ⟨i, rfl⟩ : ∃ i : Nat, s = i := ⟨s.toNat, by omega⟩
  by_cases hs : i < n
  · cases hg : g i
    · right
      exact ⟨e i, by rw [hS i hs, hg]; rfl, .inr ⟨i, hs, hg, fun j hj => q2 j (by omega), rfl⟩⟩
    · left
      refine ⟨(i : Int) + 1, by rw [hS i hs, hg]; rfl, ⟨by omega, by omega, fun j hj => ?_⟩, by omega⟩
      rcases Nat.lt_or_ge j i with h | h
      · exact q2 j (by omega)
      · have : j = i := by omega
        rw [this]; exact hg
  · right
    have : i = n := by omega
    subst this
    exact ⟨d, hE, .inl ⟨fun j hj => q2 j (by omega), rfl⟩⟩
theorem scan_ok {X : Type} {n : Nat} {g : Nat → Bool} {d e : X} {step : Int → Option (Int ⊕ X)} (hS : ∀ i : Nat, i < n → step (i : Int) = some (if g i = true then .inl ((i : Int) + 1) else .inr e)) (hE : step (n : Int) = some (.inr d)) (hn : n ≤ 9223372036854775807) :
    loopM step 0 = some (if (List.range n).all g = true then d else e) := by
  obtain ⟨x, hx, ⟨h, rfl⟩ | ⟨i, hi, hg, _, rfl⟩⟩ := find_ok (e := fun _ => e) hS hE hn
  · rw [hx, if_pos (by simpa using h)]
  · rw [hx, if_neg (by simp only [List.all_eq_true, List.mem_range]; intro h; rw [h i hi] at hg; cases hg)]
theorem atI_lt {α : Type} {xs : List α} {i : Nat} (h : i < xs.length) : atI xs (i : Int) = some xs[i] := by rw [atI_nat]; exact List.getElem?_eq_getElem h
theorem all_range {α : Type} {xs : List α} {f : α → Bool} {g : Nat → Bool} (h : ∀ (i : Nat) (hi : i < xs.length), g i = f xs[i]) : (List.range xs.length).all g = xs.all f := by
  rw [Bool.eq_iff_iff, List.all_eq_true, List.all_eq_true]
  constructor
  · intro q v hv
    obtain ⟨i, hi, rfl⟩ := List.getElem_of_mem hv
    rw [← h i hi]; exact q i (List.mem_range.2 hi)
  · intro q i hi
    have hi := List.mem_range.1 hi
    rw [h i hi]; exact q _ (List.getElem_mem hi)
theorem scanL_ok {α X : Type} {xs : List α} {f : α → Bool} {d e : X} {step : Int → Option (Int ⊕ X)} (hS : ∀ (i : Nat) (hi : i < xs.length), step (i : Int) = some (if f xs[i] = true then .inl ((i : Int) + 1) else .inr e)) (hE : step (xs.length : Int) = some (.inr d)) (hn : xs.length ≤ 9223372036854775807) :
    loopM step 0 = some (if xs.all f = true then d else e) := by
  rw [scan_ok (n := xs.length) (d := d) (e := e) (g := fun i => if hi : i < xs.length then f xs[i] else true) (fun i hi => by rw [hS i hi]; simp [hi]) hE hn, all_range (f := f) fun i hi => by simp [hi]]
theorem buildF_ok {α β : Type} {xs : List α} {f : α → List β} {c : Nat} {init : List β} {step : Int × List β → Option ((Int × List β) ⊕ List β)} (hc : ∀ v ∈ xs, (f v).length ≤ c) (hS : ∀ (i : Nat) (hi : i < xs.length) ys, ys.length ≤ init.length + c * i → step ((i : Int), ys) = some (.inl ((i : Int) + 1, ys ++ f xs[i]))) (hE : ∀ ys, step ((xs.length : Int), ys) = some (.inr ys)) (hn : xs.length ≤ 9223372036854775807) :
    loopM step (0, init) = some (init ++ xs.flatMap f) := by
  refine loopM_eq (fun (s : Int × List β) => 0 ≤ s.1 ∧ s.1 ≤ xs.length ∧ s.2 = init ++ (xs.take s.1.toNat).flatMap f ∧ s.2.length ≤ init.length + c * s.1.toNat) (fun (s : Int × List β) => ((xs.length : Int) - s.1).toNat) (fun s hI => ?_) (by simp) (by simp; omega)
  obtain ⟨i, ys⟩ := s
  obtain ⟨q0, q1, q2, q3⟩ := hI
  dsimp only at q0 q1 q2 q3 ⊢
  obtain ⟨j, rfl⟩ : ∃ j : Nat, i = j := ⟨i.toNat, by omega⟩
  have e2 : ((j : Int)).toNat = j := by omega
  rw [e2] at q2 q3
  by_cases hs : j < xs.length
  · left
    have e : ((j : Int) + 1).toNat = j + 1 := by omega
    refine ⟨_, hS j hs ys q3, ⟨by dsimp only; omega, by dsimp only; omega, ?_, ?_⟩, by dsimp only; omega⟩
    · dsimp only
      rw [e, q2, List.take_succ_eq_append_getElem hs, List.flatMap_append, ← List.append_assoc]; simp
    · dsimp only
      rw [e, List.length_append, Nat.mul_add]
      have := hc xs[j] (List.getElem_mem hs)
      omega
  · right
    have : j = xs.length := by omega
    subst this
    rw [hE ys, q2, List.take_length]
end Go.Proofs.YtlakbomkpnlidaaGreat
namespace Go.Proofs.YtlakbomkpnlidaaGreat
set_option linter.unusedVariables false
def btw (x a b : Int) : Bool := decide (a ≤ x ∧ x ≤ b)
theorem i_within_eq (x a b : Int) : i_within_m x a b = some (btw x a b) := by unfold i_within_m btw; split <;> simp_all <;> omega
theorem s_l00In_eq (x a b : Int) : s_l00In_m x a b = some (btw x a b) := by unfold s_l00In_m btw; split <;> simp_all <;> omega
structure SinOk (r k n : Int) : Prop where
  p0 : 0 ≤ 2 * k * (n - 2 * k)
  p1 : 2 * k * (n - 2 * k) ≤ 64000000
  r0 : 0 ≤ r * 16 * (2 * k * (n - 2 * k))
  r1 : r * 16 * (2 * k * (n - 2 * k)) ≤ 102400000000000
  n0 : 1 ≤ 5 * n * n - 4 * (2 * k * (n - 2 * k))
  n1 : 5 * n * n ≤ 1280000000
end Go.Proofs.YtlakbomkpnlidaaGreat
namespace Go.Proofs.YtlakbomkpnlidaaGreat
set_option linter.unusedVariables false
def smB (c : Int) : Bool := decide (97 ≤ c ∧ c ≤ 122)
def dgB (c : Int) : Bool := decide (48 ≤ c ∧ c ≤ 57)
def okB (c : Int) : Bool := smB c || (dgB c || decide (c = 45))
theorem strAt_bytes (s : ByteArray) (i : Int) : strAt s i = atI (bytesL s) i := by
  unfold strAt atI bytesL
  split
  · rename_i h
    rw [List.getElem?_map]
    congr 1
    rw [Array.getElem?_toList]
    by_cases hi : i.toNat < s.size
    · rw [getElem?_pos s i.toNat hi, getElem?_pos s.data i.toNat hi]; rfl
    · rw [getElem?_neg s i.toNat hi, getElem?_neg s.data i.toNat hi]
  · rfl
def nameB (s : ByteArray) : Bool := decide (1 ≤ s.size ∧ s.size ≤ 12) && ((bytesL s).take 1).all smB && (bytesL s).all okB
theorem s_l01Small_eq (c : Int) : s_l01Small_m c = some (smB c) := by unfold s_l01Small_m smB; split <;> simp_all <;> omega
theorem s_l01Digit_eq (c : Int) : s_l01Digit_m c = some (dgB c) := by unfold s_l01Digit_m dgB; split <;> simp_all <;> omega
theorem str0 {s : ByteArray} : s = ⟨#[]⟩ ↔ s.size = 0 := by
  constructor
  · rintro rfl; rfl
  · intro h
    cases s with | mk d =>
    have : d = #[] := Array.eq_empty_of_size_eq_zero h
    rw [this]
theorem s_IsName_eq (s : ByteArray) : s_IsName_m s = some (nameB s) := by
  have hl := bytesL_len s
  unfold s_IsName_m nameB
  by_cases h0 : s = ⟨#[]⟩
  · have := str0.1 h0
    simp [h0]
    intro h; exact absurd h (by decide)
  · have h1 : s.size ≠ 0 := fun h => h0 (str0.2 h)
    rw [if_neg h0]
    by_cases h2 : 12 < (s.size : Int)
    · rw [if_pos h2]
      simp
      intro a b; omega
    · rw [if_neg h2]
      obtain ⟨c, cs, hc⟩ : ∃ c cs, bytesL s = c :: cs := by
        cases hb : bytesL s with
        | nil => rw [hb] at hl; simp at hl; omega
        | cons c cs => exact ⟨c, cs, rfl⟩
      have e0 : strAt s 0 = some c := by rw [strAt_bytes, hc]; rfl
      rw [e0]
      simp only [Option.bind_some, s_l01Small_eq]
      have ht : ((bytesL s).take 1).all smB = smB c := by rw [hc]; simp
      have hd : decide (1 ≤ s.size ∧ s.size ≤ 12) = true := decide_eq_true ⟨by omega, by omega⟩
      rw [ht, hd]
      cases hs : smB c
      · simp
      · simp only [Bool.not_true, Bool.false_eq_true, if_false, Bool.true_and]
        have hz : (s.size : Int) = ((bytesL s).length : Int) := by rw [hl]
        rw [hz, scanL_ok (xs := bytesL s) (f := okB) (d := .inl ()) (e := .inr false) (fun i hi => ?_) (by simp) (by omega)]
        · cases (bytesL s).all okB <;> simp [orE]
        · have hi' : (i : Int) < ((bytesL s).length : Int) := by omega
          have e1 : w64 ((i : Int) + 1) = i + 1 := w64_in (by omega) (by omega)
          rw [if_pos hi', strAt_bytes, atI_lt hi]
          simp only [Option.bind_some, s_l01Small_eq, s_l01Digit_eq, e1, okB]
          generalize (bytesL s)[i] = c
          rcases Bool.eq_false_or_eq_true (smB c) with g1 | g1 <;> rcases Bool.eq_false_or_eq_true (dgB c) with g2 | g2 <;> by_cases h45 : c = 45 <;> simp [g1, g2, h45]
theorem i_IsName_eq (s : ByteArray) : i_IsName_m s = some (nameB s) := by
  have hl := bytesL_len s
  unfold i_IsName_m nameB
  by_cases h1 : (s.size : Int) < 1
  · rw [if_pos h1]; simp
    intro a b; omega
  · rw [if_neg h1]
    by_cases h2 : 12 < (s.size : Int)
    · simp [h2]
      intro a b; omega
    · have hd : decide (1 ≤ s.size ∧ s.size ≤ 12) = true := decide_eq_true ⟨by omega, by omega⟩
      simp only [h2, decide_false, Option.bind_some, Bool.false_eq_true, if_false, hd, Bool.true_and]
      rw [chk_t (by omega), scan_ok (n := (bytesL s).length) (d := .inl ()) (e := .inr false) (g := fun i => smB ((bytesL s).getD i 0) || (decide (i ≠ 0) && (dgB ((bytesL s).getD i 0) || decide ((bytesL s).getD i 0 = 45)))) (fun i hi => ?_) (by simp) (by omega)]
      · obtain ⟨c, cs, hc⟩ : ∃ c cs, bytesL s = c :: cs := by
          cases hb : bytesL s with
          | nil => rw [hb] at hl; simp at hl; omega
          | cons c cs => exact ⟨c, cs, rfl⟩
        have key : (List.range (bytesL s).length).all (fun i => smB ((bytesL s).getD i 0) || (decide (i ≠ 0) && (dgB ((bytesL s).getD i 0) || decide ((bytesL s).getD i 0 = 45)))) = (((bytesL s).take 1).all smB && (bytesL s).all okB) := by
          rw [hc]
          simp only [List.length_cons, List.range_succ_eq_map, List.all_cons, List.all_map, List.take_succ_cons, List.take_zero, List.all_nil, Bool.and_true]
          have : (List.range cs.length).all ((fun i => smB ((c :: cs).getD i 0) || (decide (i ≠ 0) && (dgB ((c :: cs).getD i 0) || decide ((c :: cs).getD i 0 = 45)))) ∘ Nat.succ) = cs.all okB := all_range (f := okB) fun i hi => by simp [okB, hi]
          rw [this]
          simp [okB]
          cases smB c <;> simp
        rw [key]
        cases ((bytesL s).take 1).all smB && (bytesL s).all okB <;> simp [orE]
      · have hi' : (i : Int) < ((bytesL s).length : Int) := by omega
        have e1 : w64 ((i : Int) + 1) = i + 1 := w64_in (by omega) (by omega)
        have e2 : (bytesL s).getD i 0 = (bytesL s)[i] := by simp [hi]
        rw [if_pos hi', atI_lt hi, e2]
        simp only [Option.bind_some, e1]
        generalize (bytesL s)[i] = c
        have A : (if 97 ≤ c then some (decide (c ≤ 122)) else some false) = some (smB c) := by unfold smB; split <;> simp_all <;> omega
        have B : (if 48 ≤ c then (if c ≤ 57 then some true else some (decide (c = 45))) else some (decide (c = 45))) = some (dgB c || decide (c = 45)) := by
          unfold dgB
          split
          · split <;> simp_all <;> omega
          · simp_all; omega
        rw [A, B]
        simp only [Option.bind_some]
        have hz : ((i : Int) = 0) ↔ i = 0 := by omega
        cases smB c <;> cases (dgB c || decide (c = 45)) <;> by_cases h0 : i = 0 <;> simp [h0]
end Go.Proofs.YtlakbomkpnlidaaGreat
namespace Go.Proofs.YtlakbomkpnlidaaGreat
set_option linter.unusedVariables false
def allI {α : Type} (xs : List α) (f : Nat → α → Bool) : Bool := (List.range xs.length).all fun i => if hi : i < xs.length then f i xs[i] else true
theorem allI_iff {α : Type} {xs : List α} {f : Nat → α → Bool} : allI xs f = true ↔ ∀ (i : Nat) (hi : i < xs.length), f i xs[i] = true := by
  unfold allI
  rw [List.all_eq_true]
  constructor
  · intro h i hi
    have := h i (List.mem_range.2 hi)
    rwa [dif_pos hi] at this
  · intro h i hi
    have hi := List.mem_range.1 hi
    rw [dif_pos hi]
    exact h i hi
theorem allI_all {α : Type} {xs : List α} {f : α → Bool} : allI xs (fun _ v => f v) = xs.all f := all_range fun i hi => by simp [hi]
theorem scanG {α X : Type} {xs : List α} {G : Int → Option (Int ⊕ X)} (f : Nat → α → Bool) {d e : X} (hl : xs.length ≤ 9223372036854775807) (hG : ∀ (i : Nat) (hi : i < xs.length), G i = some (if f i xs[i] = true then .inl (w64 ((i : Int) + 1)) else .inr e)) :
    loopM (fun s => (if s < (xs.length : Int) then G s else some (.inr d))) 0 = some (if allI xs f = true then d else e) := by
  refine scan_ok (n := xs.length) (g := fun i => if hi : i < xs.length then f i xs[i] else true) (fun i hi => ?_) (by simp) hl
  have hi' : (i : Int) < xs.length := by omega
  have e1 : w64 ((i : Int) + 1) = i + 1 := w64_in (by omega) (by omega)
  simp only [if_pos hi', hG i hi, hi, dite_true, e1]
theorem scanT {α X : Type} {xs : List α} {G : Int → Option (Int ⊕ X)} (k : Nat) (f : Nat → α → Bool) {d e : X} (hk : k ≤ xs.length) (hl : xs.length ≤ 9223372036854775807) (hG : ∀ (i : Nat) (hi : i < xs.length), i < k → G i = some (if f i xs[i] = true then .inl (w64 ((i : Int) + 1)) else .inr e)) :
    loopM (fun s => (if s < (k : Int) then G s else some (.inr d))) 0 = some (if allI (xs.take k) f = true then d else e) := by
  have hlen : (xs.take k).length = k := by rw [List.length_take]; omega
  have := scanG (xs := xs.take k) (G := G) f (d := d) (e := e) (by omega) (fun i hi => by
    rw [List.getElem_take]; exact hG i (by omega) (by omega))
  rwa [hlen] at this
def posOf {α : Type} (xs : List α) (p : α → Bool) : Int := match xs.findIdx? p with
  | some i => i
  | none => -1
theorem findG {α : Type} {xs : List α} {G : Int → Option (Int ⊕ (Unit ⊕ Int))} (p : α → Bool) (hl : xs.length ≤ 9223372036854775807) (hG : ∀ (i : Nat) (hi : i < xs.length), G i = (if p xs[i] = true then some (.inr (.inr (i : Int))) else some (.inl (w64 ((i : Int) + 1))))) :
    ((loopM (fun s => (if s < (xs.length : Int) then G s else some (.inr (.inl ())))) 0 : Option (Unit ⊕ Int)).bind fun x => orE x fun v => some (-1)) = some (posOf xs p) := by
  obtain ⟨x, hx, h⟩ := find_ok (X := Unit ⊕ Int) (n := xs.length) (step := fun s => (if s < (xs.length : Int) then G s else some (.inr (.inl ())))) (g := fun i => if hi : i < xs.length then !p xs[i] else true) (d := .inl ()) (e := fun i => .inr (i : Int)) (fun i hi => by
    have hi' : (i : Int) < xs.length := by omega
    have e1 : w64 ((i : Int) + 1) = i + 1 := w64_in (by omega) (by omega)
    simp only [if_pos hi', hG i hi, hi, dite_true, e1]
    cases p xs[i] <;> rfl) (by simp) hl
  rw [hx]
  unfold posOf
  rcases h with ⟨h, rfl⟩ | ⟨i, hi, hg, hj, rfl⟩
  · have : xs.findIdx? p = none := by
      rw [List.findIdx?_eq_none_iff]
      intro v hv
      obtain ⟨i, hi, rfl⟩ := List.getElem_of_mem hv
      have := h i hi
      simpa [hi] using this
    rw [this]; rfl
  · have : xs.findIdx? p = some i := by
      rw [List.findIdx?_eq_some_iff_getElem]
      refine ⟨hi, by simpa [hi] using hg, fun j hji => ?_⟩
      have := hj j hji
      have hjl : j < xs.length := by omega
      simpa [hjl] using this
    rw [this]; rfl
theorem posOf_nn {α : Type} {xs : List α} {p : α → Bool} : decide (0 ≤ posOf xs p) = xs.any p := by
  unfold posOf
  cases h : xs.findIdx? p with
  | none =>
    rw [List.findIdx?_eq_none_iff] at h
    have e : xs.any p = false := by
      rw [← Bool.not_eq_true, List.any_eq_true]
      rintro ⟨v, hv, hp⟩
      rw [h v hv] at hp; cases hp
    rw [e]; rfl
  | some i =>
    rw [List.findIdx?_eq_some_iff_getElem] at h
    obtain ⟨hi, hp, _⟩ := h
    rw [List.any_eq_true.2 ⟨_, List.getElem_mem hi, hp⟩]
    exact decide_eq_true (by show (0 : Int) ≤ (i : Int); omega)
theorem posOf_here {α : Type} {xs : List α} {p : α → Bool} {i : Nat} (hi : i < xs.length) (hp : p xs[i] = true) : decide (posOf xs p ≠ (i : Int)) = (xs.take i).any p := by
  unfold posOf
  cases h : xs.findIdx? p with
  | none =>
    rw [List.findIdx?_eq_none_iff] at h
    rw [h _ (List.getElem_mem hi)] at hp; cases hp
  | some j =>
    rw [List.findIdx?_eq_some_iff_getElem] at h
    obtain ⟨hj, hpj, hmin⟩ := h
    by_cases e : j = i
    · subst e
      have e2 : (xs.take j).any p = false := by
        rw [← Bool.not_eq_true, List.any_eq_true]
        rintro ⟨v, hv, hq⟩
        obtain ⟨k, hk, rfl⟩ := List.getElem_of_mem hv
        rw [List.length_take] at hk
        rw [List.getElem_take] at hq
        exact hmin k (by omega) hq
      rw [e2]
      exact decide_eq_false (by simp)
    · have hlt : j < i := by
        rcases Nat.lt_trichotomy j i with h | h | h
        · exact h
        · exact absurd h e
        · exact absurd hp (hmin i h)
      have e2 : (xs.take i).any p = true := List.any_eq_true.2 ⟨xs[j], by
        rw [List.mem_iff_getElem]
        exact ⟨j, by rw [List.length_take]; omega, by rw [List.getElem_take]⟩, hpj⟩
      rw [e2]
      exact decide_eq_true (by show (j : Int) ≠ (i : Int); omega)
theorem subL0 {α : Type} {xs : List α} {i : Nat} : subL xs 0 (i : Int) = xs.take i := by simp [subL]
theorem subL_ok {α : Type} {xs : List α} {i : Nat} (h : i ≤ xs.length) : 0 ≤ (0 : Int) ∧ (0 : Int) ≤ (i : Int) ∧ (i : Int) ≤ (xs.length : Int) := by omega
def forL {α σ X : Type} (body : Nat → α → σ → Option (σ ⊕ X)) : List α → Nat → σ → Option (σ ⊕ X)
  | [], _, s => some (.inl s)
  | x :: xs, i, s => (body i x s).bind fun r => match r with
    | .inl s' => forL body xs (i + 1) s'
    | .inr y => some (.inr y)
theorem loopN_succ {S X : Type} (step : S → Option (S ⊕ X)) (n : Nat) (s : S) : loopN step (n + 1) s = (step s).bind fun r => match r with
    | .inl s' => loopN step n s'
    | .inr y => some y := by
  cases h : step s with
  | none => simp [loopN, h]
  | some r => cases r <;> simp [loopN, h]
theorem loop_for {α S σ X : Type} {xs : List α} {step : S → Option (S ⊕ X)} (mk : Int → σ → S) (body : Nat → α → σ → Option (σ ⊕ X)) (fin : σ → X) (hl : xs.length ≤ 9223372036854775807)
    (hS : ∀ (i : Nat) (hi : i < xs.length) s, step (mk i s) = (body i xs[i] s).map (Sum.map (mk ((i : Int) + 1)) id)) (hE : ∀ s, step (mk xs.length s) = some (.inr (fin s))) (s0 : σ) :
    loopM step (mk 0 s0) = (forL body xs 0 s0).map (Sum.elim fin id) := by
  have key : ∀ (k : Nat) (ys : List α) (n : Nat) s, ys.length + k = xs.length → ys = xs.drop k → ys.length < n → loopN step n (mk (k : Int) s) = (forL body ys k s).map (Sum.elim fin id) := by
    intro k ys
    induction ys generalizing k with
    | nil =>
      intro n s h1 h2 h3
      obtain ⟨n, rfl⟩ : ∃ m, n = m + 1 := ⟨n - 1, by simp at h3; omega⟩
      have : k = xs.length := by simpa using h1
      subst this
      rw [loopN_succ, hE]; rfl
    | cons y ys ih =>
      intro n s h1 h2 h3
      obtain ⟨n, rfl⟩ : ∃ m, n = m + 1 := ⟨n - 1, by simp at h3; omega⟩
      have hk : k < xs.length := by simp at h1; omega
      rw [List.drop_eq_getElem_cons hk] at h2
      injection h2 with h2 h4
      rw [loopN_succ, hS k hk, ← h2]
      show _ = ((body k y s).bind _).map _
      cases body k y s with
      | none => rfl
      | some r =>
        cases r with
        | inr z => rfl
        | inl s' => exact ih (k + 1) n s' (by simp at h1; omega) h4 (by simp at h3; omega)
  exact key 0 xs fuel s0 (by simp) (by simp) (by unfold fuel; omega)
theorem loop_forI {α S σ X : Type} {xs : List α} {step : S → Option (S ⊕ X)} (mk : Int → σ → S) (body : Nat → α → σ → Option (σ ⊕ X)) (fin : σ → X) (I : σ → Prop) (hl : xs.length ≤ 9223372036854775807)
    (hS : ∀ (i : Nat) (hi : i < xs.length) s, I s → step (mk i s) = (body i xs[i] s).map (Sum.map (mk ((i : Int) + 1)) id)) (hI : ∀ (i : Nat) (hi : i < xs.length) s s', I s → body i xs[i] s = some (.inl s') → I s') (hE : ∀ s, I s → step (mk xs.length s) = some (.inr (fin s))) (s0 : σ) (h0 : I s0) :
    loopM step (mk 0 s0) = (forL body xs 0 s0).map (Sum.elim fin id) := by
  have key : ∀ (k : Nat) (ys : List α) (n : Nat) s, I s → ys.length + k = xs.length → ys = xs.drop k → ys.length < n → loopN step n (mk (k : Int) s) = (forL body ys k s).map (Sum.elim fin id) := by
    intro k ys
    induction ys generalizing k with
    | nil =>
      intro n s hs h1 h2 h3
      obtain ⟨n, rfl⟩ : ∃ m, n = m + 1 := ⟨n - 1, by simp at h3; omega⟩
      have : k = xs.length := by simpa using h1
      subst this
      rw [loopN_succ, hE s hs]; rfl
    | cons y ys ih =>
      intro n s hs h1 h2 h3
      obtain ⟨n, rfl⟩ : ∃ m, n = m + 1 := ⟨n - 1, by simp at h3; omega⟩
      have hk : k < xs.length := by simp at h1; omega
      rw [List.drop_eq_getElem_cons hk] at h2
      injection h2 with h2 h4
      rw [loopN_succ, hS k hk s hs, ← h2]
      show _ = ((body k y s).bind _).map _
      cases hb : body k y s with
      | none => rfl
      | some r =>
        cases r with
        | inr z => rfl
        | inl s' => exact ih (k + 1) n s' (hI k hk s s' hs (by rw [← h2]; exact hb)) (by simp at h1; omega) h4 (by simp at h3; omega)
  exact key 0 xs fuel s0 h0 (by simp) (by simp) (by unfold fuel; omega)
theorem forL_fold {α σ X : Type} {body : Nat → α → σ → Option (σ ⊕ X)} (f : σ → α → σ) (h : ∀ i x s, body i x s = some (.inl (f s x))) : ∀ (xs : List α) (k : Nat) (s : σ), forL body xs k s = some (.inl (xs.foldl f s))
  | [], k, s => rfl
  | x :: xs, k, s => by
    show (body k x s).bind _ = _
    rw [h]
    exact forL_fold f h xs (k + 1) (f s x)
theorem itA {a b : Bool} : (if a = true then some b else some false) = some (a && b) := by cases a <;> rfl
theorem itO {a b : Bool} : (if a = true then some true else some b) = some (a || b) := by cases a <;> rfl
theorem itF {a b : Bool} : (if a = true then some false else some b) = some (!a && b) := by cases a <;> rfl
theorem itAp {p : Prop} [Decidable p] {b : Bool} : (if p then some b else some false) = some (decide p && b) := by by_cases h : p <;> simp [h]
theorem itOp {p : Prop} [Decidable p] {b : Bool} : (if p then some true else some b) = some (decide p || b) := by by_cases h : p <;> simp [h]
theorem scan_and {a b : Bool} {k : Option Bool} (h : k = some b) : (orE (if a = true then (.inl () : Unit ⊕ Bool) else .inr false) fun _ => k) = some (a && b) := by cases a <;> simp [orE, h]
end Go.Proofs.YtlakbomkpnlidaaGreat
namespace Go.Proofs.YtlakbomkpnlidaaGreat
set_option linter.unusedVariables false
def toothB (t : Int) : Bool := btw t 6 240
theorem i_toothed_eq (t : Int) : i_toothed_m t = some (toothB t) := by unfold i_toothed_m; rw [i_within_eq]; rfl
theorem s_l05Teeth_eq (t : Int) : s_l05Teeth_m t = some (toothB t) := by unfold s_l05Teeth_m; rw [s_l00In_eq]; rfl
def arbB (a : Arbor_) : Bool := a.Wheels.all toothB && (nameB a.Name && decide (a.Wheels.length ≤ 5))
theorem i_validArbor_eq {a : Arbor_} (hl : a.Wheels.length ≤ 9223372036854775807) : i_validArbor_m a = some (arbB a) := by
  unfold i_validArbor_m arbB
  rw [scanG (fun _ v => toothB v) hl fun i hi => by rw [atI_lt hi, Option.bind_some, i_toothed_eq, Option.bind_some]; cases toothB a.Wheels[i] <;> rfl, allI_all, Option.bind_some, i_IsName_eq]
  cases a.Wheels.all toothB <;> cases nameB a.Name <;> simp [orE]; omega
theorem s_l08Arbor_eq {a : Arbor_} (hl : a.Wheels.length ≤ 9223372036854775807) : s_l08Arbor_m a = some (arbB a) := by
  unfold s_l08Arbor_m arbB
  rw [scanG (fun _ v => toothB v) hl fun i hi => by rw [atI_lt hi, Option.bind_some, s_l05Teeth_eq, Option.bind_some]; cases toothB a.Wheels[i] <;> rfl, allI_all, Option.bind_some, s_IsName_eq]
  cases a.Wheels.all toothB <;> cases nameB a.Name <;> simp [orE]; omega
def whB (w : Works_) (a k : Int) : Bool := decide (0 ≤ a ∧ a < w.Arbors.length) && match w.Arbors[a.toNat]? with
  | some b => decide (0 ≤ k ∧ k < b.Wheels.length)
  | none => false
theorem btw_len {α : Type} {l : List α} {a : Int} (hl : l.length ≤ 9223372036854775807) : btw a 0 (w64 ((l.length : Int) - 1)) = decide (0 ≤ a ∧ a < l.length) := by
  rw [w64_in (by omega) (by omega)]
  unfold btw
  rw [decide_eq_decide]; omega
theorem wheel_tail {w : Works_} {a k : Int} (hl : w.Arbors.length ≤ 9223372036854775807) (hw : ∀ b ∈ w.Arbors, b.Wheels.length ≤ 9223372036854775807) {f : Arbor_ → Option Bool} (hf : ∀ b ∈ w.Arbors, f b = some (decide (0 ≤ k ∧ k < b.Wheels.length))) :
    (if decide (0 ≤ a ∧ a < w.Arbors.length) = true then ((atI w.Arbors a).bind f) else some false) = some (whB w a k) := by
  unfold whB
  by_cases h : 0 ≤ a ∧ a < w.Arbors.length
  · obtain ⟨e, he, hm, hg⟩ := atI_some h.1 h.2
    rw [decide_eq_true h, if_pos rfl, he, Option.bind_some, hf e hm, hg]; rfl
  · rw [decide_eq_false h]; rfl
theorem i_hasWheel_eq {w : Works_} (hl : w.Arbors.length ≤ 9223372036854775807) (hw : ∀ b ∈ w.Arbors, b.Wheels.length ≤ 9223372036854775807) (a k : Int) : i_hasWheel_m w a k = some (whB w a k) := by
  unfold i_hasWheel_m
  rw [i_within_eq, Option.bind_some, btw_len hl]
  exact wheel_tail hl hw fun b hb => by rw [i_within_eq, Option.bind_some, btw_len (hw b hb)]
theorem s_l08Wheel_eq {w : Works_} (hl : w.Arbors.length ≤ 9223372036854775807) (hw : ∀ b ∈ w.Arbors, b.Wheels.length ≤ 9223372036854775807) (a k : Int) : s_l08Wheel_m w a k = some (whB w a k) := by
  unfold s_l08Wheel_m
  rw [s_l00In_eq, Option.bind_some, btw_len hl]
  exact wheel_tail hl hw fun b hb => by rw [s_l00In_eq, Option.bind_some, btw_len (hw b hb)]
def joinB (w : Works_) (m : Mesh_) : Bool := decide (m.A ≠ m.B) && (whB w m.A m.WheelA && whB w m.B m.WheelB)
theorem i_joins_eq {w : Works_} (hl : w.Arbors.length ≤ 9223372036854775807) (hw : ∀ b ∈ w.Arbors, b.Wheels.length ≤ 9223372036854775807) (m : Mesh_) : i_joins_m w m = some (joinB w m) := by
  unfold i_joins_m joinB
  simp only [i_hasWheel_eq hl hw, Option.bind_some]
  by_cases h : m.A = m.B <;> cases whB w m.A m.WheelA <;> simp [h]
theorem s_l08Mesh_eq {w : Works_} (hl : w.Arbors.length ≤ 9223372036854775807) (hw : ∀ b ∈ w.Arbors, b.Wheels.length ≤ 9223372036854775807) (m : Mesh_) : s_l08Mesh_m w m = some (joinB w m) := by
  unfold s_l08Mesh_m joinB
  simp only [s_l08Wheel_eq hl hw, Option.bind_some]
  by_cases h : m.A = m.B <;> cases whB w m.A m.WheelA <;> simp [h]
def sameB (m n : Mesh_) : Bool := decide (m = n ∨ m = ⟨n.B, n.WheelB, n.A, n.WheelA⟩)
theorem sameB_comm (m n : Mesh_) : sameB m n = sameB n m := by
  unfold sameB
  rw [decide_eq_decide]
  obtain ⟨a, b, c, d⟩ := m
  obtain ⟨a', b', c', d'⟩ := n
  simp only [Mesh_.mk.injEq]
  omega
theorem i_sameMesh_eq (m n : Mesh_) : i_sameMesh_m m n = some (sameB m n) := by
  unfold i_sameMesh_m sameB
  by_cases h : m = n
  · simp [h]
  · rw [if_neg h]; simp [h]
theorem s_l08Equal_eq (m n : Mesh_) : s_l08Equal_m m n = some (sameB m n) := by
  unfold s_l08Equal_m sameB
  by_cases h : m = n
  · simp [h]
  · rw [if_neg h]
    obtain ⟨a, b, c, d⟩ := m
    obtain ⟨a', b', c', d'⟩ := n
    have e : decide ((⟨a, b, c, d⟩ : Mesh_) = ⟨a', b', c', d'⟩ ∨ (⟨a, b, c, d⟩ : Mesh_) = ⟨c', d', a', b'⟩) = decide (a = c' ∧ b = d' ∧ c = a' ∧ d = b') := by
      rw [decide_eq_decide]
      simp only [h, false_or, Mesh_.mk.injEq]
    dsimp only
    rw [e]
    by_cases h1 : a = c' <;> by_cases h2 : b = d' <;> by_cases h3 : c = a' <;> simp [h1, h2, h3]
def wksB (w : Works_) : Bool := decide (w.Arbors.length ≤ 16) && (decide (w.Meshes.length ≤ 24) && (allI w.Arbors (fun i a => arbB a && !((w.Arbors.take i).any fun b => decide (b.Name = a.Name))) && allI w.Meshes (fun i m => joinB w m && !((w.Meshes.take i).any fun n => sameB m n))))
theorem i_knownMesh_eq {xs : List Mesh_} {m : Mesh_} (hl : xs.length ≤ 9223372036854775807) : slices_ContainsFunc_LMesh_Mesh_i_ValidWorks_1_m xs m = some (xs.any fun n => sameB m n) := by
  unfold slices_ContainsFunc_LMesh_Mesh_i_ValidWorks_1_m slices_IndexFunc_LMesh_Mesh_i_ValidWorks_1_m
  rw [findG (fun n => sameB m n) hl fun i hi => by rw [atI_lt hi, Option.bind_some, i_ValidWorks_1_m, i_sameMesh_eq, Option.bind_some, Option.bind_some], Option.bind_some, posOf_nn]
theorem i_ValidWorks_eq {w : Works_} (hl : w.Arbors.length ≤ 9223372036854775807) (hw : ∀ b ∈ w.Arbors, b.Wheels.length ≤ 9223372036854775807) (hm : w.Meshes.length ≤ 9223372036854775807) : i_ValidWorks_m w = some (wksB w) := by
  unfold i_ValidWorks_m wksB
  by_cases h1 : w.Arbors.length ≤ 16
  · by_cases h2 : w.Meshes.length ≤ 24
    · rw [if_neg (by omega), Option.bind_some, decide_eq_false (by omega), if_neg (by decide), decide_eq_true h1, decide_eq_true h2,
        scanG (e := .inr false) (fun i a => arbB a && !((w.Arbors.take i).any fun b => decide (b.Name = a.Name))) hl fun i hi => ?_, Option.bind_some,
        scanG (e := .inr false) (fun i m => joinB w m && !((w.Meshes.take i).any fun n => sameB m n)) hm fun i hi => ?_, Option.bind_some]
      · cases allI w.Arbors (fun i a => arbB a && !((w.Arbors.take i).any fun b => decide (b.Name = a.Name))) <;> cases allI w.Meshes (fun i m => joinB w m && !((w.Meshes.take i).any fun n => sameB m n)) <;> rfl
      · rw [atI_lt hi, Option.bind_some, i_joins_eq hl hw, Option.bind_some, chk_t (subL_ok (by omega)), subL0, i_knownMesh_eq (by rw [List.length_take]; omega)]
        cases joinB w w.Meshes[i] <;> cases ((w.Meshes.take i).any fun n => sameB w.Meshes[i] n) <;> rfl
      · rw [atI_lt hi, Option.bind_some, i_validArbor_eq (hw _ (List.getElem_mem hi)), Option.bind_some, chk_t (subL_ok (by omega)), subL0,
          scanG (fun _ b => !decide (b.Name = w.Arbors[i].Name)) (by rw [List.length_take]; omega) fun j hj => by
            rw [atI_lt hj, Option.bind_some]
            by_cases q : w.Arbors[i].Name = (w.Arbors.take i)[j].Name
            · rw [if_pos q, decide_eq_true q.symm]; rfl
            · rw [if_neg q, decide_eq_false (Ne.symm q)]; rfl, allI_all]
        have e : ((w.Arbors.take i).all fun b => !decide (b.Name = w.Arbors[i].Name)) = !((w.Arbors.take i).any fun b => decide (b.Name = w.Arbors[i].Name)) := by rw [Bool.eq_iff_iff]; simp
        rw [e]
        cases arbB w.Arbors[i] <;> cases ((w.Arbors.take i).any fun b => decide (b.Name = w.Arbors[i].Name)) <;> rfl
    · rw [if_neg (by omega), Option.bind_some, decide_eq_true (by omega), if_pos rfl, decide_eq_false h2, decide_eq_true h1]; rfl
  · rw [if_pos (by omega), Option.bind_some, if_pos rfl, decide_eq_false h1]; rfl
theorem s_l08Find_eq {w : Works_} (hl : w.Arbors.length ≤ 9223372036854775807) (s : ByteArray) : s_l08Find_m w s = some (posOf w.Arbors fun a => decide (a.Name = s)) := by
  unfold s_l08Find_m
  rw [findG (fun a => decide (a.Name = s)) hl fun i hi => by rw [atI_lt hi, Option.bind_some]; by_cases q : w.Arbors[i].Name = s <;> simp [q]]
theorem s_l08Known_eq {w : Works_} (hm : w.Meshes.length ≤ 9223372036854775807) (m : Mesh_) {k : Nat} (hk : k ≤ w.Meshes.length) : s_l08Known_m w m (k : Int) = some ((w.Meshes.take k).any fun n => sameB m n) := by
  unfold s_l08Known_m
  rw [scanT k (fun _ n => !sameB m n) hk hm fun i hi _ => by rw [atI_lt hi, Option.bind_some, s_l08Equal_eq, Option.bind_some, sameB_comm]; cases sameB m w.Meshes[i] <;> rfl, allI_all, Option.bind_some]
  have e : ((w.Meshes.take k).all fun n => !sameB m n) = !((w.Meshes.take k).any fun n => sameB m n) := by rw [Bool.eq_iff_iff]; simp
  rw [e]
  cases ((w.Meshes.take k).any fun n => sameB m n) <;> rfl
theorem s_l08Ok_eq {w : Works_} (hl : w.Arbors.length ≤ 9223372036854775807) (hw : ∀ b ∈ w.Arbors, b.Wheels.length ≤ 9223372036854775807) (hm : w.Meshes.length ≤ 9223372036854775807) : s_l08Ok_m w = some (wksB w) := by
  unfold s_l08Ok_m wksB
  rw [scanG (e := .inr false) (fun i a => arbB a && !((w.Arbors.take i).any fun b => decide (b.Name = a.Name))) hl fun i hi => ?_, Option.bind_some,
      scanG (e := .inr false) (fun i m => joinB w m && !((w.Meshes.take i).any fun n => sameB m n)) hm fun i hi => ?_, Option.bind_some]
  · have e1 : decide ((w.Meshes.length : Int) ≤ 24) = decide (w.Meshes.length ≤ 24) := by rw [decide_eq_decide]; omega
    have e2 : (if (w.Arbors.length : Int) ≤ 16 then some (decide ((w.Meshes.length : Int) ≤ 24)) else some false) = some (decide (w.Arbors.length ≤ 16) && decide (w.Meshes.length ≤ 24)) := by
      rw [e1]
      by_cases h1 : w.Arbors.length ≤ 16
      · rw [if_pos (by omega), decide_eq_true h1, Bool.true_and]
      · rw [if_neg (by omega), decide_eq_false h1]; rfl
    rw [e2]
    cases allI w.Arbors (fun i a => arbB a && !((w.Arbors.take i).any fun b => decide (b.Name = a.Name))) <;> cases allI w.Meshes (fun i m => joinB w m && !((w.Meshes.take i).any fun n => sameB m n)) <;> cases decide (w.Arbors.length ≤ 16) <;> cases decide (w.Meshes.length ≤ 24) <;> rfl
  · simp only [atI_lt hi, Option.bind_some, s_l08Mesh_eq hl hw, s_l08Known_eq hm _ (Nat.le_of_lt hi)]
    cases joinB w w.Meshes[i] <;> cases ((w.Meshes.take i).any fun n => sameB w.Meshes[i] n) <;> rfl
  · simp only [atI_lt hi, Option.bind_some, s_l08Arbor_eq (hw _ (List.getElem_mem hi)), s_l08Find_eq hl, posOf_here (p := fun a => decide (a.Name = w.Arbors[i].Name)) hi (decide_eq_true rfl)]
    cases arbB w.Arbors[i] <;> cases ((w.Arbors.take i).any fun b => decide (b.Name = w.Arbors[i].Name)) <;> rfl
end Go.Proofs.YtlakbomkpnlidaaGreat
