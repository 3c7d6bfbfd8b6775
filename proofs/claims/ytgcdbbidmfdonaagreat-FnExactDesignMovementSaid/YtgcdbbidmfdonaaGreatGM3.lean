/- Texts of this claim, one behind the other (merged by a program of mine). -/
import Derived.KernelRfl
import Derived.MapKept
import Derived.Maps.OwnOps
import Derived.Maps.AppendAt
import Derived.Maps.Views
import Derived.Below
import Derived.Test.YtgcdbbidmfdonaaGreatGM2
set_option linter.unusedSimpArgs false
set_option linter.unusedVariables false
namespace Go.Proofs.YtgcdbbidmfdonaaGreat
open Go.RowKit
set_option linter.unusedVariables false
set_option maxRecDepth 100000
set_option maxHeartbeats 2000000
structure aNk where
 Year : Int
 Month : Int
 Day : Int
deriving DecidableEq
structure aR7 where
 code : List Int
 at_ : Int
 seed : Int
deriving DecidableEq
structure bG where
 Name : ByteArray
 Days : Int
 Leap : Int
deriving DecidableEq
def aT (x : bG) : List DV := [.v (.string x.Name), .v (.int .i64 x.Days), .v (.int .i64 x.Leap)]
structure aO where
 Every : Int
 Rest : Int
 Leap : Bool
deriving DecidableEq
def aG (x : aO) : List DV := [.v (.int .i64 x.Every), .v (.int .i64 x.Rest), .v (.bool x.Leap)]
structure aD where
 Name : ByteArray
 Months : List bG
 Rules : List aO
 Week : Int
deriving DecidableEq
def dC (x : aD) : List DV := [.v (.string x.Name), .sl (List.map aT x.Months), .sl (List.map aG x.Rules), .v (.int .i64 x.Week)]
structure oJ where
 Year : Int
 Month : Int
 Shown : Int
 Right : Int
deriving DecidableEq
def zM (x : oJ) : List DV := [.v (.int .i64 x.Year), .v (.int .i64 x.Month), .v (.int .i64 x.Shown), .v (.int .i64 x.Right)]
structure aM where
 Num : Int
 Den : Int
deriving DecidableEq
def aCo (x : aM) : List DV := [.v (.int .i64 x.Num), .v (.int .i64 x.Den)]
structure gG where
 LowDriver : Int
 HighDriver : Int
 LowDriven : Int
 HighDriven : Int
 Stages : Int
deriving DecidableEq
def xW (x : gG) : List DV := [.v (.int .i64 x.LowDriver), .v (.int .i64 x.HighDriver), .v (.int .i64 x.LowDriven), .v (.int .i64 x.HighDriven), .v (.int .i64 x.Stages)]
structure aP where
 value : Int
 teeth : List Int
deriving DecidableEq
def aN (x : aP) : List DV := [.v (.int .i64 x.value), .sl (List.map cI x.teeth)]
structure bL where
 Driver : Int
 Driven : Int
deriving DecidableEq
def bU (x : bL) : List DV := [.v (.int .i64 x.Driver), .v (.int .i64 x.Driven)]
structure dO where
 driver : Int
 driven : Int
 off : Int
 train : List bL
deriving DecidableEq
structure qU where
 Train : List bL
 Error : aM
deriving DecidableEq
structure cV where
 A : Int
 WheelA : Int
 B : Int
 WheelB : Int
deriving DecidableEq
def dV (x : cV) : List DV := [.v (.int .i64 x.A), .v (.int .i64 x.WheelA), .v (.int .i64 x.B), .v (.int .i64 x.WheelB)]
structure bV where
 Name : ByteArray
 Wheels : List Int
deriving DecidableEq
def bI (x : bV) : List DV := [.v (.string x.Name), .sl (List.map cI x.Wheels)]
structure dE where
 Arbors : List bV
 Meshes : List cV
deriving DecidableEq
structure bP where
 Name : ByteArray
 Works : dE
 Minute : Int
 Hour : Int
 Escape : Int
 Teeth : Int
 Beats : Int
 Calendar : aD
 Cam : List Int
 Strike : Int
deriving DecidableEq
structure oC where
 Cam : List Int
 Months : Int
 Teeth : Int
 At : Int
 Day : Int
 Week : Int
 Weekday : Int
deriving DecidableEq
structure aTg where
 Movement : bP
 Start : aNk
 First : Int
 Clock : Int
 Dial : oC
deriving DecidableEq
structure aA5 where
 products : List Int
 lists : Int → List (List Int)
structure jI where
 p : Int
 q : Int
 far : Int
deriving DecidableEq
def nI (x : jI) : List DV := [.v (.int .i64 x.p), .v (.int .i64 x.q), .v (.int .i64 x.far)]
def eE (p0 : Int) (p1 : Int) (p2 : Int) : Option Bool :=
 (if p1 ≤ p0 then
 some (decide (p0 ≤ p2))
 else
 some false)
def mE (p0 : Int) (p1 : Int) : Option Int :=
 ((cE (S := Int × Int) (X := Int) (fun s3 =>
 (if 0 < s3.2 then
 (chk (s3.2 ≠ 0) (
 some (.inl (s3.2,s3.1.tmod s3.2))))
 else
 some (.inr s3.1))) (p0,p1) : Option Int).bind fun v5 =>
 some v5)
def kL (p0 : List aO) : Option (Int × Bool) :=
 ((cE (S := Int × Int) (X := Int ⊕ (Int × Bool)) (fun s12 =>
 (if s12.2 < (p0.length : Int) then
 ((((atI p0 s12.2).bind fun v13 =>
 ((eE v13.Every 1 1000).bind fun v14 =>
 (if (!v14) = true then
 some true
 else
 ((atI p0 s12.2).bind fun v15 =>
 ((atI p0 s12.2).bind fun v16 =>
 ((eE v15.Rest 0 (w64 (v16.Every - 1))).bind fun v17 =>
 some (!v17))))))) : Option Bool).bind fun v18 =>
 (if v18 = true then
 some (.inr (.inr (0,false)))
 else
 ((atI p0 s12.2).bind fun v19 =>
 ((atI p0 s12.2).bind fun v20 =>
 ((mE s12.1 v19.Every).bind fun v21 =>
 (chk (v21 ≠ 0) (
 (if 2000 < (w64 ((w64 (s12.1.tdiv v21)) * v20.Every)) then
 some (.inr (.inr (0,false)))
 else
 some (.inl (w64 ((w64 (s12.1.tdiv v21)) * v20.Every),w64 (s12.2 + 1)))))))))))
 else
 some (.inr (.inl s12.1)))) (1,0) : Option (Int ⊕ (Int × Bool))).bind fun v23x => orE v23x fun v23 =>
 some (v23,decide ((p0.length : Int) ≤ 6)))
def kS (p0 : Int) : Option Bool :=
 (if 97 ≤ p0 then
 some (decide (p0 ≤ 122))
 else
 some false)
def mY (p0 : Int) : Option Bool :=
 (if 48 ≤ p0 then
 some (decide (p0 ≤ 57))
 else
 some false)
def lU (p0 : ByteArray) : Option Bool :=
 (((if p0 = (⟨#[]⟩ : ByteArray) then
 some true
 else
 (if 12 < (p0.size : Int) then
 some true
 else
 ((aCm p0 0).bind fun v1 =>
 ((kS v1).bind fun v2 =>
 some (!v2))))) : Option Bool).bind fun v3 =>
 (if v3 = true then
 some false
 else
 ((cE (S := Int) (X := Unit ⊕ Bool) (fun s11 =>
 (if s11 < (p0.size : Int) then
 ((((aCm p0 s11).bind fun v12 =>
 ((kS v12).bind fun v13 =>
 (if (!v13) = true then
 ((aCm p0 s11).bind fun v14 =>
 ((mY v14).bind fun v15 =>
 (if (!v15) = true then
 ((aCm p0 s11).bind fun v16 =>
 some (decide (v16 ≠ 45)))
 else
 some false)))
 else
 some false))) : Option Bool).bind fun v17 =>
 (if v17 = true then
 some (.inr (.inr false))
 else
 some (.inl (w64 (s11 + 1)))))
 else
 some (.inr (.inl ())))) 0 : Option (Unit ⊕ Bool)).bind fun v18x => orE v18x fun v18 =>
 some true)))
def lS (p0 : List bG) : Option Bool :=
 ((cE (S := Int) (X := Unit ⊕ Bool) (fun s16 =>
 (if s16 < (p0.length : Int) then
 ((((((atI p0 s16).bind fun v17 =>
 ((lU v17.Name).bind fun v18 =>
 (if (!v18) = true then
 some true
 else
 ((atI p0 s16).bind fun v19 =>
 ((eE v19.Days 1 60).bind fun v20 =>
 (if (!v20) = true then
 some true
 else
 ((atI p0 s16).bind fun v21 =>
 ((eE v21.Leap 1 60).bind fun v22 =>
 some (!v22))))))))) : Option Bool).bind fun v23 =>
 (if v23 = true then
 some (.inr (.inr (.inr false)))
 else
 cE (S := Int) (X := Unit ⊕ (Int ⊕ (Unit ⊕ Bool))) (fun s27 =>
 (if s27 < s16 then
 ((atI p0 s27).bind fun v28 =>
 ((atI p0 s16).bind fun v29 =>
 (if v28.Name = v29.Name then
 some (.inr (.inr (.inr (.inr false))))
 else
 some (.inl (w64 (s27 + 1))))))
 else
 some (.inr (.inl ())))) 0)) : Option (Unit ⊕ (Int ⊕ (Unit ⊕ Bool)))).bind fun v30x => orE v30x fun v30 =>
 some (.inl (w64 (s16 + 1))))
 else
 some (.inr (.inl ())))) 0 : Option (Unit ⊕ Bool)).bind fun v31x => orE v31x fun v31 =>
 ((eE (p0.length : Int) 1 20).bind fun v32 =>
 some v32))
def qS (p0 : aD) : Option Bool :=
 ((kL p0.Rules).bind fun v1 =>
 (if v1.2 = true then
 ((lU p0.Name).bind fun v2 =>
 (if v2 = true then
 ((lS p0.Months).bind fun v3 =>
 (if v3 = true then
 ((eE p0.Week 1 12).bind fun v4 =>
 some v4)
 else
 some false))
 else
 some false))
 else
 some false))
def jA (p0 : Int) : Option Bool :=
 ((eE p0 6 240).bind fun v1 =>
 some v1)
def nJ (p0 : aD) (p1 : Int) : Option Bool :=
 ((eE p1 1 260).bind fun v1 =>
 (if v1 = true then
 some (decide ((w64 (p1 * (p0.Months.length : Int))) ≤ 260))
 else
 some false))
def hH (p0 : aD) (p1 : Int) : Option Int :=
 ((kL p0.Rules).bind fun v1 =>
 ((mE v1.1 p1).bind fun v2 =>
 (chk (v2 ≠ 0) (
 some (w64 ((w64 (v1.1.tdiv v2)) * p1))))))
def mB (p0 : aD) (p1 : Int) : Option Bool :=
 ((cE (S := Bool × Int) (X := Bool) (fun s7 =>
 (if s7.2 < (p0.Rules.length : Int) then
 ((((atI p0.Rules s7.2).bind fun v8 =>
 (chk (v8.Every ≠ 0) (
 ((atI p0.Rules s7.2).bind fun v10 =>
 (if (p1.tmod v8.Every) = v10.Rest then
 ((atI p0.Rules s7.2).bind fun v11 =>
 some v11.Leap)
 else
 some s7.1))))) : Option Bool).bind fun v12 =>
 some (.inl (v12,w64 (s7.2 + 1))))
 else
 some (.inr s7.1))) (false,0) : Option Bool).bind fun v13 =>
 some v13)
def qH (p0 : Int) (p1 : Int) : Option Int :=
 (if p0 < p1 then
 some p0
 else
 some p1)
def eZ (p0 : aD) (p1 : Int) (p2 : Int) (p3 : Int) (p4 : Int) : Option Int :=
 ((cE (S := Int × Int × Int) (X := Int × Int) (fun s4 =>
 (if s4.2.2 < p3 then
 ((((mB p0 s4.2.2).bind fun v5 =>
 (if v5 = true then
 some (w64 (s4.1 + 1))
 else
 some s4.1)) : Option Int).bind fun v6 =>
 some (.inl (v6,w64 (s4.2.1 + 1),w64 (s4.2.2 + p2))))
 else
 some (.inr (s4.1,s4.2.1)))) (0,0,p1) : Option (Int × Int)).bind fun v7 =>
 ((atI p0.Months p4).bind fun v8 =>
 (if v7.2 < (w64 (2 * v7.1)) then
 some v8.Leap
 else
 (if (w64 (2 * v7.1)) < v7.2 then
 some v8.Days
 else
 ((qH v8.Leap v8.Days).bind fun v9 =>
 some v9)))))
def oT (p0 : aD) (p1 : Int) (p2 : Int) : Option Int :=
 ((mB p0 p1).bind fun v1 =>
 (if v1 = true then
 ((atI p0.Months p2).bind fun v2 =>
 some v2.Leap)
 else
 ((atI p0.Months p2).bind fun v3 =>
 some v3.Days)))
def nA (p0 : aD) (p1 : List Int) (p2 : Int) (p3 : Int) : Option (oJ × Bool) :=
 (chk ((p0.Months.length : Int) ≠ 0) (
 ((oT p0 p2 p3).bind fun v2 =>
 (chk ((w64 ((p1.length : Int).tdiv (p0.Months.length : Int))) ≠ 0) (
 ((atI p1 (w64 ((w64 ((p2.tmod (w64 ((p1.length : Int).tdiv (p0.Months.length : Int)))) * (p0.Months.length : Int))) + p3))).bind fun v4 =>
 some ((⟨p2,w64 (p3 + 1),v4,v2⟩ : oJ),decide (v4 ≠ v2))))))))
def kM (p0 : aD) (p1 : List Int) (p2 : Int) : Option Int :=
 ((cE (S := Int × Int) (X := Int) (fun s9 =>
 (if s9.2 < p2 then
 ((cE (S := Int × Int) (X := Int) (fun s13 =>
 (if s13.2 < (p0.Months.length : Int) then
 ((((nA p0 p1 s9.2 s13.2).bind fun v14 =>
 (if v14.2 = true then
 some (w64 (s13.1 + 1))
 else
 some s13.1)) : Option Int).bind fun v15 =>
 some (.inl (v15,w64 (s13.2 + 1))))
 else
 some (.inr s13.1))) (s9.1,0) : Option Int).bind fun v16 =>
 some (.inl (v16,w64 (s9.2 + 1))))
 else
 some (.inr s9.1))) (0,0) : Option Int).bind fun v17 =>
 some v17)
def kH (p0 : aD) (p1 : Int) : Option (List Int × Int × Int) :=
 ((qS p0).bind fun v1 =>
 (if (!v1) = true then
 some (([] : List Int),0,1)
 else
 ((nJ p0 p1).bind fun v2 =>
 (if (!v2) = true then
 some (([] : List Int),0,2)
 else
 ((hH p0 p1).bind fun v3 =>
 ((cE (S := Int × List Int) (X := List Int) (fun s12 =>
 (if s12.1 < p1 then
 ((cE (S := Int × List Int) (X := List Int) (fun s16 =>
 (if s16.1 < (p0.Months.length : Int) then
 ((eZ p0 s12.1 p1 v3 s16.1).bind fun v17 =>
 (chk ((s16.2.length + [v17].length) * 1 * 64 ≤ 140737488355328) (
 some (.inl (w64 (s16.1 + 1),s16.2 ++ [v17])))))
 else
 some (.inr s16.2))) (0,s12.2) : Option (List Int)).bind fun v19 =>
 some (.inl (w64 (s12.1 + 1),v19)))
 else
 some (.inr s12.2))) (0,([] : List Int)) : Option (List Int)).bind fun v20 =>
 ((kM p0 v20 v3).bind fun v21 =>
 some (v20,v21,0))))))))
def mF (p0 : Int) : Option Int :=
 (if p0 < 0 then
 some (IntKind.u64.wrap (-(IntKind.u64.wrap p0)))
 else
 some (IntKind.u64.wrap p0))
def fH (p0 : Int) (p1 : Int) : Option (aM × Bool) :=
 ((mF p0).bind fun v1 =>
 ((mF p1).bind fun v2 =>
 ((cE (S := Int × Int) (X := Int) (fun s5 =>
 (if 0 < s5.2 then
 (chk (s5.2 ≠ 0) (
 some (.inl (s5.2,s5.1.tmod s5.2))))
 else
 some (.inr s5.1))) (v1,v2) : Option Int).bind fun v7 =>
 (chk (v7 ≠ 0) (
 (chk (v7 ≠ 0) (
 (((if 1000000000 < (IntKind.u64.wrap (v1.tdiv v7)) then
 some true
 else
 some (decide (1000000000 < (IntKind.u64.wrap (v2.tdiv v7))))) : Option Bool).bind fun v10 =>
 (if v10 = true then
 some ((⟨0,0⟩ : aM),false)
 else
 (((if ((decide (p0 < 0)) != (decide (p1 < 0))) = true then
 some (⟨w64 (-(w64 (IntKind.u64.wrap (v1.tdiv v7)))),w64 (IntKind.u64.wrap (v2.tdiv v7))⟩ : aM)
 else
 some (⟨w64 (IntKind.u64.wrap (v1.tdiv v7)),w64 (IntKind.u64.wrap (v2.tdiv v7))⟩ : aM)) : Option aM).bind fun v11 =>
 some (v11,true)))))))))))
def nX  : Option gG :=
 some (⟨60,84,7,10,2⟩ : gG)
def jG (p0 : Int) : Option Int :=
 (if p0 < 0 then
 some (w64 (-p0))
 else
 some p0)
def qO (p0 : aM) : Option Bool :=
 ((eE p0.Den 1 1000000000).bind fun v1 =>
 (if v1 = true then
 ((eE p0.Num (-1000000000) 1000000000).bind fun v2 =>
 (if v2 = true then
 ((jG p0.Num).bind fun v3 =>
 ((mE v3 p0.Den).bind fun v4 =>
 some (decide (v4 = 1))))
 else
 some false))
 else
 some false))
def pE (p0 : Int) (p1 : Int) : Option Bool :=
 (if 6 ≤ p0 then
 (if p1 ≤ 120 then
 ((eE p1 p0 (w64 (p0 + 30))).bind fun v1 =>
 some v1)
 else
 some false)
 else
 some false)
def vO (p0 : gG) : Option Bool :=
 ((pE p0.LowDriver p0.HighDriver).bind fun v1 =>
 (if v1 = true then
 ((pE p0.LowDriven p0.HighDriven).bind fun v2 =>
 (if v2 = true then
 ((eE p0.Stages 1 3).bind fun v3 =>
 some v3)
 else
 some false))
 else
 some false))
def sW (p0 : aM) : Option Bool :=
 ((eE p0.Num 1 1000000).bind fun v1 =>
 (if v1 = true then
 some (decide (p0.Den ≤ 1000000))
 else
 some false))
def oB (p0 : List Int) : Option (List Int) :=
 (chk ((([] : List Int).length + p0.length) * 1 * 64 ≤ 140737488355328) (
 some (([] : List Int) ++ p0)))
def gM (p0 : Int) (p1 : Int) (p2 : Int) : Option (List aP) :=
 ((cE (S := List aP × Int) (X := List aP) (fun s38 =>
 (if s38.2 < p2 then
 ((((cE (S := Int × List aP) (X := List aP) (fun s56 =>
 (if s56.1 < (s38.1.length : Int) then
 (((((if 0 < s38.2 then
 ((atI s38.1 s56.1).bind fun v57 =>
 ((atI v57.teeth (w64 (s38.2 - 1))).bind fun v58 =>
 some v58))
 else
 some p0) : Option Int).bind fun v59 =>
 cE (S := Int × List aP) (X := List aP) (fun s66 =>
 (if s66.1 ≤ p1 then
 ((atI s38.1 s56.1).bind fun v67 =>
 ((atI s38.1 s56.1).bind fun v68 =>
 ((oB v68.teeth).bind fun v69 =>
 (chk ((v69.length + [s66.1].length) * 1 * 64 ≤ 140737488355328) (
 (chk ((s66.2.length + [(⟨w64 (v67.value * s66.1),v69 ++ [s66.1]⟩ : aP)].length) * 2 * 64 ≤ 140737488355328) (
 some (.inl (w64 (s66.1 + 1),s66.2 ++ [(⟨w64 (v67.value * s66.1),v69 ++ [s66.1]⟩ : aP)])))))))))
 else
 some (.inr s66.2))) (v59,s56.2)) : Option (List aP)).bind fun v72 =>
 some (.inl (w64 (s56.1 + 1),v72)))
 else
 some (.inr s56.2))) (0,([] : List aP)) : Option (List aP)).bind fun v73 =>
 some v73) : Option (List aP)).bind fun v74 =>
 some (.inl (v74,w64 (s38.2 + 1))))
 else
 some (.inr s38.1))) ([(⟨1,[]⟩ : aP)],0) : Option (List aP)).bind fun v75 =>
 some v75)
def nH (p0 : List aP) (p1 : List aP) : Option (List aP) :=
 ((cE (S := Int × Int × List aP) (X := Int × List aP) (fun s18 =>
 (if s18.2.1 < (p1.length : Int) then
 ((((cE (S := Int × List aP) (X := Int × List aP) (fun s25 =>
 (((if s25.1 < (p0.length : Int) then
 ((atI p0 s25.1).bind fun v26 =>
 ((atI p1 s18.2.1).bind fun v27 =>
 some (decide (v26.value ≤ v27.value))))
 else
 some false) : Option Bool).bind fun v28 =>
 (if v28 = true then
 ((atI p0 s25.1).bind fun v29 =>
 (chk ((s25.2.length + [v29].length) * 2 * 64 ≤ 140737488355328) (
 some (.inl (w64 (s25.1 + 1),s25.2 ++ [v29])))))
 else
 some (.inr (s25.1,s25.2))))) (s18.1,s18.2.2) : Option (Int × List aP)).bind fun v31 =>
 ((atI p1 s18.2.1).bind fun v32 =>
 (chk ((v31.2.length + [v32].length) * 2 * 64 ≤ 140737488355328) (
 some (v31.1,v31.2 ++ [v32]))))) : Option (Int × List aP)).bind fun v34 =>
 some (.inl (v34.1,w64 (s18.2.1 + 1),v34.2)))
 else
 some (.inr (s18.1,s18.2.2)))) (0,0,([] : List aP)) : Option (Int × List aP)).bind fun v35 =>
 (chk (0 ≤ v35.1 ∧ v35.1 ≤ (p0.length : Int) ∧ (p0.length : Int) ≤ (p0.length : Int)) (
 (chk ((v35.2.length + (xD p0 v35.1 (p0.length : Int)).length) * 2 * 64 ≤ 140737488355328) (
 some (v35.2 ++ (xD p0 v35.1 (p0.length : Int))))))))
def iB : Nat → (List aP) → Option (List aP)
 | 0,_ => none
 | n' + 1,p0 =>
 (if (p0.length : Int) < 2 then
 some p0
 else
 (chk (0 ≤ (0 : Int) ∧ (0 : Int) ≤ (w64 ((p0.length : Int).tdiv 2)) ∧ (w64 ((p0.length : Int).tdiv 2)) ≤ (p0.length : Int)) (
 (chk (0 ≤ (w64 ((p0.length : Int).tdiv 2)) ∧ (w64 ((p0.length : Int).tdiv 2)) ≤ (p0.length : Int) ∧ (p0.length : Int) ≤ (p0.length : Int)) (
 ((iB n' (xD p0 (0 : Int) (w64 ((p0.length : Int).tdiv 2)))).bind fun v4 =>
 ((iB n' (xD p0 (w64 ((p0.length : Int).tdiv 2)) (p0.length : Int))).bind fun v5 =>
 ((nH v4 v5).bind fun v6 =>
 some v6))))))))
def mZ (p0 : List aP) (p1 : Int) : Option Int :=
 ((cE (S := Int × Int) (X := Int) (fun s4 =>
 (if s4.1 < s4.2 then
 ((atI p0 (w64 ((w64 (s4.1 + s4.2)).tdiv 2))).bind fun v6 =>
 (if v6.value < p1 then
 some (.inl (w64 ((w64 ((w64 (s4.1 + s4.2)).tdiv 2)) + 1),s4.2))
 else
 some (.inl (s4.1,w64 ((w64 (s4.1 + s4.2)).tdiv 2)))))
 else
 some (.inr s4.1))) (0,(p0.length : Int)) : Option Int).bind fun v7 =>
 some v7)
def lZ (p0 : List Int) : Option (List Int) :=
 ((cE (S := Int × List Int) (X := List Int) (fun s18 =>
 (if s18.1 < (p0.length : Int) then
 ((((cE (S := Int) (X := Int) (fun s23 =>
 (((if 0 < s23 then
 ((atI s18.2 (w64 (s23 - 1))).bind fun v24 =>
 ((atI p0 s18.1).bind fun v25 =>
 some (decide (v25 < v24))))
 else
 some false) : Option Bool).bind fun v26 =>
 (if v26 = true then
 some (.inl (w64 (s23 - 1)))
 else
 some (.inr s23)))) (s18.2.length : Int) : Option Int).bind fun v27 =>
 (chk (0 ≤ (0 : Int) ∧ (0 : Int) ≤ v27 ∧ v27 ≤ (s18.2.length : Int)) (
 ((atI p0 s18.1).bind fun v29 =>
 ((oB (xD s18.2 (0 : Int) v27)).bind fun v30 =>
 (chk ((v30.length + [v29].length) * 1 * 64 ≤ 140737488355328) (
 (chk (0 ≤ v27 ∧ v27 ≤ (s18.2.length : Int) ∧ (s18.2.length : Int) ≤ (s18.2.length : Int)) (
 (chk (((v30 ++ [v29]).length + (xD s18.2 v27 (s18.2.length : Int)).length) * 1 * 64 ≤ 140737488355328) (
 some ((v30 ++ [v29]) ++ (xD s18.2 v27 (s18.2.length : Int)))))))))))))) : Option (List Int)).bind fun v34 =>
 some (.inl (w64 (s18.1 + 1),v34)))
 else
 some (.inr s18.2))) (0,([] : List Int)) : Option (List Int)).bind fun v35 =>
 some v35)
def kQ (p0 : List Int) (p1 : List Int) : Option (List bL) :=
 ((lZ p0).bind fun v1 =>
 ((lZ p1).bind fun v2 =>
 ((cE (S := Int × List bL) (X := List bL) (fun s7 =>
 (if s7.1 < (v2.length : Int) then
 ((atI v1 (w64 ((w64 ((v1.length : Int) - 1)) - s7.1))).bind fun v8 =>
 ((atI v2 s7.1).bind fun v9 =>
 (chk ((s7.2.length + [(⟨v8,v9⟩ : bL)].length) * 2 * 64 ≤ 140737488355328) (
 some (.inl (w64 (s7.1 + 1),s7.2 ++ [(⟨v8,v9⟩ : bL)]))))))
 else
 some (.inr s7.2))) (0,([] : List bL)) : Option (List bL)).bind fun v11 =>
 some v11)))
def mH (p0 : List bL) : Option Int :=
 ((cE (S := Int × Int) (X := Int) (fun s4 =>
 (if s4.2 < (p0.length : Int) then
 ((atI p0 s4.2).bind fun v5 =>
 ((atI p0 s4.2).bind fun v6 =>
 some (.inl (w64 (s4.1 + (w64 (v5.Driver + v6.Driven))),w64 (s4.2 + 1)))))
 else
 some (.inr s4.1))) (0,0) : Option Int).bind fun v7 =>
 some v7)
def kK (p0 : Int) : Option aM :=
 some (⟨p0,1⟩ : aM)
def pX (p0 : aM) (p1 : aM) : Option Int :=
 (if (w64 (p0.Num * p1.Den)) < (w64 (p1.Num * p0.Den)) then
 some (-1)
 else
 (if (w64 (p1.Num * p0.Den)) < (w64 (p0.Num * p1.Den)) then
 some 1
 else
 some 0))
def kC (p0 : List bL) (p1 : List bL) : Option Int :=
 ((mH p0).bind fun v1 =>
 ((mH p1).bind fun v2 =>
 ((cE (S := Int × List Int) (X := List Int) (fun s7 =>
 (if s7.1 < (p0.length : Int) then
 ((atI p0 s7.1).bind fun v8 =>
 ((atI p0 s7.1).bind fun v9 =>
 (chk ((s7.2.length + [v8.Driver,v9.Driven].length) * 1 * 64 ≤ 140737488355328) (
 some (.inl (w64 (s7.1 + 1),s7.2 ++ [v8.Driver,v9.Driven]))))))
 else
 some (.inr s7.2))) (0,[v1]) : Option (List Int)).bind fun v11 =>
 ((cE (S := Int × List Int) (X := List Int) (fun s16 =>
 (if s16.1 < (p1.length : Int) then
 ((atI p1 s16.1).bind fun v17 =>
 ((atI p1 s16.1).bind fun v18 =>
 (chk ((s16.2.length + [v17.Driver,v18.Driven].length) * 1 * 64 ≤ 140737488355328) (
 some (.inl (w64 (s16.1 + 1),s16.2 ++ [v17.Driver,v18.Driven]))))))
 else
 some (.inr s16.2))) (0,[v2]) : Option (List Int)).bind fun v20 =>
 ((cE (S := Int) (X := Unit ⊕ Int) (fun s27 =>
 (((if s27 < (v11.length : Int) then
 some (decide (s27 < (v20.length : Int)))
 else
 some false) : Option Bool).bind fun v28 =>
 (if v28 = true then
 ((atI v11 s27).bind fun v29 =>
 ((atI v20 s27).bind fun v30 =>
 (if v29 < v30 then
 some (.inr (.inr (-1)))
 else
 ((atI v11 s27).bind fun v31 =>
 ((atI v20 s27).bind fun v32 =>
 (if v32 < v31 then
 some (.inr (.inr 1))
 else
 some (.inl (w64 (s27 + 1)))))))))
 else
 some (.inr (.inl ()))))) 0 : Option (Unit ⊕ Int)).bind fun v33x => orE v33x fun v33 =>
 ((kK (v11.length : Int)).bind fun v34 =>
 ((kK (v20.length : Int)).bind fun v35 =>
 ((pX v34 v35).bind fun v36 =>
 some v36))))))))
def fX (p0 : dO) (p1 : aM) (p2 : aP) (p3 : aP) : Option dO :=
 ((jG (w64 ((w64 (p2.value * p1.Den)) - (w64 (p3.value * p1.Num))))).bind fun v1 =>
 (((if 0 < (p0.train.length : Int) then
 some (decide ((w64 (p0.off * p3.value)) < (w64 (v1 * p0.driven))))
 else
 some false) : Option Bool).bind fun v2 =>
 (if v2 = true then
 some p0
 else
 ((kQ p2.teeth p3.teeth).bind fun v3 =>
 (((if (p0.train.length : Int) = 0 then
 some true
 else
 (if (w64 (v1 * p0.driven)) < (w64 (p0.off * p3.value)) then
 some true
 else
 ((kC v3 p0.train).bind fun v4 =>
 some (decide (v4 < 0))))) : Option Bool).bind fun v5 =>
 (if v5 = true then
 some (⟨p2.value,p3.value,v1,v3⟩ : dO)
 else
 some p0))))))
def jR (p0 : aM) (p1 : gG) : Option (List bL) :=
 ((gM p1.LowDriver p1.HighDriver p1.Stages).bind fun v1 =>
 ((gM p1.LowDriven p1.HighDriven p1.Stages).bind fun v2 =>
 ((iB aIx v2).bind fun v3 =>
 ((cE (S := Int × dO) (X := dO) (fun s37 =>
 (if s37.1 < (v1.length : Int) then
 ((((atI v1 s37.1).bind fun v38 =>
 (chk (p0.Num ≠ 0) (
 ((mZ v3 (w64 ((w64 ((w64 (v38.value * p0.Den)).tdiv p0.Num)) + 1))).bind fun v40 =>
 (((if 0 < v40 then
 ((atI v3 (w64 (v40 - 1))).bind fun v41 =>
 cE (S := Int × dO) (X := dO) (fun s48 =>
 (((if 0 ≤ s48.1 then
 ((atI v3 s48.1).bind fun v49 =>
 some (decide (v49.value = v41.value)))
 else
 some false) : Option Bool).bind fun v50 =>
 (if v50 = true then
 ((atI v1 s37.1).bind fun v51 =>
 ((atI v3 s48.1).bind fun v52 =>
 ((fX s48.2 p0 v51 v52).bind fun v53 =>
 some (.inl (w64 (s48.1 - 1),v53)))))
 else
 some (.inr s48.2)))) (w64 (v40 - 1),s37.2))
 else
 some s37.2) : Option dO).bind fun v54 =>
 cE (S := Int × dO) (X := dO) (fun s62 =>
 (((if s62.1 < (v3.length : Int) then
 ((atI v3 s62.1).bind fun v63 =>
 ((atI v3 v40).bind fun v64 =>
 some (decide (v63.value = v64.value))))
 else
 some false) : Option Bool).bind fun v65 =>
 (if v65 = true then
 ((atI v1 s37.1).bind fun v66 =>
 ((atI v3 s62.1).bind fun v67 =>
 ((fX s62.2 p0 v66 v67).bind fun v68 =>
 some (.inl (w64 (s62.1 + 1),v68)))))
 else
 some (.inr s62.2)))) (v40,v54)))))) : Option dO).bind fun v69 =>
 some (.inl (w64 (s37.1 + 1),v69)))
 else
 some (.inr s37.2))) (0,(⟨0,0,0,([] : List bL)⟩ : dO)) : Option dO).bind fun v70 =>
 some v70.train))))
def rM (p0 : bL) : Option Bool :=
 ((jA p0.Driver).bind fun v1 =>
 (if v1 = true then
 ((jA p0.Driven).bind fun v2 =>
 some v2)
 else
 some false))
def sA (p0 : List bL) : Option Bool :=
 ((cE (S := Int) (X := Unit ⊕ Bool) (fun s4 =>
 (if s4 < (p0.length : Int) then
 ((atI p0 s4).bind fun v5 =>
 ((rM v5).bind fun v6 =>
 (if (!v6) = true then
 some (.inr (.inr false))
 else
 some (.inl (w64 (s4 + 1))))))
 else
 some (.inr (.inl ())))) 0 : Option (Unit ⊕ Bool)).bind fun v7x => orE v7x fun v7 =>
 some (decide ((p0.length : Int) ≤ 5)))
def kW (p0 : aM) (p1 : aM) : Option (aM × Bool) :=
 ((fH (w64 (p0.Num * p1.Num)) (w64 (p0.Den * p1.Den))).bind fun v1 =>
 some (v1.1,v1.2))
def kN (p0 : List bL) : Option (aM × Bool) :=
 ((kK 1).bind fun v1 =>
 ((cE (S := Int × aM) (X := aM ⊕ (aM × Bool)) (fun s7 =>
 (if s7.1 < (p0.length : Int) then
 ((atI p0 s7.1).bind fun v8 =>
 ((atI p0 s7.1).bind fun v9 =>
 ((fH (w64 (-v8.Driver)) v9.Driven).bind fun v10 =>
 ((kW s7.2 v10.1).bind fun v11 =>
 (if (!v11.2) = true then
 some (.inr (.inr ((⟨0,0⟩ : aM),false)))
 else
 some (.inl (w64 (s7.1 + 1),v11.1)))))))
 else
 some (.inr (.inl s7.2)))) (0,v1) : Option (aM ⊕ (aM × Bool))).bind fun v12x => orE v12x fun v12 =>
 some (v12,true)))
def sY (p0 : aM) : Option aM :=
 some (⟨w64 (-p0.Num),p0.Den⟩ : aM)
def tF (p0 : aM) (p1 : aM) : Option (aM × Bool) :=
 ((fH (w64 ((w64 (p0.Num * p1.Den)) + (w64 (p1.Num * p0.Den)))) (w64 (p0.Den * p1.Den))).bind fun v1 =>
 some (v1.1,v1.2))
def qX (p0 : List bL) (p1 : aM) : Option (aM × Bool) :=
 ((kN p0).bind fun v1 =>
 (if (!v1.2) = true then
 some ((⟨0,0⟩ : aM),false)
 else
 ((jG v1.1.Num).bind fun v2 =>
 ((sY p1).bind fun v3 =>
 ((tF (⟨v2,v1.1.Den⟩ : aM) v3).bind fun v4 =>
 some (v4.1,v4.2))))))
def oG (p0 : List bL) (p1 : aM) : Option (aM × Int) :=
 ((((sA p0).bind fun v1 =>
 (if (!v1) = true then
 some true
 else
 ((qO p1).bind fun v2 =>
 some (!v2)))) : Option Bool).bind fun v3 =>
 (if v3 = true then
 some ((⟨0,0⟩ : aM),1)
 else
 ((qX p0 p1).bind fun v4 =>
 (if (!v4.2) = true then
 some ((⟨0,0⟩ : aM),2)
 else
 ((jG v4.1.Num).bind fun v5 =>
 some ((⟨v5,v4.1.Den⟩ : aM),0))))))
def rH (p0 : aM) (p1 : gG) : Option (qU × Int) :=
 ((jR p0 p1).bind fun v1 =>
 ((oG v1 p0).bind fun v2 =>
 (if v2.2 ≠ 0 then
 some ((⟨([] : List bL),(⟨0,0⟩ : aM)⟩ : qU),v2.2)
 else
 some ((⟨v1,v2.1⟩ : qU),0))))
def lL (p0 : aM) (p1 : gG) : Option (qU × Int) :=
 ((((qO p0).bind fun v1 =>
 (if (!v1) = true then
 some true
 else
 ((vO p1).bind fun v2 =>
 some (!v2)))) : Option Bool).bind fun v3 =>
 (if v3 = true then
 some ((⟨([] : List bL),(⟨0,0⟩ : aM)⟩ : qU),1)
 else
 ((sW p0).bind fun v4 =>
 (if (!v4) = true then
 some ((⟨([] : List bL),(⟨0,0⟩ : aM)⟩ : qU),2)
 else
 ((rH p0 p1).bind fun v5 =>
 some (v5.1,v5.2))))))
def pD (p0 : List bL) : Option dE :=
 ((atI p0 0).bind fun v1 =>
 ((atI p0 0).bind fun v2 =>
 ((atI p0 1).bind fun v3 =>
 ((atI p0 1).bind fun v4 =>
 some (⟨[(⟨(⟨#[99,101,110,116,101,114]⟩ : ByteArray),[v1.Driver,12]⟩ : bV),(⟨(⟨#[116,104,105,114,100]⟩ : ByteArray),[v2.Driven,v3.Driver]⟩ : bV),(⟨(⟨#[101,115,99,97,112,101]⟩ : ByteArray),[v4.Driven]⟩ : bV),(⟨(⟨#[109,105,110,117,116,101]⟩ : ByteArray),[36,10]⟩ : bV),(⟨(⟨#[104,111,117,114]⟩ : ByteArray),[40]⟩ : bV)],[(⟨0,0,1,0⟩ : cV),(⟨1,1,2,0⟩ : cV),(⟨0,1,3,0⟩ : cV),(⟨3,1,4,0⟩ : cV)]⟩ : dE)))))
def qN (p0 : aD) : Option aD :=
 (chk ((([] : List bG).length + p0.Months.length) * 3 * 64 ≤ 140737488355328) (
 (chk ((([] : List aO).length + p0.Rules.length) * 3 * 64 ≤ 140737488355328) (
 some (⟨p0.Name,([] : List bG) ++ p0.Months,([] : List aO) ++ p0.Rules,p0.Week⟩ : aD)))))
def fZ (p0 : ByteArray) (p1 : Int) (p2 : Int) (p3 : aD) (p4 : Int) : Option (bP × Int) :=
 ((qS p3).bind fun v1 =>
 (if (!v1) = true then
 some ((⟨(⟨#[]⟩ : ByteArray),(⟨([] : List bV),([] : List cV)⟩ : dE),0,0,0,0,0,(⟨(⟨#[]⟩ : ByteArray),([] : List bG),([] : List aO),0⟩ : aD),([] : List Int),0⟩ : bP),1)
 else
 ((lU p0).bind fun v2 =>
 (if (!v2) = true then
 some ((⟨(⟨#[]⟩ : ByteArray),(⟨([] : List bV),([] : List cV)⟩ : dE),0,0,0,0,0,(⟨(⟨#[]⟩ : ByteArray),([] : List bG),([] : List aO),0⟩ : aD),([] : List Int),0⟩ : bP),7)
 else
 ((((eE p1 1 36000).bind fun v3 =>
 (if (!v3) = true then
 some true
 else
 ((jA p2).bind fun v4 =>
 some (!v4)))) : Option Bool).bind fun v5 =>
 (if v5 = true then
 some ((⟨(⟨#[]⟩ : ByteArray),(⟨([] : List bV),([] : List cV)⟩ : dE),0,0,0,0,0,(⟨(⟨#[]⟩ : ByteArray),([] : List bG),([] : List aO),0⟩ : aD),([] : List Int),0⟩ : bP),2)
 else
 ((kH p3 p4).bind fun v6 =>
 (if v6.2.2 ≠ 0 then
 some ((⟨(⟨#[]⟩ : ByteArray),(⟨([] : List bV),([] : List cV)⟩ : dE),0,0,0,0,0,(⟨(⟨#[]⟩ : ByteArray),([] : List bG),([] : List aO),0⟩ : aD),([] : List Int),0⟩ : bP),v6.2.2)
 else
 ((fH p1 (w64 (2 * p2))).bind fun v7 =>
 ((nX).bind fun v8 =>
 ((lL v7.1 v8).bind fun v9 =>
 (((if v9.2 ≠ 0 then
 some true
 else
 some (decide (v9.1.Error.Num ≠ 0))) : Option Bool).bind fun v10 =>
 (if v10 = true then
 some ((⟨(⟨#[]⟩ : ByteArray),(⟨([] : List bV),([] : List cV)⟩ : dE),0,0,0,0,0,(⟨(⟨#[]⟩ : ByteArray),([] : List bG),([] : List aO),0⟩ : aD),([] : List Int),0⟩ : bP),3)
 else
 ((pD v9.1.Train).bind fun v11 =>
 ((qN p3).bind fun v12 =>
 some ((⟨p0,v11,0,4,2,p2,p1,v12,v6.1,2⟩ : bP),0))))))))))))))))
def eG (p0 : Int) (p1 : Int) (p2 : Int) : Option Bool :=
 (if p1 ≤ p0 then
 some (decide (p0 ≤ p2))
 else
 some false)
def jH (p0 : Int) : Option Bool :=
 ((eG p0 6 240).bind fun v1 =>
 some v1)
def lV (p0 : ByteArray) : Option Bool :=
 (((if (p0.size : Int) < 1 then
 some true
 else
 some (decide (12 < (p0.size : Int)))) : Option Bool).bind fun v1 =>
 (if v1 = true then
 some false
 else
 (((chk (p0.size ≤ 140737488355328) (
 cE (S := Int) (X := Unit ⊕ Bool) (fun s8 =>
 (if s8 < ((dD p0).length : Int) then
 ((atI (dD p0) s8).bind fun v9 =>
 (((if 97 ≤ v9 then
 some (decide (v9 ≤ 122))
 else
 some false) : Option Bool).bind fun v10 =>
 (((if 48 ≤ v9 then
 (if v9 ≤ 57 then
 some true
 else
 some (decide (v9 = 45)))
 else
 some (decide (v9 = 45))) : Option Bool).bind fun v11 =>
 (((if (!v10) = true then
 (if s8 = 0 then
 some true
 else
 some (!v11))
 else
 some false) : Option Bool).bind fun v12 =>
 (if v12 = true then
 some (.inr (.inr false))
 else
 some (.inl (w64 (s8 + 1))))))))
 else
 some (.inr (.inl ())))) 0)) : Option (Unit ⊕ Bool)).bind fun v13x => orE v13x fun v13 =>
 some true)))
def iE (p0 : bG) (p1 : bG) : Option Bool :=
 some (decide (p0.Name = p1.Name))
def cD (p0 : List bG) (p1_0 : bG) : Option Int :=
 ((cE (S := Int) (X := Unit ⊕ Int) (fun s4 =>
 (if s4 < (p0.length : Int) then
 ((atI p0 s4).bind fun v5 =>
 ((iE v5 p1_0).bind fun v6 =>
 (if v6 = true then
 some (.inr (.inr s4))
 else
 some (.inl (w64 (s4 + 1))))))
 else
 some (.inr (.inl ())))) 0 : Option (Unit ⊕ Int)).bind fun v7x => orE v7x fun v7 =>
 some (-1))
def bM (p0 : List bG) (p1_0 : bG) : Option Bool :=
 ((cD p0 p1_0).bind fun v1 =>
 some (decide (0 ≤ v1)))
def qY (p0 : Int) (p1 : Int) : Option Int :=
 ((cE (S := Int × Int) (X := Int) (fun s3 =>
 (if s3.2 ≠ 0 then
 (chk (s3.2 ≠ 0) (
 some (.inl (s3.2,s3.1.tmod s3.2))))
 else
 some (.inr s3.1))) (p0,p1) : Option Int).bind fun v5 =>
 (if v5 < 0 then
 some (w64 (-v5))
 else
 some v5))
def gF (p0 : List aO) : Option Int :=
 ((cE (S := Int × Int) (X := Int) (fun s6 =>
 (if s6.2 < (p0.length : Int) then
 ((((atI p0 s6.2).bind fun v7 =>
 (if s6.1 ≤ 2000 then
 ((qY s6.1 v7.Every).bind fun v8 =>
 (chk (v8 ≠ 0) (
 some (w64 ((w64 (s6.1.tdiv v8)) * v7.Every)))))
 else
 some s6.1)) : Option Int).bind fun v10 =>
 some (.inl (v10,w64 (s6.2 + 1))))
 else
 some (.inr s6.1))) (1,0) : Option Int).bind fun v11 =>
 some v11)
def fC (p0 : aD) : Option Bool :=
 ((((lV p0.Name).bind fun v1 =>
 (if (!v1) = true then
 some true
 else
 (if (p0.Months.length : Int) < 1 then
 some true
 else
 (if 20 < (p0.Months.length : Int) then
 some true
 else
 (if 6 < (p0.Rules.length : Int) then
 some true
 else
 ((eG p0.Week 1 12).bind fun v2 =>
 some (!v2))))))) : Option Bool).bind fun v3 =>
 (if v3 = true then
 some false
 else
 ((cE (S := Int) (X := Unit ⊕ Bool) (fun s12 =>
 (if s12 < (p0.Months.length : Int) then
 ((atI p0.Months s12).bind fun v13 =>
 ((((lV v13.Name).bind fun v14 =>
 (if (!v14) = true then
 some true
 else
 ((eG v13.Days 1 60).bind fun v15 =>
 (if (!v15) = true then
 some true
 else
 ((eG v13.Leap 1 60).bind fun v16 =>
 some (!v16)))))) : Option Bool).bind fun v17 =>
 (if v17 = true then
 some (.inr (.inr false))
 else
 (chk (0 ≤ (0 : Int) ∧ (0 : Int) ≤ s12 ∧ s12 ≤ (p0.Months.length : Int)) (
 ((bM (xD p0.Months (0 : Int) s12) v13).bind fun v19 =>
 (if v19 = true then
 some (.inr (.inr false))
 else
 some (.inl (w64 (s12 + 1))))))))))
 else
 some (.inr (.inl ())))) 0 : Option (Unit ⊕ Bool)).bind fun v20x => orE v20x fun v20 =>
 ((cE (S := Int) (X := Unit ⊕ Bool) (fun s26 =>
 (if s26 < (p0.Rules.length : Int) then
 ((atI p0.Rules s26).bind fun v27 =>
 ((((eG v27.Every 1 1000).bind fun v28 =>
 (if (!v28) = true then
 some true
 else
 ((eG v27.Rest 0 (w64 (v27.Every - 1))).bind fun v29 =>
 some (!v29)))) : Option Bool).bind fun v30 =>
 (if v30 = true then
 some (.inr (.inr false))
 else
 some (.inl (w64 (s26 + 1))))))
 else
 some (.inr (.inl ())))) 0 : Option (Unit ⊕ Bool)).bind fun v31x => orE v31x fun v31 =>
 ((gF p0.Rules).bind fun v32 =>
 some (decide (v32 ≤ 2000)))))))
def jP (p0 : Int) : Option Int :=
 (if p0 < 0 then
 some (IntKind.u64.wrap (-(IntKind.u64.wrap p0)))
 else
 some (IntKind.u64.wrap p0))
def oP (p0 : Int) (p1 : Int) : Option (aM × Bool) :=
 ((jP p0).bind fun v1 =>
 ((jP p1).bind fun v2 =>
 ((cE (S := Int × Int) (X := Int) (fun s5 =>
 (if s5.2 ≠ 0 then
 (chk (s5.2 ≠ 0) (
 some (.inl (s5.2,s5.1.tmod s5.2))))
 else
 some (.inr s5.1))) (v1,v2) : Option Int).bind fun v7 =>
 (chk (v7 ≠ 0) (
 (chk (v7 ≠ 0) (
 (((if 1000000000 < (IntKind.u64.wrap (v1.tdiv v7)) then
 some true
 else
 some (decide (1000000000 < (IntKind.u64.wrap (v2.tdiv v7))))) : Option Bool).bind fun v10 =>
 (if v10 = true then
 some ((⟨0,0⟩ : aM),false)
 else
 (((if ((decide (p0 < 0)) != (decide (p1 < 0))) = true then
 some (⟨w64 (-(w64 (IntKind.u64.wrap (v1.tdiv v7)))),w64 (IntKind.u64.wrap (v2.tdiv v7))⟩ : aM)
 else
 some (⟨w64 (IntKind.u64.wrap (v1.tdiv v7)),w64 (IntKind.u64.wrap (v2.tdiv v7))⟩ : aM)) : Option aM).bind fun v11 =>
 some (v11,true)))))))))))
def dY (p0 : Int) (p1 : Int) : Option (aM × Int) :=
 (if p1 = 0 then
 some ((⟨0,0⟩ : aM),6)
 else
 ((oP p0 p1).bind fun v1 =>
 (if (!v1.2) = true then
 some ((⟨0,0⟩ : aM),2)
 else
 some (v1.1,0))))
def dU (p0 : aM) : Option Bool :=
 ((eG p0.Den 1 1000000000).bind fun v1 =>
 (if v1 = true then
 ((eG p0.Num (-1000000000) 1000000000).bind fun v2 =>
 (if v2 = true then
 ((qY p0.Num p0.Den).bind fun v3 =>
 some (decide (v3 = 1)))
 else
 some false))
 else
 some false))
def gX (p0 : aM) (p1 : aM) : Option (aM × Int) :=
 ((((dU p0).bind fun v1 =>
 (if (!v1) = true then
 some true
 else
 ((dU p1).bind fun v2 =>
 some (!v2)))) : Option Bool).bind fun v3 =>
 (if v3 = true then
 some ((⟨0,0⟩ : aM),1)
 else
 ((dY (w64 (p0.Num * p1.Num)) (w64 (p0.Den * p1.Den))).bind fun v4 =>
 some (v4.1,v4.2))))
def tW (p0 : Int) : Option Int :=
 (if p0 < 0 then
 some (w64 (-p0))
 else
 some p0)
def mK (p0 : aD) (p1 : List Int) : Option Int :=
 (chk ((p0.Months.length : Int) ≠ 0) (
 (if ((p1.length : Int).tmod (p0.Months.length : Int)) ≠ 0 then
 some 0
 else
 (chk ((p0.Months.length : Int) ≠ 0) (
 some (w64 ((p1.length : Int).tdiv (p0.Months.length : Int))))))))
def kU (p0 : aD) (p1 : Int) : Option Bool :=
 ((cE (S := Bool × Int) (X := Bool) (fun s5 =>
 (if s5.2 < (p0.Rules.length : Int) then
 ((((atI p0.Rules s5.2).bind fun v6 =>
 (chk (v6.Every ≠ 0) (
 (if (p1.tmod v6.Every) = v6.Rest then
 some v6.Leap
 else
 some s5.1)))) : Option Bool).bind fun v8 =>
 some (.inl (v8,w64 (s5.2 + 1))))
 else
 some (.inr s5.1))) (false,0) : Option Bool).bind fun v9 =>
 some v9)
def jN (p0 : aD) (p1 : Bool) (p2 : Int) : Option Int :=
 (if p1 = true then
 ((atI p0.Months (w64 (p2 - 1))).bind fun v1 =>
 some v1.Leap)
 else
 ((atI p0.Months (w64 (p2 - 1))).bind fun v2 =>
 some v2.Days))
def cF (p0 : List Int) : Option (List Int) :=
 (chk ((([] : List Int).length + p0.length) * 1 * 64 ≤ 140737488355328) (
 some (([] : List Int) ++ p0)))
def eK (p0 : List cV) : Option (List cV) :=
 (chk ((([] : List cV).length + p0.length) * 4 * 64 ≤ 140737488355328) (
 some (([] : List cV) ++ p0)))
def lE (p0 : dE) : Option dE :=
 ((cE (S := Int × List bV) (X := List bV) (fun s5 =>
 (if s5.1 < (p0.Arbors.length : Int) then
 ((atI p0.Arbors s5.1).bind fun v6 =>
 ((cF v6.Wheels).bind fun v7 =>
 (chk ((s5.2.length + 1) * 2 * 64 ≤ 140737488355328) (
 some (.inl (w64 (s5.1 + 1),s5.2 ++ [(⟨v6.Name,v7⟩ : bV)]))))))
 else
 some (.inr s5.2))) (0,([] : List bV)) : Option (List bV)).bind fun v9 =>
 ((eK p0.Meshes).bind fun v10 =>
 some (⟨v9,v10⟩ : dE)))
def dW (p0 : List bG) : Option (List bG) :=
 (chk ((([] : List bG).length + p0.length) * 3 * 64 ≤ 140737488355328) (
 some (([] : List bG) ++ p0)))
def dA (p0 : List aO) : Option (List aO) :=
 (chk ((([] : List aO).length + p0.length) * 3 * 64 ≤ 140737488355328) (
 some (([] : List aO) ++ p0)))
def iG (p0 : bP) : Option bP :=
 ((lE p0.Works).bind fun v1 =>
 ((dW p0.Calendar.Months).bind fun v2 =>
 ((dA p0.Calendar.Rules).bind fun v3 =>
 ((cF p0.Cam).bind fun v4 =>
 some (⟨p0.Name,v1,p0.Minute,p0.Hour,p0.Escape,p0.Teeth,p0.Beats,(⟨p0.Calendar.Name,v2,v3,p0.Calendar.Week⟩ : aD),v4,p0.Strike⟩ : bP)))))
def nB (p0 : aD) (p1 : List Int) (p2 : Int) : Option (List oJ) :=
 ((kU p0 p2).bind fun v1 =>
 ((mK p0 p1).bind fun v2 =>
 (chk (v2 ≠ 0) (
 (chk (0 ≤ (w64 ((p2.tmod v2) * (p0.Months.length : Int))) ∧ (w64 ((p2.tmod v2) * (p0.Months.length : Int))) ≤ (p1.length : Int) ∧ (p1.length : Int) ≤ (p1.length : Int)) (
 ((cE (S := Int × List oJ) (X := List oJ) (fun s11 =>
 (if s11.1 ≤ (p0.Months.length : Int) then
 ((((jN p0 v1 s11.1).bind fun v12 =>
 ((atI (xD p1 (w64 ((p2.tmod v2) * (p0.Months.length : Int))) (p1.length : Int)) (w64 (s11.1 - 1))).bind fun v13 =>
 (if v13 ≠ v12 then
 ((atI (xD p1 (w64 ((p2.tmod v2) * (p0.Months.length : Int))) (p1.length : Int)) (w64 (s11.1 - 1))).bind fun v14 =>
 (chk ((s11.2.length + [(⟨p2,s11.1,v14,v12⟩ : oJ)].length) * 4 * 64 ≤ 140737488355328) (
 some (s11.2 ++ [(⟨p2,s11.1,v14,v12⟩ : oJ)]))))
 else
 some s11.2))) : Option (List oJ)).bind fun v16 =>
 some (.inl (w64 (s11.1 + 1),v16)))
 else
 some (.inr s11.2))) (1,([] : List oJ)) : Option (List oJ)).bind fun v17 =>
 some v17)))))))
def rI (p0 : aD) (p1 : Int) : Option Bool :=
 (chk ((p0.Months.length : Int) ≠ 0) (
 ((eG p1 1 (w64 ((260 : Int).tdiv (p0.Months.length : Int)))).bind fun v2 =>
 some v2)))
def kA (p0 : aD) (p1 : List Int) : Option Int :=
 ((mK p0 p1).bind fun v1 =>
 ((gF p0.Rules).bind fun v2 =>
 ((qY v1 v2).bind fun v3 =>
 (chk (v3 ≠ 0) (
 ((cE (S := Int × Int) (X := Int) (fun s7 =>
 (if s7.2 < (w64 ((w64 (v1.tdiv v3)) * v2)) then
 ((nB p0 p1 s7.2).bind fun v8 =>
 some (.inl (w64 (s7.1 + (v8.length : Int)),w64 (s7.2 + 1))))
 else
 some (.inr s7.1))) (0,0) : Option Int).bind fun v9 =>
 some v9))))))
def oD (p0 : aD) (p1 : Int) : Option (List Int × Int × Int) :=
 ((fC p0).bind fun v1 =>
 (if (!v1) = true then
 some (([] : List Int),0,1)
 else
 ((rI p0 p1).bind fun v2 =>
 (if (!v2) = true then
 some (([] : List Int),0,2)
 else
 ((gF p0.Rules).bind fun v3 =>
 ((qY p1 v3).bind fun v4 =>
 (chk (v4 ≠ 0) (
 (chk (0 ≤ p1 ∧ p1 = p1 ∧ p1.toNat * 1 * 64 ≤ 281474976710656) (
 (chk (0 ≤ p1 ∧ p1 = p1 ∧ p1.toNat * 1 * 64 ≤ 281474976710656) (
 ((cE (S := Int × List Int × List Int) (X := List Int × List Int) (fun s17 =>
 (if s17.1 < (w64 ((w64 (p1.tdiv v4)) * v3)) then
 ((((kU p0 s17.1).bind fun v18 =>
 (if v18 = true then
 (chk (p1 ≠ 0) (
 ((atI s17.2.1 (s17.1.tmod p1)).bind fun v20 =>
 ((atI s17.2.1 (s17.1.tmod p1)).bind fun v21 =>
 some (List.set s17.2.1 (s17.1.tmod p1).toNat (w64 (v20 + 1)),s17.2.2)))))
 else
 (chk (p1 ≠ 0) (
 ((atI s17.2.2 (s17.1.tmod p1)).bind fun v23 =>
 ((atI s17.2.2 (s17.1.tmod p1)).bind fun v24 =>
 some (s17.2.1,List.set s17.2.2 (s17.1.tmod p1).toNat (w64 (v23 + 1))))))))) : Option (List Int × List Int)).bind fun v25 =>
 some (.inl (w64 (s17.1 + 1),v25.1,v25.2)))
 else
 some (.inr (s17.2.1,s17.2.2)))) (0,List.replicate p1.toNat 0,List.replicate p1.toNat 0) : Option (List Int × List Int)).bind fun v26 =>
 ((cE (S := Int × List Int) (X := List Int) (fun s47 =>
 (if s47.1 < (v26.1.length : Int) then
 ((cE (S := Int × List Int) (X := List Int) (fun s57 =>
 (if s57.1 < (p0.Months.length : Int) then
 ((atI p0.Months s57.1).bind fun v58 =>
 ((((((atI v26.1 s47.1).bind fun v59 =>
 ((atI v26.2 s47.1).bind fun v60 =>
 (if v60 < v59 then
 some true
 else
 ((atI v26.1 s47.1).bind fun v61 =>
 ((atI v26.2 s47.1).bind fun v62 =>
 (if v61 = v62 then
 some (decide (v58.Leap < v58.Days))
 else
 some false)))))) : Option Bool).bind fun v63 =>
 (if v63 = true then
 some v58.Leap
 else
 some v58.Days)) : Option Int).bind fun v64 =>
 (chk ((s57.2.length + [v64].length) * 1 * 64 ≤ 140737488355328) (
 some (.inl (w64 (s57.1 + 1),s57.2 ++ [v64]))))))
 else
 some (.inr s57.2))) (0,s47.2) : Option (List Int)).bind fun v66 =>
 some (.inl (w64 (s47.1 + 1),v66)))
 else
 some (.inr s47.2))) (0,([] : List Int)) : Option (List Int)).bind fun v67 =>
 ((kA p0 v67).bind fun v68 =>
 some (v67,v68,0))))))))))))))))
def nV (p0 : Int) (p1 : Int) : Option Bool :=
 (if 6 ≤ p0 then
 (if p1 ≤ 120 then
 (if p0 ≤ p1 then
 some (decide (p1 ≤ (w64 (p0 + 30))))
 else
 some false)
 else
 some false)
 else
 some false)
def lR (p0 : gG) : Option Bool :=
 ((nV p0.LowDriver p0.HighDriver).bind fun v1 =>
 (if v1 = true then
 ((nV p0.LowDriven p0.HighDriven).bind fun v2 =>
 (if v2 = true then
 ((eG p0.Stages 1 3).bind fun v3 =>
 some v3)
 else
 some false))
 else
 some false))
def rC (p0 : aM) (p1 : gG) : Option Int :=
 ((((dU p0).bind fun v1 =>
 (if (!v1) = true then
 some true
 else
 ((lR p1).bind fun v2 =>
 some (!v2)))) : Option Bool).bind fun v3 =>
 (if v3 = true then
 some 1
 else
 (((if p0.Num ≤ 0 then
 some true
 else
 (if 1000000 < p0.Num then
 some true
 else
 some (decide (1000000 < p0.Den)))) : Option Bool).bind fun v4 =>
 (if v4 = true then
 some 2
 else
 some 0))))
def mN (p0 p1 p2 : Int) : Option aA5 := (chk (1 ≤ p0 ∧ p0 ≤ p1 ∧ p1 ≤ 120 ∧ 1 ≤ p2 ∧ p2 ≤ 3) (some ⟨xL (fS (bS p0 p1 p2.toNat)),dX (bS p0 p1 p2.toNat)⟩))
def gR (p0 : Int) : Option Bool :=
 some (decide (p0 ≠ p0))
def cU (p0 : Int) (p1 : Int) : Option Int :=
 ((gR p0).bind fun v1 =>
 ((gR p1).bind fun v2 =>
 (if v1 = true then
 (if v2 = true then
 some 0
 else
 some (-1))
 else
 (if v2 = true then
 some 1
 else
 (if p0 < p1 then
 some (-1)
 else
 (if p1 < p0 then
 some 1
 else
 some 0))))))
def gK (p0 : Int) (p1 : Int) (p2 : aM) : Option Int :=
 ((cU (w64 (p0 * p2.Num)) (w64 (p1 * p2.Den))).bind fun v1 =>
 some v1)
def bE (p0 : List Int) (p1 : Int) (p2_0 : aM) : Option (Int × Bool) :=
 ((cE (S := Int × Int) (X := Int) (fun s5 =>
 (if s5.1 < s5.2 then
 ((atI p0 (w64 (aOb .u64 (IntKind.u64.wrap (w64 (s5.1 + s5.2))) 1))).bind fun v7 =>
 ((gK v7 p1 p2_0).bind fun v8 =>
 (if v8 < 0 then
 some (.inl (w64 ((w64 (aOb .u64 (IntKind.u64.wrap (w64 (s5.1 + s5.2))) 1)) + 1),s5.2))
 else
 some (.inl (s5.1,w64 (aOb .u64 (IntKind.u64.wrap (w64 (s5.1 + s5.2))) 1))))))
 else
 some (.inr s5.1))) (0,(p0.length : Int)) : Option Int).bind fun v9 =>
 (if v9 < (p0.length : Int) then
 ((atI p0 v9).bind fun v10 =>
 ((gK v10 p1 p2_0).bind fun v11 =>
 some (v9,decide (v11 = 0))))
 else
 some (v9,false)))
def tC (p0 : Int) (p1 : Int) (p2 : aM) : Option jI :=
 ((tW (w64 ((w64 (p0 * p2.Den)) - (w64 (p1 * p2.Num))))).bind fun v1 =>
 some (⟨p0,p1,v1⟩ : jI))
def eX (p0 : jI) (p1 : jI) : Option Int :=
 ((cU (w64 (p0.far * p1.q)) (w64 (p1.far * p0.q))).bind fun v1 =>
 some v1)
def dK (p0 : List Int) : Option (List Int) :=
 cE (S := Int × Int × List Int) (X := List Int) (fun s6 =>
 (if s6.1 < s6.2.1 then
 ((atI s6.2.2 s6.2.1).bind fun v7 =>
 ((atI s6.2.2 s6.1).bind fun v8 =>
 ((atI s6.2.2 s6.1).bind fun v9 =>
 ((atI (List.set s6.2.2 s6.1.toNat v7) s6.2.1).bind fun v10 =>
 some (.inl (w64 (s6.1 + 1),w64 (s6.2.1 - 1),List.set (List.set s6.2.2 s6.1.toNat v7) s6.2.1.toNat v8))))))
 else
 some (.inr s6.2.2))) (0,w64 ((p0.length : Int) - 1),p0)
def tA (p0 : List Int) (p1 : List Int) : Option (List bL) :=
 ((cE (S := Int × List bL) (X := List bL) (fun s5 =>
 (if s5.1 < (p0.length : Int) then
 ((atI p0 s5.1).bind fun v6 =>
 ((atI p1 s5.1).bind fun v7 =>
 (chk ((s5.2.length + [(⟨v6,v7⟩ : bL)].length) * 2 * 64 ≤ 140737488355328) (
 some (.inl (w64 (s5.1 + 1),s5.2 ++ [(⟨v6,v7⟩ : bL)]))))))
 else
 some (.inr s5.2))) (0,([] : List bL)) : Option (List bL)).bind fun v9 =>
 some v9)
def hZ (p0 : List Int) (p1 : List Int) : Option (List bL) :=
 ((cF p0).bind fun v1 =>
 ((dK v1).bind fun v2 =>
 (chk (v2.length = v1.length) (
 ((tA v2 p1).bind fun v4 =>
 some v4)))))
def kI (p0 : List bL) : Option Int :=
 ((cE (S := Int × Int) (X := Int) (fun s3 =>
 (if s3.2 < (p0.length : Int) then
 ((atI p0 s3.2).bind fun v4 =>
 some (.inl (w64 (s3.1 + (w64 (v4.Driver + v4.Driven))),w64 (s3.2 + 1))))
 else
 some (.inr s3.1))) (0,0) : Option Int).bind fun v5 =>
 some v5)
def kO (p0 : List Int) : Option Int :=
 ((cE (S := Int) (X := Unit ⊕ Int) (fun s3 =>
 (if s3 < (p0.length : Int) then
 ((atI p0 s3).bind fun v4 =>
 (if v4 ≠ 0 then
 some (.inr (.inr v4))
 else
 some (.inl (w64 (s3 + 1)))))
 else
 some (.inr (.inl ())))) 0 : Option (Unit ⊕ Int)).bind fun v5x => orE v5x fun v5 =>
 some 0)
def dP (p0 : bL) (p1 : bL) : Option Int :=
 ((cU p0.Driver p1.Driver).bind fun v1 =>
 ((cU p0.Driven p1.Driven).bind fun v2 =>
 ((kO [v1,v2]).bind fun v3 =>
 some v3)))
def aX (p0 : List bL) (p1 : List bL) : Option Int :=
 ((cE (S := Int) (X := Unit ⊕ Int) (fun s5 =>
 (if s5 < (p0.length : Int) then
 ((atI p0 s5).bind fun v6 =>
 (if (p1.length : Int) ≤ s5 then
 some (.inr (.inr 1))
 else
 ((atI p1 s5).bind fun v7 =>
 ((dP v6 v7).bind fun v8 =>
 (if v8 ≠ 0 then
 some (.inr (.inr v8))
 else
 some (.inl (w64 (s5 + 1))))))))
 else
 some (.inr (.inl ())))) 0 : Option (Unit ⊕ Int)).bind fun v9x => orE v9x fun v9 =>
 (if (p0.length : Int) < (p1.length : Int) then
 some (-1)
 else
 some 0))
def gO (p0 : List bL) (p1 : List bL) : Option Int :=
 ((kI p0).bind fun v1 =>
 ((kI p1).bind fun v2 =>
 ((cU v1 v2).bind fun v3 =>
 (if v3 ≠ 0 then
 some v3
 else
 ((aX p0 p1).bind fun v4 =>
 some v4)))))
def jT (p0 : aM) (p1 : gG) : Option (List bL) :=
 ((mN p1.LowDriver p1.HighDriver p1.Stages).bind fun v1 =>
 ((mN p1.LowDriven p1.HighDriven p1.Stages).bind fun v2 =>
 ((cE (S := Int × List jI) (X := List jI) (fun s31 =>
 (if s31.1 < (v1.products.length : Int) then
 ((((atI v1.products s31.1).bind fun v32 =>
 ((bE v2.products v32 p0).bind fun v33 =>
 cE (S := Int × List jI) (X := List jI) (fun s47 =>
 (((if s47.1 ≤ v33.1 then
 some (decide (s47.1 < (v2.products.length : Int)))
 else
 some false) : Option Bool).bind fun v48 =>
 (if v48 = true then
 ((((atI v2.products s47.1).bind fun v49 =>
 ((tC v32 v49 p0).bind fun v50 =>
 (((((if 0 < (s47.2.length : Int) then
 ((atI s47.2 0).bind fun v51 =>
 ((eX v50 v51).bind fun v52 =>
 some (decide (v52 < 0))))
 else
 some false) : Option Bool).bind fun v53 =>
 (if v53 = true then
 some ([] : List jI)
 else
 some s47.2)) : Option (List jI)).bind fun v54 =>
 (((if (v54.length : Int) = 0 then
 some true
 else
 ((atI v54 0).bind fun v55 =>
 ((eX v50 v55).bind fun v56 =>
 some (decide (v56 = 0))))) : Option Bool).bind fun v57 =>
 (if v57 = true then
 (chk ((v54.length + [v50].length) * 3 * 64 ≤ 140737488355328) (
 some (v54 ++ [v50])))
 else
 some v54))))) : Option (List jI)).bind fun v59 =>
 some (.inl (w64 (s47.1 + 1),v59)))
 else
 some (.inr s47.2)))) (max (w64 (v33.1 - 1)) 0,s31.2))) : Option (List jI)).bind fun v60 =>
 some (.inl (w64 (s31.1 + 1),v60)))
 else
 some (.inr s31.2))) (0,([] : List jI)) : Option (List jI)).bind fun v61 =>
 ((cE (S := List bL × Int) (X := List bL) (fun s102 =>
 (if s102.2 < (v61.length : Int) then
 ((((atI v61 s102.2).bind fun v103 =>
 (chk (-9223372036854775808 ≤ v103.p ∧ v103.p ≤ 9223372036854775807) (
 cE (S := List bL × Int) (X := List bL) (fun s123 =>
 (if s123.2 < ((v1.lists v103.p).length : Int) then
 ((((atI (v1.lists v103.p) s123.2).bind fun v124 =>
 (chk (-9223372036854775808 ≤ v103.q ∧ v103.q ≤ 9223372036854775807) (
 cE (S := List bL × Int) (X := List bL) (fun s133 =>
 (if s133.2 < ((v2.lists v103.q).length : Int) then
 ((((atI (v2.lists v103.q) s133.2).bind fun v134 =>
 ((hZ v124 v134).bind fun v135 =>
 (((if s133.1 = [] then
 some true
 else
 ((gO v135 s133.1).bind fun v136 =>
 some (decide (v136 < 0)))) : Option Bool).bind fun v137 =>
 (if v137 = true then
 (chk (v135 ≠ []) (
 some v135))
 else
 some s133.1)))) : Option (List bL)).bind fun v139 =>
 some (.inl (v139,w64 (s133.2 + 1))))
 else
 some (.inr s133.1))) (s123.1,0)))) : Option (List bL)).bind fun v140 =>
 some (.inl (v140,w64 (s123.2 + 1))))
 else
 some (.inr s123.1))) (s102.1,0)))) : Option (List bL)).bind fun v141 =>
 some (.inl (v141,w64 (s102.2 + 1))))
 else
 some (.inr s102.1))) (([] : List bL),0) : Option (List bL)).bind fun v142 =>
 some v142))))
def eW (p0 : bL) : Option Bool :=
 ((jH p0.Driver).bind fun v1 =>
 (if v1 = true then
 ((jH p0.Driven).bind fun v2 =>
 some v2)
 else
 some false))
def iQ (p0 : List bL) : Option Bool :=
 ((cE (S := Int) (X := Unit ⊕ Bool) (fun s4 =>
 (if s4 < (p0.length : Int) then
 ((atI p0 s4).bind fun v5 =>
 ((eW v5).bind fun v6 =>
 (if (!v6) = true then
 some (.inr (.inr false))
 else
 some (.inl (w64 (s4 + 1))))))
 else
 some (.inr (.inl ())))) 0 : Option (Unit ⊕ Bool)).bind fun v7x => orE v7x fun v7 =>
 some (decide ((p0.length : Int) ≤ 5)))
def iV (p0 : List bL) : Option (aM × Int) :=
 ((cE (S := Int × aM) (X := aM ⊕ (aM × Int)) (fun s5 =>
 (if s5.1 < (p0.length : Int) then
 ((atI p0 s5.1).bind fun v6 =>
 ((dY (w64 (-v6.Driver)) v6.Driven).bind fun v7 =>
 ((gX s5.2 v7.1).bind fun v8 =>
 (if v8.2 ≠ 0 then
 some (.inr (.inr ((⟨0,0⟩ : aM),v8.2)))
 else
 some (.inl (w64 (s5.1 + 1),v8.1))))))
 else
 some (.inr (.inl s5.2)))) (0,(⟨1,1⟩ : aM)) : Option (aM ⊕ (aM × Int))).bind fun v9x => orE v9x fun v9 =>
 some (v9,0))
def pM (p0 : aM) (p1 : aM) : Option (aM × Int) :=
 ((((dU p0).bind fun v1 =>
 (if (!v1) = true then
 some true
 else
 ((dU p1).bind fun v2 =>
 some (!v2)))) : Option Bool).bind fun v3 =>
 (if v3 = true then
 some ((⟨0,0⟩ : aM),1)
 else
 ((dY (w64 ((w64 (p0.Num * p1.Den)) - (w64 (p1.Num * p0.Den)))) (w64 (p0.Den * p1.Den))).bind fun v4 =>
 some (v4.1,v4.2))))
def kD (p0 : List bL) (p1 : aM) : Option (aM × Int) :=
 ((iV p0).bind fun v1 =>
 (if v1.2 ≠ 0 then
 some ((⟨0,0⟩ : aM),v1.2)
 else
 ((tW v1.1.Num).bind fun v2 =>
 ((pM (⟨v2,v1.1.Den⟩ : aM) p1).bind fun v3 =>
 some (v3.1,v3.2)))))
def oW (p0 : List bL) (p1 : aM) : Option (aM × Int) :=
 ((((iQ p0).bind fun v1 =>
 (if (!v1) = true then
 some true
 else
 ((dU p1).bind fun v2 =>
 some (!v2)))) : Option Bool).bind fun v3 =>
 (if v3 = true then
 some ((⟨0,0⟩ : aM),1)
 else
 ((kD p0 p1).bind fun v4 =>
 ((tW v4.1.Num).bind fun v5 =>
 some ((⟨v5,v4.1.Den⟩ : aM),v4.2)))))
def lI (p0 : aM) (p1 : gG) : Option (qU × Int) :=
 ((rC p0 p1).bind fun v1 =>
 (if v1 ≠ 0 then
 some ((⟨([] : List bL),(⟨0,0⟩ : aM)⟩ : qU),v1)
 else
 ((jT p0 p1).bind fun v2 =>
 ((oW v2 p0).bind fun v3 =>
 (if v3.2 ≠ 0 then
 some ((⟨([] : List bL),(⟨0,0⟩ : aM)⟩ : qU),v3.2)
 else
 some ((⟨v2,v3.1⟩ : qU),0))))))
def eQ (p0 : ByteArray) (p1 : Int) (p2 : Int) (p3 : aD) (p4 : Int) : Option (bP × Int) :=
 ((fC p3).bind fun v1 =>
 (if (!v1) = true then
 some ((⟨(⟨#[]⟩ : ByteArray),(⟨([] : List bV),([] : List cV)⟩ : dE),0,0,0,0,0,(⟨(⟨#[]⟩ : ByteArray),([] : List bG),([] : List aO),0⟩ : aD),([] : List Int),0⟩ : bP),1)
 else
 ((lV p0).bind fun v2 =>
 (if (!v2) = true then
 some ((⟨(⟨#[]⟩ : ByteArray),(⟨([] : List bV),([] : List cV)⟩ : dE),0,0,0,0,0,(⟨(⟨#[]⟩ : ByteArray),([] : List bG),([] : List aO),0⟩ : aD),([] : List Int),0⟩ : bP),7)
 else
 ((((eG p1 1 36000).bind fun v3 =>
 (if (!v3) = true then
 some true
 else
 ((jH p2).bind fun v4 =>
 some (!v4)))) : Option Bool).bind fun v5 =>
 (if v5 = true then
 some ((⟨(⟨#[]⟩ : ByteArray),(⟨([] : List bV),([] : List cV)⟩ : dE),0,0,0,0,0,(⟨(⟨#[]⟩ : ByteArray),([] : List bG),([] : List aO),0⟩ : aD),([] : List Int),0⟩ : bP),2)
 else
 ((oD p3 p4).bind fun v6 =>
 (if v6.2.2 ≠ 0 then
 some ((⟨(⟨#[]⟩ : ByteArray),(⟨([] : List bV),([] : List cV)⟩ : dE),0,0,0,0,0,(⟨(⟨#[]⟩ : ByteArray),([] : List bG),([] : List aO),0⟩ : aD),([] : List Int),0⟩ : bP),v6.2.2)
 else
 ((dY p1 (w64 (2 * p2))).bind fun v7 =>
 (if v7.2 ≠ 0 then
 some ((⟨(⟨#[]⟩ : ByteArray),(⟨([] : List bV),([] : List cV)⟩ : dE),0,0,0,0,0,(⟨(⟨#[]⟩ : ByteArray),([] : List bG),([] : List aO),0⟩ : aD),([] : List Int),0⟩ : bP),v7.2)
 else
 ((lI v7.1 (⟨60,84,7,10,2⟩ : gG)).bind fun v8 =>
 (if v8.2 ≠ 0 then
 some ((⟨(⟨#[]⟩ : ByteArray),(⟨([] : List bV),([] : List cV)⟩ : dE),0,0,0,0,0,(⟨(⟨#[]⟩ : ByteArray),([] : List bG),([] : List aO),0⟩ : aD),([] : List Int),0⟩ : bP),v8.2)
 else
 (if v8.1.Error.Num ≠ 0 then
 some ((⟨(⟨#[]⟩ : ByteArray),(⟨([] : List bV),([] : List cV)⟩ : dE),0,0,0,0,0,(⟨(⟨#[]⟩ : ByteArray),([] : List bG),([] : List aO),0⟩ : aD),([] : List Int),0⟩ : bP),3)
 else
 ((atI v8.1.Train 0).bind fun v9 =>
 ((atI v8.1.Train 1).bind fun v10 =>
 ((iG (⟨p0,(⟨[(⟨(⟨#[99,101,110,116,101,114]⟩ : ByteArray),[v9.Driver,12]⟩ : bV),(⟨(⟨#[116,104,105,114,100]⟩ : ByteArray),[v9.Driven,v10.Driver]⟩ : bV),(⟨(⟨#[101,115,99,97,112,101]⟩ : ByteArray),[v10.Driven]⟩ : bV),(⟨(⟨#[109,105,110,117,116,101]⟩ : ByteArray),[36,10]⟩ : bV),(⟨(⟨#[104,111,117,114]⟩ : ByteArray),[40]⟩ : bV)],[(⟨0,0,1,0⟩ : cV),(⟨1,1,2,0⟩ : cV),(⟨0,1,3,0⟩ : cV),(⟨3,1,4,0⟩ : cV)]⟩ : dE),0,4,2,p2,p1,p3,v6.1,2⟩ : bP)).bind fun v11 =>
 some (v11,0)))))))))))))))))
def oL (p0 : bG) (p1 : Int) : Option Int :=
 (if (w64 (p1 - (p0.Name.size : Int))) < 0 then
 some (-1)
 else
 some (w64 (p1 - (p0.Name.size : Int))))
def nL (p0 : List bG) (p1 : Int) : Option Int :=
 (if (w64 (p1 - (p0.length : Int))) < 0 then
 some (-1)
 else
 ((cE (S := Int × Int) (X := Int ⊕ Int) (fun s4 =>
 (if s4.2 < (p0.length : Int) then
 ((atI p0 s4.2).bind fun v5 =>
 ((oL v5 s4.1).bind fun v6 =>
 (if v6 < 0 then
 some (.inr (.inr (-1)))
 else
 some (.inl (v6,w64 (s4.2 + 1))))))
 else
 some (.inr (.inl s4.1)))) (w64 (p1 - (p0.length : Int)),0) : Option (Int ⊕ Int)).bind fun v7x => orE v7x fun v7 =>
 some v7))
def jC (p0 : List aO) (p1 : Int) : Option Int :=
 (if (w64 (p1 - (p0.length : Int))) < 0 then
 some (-1)
 else
 some (w64 (p1 - (p0.length : Int))))
def jX (p0 : aD) (p1 : Int) : Option Int :=
 (if (w64 (p1 - (p0.Name.size : Int))) < 0 then
 some (-1)
 else
 ((nL p0.Months (w64 (p1 - (p0.Name.size : Int)))).bind fun v1 =>
 (if v1 < 0 then
 some (-1)
 else
 ((jC p0.Rules v1).bind fun v2 =>
 (if v2 < 0 then
 some (-1)
 else
 some v2)))))
def rG (p0 : bG) : Option bG :=
 some p0
def nP (p0 : List bG) : Option (List bG) :=
 (chk (0 ≤ (p0.length : Int) ∧ (p0.length : Int) = (p0.length : Int) ∧ (p0.length : Int).toNat * 3 * 64 ≤ 281474976710656) (
 ((cE (S := Int × List bG) (X := List bG) (fun s6 =>
 (if s6.1 < (p0.length : Int) then
 ((atI p0 s6.1).bind fun v7 =>
 ((rG v7).bind fun v8 =>
 ((atI s6.2 s6.1).bind fun v9 =>
 some (.inl (w64 (s6.1 + 1),List.set s6.2 s6.1.toNat v8)))))
 else
 some (.inr s6.2))) (0,List.replicate (p0.length : Int).toNat (⟨(⟨#[]⟩ : ByteArray),0,0⟩ : bG)) : Option (List bG)).bind fun v10 =>
 some v10)))
def mX (p0 : aO) : Option aO :=
 some p0
def jM (p0 : List aO) : Option (List aO) :=
 (chk (0 ≤ (p0.length : Int) ∧ (p0.length : Int) = (p0.length : Int) ∧ (p0.length : Int).toNat * 3 * 64 ≤ 281474976710656) (
 ((cE (S := Int × List aO) (X := List aO) (fun s6 =>
 (if s6.1 < (p0.length : Int) then
 ((atI p0 s6.1).bind fun v7 =>
 ((mX v7).bind fun v8 =>
 ((atI s6.2 s6.1).bind fun v9 =>
 some (.inl (w64 (s6.1 + 1),List.set s6.2 s6.1.toNat v8)))))
 else
 some (.inr s6.2))) (0,List.replicate (p0.length : Int).toNat (⟨0,0,false⟩ : aO)) : Option (List aO)).bind fun v10 =>
 some v10)))
def eY (p0 : aD) : Option aD :=
 ((nP p0.Months).bind fun v1 =>
 ((jM p0.Rules).bind fun v2 =>
 some (⟨p0.Name,v1,v2,p0.Week⟩ : aD)))
def kP (p0 : List Int) (p1 : List Int) : Option Bool :=
 (if (p0.length : Int) ≠ (p1.length : Int) then
 some false
 else
 ((cE (S := Int) (X := Unit ⊕ Bool) (fun s4 =>
 (if s4 < (p0.length : Int) then
 ((atI p0 s4).bind fun v5 =>
 ((atI p1 s4).bind fun v6 =>
 (if v5 ≠ v6 then
 some (.inr (.inr false))
 else
 some (.inl (w64 (s4 + 1))))))
 else
 some (.inr (.inl ())))) 0 : Option (Unit ⊕ Bool)).bind fun v7x => orE v7x fun v7 =>
 some true))
def oV (p0 : bV) (p1 : bV) : Option Bool :=
 (if p0.Name ≠ p1.Name then
 some false
 else
 ((kP p0.Wheels p1.Wheels).bind fun v1 =>
 (if (!v1) = true then
 some false
 else
 some true)))
def nK (p0 : List bV) (p1 : List bV) : Option Bool :=
 (if (p0.length : Int) ≠ (p1.length : Int) then
 some false
 else
 ((cE (S := Int) (X := Unit ⊕ Bool) (fun s5 =>
 (if s5 < (p0.length : Int) then
 ((atI p0 s5).bind fun v6 =>
 ((atI p1 s5).bind fun v7 =>
 ((oV v6 v7).bind fun v8 =>
 (if (!v8) = true then
 some (.inr (.inr false))
 else
 some (.inl (w64 (s5 + 1)))))))
 else
 some (.inr (.inl ())))) 0 : Option (Unit ⊕ Bool)).bind fun v9x => orE v9x fun v9 =>
 some true))
def qK (p0 : cV) (p1 : cV) : Option Bool :=
 (if p0.A ≠ p1.A then
 some false
 else
 (if p0.WheelA ≠ p1.WheelA then
 some false
 else
 (if p0.B ≠ p1.B then
 some false
 else
 (if p0.WheelB ≠ p1.WheelB then
 some false
 else
 some true))))
def oE (p0 : List cV) (p1 : List cV) : Option Bool :=
 (if (p0.length : Int) ≠ (p1.length : Int) then
 some false
 else
 ((cE (S := Int) (X := Unit ⊕ Bool) (fun s5 =>
 (if s5 < (p0.length : Int) then
 ((atI p0 s5).bind fun v6 =>
 ((atI p1 s5).bind fun v7 =>
 ((qK v6 v7).bind fun v8 =>
 (if (!v8) = true then
 some (.inr (.inr false))
 else
 some (.inl (w64 (s5 + 1)))))))
 else
 some (.inr (.inl ())))) 0 : Option (Unit ⊕ Bool)).bind fun v9x => orE v9x fun v9 =>
 some true))
def oK (p0 : dE) (p1 : dE) : Option Bool :=
 ((nK p0.Arbors p1.Arbors).bind fun v1 =>
 (if (!v1) = true then
 some false
 else
 ((oE p0.Meshes p1.Meshes).bind fun v2 =>
 (if (!v2) = true then
 some false
 else
 some true))))
def oO (p0 : bG) (p1 : bG) : Option Bool :=
 (if p0.Name ≠ p1.Name then
 some false
 else
 (if p0.Days ≠ p1.Days then
 some false
 else
 (if p0.Leap ≠ p1.Leap then
 some false
 else
 some true)))
def nE (p0 : List bG) (p1 : List bG) : Option Bool :=
 (if (p0.length : Int) ≠ (p1.length : Int) then
 some false
 else
 ((cE (S := Int) (X := Unit ⊕ Bool) (fun s5 =>
 (if s5 < (p0.length : Int) then
 ((atI p0 s5).bind fun v6 =>
 ((atI p1 s5).bind fun v7 =>
 ((oO v6 v7).bind fun v8 =>
 (if (!v8) = true then
 some (.inr (.inr false))
 else
 some (.inl (w64 (s5 + 1)))))))
 else
 some (.inr (.inl ())))) 0 : Option (Unit ⊕ Bool)).bind fun v9x => orE v9x fun v9 =>
 some true))
def kB (p0 : aO) (p1 : aO) : Option Bool :=
 (if p0.Every ≠ p1.Every then
 some false
 else
 (if p0.Rest ≠ p1.Rest then
 some false
 else
 (if (p0.Leap != p1.Leap) = true then
 some false
 else
 some true)))
def jJ (p0 : List aO) (p1 : List aO) : Option Bool :=
 (if (p0.length : Int) ≠ (p1.length : Int) then
 some false
 else
 ((cE (S := Int) (X := Unit ⊕ Bool) (fun s5 =>
 (if s5 < (p0.length : Int) then
 ((atI p0 s5).bind fun v6 =>
 ((atI p1 s5).bind fun v7 =>
 ((kB v6 v7).bind fun v8 =>
 (if (!v8) = true then
 some (.inr (.inr false))
 else
 some (.inl (w64 (s5 + 1)))))))
 else
 some (.inr (.inl ())))) 0 : Option (Unit ⊕ Bool)).bind fun v9x => orE v9x fun v9 =>
 some true))
def iT (p0 : aD) (p1 : aD) : Option Bool :=
 (if p0.Name ≠ p1.Name then
 some false
 else
 ((nE p0.Months p1.Months).bind fun v1 =>
 (if (!v1) = true then
 some false
 else
 ((jJ p0.Rules p1.Rules).bind fun v2 =>
 (if (!v2) = true then
 some false
 else
 (if p0.Week ≠ p1.Week then
 some false
 else
 some true))))))
def gH (p0 : bP) (p1 : bP) : Option Bool :=
 (if p0.Name ≠ p1.Name then
 some false
 else
 ((oK p0.Works p1.Works).bind fun v1 =>
 (if (!v1) = true then
 some false
 else
 (if p0.Minute ≠ p1.Minute then
 some false
 else
 (if p0.Hour ≠ p1.Hour then
 some false
 else
 (if p0.Escape ≠ p1.Escape then
 some false
 else
 (if p0.Teeth ≠ p1.Teeth then
 some false
 else
 (if p0.Beats ≠ p1.Beats then
 some false
 else
 ((iT p0.Calendar p1.Calendar).bind fun v2 =>
 (if (!v2) = true then
 some false
 else
 ((kP p0.Cam p1.Cam).bind fun v3 =>
 (if (!v3) = true then
 some false
 else
 (if p0.Strike ≠ p1.Strike then
 some false
 else
 some true)))))))))))))
def fA (p0 : Int) : Option ByteArray :=
 (if p0 ≤ 0 then
 some (⟨#[109,48]⟩ : ByteArray)
 else
 ((cE (S := Int × ByteArray) (X := ByteArray) (fun s5 =>
 (if 0 < s5.1 then
 (chk ((strOfNums [IntKind.u8.wrap (w64 (48 + (s5.1.tmod 10)))]).size + s5.2.size ≤ 9223372036854775807) (
 some (.inl (w64 (s5.1.tdiv 10),(strOfNums [IntKind.u8.wrap (w64 (48 + (s5.1.tmod 10)))]) ++ s5.2))))
 else
 some (.inr s5.2))) (p0,(⟨#[]⟩ : ByteArray)) : Option ByteArray).bind fun v9 =>
 (chk ((⟨#[109]⟩ : ByteArray).size + v9.size ≤ 9223372036854775807) (
 some ((⟨#[109]⟩ : ByteArray) ++ v9)))))
def iJ (p0 : List bG) (p1 : Int) : Option (Int × List bG) :=
 ((cE (S := Int × Int × List bG) (X := Int × List bG) (fun s6 =>
 (if s6.2.1 < (s6.2.2.length : Int) then
 ((fA s6.1).bind fun v7 =>
 ((atI s6.2.2 s6.2.1).bind fun v8 =>
 ((atI (List.set s6.2.2 s6.2.1.toNat (⟨v7,v8.Days,v8.Leap⟩ : bG)) s6.2.1).bind fun v9 =>
 ((atI (List.set (List.set s6.2.2 s6.2.1.toNat (⟨v7,v8.Days,v8.Leap⟩ : bG)) s6.2.1.toNat (⟨v9.Name,w64 (s6.1 + 1),v9.Leap⟩ : bG)) s6.2.1).bind fun v10 =>
 some (.inl (w64 ((w64 ((w64 (s6.1 + 1)) + 1)) + 1),w64 (s6.2.1 + 1),List.set (List.set (List.set s6.2.2 s6.2.1.toNat (⟨v7,v8.Days,v8.Leap⟩ : bG)) s6.2.1.toNat (⟨v9.Name,w64 (s6.1 + 1),v9.Leap⟩ : bG)) s6.2.1.toNat (⟨v10.Name,v10.Days,w64 ((w64 (s6.1 + 1)) + 1)⟩ : bG)))))))
 else
 some (.inr (s6.1,s6.2.2)))) (p1,0,p0) : Option (Int × List bG)).bind fun v11 =>
 some (v11.1,v11.2))
def fM (p0 : List aO) (p1 : Int) : Option (Int × List aO) :=
 ((cE (S := Int × Int × List aO) (X := Int × List aO) (fun s6 =>
 (if s6.2.1 < (s6.2.2.length : Int) then
 ((atI s6.2.2 s6.2.1).bind fun v7 =>
 ((atI (List.set s6.2.2 s6.2.1.toNat (⟨s6.1,v7.Rest,v7.Leap⟩ : aO)) s6.2.1).bind fun v8 =>
 ((atI (List.set (List.set s6.2.2 s6.2.1.toNat (⟨s6.1,v7.Rest,v7.Leap⟩ : aO)) s6.2.1.toNat (⟨v8.Every,w64 (s6.1 + 1),v8.Leap⟩ : aO)) s6.2.1).bind fun v10 =>
 some (.inl (w64 ((w64 ((w64 (s6.1 + 1)) + 1)) + 1),w64 (s6.2.1 + 1),List.set (List.set (List.set s6.2.2 s6.2.1.toNat (⟨s6.1,v7.Rest,v7.Leap⟩ : aO)) s6.2.1.toNat (⟨v8.Every,w64 (s6.1 + 1),v8.Leap⟩ : aO)) s6.2.1.toNat (⟨v10.Every,v10.Rest,decide (((w64 ((w64 (s6.1 + 1)) + 1)).tmod 3) = 0)⟩ : aO))))))
 else
 some (.inr (s6.1,s6.2.2)))) (p1,0,p0) : Option (Int × List aO)).bind fun v11 =>
 some (v11.1,v11.2))
def eP (p0 : aD) (p1 : Int) : Option (Int × List bG × List aO) :=
 ((iJ p0.Months p1).bind fun v1 =>
 (chk (v1.2.length = p0.Months.length) (
 ((fM p0.Rules v1.1).bind fun v3 =>
 (chk (v3.2.length = p0.Rules.length) (
 some (v3.1,v1.2,v3.2)))))))
def fY (p0 : List Int) (p1 : Int) : Option (Int × List Int) :=
 ((cE (S := Int × Int × List Int) (X := Int × List Int) (fun s3 =>
 (if s3.2.1 < (s3.2.2.length : Int) then
 ((atI s3.2.2 s3.2.1).bind fun v4 =>
 some (.inl (w64 (s3.1 + 1),w64 (s3.2.1 + 1),List.set s3.2.2 s3.2.1.toNat s3.1)))
 else
 some (.inr (s3.1,s3.2.2)))) (p1,0,p0) : Option (Int × List Int)).bind fun v5 =>
 some (v5.1,v5.2))
def iM (p0 : List bV) (p1 : Int) : Option (Int × List bV) :=
 ((cE (S := Int × Int × List bV) (X := Int × List bV) (fun s7 =>
 (if s7.2.1 < (s7.2.2.length : Int) then
 ((fA s7.1).bind fun v8 =>
 ((atI s7.2.2 s7.2.1).bind fun v9 =>
 ((atI (List.set s7.2.2 s7.2.1.toNat (⟨v8,v9.Wheels⟩ : bV)) s7.2.1).bind fun v10 =>
 ((fY v10.Wheels (w64 (s7.1 + 1))).bind fun v11 =>
 (chk (v11.2.length = v10.Wheels.length) (
 some (.inl (v11.1,w64 (s7.2.1 + 1),List.set (List.set s7.2.2 s7.2.1.toNat (⟨v8,v9.Wheels⟩ : bV)) s7.2.1.toNat (⟨v10.Name,v11.2⟩ : bV)))))))))
 else
 some (.inr (s7.1,s7.2.2)))) (p1,0,p0) : Option (Int × List bV)).bind fun v13 =>
 some (v13.1,v13.2))
def jO (p0 : List cV) (p1 : Int) : Option (Int × List cV) :=
 ((cE (S := Int × Int × List cV) (X := Int × List cV) (fun s6 =>
 (if s6.2.1 < (s6.2.2.length : Int) then
 ((atI s6.2.2 s6.2.1).bind fun v7 =>
 ((atI (List.set s6.2.2 s6.2.1.toNat (⟨s6.1,v7.WheelA,v7.B,v7.WheelB⟩ : cV)) s6.2.1).bind fun v8 =>
 ((atI (List.set (List.set s6.2.2 s6.2.1.toNat (⟨s6.1,v7.WheelA,v7.B,v7.WheelB⟩ : cV)) s6.2.1.toNat (⟨v8.A,w64 (s6.1 + 1),v8.B,v8.WheelB⟩ : cV)) s6.2.1).bind fun v9 =>
 ((atI (List.set (List.set (List.set s6.2.2 s6.2.1.toNat (⟨s6.1,v7.WheelA,v7.B,v7.WheelB⟩ : cV)) s6.2.1.toNat (⟨v8.A,w64 (s6.1 + 1),v8.B,v8.WheelB⟩ : cV)) s6.2.1.toNat (⟨v9.A,v9.WheelA,w64 ((w64 (s6.1 + 1)) + 1),v9.WheelB⟩ : cV)) s6.2.1).bind fun v10 =>
 some (.inl (w64 ((w64 ((w64 ((w64 (s6.1 + 1)) + 1)) + 1)) + 1),w64 (s6.2.1 + 1),List.set (List.set (List.set (List.set s6.2.2 s6.2.1.toNat (⟨s6.1,v7.WheelA,v7.B,v7.WheelB⟩ : cV)) s6.2.1.toNat (⟨v8.A,w64 (s6.1 + 1),v8.B,v8.WheelB⟩ : cV)) s6.2.1.toNat (⟨v9.A,v9.WheelA,w64 ((w64 (s6.1 + 1)) + 1),v9.WheelB⟩ : cV)) s6.2.1.toNat (⟨v10.A,v10.WheelA,v10.B,w64 ((w64 ((w64 (s6.1 + 1)) + 1)) + 1)⟩ : cV)))))))
 else
 some (.inr (s6.1,s6.2.2)))) (p1,0,p0) : Option (Int × List cV)).bind fun v11 =>
 some (v11.1,v11.2))
def jE (p0 : dE) (p1 : Int) : Option (Int × List bV × List cV) :=
 ((iM p0.Arbors p1).bind fun v1 =>
 (chk (v1.2.length = p0.Arbors.length) (
 ((jO p0.Meshes v1.1).bind fun v3 =>
 (chk (v3.2.length = p0.Meshes.length) (
 some (v3.1,v1.2,v3.2)))))))
def gB (p0 : bP) (p1 : Int) : Option (Int × List bV × List cV × List bG × List aO × List Int) :=
 ((jE p0.Works p1).bind fun v1 =>
 (chk (v1.2.1.length = p0.Works.Arbors.length) (
 (chk (v1.2.2.length = p0.Works.Meshes.length) (
 ((eP p0.Calendar v1.1).bind fun v4 =>
 (chk (v4.2.1.length = p0.Calendar.Months.length) (
 (chk (v4.2.2.length = p0.Calendar.Rules.length) (
 ((fY p0.Cam v4.1).bind fun v7 =>
 (chk (v7.2.length = p0.Cam.length) (
 some (v7.1,v1.2.1,v1.2.2,v4.2.1,v4.2.2,v7.2))))))))))))))
def iP (p0 : List Int) (p1 : Int) : Option Int :=
 ((cE (S := Int × Int) (X := Int ⊕ Int) (fun s3 =>
 (if s3.2 < (p0.length : Int) then
 ((atI p0 s3.2).bind fun v4 =>
 (if v4 ≠ s3.1 then
 some (.inr (.inr (-1)))
 else
 some (.inl (w64 (s3.1 + 1),w64 (s3.2 + 1)))))
 else
 some (.inr (.inl s3.1)))) (p1,0) : Option (Int ⊕ Int)).bind fun v5x => orE v5x fun v5 =>
 some v5)
def jZ (p0 : List bV) (p1 : Int) : Option Int :=
 ((cE (S := Int × Int) (X := Int ⊕ Int) (fun s6 =>
 (if s6.2 < (p0.length : Int) then
 ((atI p0 s6.2).bind fun v7 =>
 ((fA s6.1).bind fun v8 =>
 (if v7.Name ≠ v8 then
 some (.inr (.inr (-1)))
 else
 ((atI p0 s6.2).bind fun v9 =>
 ((iP v9.Wheels (w64 (s6.1 + 1))).bind fun v10 =>
 (if v10 < 0 then
 some (.inr (.inr (-1)))
 else
 some (.inl (v10,w64 (s6.2 + 1)))))))))
 else
 some (.inr (.inl s6.1)))) (p1,0) : Option (Int ⊕ Int)).bind fun v11x => orE v11x fun v11 =>
 some v11)
def kZ (p0 : List cV) (p1 : Int) : Option Int :=
 ((cE (S := Int × Int) (X := Int ⊕ Int) (fun s6 =>
 (if s6.2 < (p0.length : Int) then
 ((atI p0 s6.2).bind fun v7 =>
 (if v7.A ≠ s6.1 then
 some (.inr (.inr (-1)))
 else
 ((atI p0 s6.2).bind fun v8 =>
 (if v8.WheelA ≠ (w64 (s6.1 + 1)) then
 some (.inr (.inr (-1)))
 else
 ((atI p0 s6.2).bind fun v9 =>
 (if v9.B ≠ (w64 ((w64 (s6.1 + 1)) + 1)) then
 some (.inr (.inr (-1)))
 else
 ((atI p0 s6.2).bind fun v10 =>
 (if v10.WheelB ≠ (w64 ((w64 ((w64 (s6.1 + 1)) + 1)) + 1)) then
 some (.inr (.inr (-1)))
 else
 some (.inl (w64 ((w64 ((w64 ((w64 (s6.1 + 1)) + 1)) + 1)) + 1),w64 (s6.2 + 1)))))))))))
 else
 some (.inr (.inl s6.1)))) (p1,0) : Option (Int ⊕ Int)).bind fun v11x => orE v11x fun v11 =>
 some v11)
def lO (p0 : dE) (p1 : Int) : Option Int :=
 ((jZ p0.Arbors p1).bind fun v1 =>
 (if v1 < 0 then
 some (-1)
 else
 ((kZ p0.Meshes v1).bind fun v2 =>
 (if v2 < 0 then
 some (-1)
 else
 some v2))))
def jY (p0 : List bG) (p1 : Int) : Option Int :=
 ((cE (S := Int × Int) (X := Int ⊕ Int) (fun s6 =>
 (if s6.2 < (p0.length : Int) then
 ((atI p0 s6.2).bind fun v7 =>
 ((fA s6.1).bind fun v8 =>
 (if v7.Name ≠ v8 then
 some (.inr (.inr (-1)))
 else
 ((atI p0 s6.2).bind fun v9 =>
 (if v9.Days ≠ (w64 (s6.1 + 1)) then
 some (.inr (.inr (-1)))
 else
 ((atI p0 s6.2).bind fun v10 =>
 (if v10.Leap ≠ (w64 ((w64 (s6.1 + 1)) + 1)) then
 some (.inr (.inr (-1)))
 else
 some (.inl (w64 ((w64 ((w64 (s6.1 + 1)) + 1)) + 1),w64 (s6.2 + 1))))))))))
 else
 some (.inr (.inl s6.1)))) (p1,0) : Option (Int ⊕ Int)).bind fun v11x => orE v11x fun v11 =>
 some v11)
def gL (p0 : List aO) (p1 : Int) : Option Int :=
 ((cE (S := Int × Int) (X := Int ⊕ Int) (fun s6 =>
 (if s6.2 < (p0.length : Int) then
 ((atI p0 s6.2).bind fun v7 =>
 (if v7.Every ≠ s6.1 then
 some (.inr (.inr (-1)))
 else
 ((atI p0 s6.2).bind fun v8 =>
 (if v8.Rest ≠ (w64 (s6.1 + 1)) then
 some (.inr (.inr (-1)))
 else
 ((atI p0 s6.2).bind fun v9 =>
 (if (v9.Leap != (decide (((w64 ((w64 (s6.1 + 1)) + 1)).tmod 3) = 0))) = true then
 some (.inr (.inr (-1)))
 else
 some (.inl (w64 ((w64 ((w64 (s6.1 + 1)) + 1)) + 1),w64 (s6.2 + 1)))))))))
 else
 some (.inr (.inl s6.1)))) (p1,0) : Option (Int ⊕ Int)).bind fun v11x => orE v11x fun v11 =>
 some v11)
def iO (p0 : aD) (p1 : Int) : Option Int :=
 ((jY p0.Months p1).bind fun v1 =>
 (if v1 < 0 then
 some (-1)
 else
 ((gL p0.Rules v1).bind fun v2 =>
 (if v2 < 0 then
 some (-1)
 else
 some v2))))
def fW (p0 : bP) (p1 : Int) : Option Int :=
 ((lO p0.Works p1).bind fun v1 =>
 (if v1 < 0 then
 some (-1)
 else
 ((iO p0.Calendar v1).bind fun v2 =>
 (if v2 < 0 then
 some (-1)
 else
 ((iP p0.Cam v2).bind fun v3 =>
 (if v3 < 0 then
 some (-1)
 else
 some v3))))))
def eI (p0 : ByteArray) (p1 : Int) (p2 : Int) (p3 : aD) (p4 : Int) : Option Bool :=
 (if 1048576 < (p0.size : Int) then
 some true
 else
 ((jX p3 1048576).bind fun v1 =>
 (if v1 < 0 then
 some true
 else
 ((eY p3).bind fun v2 =>
 ((fZ p0 p1 p2 v2 p4).bind fun v3 =>
 ((eY p3).bind fun v4 =>
 ((eQ p0 p1 p2 v4 p4).bind fun v5 =>
 ((((gH v5.1 v3.1).bind fun v6 =>
 (if (!v6) = true then
 some true
 else
 some (decide (v5.2 ≠ v3.2)))) : Option Bool).bind fun v7 =>
 (if v7 = true then
 some false
 else
 ((eY p3).bind fun v8 =>
 ((iT v4 v8).bind fun v9 =>
 (if (!v9) = true then
 some false
 else
 ((eP v4 1).bind fun v10 =>
 (chk (v10.2.1.length = v4.Months.length) (
 (chk (v10.2.2.length = v4.Rules.length) (
 (((if v10.1 < 0 then
 some true
 else
 ((gH v5.1 v3.1).bind fun v13 =>
 (if (!v13) = true then
 some true
 else
 some (decide (v5.2 ≠ v3.2))))) : Option Bool).bind fun v14 =>
 (if v14 = true then
 some false
 else
 ((gB v5.1 1).bind fun v15 =>
 (chk (v15.2.1.length = v5.1.Works.Arbors.length) (
 (chk (v15.2.2.1.length = v5.1.Works.Meshes.length) (
 (chk (v15.2.2.2.1.length = v5.1.Calendar.Months.length) (
 (chk (v15.2.2.2.2.1.length = v5.1.Calendar.Rules.length) (
 (chk (v15.2.2.2.2.2.length = v5.1.Cam.length) (
 ((fW (⟨v5.1.Name,(⟨v15.2.1,v15.2.2.1⟩ : dE),v5.1.Minute,v5.1.Hour,v5.1.Escape,v5.1.Teeth,v5.1.Beats,(⟨v5.1.Calendar.Name,v15.2.2.2.1,v15.2.2.2.2.1,v5.1.Calendar.Week⟩ : aD),v15.2.2.2.2.2,v5.1.Strike⟩ : bP) 1).bind fun v21 =>
 (if v21 < 0 then
 some false
 else
 (if v21 ≠ v15.1 then
 some false
 else
 ((eY p3).bind fun v22 =>
 ((eQ p0 p1 p2 v22 p4).bind fun v23 =>
 ((((gH v23.1 v3.1).bind fun v24 =>
 (if (!v24) = true then
 some true
 else
 some (decide (v23.2 ≠ v3.2)))) : Option Bool).bind fun v25 =>
 (if v25 = true then
 some false
 else
 ((fW (⟨v5.1.Name,(⟨v15.2.1,v15.2.2.1⟩ : dE),v5.1.Minute,v5.1.Hour,v5.1.Escape,v5.1.Teeth,v5.1.Beats,(⟨v5.1.Calendar.Name,v15.2.2.2.1,v15.2.2.2.2.1,v5.1.Calendar.Week⟩ : aD),v15.2.2.2.2.2,v5.1.Strike⟩ : bP) 1).bind fun v26 =>
 (if v26 < 0 then
 some false
 else
 (if v26 ≠ v15.1 then
 some false
 else
 some true))))))))))))))))))))))))))))))))))))))))
end Go.Proofs.YtgcdbbidmfdonaaGreat
namespace Go.Proofs.YtgcdbbidmfdonaaGreat
open Go.RowKit
set_option linter.unusedVariables false
set_option maxRecDepth 100000
abbrev dI (x : Int) : AV := .d (.v (.int .i64 x))
abbrev z0 : AV := dI 0
abbrev dB (x : Bool) : AV := .d (.v (.bool x))
abbrev dS (x : ByteArray) : AV := .d (.v (.string x))
abbrev dL {α : Type} (c : α → List DV) (x : List α) : AV := .d (.sl (List.map c x))
abbrev zl : AV := .d (.v (.slice none 0 0))
abbrev ze : AV := .d (.v (.string (⟨#[]⟩ : ByteArray)))
section
variable {P : Program} {T : Tab} {L N : Nat} {ops : Array Oper} {E : Env} {K : List (Nat × Cls) → AS → Prop} {i : Nat} {is : List Nat} {t : Nat → AV} {h h' : cY} {d : Tmp} {dst : Option Tmp} {op : Op} {ty : TypeId} {pos : String} {aft : Array Edge} {g : Option (Nat × Bool)} {Q : oF → AS → Prop} {σ : AS} {c : Code} {x y : Operand}
theorem wa (k : Nat) (et : TypeId) (esz kb j : Nat) {bt : TypeId} {sz : Nat} {cells cells' : List AV} (H : AW L P N c Q ⟨t,upd (upd h k (.live [⟨et,esz, .data []⟩])) kb (.live [⟨bt,sz, .av [cells']⟩])⟩) (hk : h k = .no := by exact rfl) (hb : h kb = .live [⟨bt,sz, .av [cells]⟩] := by exact rfl) (hj : cells[j]? = some (.d (.v (.slice none 0 0))) := by exact rfl) (hs : Spl j [.own k 0 0] cells cells' := by repeat (first | exact Spl.z _ | apply Spl.t | apply Spl.d)) : AW L P N c Q ⟨t,h⟩ := cM (vR k hk et esz hb hj hs) H
theorem fi (N : Nat) (hT : TOk P T) {f : FuncId} {fn : Func} {body : Code} {hin hout : List eR} {as : List AV} {r : AV} (hf : P.funcs[f]? = some fn) (hw : AW 3 P N body (aSx T N fn hin.length hout r) ⟨aLv as 0,lks hin⟩) (hb : fn.body = some body := by exact rfl) (hN : fn.ntmps = N := by exact rfl) (hc : aIy P f = true := by kernel_rfl) (hl : Nat.ble as.length N = true := by exact rfl) (hm : Nat.ble hin.length 3 = true := by exact rfl) : FnC P f hin as hout r := aKe hT hf hb hN hc hl hm hw
theorem bst (hT : TOk P T) {bt bt' : TypeId} {kk j sz : Nat} {c1 : AV} {cells cs cells' : List AV} {ti : TI} (k : RA L P N ops is Q ⟨t,upd h kk (.live [⟨bt',sz, .av [cells']⟩])⟩) (ho : ops[i]? = some ⟨none, .store bt x y,ty,pos,aft,none⟩ := by exact rfl) (hx : evA N ⟨t,h⟩ x = .ptr kk 0 1 0 j := by exact rfl) (hy : rT (evA N ⟨t,h⟩ y) = c1 :: cs := by exact rfl) (hk1 : okL (c1 :: cs) = true := by exact rfl) (h1 : T bt = some ti := by exact rfl)
  (hl : Nat.beq (c1 :: cs).length ti.size = true := by exact rfl) (hpos : Nat.blt 0 ti.size = true := by exact rfl) (hk : h kk = .live [⟨bt',sz, .av [cells]⟩] := by exact rfl) (hs : Spl j (c1 :: cs) cells cells' := by repeat (first | exact Spl.z _ | apply Spl.t | apply Spl.d)) : RA L P N ops (i :: is) Q ⟨t,h⟩ := rw0 ho w0 (pB hT hx hy hk1 h1 hl hpos hk hs) k
theorem bs1 (hT : TOk P T) {bt bt' : TypeId} {kk j sz : Nat} {c1 : DV} {cells cells' : List AV} {ti : TI} (k : RA L P N ops is Q ⟨t,upd h kk (.live [⟨bt',sz, .av [cells']⟩])⟩) (ho : ops[i]? = some ⟨none, .store bt x y,ty,pos,aft,none⟩ := by exact rfl) (hx : evA N ⟨t,h⟩ x = .ptr kk 0 1 0 j := by exact rfl) (hy : rT (evA N ⟨t,h⟩ y) = [.d c1] := by exact rfl) (hk1 : okL [.d c1] = true := by exact rfl) (h1 : T bt = some ti := by exact rfl)
  (hl : Nat.beq [AV.d c1].length ti.size = true := by exact rfl) (hpos : Nat.blt 0 ti.size = true := by exact rfl) (hk : h kk = .live [⟨bt',sz, .av [cells]⟩] := by exact rfl) (hs : Spl j [.d c1] cells cells' := by repeat (first | exact Spl.z _ | apply Spl.t | apply Spl.d)) : RA L P N ops (i :: is) Q ⟨t,h⟩ := rw0 ho w0 (pB hT hx hy hk1 h1 hl hpos hk hs) k
theorem al (k : Nat) (cs : List AV) (hT : TOk P T) {bt : TypeId} {ti : TI} (H : RA L P N ops is Q ⟨aA t d (.ptr k 0 1 0 0),upd h k (.live [⟨bt,cs.length, .av [cs]⟩])⟩) (ho : ops[i]? = some ⟨some d, .alloc bt,ty,pos,aft,none⟩ := by exact rfl) (hd : Nat.blt d N = true := by exact rfl) (h1 : T bt = some ti := by exact rfl) (hc : wK ti.zero.cells.toList = cs := by exact rfl) (hk : h k = .no := by exact rfl) : RA L P N ops (i :: is) Q ⟨t,h⟩ := rs ho w0 hd (sX k hT h1 hc hk) H
theorem bxx (k : Nat) {bt : TypeId} {c1 : AV} {cs : List AV} (H : RA L P N ops is Q ⟨aA t d (.ptr k 0 1 0 0),upd h k (.live [⟨bt,(c1 :: cs).length, .av [c1 :: cs]⟩])⟩) (ho : ops[i]? = some ⟨some d, .box bt x,ty,pos,aft,none⟩ := by exact rfl) (hd : Nat.blt d N = true := by exact rfl) (hc : rT (evA N ⟨t,h⟩ x) = c1 :: cs := by exact rfl) (hk1 : okL (c1 :: cs) = true := by exact rfl) (hk : h k = .no := by exact rfl) : RA L P N ops (i :: is) Q ⟨t,h⟩ := rs ho w0 hd (aQu k hc hk1 hk) H
theorem tfa (hT : TOk P T) {s bt : TypeId} {q kk e sz : Nat} {cells : List AV} {ti fj : TI} {fs : Array Field} {fld : Field} (H : RT P N ops is (fun l σ' => K ((i, .lk kk) :: l) σ') ⟨aA t d (.ptr kk 0 1 0 (e + fld.offset)),h⟩) (ho : ops[i]? = some ⟨some d, .fieldAddr s x q,ty,pos,aft,none⟩ := by exact rfl) (hd : Nat.blt d N = true := by exact rfl) (hx : evA N ⟨t,h⟩ x = .ptr kk 0 1 0 e := by exact rfl) (h1 : T s = some ti := by exact rfl) (h2 : ti.desc = .struct fs := by exact rfl) (h3 : fs[q]? = some fld := by exact rfl) (h4 : T fld.type = some fj := by exact rfl) (h5 : Nat.beq fj.size 0 = false := by exact rfl) (hk : h kk = .live [⟨bt,sz, .av [cells]⟩] := by exact rfl) : RT P N ops (i :: is) K ⟨t,h⟩ := dT ho w0 hd (aEg hT hx h1 h2 h3 h4 h5 hk) rfl (by rw [hx]; rfl) (by simp only [Op.operands,List.all_cons,List.all_nil,hx]; simp [AV.key]) H
theorem tld (hT : TOk P T) {lt bt : TypeId} {kk e sz : Nat} {cells : List AV} {c0 : AV} {ti : TI} (H : RT P N ops is (fun l σ' => K ((i, .lk kk) :: l) σ') ⟨aA t d c0,h⟩) (ho : ops[i]? = some ⟨some d, .load lt x,ty,pos,aft,none⟩ := by exact rfl) (hd : Nat.blt d N = true := by exact rfl) (hx : evA N ⟨t,h⟩ x = .ptr kk 0 1 0 e := by exact rfl) (h1 : T lt = some ti := by exact rfl) (h2 : pZ ti.desc = false := by exact rfl) (hk : h kk = .live [⟨bt,sz, .av [cells]⟩] := by exact rfl) (hc : cells[e]? = some c0 := by exact rfl) : RT P N ops (i :: is) K ⟨t,h⟩ := dT ho w0 hd (wN hT hx h1 h2 hk hc) rfl (by rw [hx]; rfl) (by simp only [Op.operands,List.all_cons,List.all_nil,hx]; simp [AV.key]) H
theorem r0t {fn : Func} (i : Nat) {as : List AV} {r : AV} (hrs : fn.results.toList = [.tmp i])
  (R : nQ T N ⟨t,h⟩ [.tmp i] as := by repeat (first | exact nQ.nil | apply nQ.tmp (a := .d _) rfl | apply nQ.tmp (a := .own _ _ _) rfl | apply nQ.tmp (a := .agg _) rfl | apply nQ.tmp (a := .ref _) rfl | apply nQ.tmp (a := .fn _ _) rfl | apply nQ.tmp (a := .ptr _ _ _ _ _) rfl | apply nQ.cell1 rfl rfl rfl rfl (by first | rfl) (by first | rfl) rfl | apply nQ.cellN rfl rfl rfl rfl (by first | rfl) (by first | rfl) (by repeat (first | exact Seg.z _ | apply Seg.t | apply Seg.d))))
  (hB : Abv h 300 := by repeat (first | exact mD _ | exact mL rfl | refine mG ?_ rfl)) (e : aMj as = r := by rfl) (hf : r.free = true := by rfl) : aAq T N fn 0 [] r ⟨t,h⟩ := aS9 300 hrs R hB hf e
theorem rP {r : AV} (ho : (ops[i]?,Nat.blt d N) = (some ⟨some d,op,ty,pos,aft,none⟩,true)) (hp : eA P N ⟨some d,op,ty,pos,aft,none⟩ ⟨t,h⟩ r) (k : RA L P N ops is Q ⟨aA t d r,h⟩) : RA L P N ops (i :: is) Q ⟨t,h⟩ := rp (Prod.mk.inj ho).1 w0 (Prod.mk.inj ho).2 hp k
theorem rL {r : AV} (ho : (ops[i]?,Nat.blt d N) = (some ⟨some d,op,ty,pos,aft,none⟩,true)) (hp : gY P N ⟨some d,op,ty,pos,aft,none⟩ ⟨t,h⟩ r) (k : RA L P N ops is Q ⟨aA t d r,h⟩) : RA L P N ops (i :: is) Q ⟨t,h⟩ := rl (Prod.mk.inj ho).1 w0 (Prod.mk.inj ho).2 hp k
theorem rS {r : AV} (ho : (ops[i]?,Nat.blt d N) = (some ⟨some d,op,ty,pos,aft,none⟩,true)) (hp : cO P N ⟨some d,op,ty,pos,aft,none⟩ ⟨t,h⟩ r h' ∧ ∀ k,h k ≠ .no → h' k = h k) (k : RA L P N ops is Q ⟨aA t d r,h'⟩) : RA L P N ops (i :: is) Q ⟨t,h⟩ := rs (Prod.mk.inj ho).1 w0 (Prod.mk.inj ho).2 hp k
theorem tP {r : AV} (ho : (ops[i]?,Nat.blt d N) = (some ⟨some d,op,ty,pos,aft,none⟩,true)) (hp : eA P N ⟨some d,op,ty,pos,aft,none⟩ ⟨t,h⟩ r) (k : RT P N ops is (fun l σ' => K ((i, .pu) :: l) σ') ⟨aA t d r,h⟩) : RT P N ops (i :: is) K ⟨t,h⟩ := qV (Prod.mk.inj ho).1 w0 (Prod.mk.inj ho).2 hp k
end
end Go.Proofs.YtgcdbbidmfdonaaGreat
namespace Go.Proofs.YtgcdbbidmfdonaaGreat
open Go.RowKit
set_option linter.unusedVariables false
set_option maxRecDepth 100000
theorem aJp {α : Type} {c : α → List DV} {xs : List α} {w : World} {F : Nat → Prop} {μ : bW} {h : cY} {v : Value} (r : dR w F μ h v (aGw c xs)) : dR w F μ h v (.d (.sl (List.map c xs))) := by
 cases xs with
 | nil => exact aH1 r
 | cons x xs => exact r
section
variable {P : Program} {T : Tab} {L N : Nat} {t : Nat → AV} {h : cY} {d : Tmp} {dst : Option Tmp} {ty : TypeId} {pos : String} {aft : Array Edge} {g : Option (Nat × Bool)} {x y : Operand}
theorem aFn {d : Nat} {a : AV} (k : ∀ w F μ v,dR w F μ h v (t d) → dR w F μ h v a) : lW L N ⟨t,h⟩ ⟨aA t d a,h⟩ := by
 rintro E a' w ⟨F, μ,A⟩
 refine ⟨F, μ,A.H,A.df,A.sz,fun d' hd' => ?_,A.lim⟩
 by_cases e : d' = d
 ·subst e
  have h1 := A.tm d' hd'
  dsimp only at h1 ⊢
  rw [eU]
  exact k _ _ _ _ h1
 ·dsimp only; rw [jD _ _ e]
  exact A.tm d' hd'
theorem aJv {α : Type} (c : α → List DV) {d : Nat} {xs : List α} (hd : t d = aGw c xs) : lW L N ⟨t,h⟩ ⟨aA t d (.d (.sl (List.map c xs))),h⟩ := aFn fun w F μ v r => by rw [hd] at r; exact aJp r
theorem aPa {α : Type} (c : α → List DV) {d : Nat} {xs : List α} (hd : t d = .d (.sl (List.map c xs))) (hx : xs ≠ []) : lW L N ⟨t,h⟩ ⟨aA t d (aGw c xs),h⟩ := aFn fun w F μ v r => by
 rw [hd] at r
 cases xs with
 | nil => exact absurd rfl hx
 | cons x xs => exact r
theorem aOl {α : Type} (c : α → List DV) {d : Nat} (hd : t d = .d (.v (.slice none 0 0))) : lW L N ⟨t,h⟩ ⟨aA t d (aGw c []),h⟩ := aFn fun w F μ v r => by rw [hd] at r; exact r
theorem aF2 {α : Type} {c : α → List DV} {xs : List α} [DecidableEq α] (hT : TOk P T) {xt e : TypeId} {ti : TI} {yt : TypeId} (hx : evA N ⟨t,h⟩ x = aGw c xs) (h1 : T xt = some ti) (h2 : ti.desc = .slice e) (hy : evA N ⟨t,h⟩ y = .d (.v (.slice none 0 0))) :
  eA P N ⟨some d, .binOp .eql xt x y yt,ty,pos,aft,g⟩ ⟨t,h⟩ (.d (.v (.bool (decide (xs = []))))) := by
 cases xs with
 | nil => exact jS hT hx h1 h2 hy
 | cons a xs =>
  have := oI (P := P) (d := d) (ty := ty) (pos := pos) (aft := aft) (g := g) (yt := yt) hT (xt := xt) (es := List.map c (a :: xs)) hx (by simp) h1 h2 hy
  simpa using this
end
end Go.Proofs.YtgcdbbidmfdonaaGreat
namespace Go.Proofs.YtgcdbbidmfdonaaGreat
open Go.RowKit
set_option linter.unusedVariables false
set_option maxRecDepth 100000
theorem aHq {P : Program} {T K E : TypeId} (hu : P.underlying T = some (.map K E)) (hK : P.underlying K = some (.int .i64)) {w : World} (hz : (zeroValue E).run P w = .ok (.slice none 0 0) w) {b clock : Nat} {es : Array MapEntry} (hb : w.heap[b]? = some (.map es clock)) {k : Int} {v : Value} (h : aQ7 es k v) :
  (Instr.lookup T (.map (some b)) (.int .i64 k) false).run P w = .ok v w := by
 have hc : ∀ e,(Instr.checkKey e 10000 K (.int .i64 k)).run P w = .ok () w := fun e => MapKept.run_checkKey hK (by simp [MapKept.IsKey]) e 9999
 rcases h with ⟨i,h⟩ | ⟨h,rfl⟩
 ·have h2 := MapKept.run_findKey (w := w) (kt := K) hK h
  simp [Instr.lookup,run_underlying hu,MapKept.run_getObj_map hb,hc,h2,Result.andThen]
 ·have h2 := MapKept.run_findKey (w := w) (kt := K) hK h
  simp [Instr.lookup,run_underlying hu,MapKept.run_getObj_map hb,hc,h2,hz,Result.andThen]
section
variable {P : Program} {T : Tab} {L N : Nat} {ops : Array Oper} {E : Env} {K : List (Nat × Cls) → AS → Prop} {i : Nat} {is : List Nat} {t : Nat → AV} {h h' : cY} {d : Tmp} {dst : Option Tmp} {op : Op} {ty : TypeId} {pos : String} {aft : Array Edge} {g : Option (Nat × Bool)} {Q : oF → AS → Prop} {σ : AS} {c : Code} {x y : Operand}
theorem aOf {mt kt et : TypeId} {f : Int → List (List Int)} {k : Int} {ti ki : TI} (hT : TOk P T) (h1 : T mt = some ti) (h2 : ti.desc = .map kt et) (h3 : T kt = some ki) (h4 : ki.desc = .int .i64) (hz : ∀ w : World,(zeroValue et).run P w = .ok (.slice none 0 0) w)
  (hx : evA N ⟨t,h⟩ x = .d (.mp f)) (hy : evA N ⟨t,h⟩ y = .d (.v (.int .i64 k))) (hk : -9223372036854775808 ≤ k ∧ k ≤ 9223372036854775807) : eA P N ⟨some d, .lookup mt x y false,ty,pos,aft,g⟩ ⟨t,h⟩ (.d (.sl (aQg (f k)))) := fun w F μ hh ρ st => by
 have hr := st x (by simp [Op.operands])
 have e2 := kY (by have := st y (by simp [Op.operands]); rw [hy] at this; exact this)
 rw [hx] at hr
 have hu := (hT _ _ h1).1
 rw [h2] at hu
 have hu2 := (hT _ _ h3).1
 rw [h4] at hu2
 generalize hv : ρ x = v at hr
 cases hr with | d _ _ hd =>
 cases hd with | mp b clock es f gg hF hb hkk hr =>
 exact ⟨gg k,by simp [execOp,hv,e2,aHq hu hu2 (hz w) hb (hkk k hk.1 hk.2),Result.andThen], .d _ _ (hr k hk.1 hk.2)⟩
theorem aKk {mt kt et : TypeId} {f : Int → List (List Int)} {k : Int} {ti ki ei : TI} (hT : TOk P T) (h1 : T mt = some ti) (h2 : ti.desc = .map kt et) (h3 : T kt = some ki) (h4 : ki.desc = .int .i64) (h5 : T et = some ei) (h6 : ei.zero = .slice none 0 0)
  (hx : evA N ⟨t,h⟩ x = .d (.mp f)) (hy : evA N ⟨t,h⟩ y = .d (.v (.int .i64 k))) (hk : -9223372036854775808 ≤ k ∧ k ≤ 9223372036854775807) : eA P N ⟨some d, .lookup mt x y false,ty,pos,aft,g⟩ ⟨t,h⟩ (.d (.sl (List.map (cL cI) (f k)))) :=
 aOf hT h1 h2 h3 h4 (fun w => by rw [← h6]; exact aHx hT h5 w) hx hy hk
end
end Go.Proofs.YtgcdbbidmfdonaaGreat
namespace Go.Proofs.YtgcdbbidmfdonaaGreat
open Go.RowKit Go.Maps Go.ChangeMaps Go.MapKept Go.WideElems
set_option linter.unusedVariables false
set_option maxRecDepth 100000
def InK (k : Int) : Prop := -9223372036854775808 ≤ k ∧ k ≤ 9223372036854775807
def rvV (v : Value) : Option (DataW Value × List MemPlace) := some (.held v,[])
theorem aN1 {k : Int} (h : InK k) : (Lit.int .i64 k).wf = true := WalkArith.wf_i64 (by unfold InK at h; omega)
section
variable {P : Program} {T K E : TypeId} {w : World} {b n : Nat} {val : Int → Value}
def AtV (P : Program) (K : TypeId) (w : World) (b n : Nat) (val : Int → Value) : Prop := ∃ D : DataW Value,w.ownsMap P K rvV b n D ∧ ∀ k,InK k → D.atKey (.int .i64 k) (.held (.slice none 0 0)) = .held (val k)
theorem AtV.lt (h : AtV P K w b n val) : b < w.heap.size := let ⟨_,h,_⟩ := h; h.lt
theorem aNc (w : World) : AtV P K (w.alloc (.map #[] 0)) w.heap.size 0 (fun _ => .slice none 0 0) := ⟨_,World.ownsMap_made w P K rvV,fun k _ => rfl⟩
theorem AtV.same (h : AtV P K w b n val) {w' : World} (hg : w'.heap[b]? = w.heap[b]?) : AtV P K w' b n val := by
 obtain ⟨D,⟨es,clock,h1,h2⟩,h3⟩ := h
 exact ⟨D,⟨es,clock,hg.trans h1,h2⟩,h3⟩
theorem AtV.look (h : AtV P K w b n val) (ht : P.underlying T = some (.map K E)) (hK : P.underlying K = some (.int .i64)) (hz : (zeroValue E).run P w = .ok (.slice none 0 0) w) {k : Int} (hk : InK k) : (Instr.lookup T (.map (some b)) (.int .i64 k) false).run P w = .ok (val k) w := by
 obtain ⟨D,h,h2⟩ := h
 obtain ⟨v,ps,hr,hv⟩ := h.lookup (int_keyed hK) ht hz (zd := .held (.slice none 0 0)) (zp := []) rfl (keyOf_int_mk hK (aN1 hk))
 rw [h2 k hk] at hv
 simp only [rvV,Option.some.injEq,Prod.mk.injEq,DataW.held.injEq] at hv
 rw [hr,hv.1]
theorem AtV.put (h : AtV P K w b n val) (ht : P.underlying T = some (.map K E)) (hK : P.underlying K = some (.int .i64)) (hn : n < maxLen) {k : Int} (hk : InK k) (v : Value) :
  ∃ w',(Instr.mapUpdate T (.map (some b)) (.int .i64 k) v).run P w = .ok () w' ∧ AtV P K w' b (n + 1) (fun k' => if k' = k then v else val k') ∧ w.grownBy w' (some b) := by
 obtain ⟨D,h,h2⟩ := h
 obtain ⟨w',hr,ho,hg⟩ := h.update (int_keyed hK) ht hn (keyOf_int_mk hK (aN1 hk)) (val := v) (d := .held v) (ps := []) rfl
 have hm : IsMap D := let ⟨_,_,_,_,_,e⟩ := h; ⟨_,e⟩
 refine ⟨w',hr,⟨_,ho,fun k' hk' => ?_⟩,hg⟩
 dsimp only
 by_cases e : k' = k
 ·subst e
  rw [if_pos rfl,atKey_put_same (k := .int .i64 k') hm (show WideAt.IsKeyLit (.int .i64 k') from trivial)]
 ·rw [if_neg e,atKey_put_other (fun q => e (by simpa using q)),h2 k' hk']
theorem AtV.key (h : AtV P K w b n val) (ht : P.underlying T = some (.map K E)) (hK : P.underlying K = some (.int .i64)) (hz : (zeroValue E).run P w = .ok (.slice none 0 0) w) : ∃ clock es,w.heap[b]? = some (.map es clock) ∧ ∀ k,InK k → aQ7 es k (val k) := by
 have h0 := h
 obtain ⟨D,⟨es,clock,hb,F,_,_⟩,_⟩ := h
 refine ⟨clock,es,hb,fun k hk => ?_⟩
 have hrun := h0.look ht hK hz hk
 have hks : ∀ y ∈ es.toList,IsKey (.int .i64) y.key := fun y hy => by
  obtain ⟨z,hy⟩ := F.reads y hy
  have hkk := rd_key hy
  simp only [keyOf,hK,mapKey] at hkk
  cases hyk : y.key <;> rw [hyk] at hkk <;> simp at hkk
  exact hkk.1.1
 have : ∃ v,aQ7 es k v := by
  rcases findNow_spec (d := .int .i64) (k := .int .i64 k) (by simp [IsKey]) es.toList 0 hks with ⟨h1,_⟩ | ⟨j,e0,h1,_⟩
  ·exact ⟨_, .inr ⟨h1,rfl⟩⟩
  ·exact ⟨_, .inl ⟨_,h1⟩⟩
 obtain ⟨v,hv⟩ := this
 have h1 := aHq ht hK hz hb hv
 rw [hrun] at h1
 cases h1
 exact hv
end
end Go.Proofs.YtgcdbbidmfdonaaGreat
namespace Go.Proofs.YtgcdbbidmfdonaaGreat
open Go.RowKit
set_option linter.unusedVariables false
set_option maxRecDepth 100000
section
variable {w w' wr w2 w3 w4 : World} {base b : Nat} {e e' : TypeId} {s s' n n' : Nat} {v vc v1 v8 v2 x : Value} {xs xs' vals : List Value} {l r : List Int} {rows : List (List Int)} {tI tS : TypeId}
theorem eN (h : w.ownsRow base e s v n xs) (hb : ∀ g,v.ownBlock = some g → w'.heap[g]? = w.heap[g]?) : w'.ownsRow base e s v n xs := by
 refine ⟨h.1,?_⟩
 rcases h.2 with q | ⟨g,cap,cur,rfl,q1,q2,q3⟩
 ·exact .inl q
 ·exact .inr ⟨g,cap,cur,rfl,q1,(hb g rfl).trans q2,q3⟩
theorem kV (h : w.ownsRow base e s v n xs) (hb : b ≤ base) : w.ownsRow b e s v n xs := by
 refine ⟨h.1,?_⟩
 rcases h.2 with q | ⟨g,cap,cur,rfl,q1,q2⟩
 ·exact .inl q
 ·exact .inr ⟨g,cap,cur,rfl,Nat.le_trans hb q1,q2⟩
def aRd (tI : TypeId) (w : World) (base : Nat) (v : Value) (l : List Int) : Prop := w.ownsRow base tI 1 v l.length (l.map (Value.int .i64))
def vT (tI tS : TypeId) (w : World) (base : Nat) (v : Value) (rows : List (List Int)) (vals : List Value) : Prop := w.ownsRow base tS 1 v rows.length vals ∧ ∀ (i : Nat) x r,vals[i]? = some x → rows[i]? = some r → aRd tI w base x r ∧ (x.ownBlock = none ∨ x.ownBlock ≠ v.ownBlock) ∧ (r = [] → x = .slice none 0 0)
def vF (tI tS : TypeId) (w : World) (base : Nat) (v : Value) (rows : List (List Int)) : Prop := ∃ vals,vT tI tS w base v rows vals
theorem vF.nil : vF tI tS w base (.slice none 0 0) [] := ⟨[],World.ownsRow_nil _ _ _ _,fun i x r h => by simp at h⟩
theorem vT.of (h : vT tI tS w base v rows vals) (hb : ∀ g,g < w.heap.size → base ≤ g → w'.heap[g]? = w.heap[g]?) : vT tI tS w' base v rows vals := by
 refine ⟨eN h.1 fun g hg => hb g (h.1.lt g hg).2 (h.1.lt g hg).1,fun i x r h1 h2 => ?_⟩
 obtain ⟨q1,q2⟩ := h.2 i x r h1 h2
 exact ⟨eN q1 fun g hg => hb g (q1.lt g hg).2 (q1.lt g hg).1,q2⟩
theorem vF.of (h : vF tI tS w base v rows) (hb : ∀ g,g < w.heap.size → base ≤ g → w'.heap[g]? = w.heap[g]?) : vF tI tS w' base v rows := let ⟨vals,h⟩ := h; ⟨vals,h.of hb⟩
theorem vF.below (h : vF tI tS w base v rows) (hb : Below w.heap.size w w') : vF tI tS w' base v rows := h.of fun g h1 _ => hb.block g h1
theorem vF.base_ (h : vF tI tS w base v rows) (hb : b ≤ base) : vF tI tS w b v rows := by
 obtain ⟨vals,h1,h2⟩ := h
 refine ⟨vals,kV h1 hb,fun i x r q1 q2 => ⟨kV (h2 i x r q1 q2).1 hb,(h2 i x r q1 q2).2⟩⟩
theorem vT.len (h : vT tI tS w base v rows vals) : vals.length = rows.length := by have := h.1.1; omega
theorem aS8 {o : Obj} (hb2 : Below wr.heap.size wr w2) (hvc : w2.ownsRow wr.heap.size e' s' vc n' xs') (hg : (w2.alloc o).grownBy w3 vc.ownBlock) {g : Nat} (hlt : g < wr.heap.size) : w3.heap[g]? = wr.heap[g]? := by
 have h2 := hb2.size
 rw [hg.block g (by simp; omega) fun e => by have := (hvc.lt g e.symm).1; omega]
 rw [Below.heap_alloc w2 o g (by omega)]
 exact hb2.block g hlt
theorem aTe {o : Obj} {B : Nat} (h : wr.ownsRow base e s v n xs) (hb2 : Below wr.heap.size wr w2) (hvc : w2.ownsRow wr.heap.size e' s' vc n' xs') (hg : (w2.alloc o).grownBy w3 vc.ownBlock) : w3.ownsRow base e s v n xs := eN h fun g hg' => aS8 hb2 hvc hg (h.lt g hg').2
theorem aP9 {o o' : Obj} {t : Int} {wj : World} (hj : base = wj.heap.size) (hnx : Below base wj wr) (hbase : base ≤ wr.heap.size) (hv : vT tI tS wr base v8 rows vals)
  (hb2 : Below wr.heap.size wr w2) (hvc : w2.ownsRow wr.heap.size tI 1 vc l.length (l.map (Value.int .i64))) (hg1 : (w2.alloc o).grownBy w3 vc.ownBlock) (ho1 : w3.ownsRow wr.heap.size tI 1 v1 (l.length + 1) (l.map (Value.int .i64) ++ [.int .i64 t]))
  (hg2 : (w3.alloc o').grownBy w4 v8.ownBlock) (ho2 : w4.ownsRow base tS 1 v2 (rows.length + 1) (vals ++ [v1])) (hloc : v2.ownBlock = v8.ownBlock ∨ v2.ownBlock = some (w3.alloc o').heap.size) :
  vF tI tS w4 base v2 (rows ++ [l ++ [t]]) ∧ Below base wj w4 ∧ base ≤ w4.heap.size := by
 have z2 := hb2.size
 have z3 := hg1.size
 have z4 := hg2.size
 have za : ∀ (w : World) (o : Obj),(w.alloc o).heap.size = w.heap.size + 1 := fun w o => by simp
 rw [za] at z3 z4
 have old : ∀ g,g < wr.heap.size → v8.ownBlock ≠ some g → w4.heap[g]? = wr.heap[g]? := fun g hlt hne => by
  rw [hg2.block g (by simp; omega) fun e => hne e.symm,Below.heap_alloc w3 o' g (by omega)]
  exact aS8 hb2 hvc hg1 hlt
 have new1 : ∀ g,v1.ownBlock = some g → w4.heap[g]? = w3.heap[g]? := fun g hg => by
  have := ho1.lt g hg
  rw [hg2.block g (by simp; omega) fun e => by have := (hv.1.lt g e.symm).2; omega,Below.heap_alloc w3 o' g (by omega)]
 refine ⟨⟨vals ++ [v1],by simpa using ho2,fun i x r h1 h2 => ?_⟩,⟨?_,?_,?_,?_,?_⟩,by omega⟩
 ·have hl := hv.len
  by_cases hi : i < rows.length
  ·rw [List.getElem?_append_left (by omega)] at h1
   rw [List.getElem?_append_left hi] at h2
   obtain ⟨q1,q2,q3⟩ := hv.2 i x r h1 h2
   refine ⟨eN q1 fun g hg => old g (q1.lt g hg).2 fun e => ?_,?_,q3⟩
   ·rcases q2 with q2 | q2
    ·rw [q2] at hg; cases hg
    ·exact q2 (hg.trans e.symm)
   ·rcases hloc with hloc | hloc
    ·rw [hloc]; exact q2
    ·cases hx : x.ownBlock with
     | none => exact .inl rfl
     | some g =>
      right
      rw [hloc]
      intro e
      have := (q1.lt g hx).2
      cases e
      simp at this; omega
  ·rw [List.getElem?_append_right (by omega)] at h1
   rw [List.getElem?_append_right (by omega)] at h2
   have hi0 : i = rows.length := by
    have := (List.getElem?_eq_some_iff.1 h2).1
    simp at this; omega
   subst hi0
   simp [hl] at h1 h2
   subst h1 h2
   have q1 : aRd tI w3 base v1 (l ++ [t]) := by
    unfold aRd
    have := kV ho1 hbase
    simpa using this
   refine ⟨eN q1 new1,?_,fun e => by simp at e⟩
   cases hx : v1.ownBlock with
   | none => exact .inl rfl
   | some g =>
    right
    have h3 := ho1.lt g hx
    rcases hloc with hloc | hloc
    ·rw [hloc]
     intro e
     have := (hv.1.lt g e.symm).2
     omega
    ·rw [hloc]
     intro e
     cases e
     have := h3.2
     rw [za] at this
     omega
 ·rw [hg2.os,show (w3.alloc o').os = w3.os from rfl,hg1.os,show (w2.alloc o).os = w2.os from rfl,hb2.os]; exact hnx.os
 ·rw [hg2.tape,show (w3.alloc o').tape = w3.tape from rfl,hg1.tape,show (w2.alloc o).tape = w2.tape from rfl,hb2.tape]; exact hnx.tape
 ·rw [hg2.output,show (w3.alloc o').output = w3.output from rfl,hg1.output,show (w2.alloc o).output = w2.output from rfl,hb2.output]; exact hnx.output
 ·have := hnx.size; omega
 ·intro g hg
  rw [old g (by omega) fun e => by have := (hv.1.lt g e).1; omega]
  exact hnx.block g hg
end
end Go.Proofs.YtgcdbbidmfdonaaGreat
namespace Go.Proofs.YtgcdbbidmfdonaaGreat
open Go.RowKit
set_option linter.unusedVariables false
set_option maxRecDepth 100000
def mJ (ls : List (List Int)) (vals : List Value) (p : Int) : List Value := ((ls.zip vals).filter fun q => decide (cH q.1 = p)).map (·.2)
theorem aA8 (ls : List (List Int)) (l : List Int) : fS (ls ++ [l]) = if cH l ∈ fS ls then fS ls else fS ls ++ [cH l] := by
 unfold fS
 rw [List.foldl_append]; rfl
theorem aIm {ls : List (List Int)} {vals : List Value} (h : ls.length = vals.length) (l : List Int) (x : Value) (p : Int) : mJ (ls ++ [l]) (vals ++ [x]) p = mJ ls vals p ++ if cH l = p then [x] else [] := by
 unfold mJ
 rw [List.zip_append h,List.filter_append,List.map_append]
 by_cases e : cH l = p <;> simp [e]
theorem aJg {p : Int} : ∀ (ls : List (List Int)) (acc : List Int),p ∈ ls.foldl (fun acc l => if cH l ∈ acc then acc else acc ++ [cH l]) acc ↔ p ∈ acc ∨ ∃ l ∈ ls,cH l = p
 | [],acc => by simp
 | l :: ls,acc => by
  rw [List.foldl_cons,aJg ls]
  split
  ·rename_i hm
   constructor
   ·rintro (h | ⟨l',h1,h2⟩)
    ·exact .inl h
    ·exact .inr ⟨l',List.mem_cons_of_mem _ h1,h2⟩
   ·rintro (h | ⟨l',h1,h2⟩)
    ·exact .inl h
    ·rcases List.mem_cons.1 h1 with rfl | h1
     ·exact .inl (h2 ▸ hm)
     ·exact .inr ⟨l',h1,h2⟩
  ·constructor
   ·rintro (h | ⟨l',h1,h2⟩)
    ·rcases List.mem_append.1 h with h | h
     ·exact .inl h
     ·exact .inr ⟨l,List.mem_cons_self ..,(List.mem_singleton.1 h).symm⟩
    ·exact .inr ⟨l',List.mem_cons_of_mem _ h1,h2⟩
   ·rintro (h | ⟨l',h1,h2⟩)
    ·exact .inl (List.mem_append_left _ h)
    ·rcases List.mem_cons.1 h1 with rfl | h1
     ·exact .inl (by rw [h2]; simp)
     ·exact .inr ⟨l',h1,h2⟩
theorem aE1 {p : Int} {ls : List (List Int)} : p ∈ fS ls ↔ ∃ l ∈ ls,cH l = p := by
 unfold fS
 rw [aJg]
 simp
theorem aEa {p : Int} {ls : List (List Int)} {vals : List Value} (h : ls.length = vals.length) : mJ ls vals p = [] ↔ p ∉ fS ls := by
 rw [aE1]
 unfold mJ
 rw [List.map_eq_nil_iff,List.filter_eq_nil_iff]
 constructor
 ·rintro h2 ⟨l,hl,hp⟩
  obtain ⟨i,hi,rfl⟩ := List.getElem_of_mem hl
  have := h2 (ls[i],vals[i]) (by
   rw [List.mem_iff_getElem]
   exact ⟨i,by simp; omega,by simp⟩)
  simp [hp] at this
 ·rintro h2 ⟨l,x⟩ hq
  have := (List.of_mem_zip hq).1
  simp only [decide_eq_true_eq]
  exact fun e => h2 ⟨l,this,e⟩
section
variable {P : Program} {K tI tS T : TypeId} {ls : List (List Int)} {vals : List Value} {wB wr w5 w7 w8 : World} {B kp k n : Nat} {vP vP' v' x : Value} {val : Int → Value} {p : Int} {l : List Int}
structure aDd (P : Program) (K tI tS T : TypeId) (ls : List (List Int)) (vals : List Value) (wB : World) (B kp k : Nat) (vP : Value) (val : Int → Value) (wr : World) : Prop where
 bel : Below B wB wr
 sz : B + 2 ≤ wr.heap.size
 cel : wr.heap[B + 1]? = some (.cells #[vP, .map (some B)] T (0,0))
 prd : wr.ownsRow (B + 2) tI 1 vP (fS (ls.take kp)).length ((fS (ls.take kp)).map (Value.int .i64))
 map : AtV P K wr B k val
 row : ∀ p,wr.ownsRow (B + 2) tS 1 (val p) (mJ (ls.take k) (vals.take k) p).length (mJ (ls.take k) (vals.take k) p)
 nil : ∀ p,mJ (ls.take k) (vals.take k) p = [] → val p = .slice none 0 0
 sep : ∀ p q,p ≠ q → (val p).ownBlock = none ∨ (val p).ownBlock ≠ (val q).ownBlock
 sepP : ∀ p,(val p).ownBlock = none ∨ (val p).ownBlock ≠ vP.ownBlock
theorem aDd.c0 (h : aDd P K tI tS T ls vals wB B kp k vP val wr) : wr.cell? ⟨B + 1,0,none⟩ = some vP := by simp [World.cell?,h.cel]
theorem aDd.c1 (h : aDd P K tI tS T ls vals wB B kp k vP val wr) : wr.cell? ⟨B + 1,1,none⟩ = some (.map (some B)) := by simp [World.cell?,h.cel]
theorem aDd.f0 (h : aDd P K tI tS T ls vals wB B kp k vP val wr) : wr.frozen? ⟨B + 1,0,none⟩ = false := by simp [World.frozen?,h.cel]
theorem aDd.seen (h : aDd P K tI tS T ls vals wB B k k vP val wr) (hk : k < ls.length) (hl : ls[k]? = some l) (hs : cH l ∈ fS (ls.take k)) : aDd P K tI tS T ls vals wB B (k + 1) k vP val wr := by
 have he : ls[k] = l := by rw [List.getElem?_eq_getElem hk] at hl; exact Option.some.inj hl
 have e : fS (ls.take (k + 1)) = fS (ls.take k) := by rw [List.take_succ_eq_append_getElem hk,he,aA8,if_pos hs]
 exact ⟨h.bel,h.sz,h.cel,by rw [e]; exact h.prd,h.map,h.row,h.nil,h.sep,h.sepP⟩
theorem aDd.fresh {o : Obj} (h : aDd P K tI tS T ls vals wB B k k vP val wr) (hk : k < ls.length) (hl : ls[k]? = some l) (hs : cH l ∉ fS (ls.take k)) (ho : w5.ownsRow (B + 2) tI 1 vP' ((fS (ls.take k)).length + 1) ((fS (ls.take k)).map (Value.int .i64) ++ [.int .i64 (cH l)]))
  (hg : (wr.alloc o).grownBy w5 vP.ownBlock) (hloc : vP'.ownBlock = vP.ownBlock ∨ vP'.ownBlock = some (wr.alloc o).heap.size) (hw : w8.heap = w5.heap.setIfInBounds (B + 1) (.cells #[vP', .map (some B)] T (0,0))) (hos : w8.os = w5.os) (htape : w8.tape = w5.tape) (hout : w8.output = w5.output) :
  aDd P K tI tS T ls vals wB B (k + 1) k vP' val w8 := by
 have he : ls[k] = l := by rw [List.getElem?_eq_getElem hk] at hl; exact Option.some.inj hl
 have e : fS (ls.take (k + 1)) = fS (ls.take k) ++ [cH l] := by rw [List.take_succ_eq_append_getElem hk,he,aA8,if_neg hs]
 have za : (wr.alloc o).heap.size = wr.heap.size + 1 := by simp
 have z5 := hg.size
 rw [za] at z5
 have hsz := h.sz
 have old : ∀ g,g < wr.heap.size → g ≠ B + 1 → vP.ownBlock ≠ some g → w8.heap[g]? = wr.heap[g]? := fun g h1 h2 h3 => by
  rw [hw,Array.getElem?_setIfInBounds_ne (by omega),hg.block g (by omega) fun e => h3 e.symm,Below.heap_alloc wr o g h1]
 have oldP : ∀ g,vP.ownBlock = some g → B + 2 ≤ g ∧ g < wr.heap.size := fun g hg => h.prd.lt g hg
 refine ⟨⟨?_,?_,?_,?_,fun g hgB => ?_⟩,?_,?_,?_,?_,fun p => ?_,h.nil,h.sep,fun p => ?_⟩
 ·rw [hos,hg.os]; exact h.bel.os
 ·rw [htape,hg.tape]; exact h.bel.tape
 ·rw [hout,hg.output]; exact h.bel.output
 ·rw [hw,Array.size_setIfInBounds]; have := h.bel.size; omega
 ·rw [old g (by omega) (by omega) fun e => by have := (oldP g e).1; omega]; exact h.bel.block g hgB
 ·rw [hw,Array.size_setIfInBounds]; omega
 ·rw [hw,Array.getElem?_setIfInBounds_self_of_lt (by omega)]
 ·rw [e]
  have : w8.ownsRow (B + 2) tI 1 vP' ((fS (ls.take k)).length + 1) ((fS (ls.take k)).map (Value.int .i64) ++ [.int .i64 (cH l)]) := eN ho fun g hg' => by
   have := (ho.lt g hg').1
   rw [hw,Array.getElem?_setIfInBounds_ne (by omega)]
  simpa using this
 ·exact h.map.same (old B h.map.lt (by omega) fun e => by have := (oldP B e).1; omega)
 ·refine eN (h.row p) fun g hg' => ?_
  have h1 := (h.row p).lt g hg'
  exact old g h1.2 (by omega) fun e => by
   rcases h.sepP p with q | q
   ·rw [q] at hg'; cases hg'
   ·exact q (hg'.trans e.symm)
 ·rcases hloc with q | q
  ·rw [q]; exact h.sepP p
  ·cases hv : (val p).ownBlock with
   | none => exact .inl rfl
   | some g =>
    right
    rw [q]
    intro e
    have := ((h.row p).lt g hv).2
    cases e
    rw [za] at this
    omega
theorem aDd.join {o : Obj} (h : aDd P K tI tS T ls vals wB B kp k vP val wr) (hk : k < ls.length) (hl : ls[k]? = some l) (hx : vals[k]? = some x) (hlen : ls.length = vals.length) (ho : w7.ownsRow (B + 2) tS 1 v' ((mJ (ls.take k) (vals.take k) (cH l)).length + 1) (mJ (ls.take k) (vals.take k) (cH l) ++ [x]))
  (hg : (wr.alloc o).grownBy w7 (val (cH l)).ownBlock) (hloc : v'.ownBlock = (val (cH l)).ownBlock ∨ v'.ownBlock = some (wr.alloc o).heap.size) (hm : AtV P K w8 B (k + 1) (fun q => if q = cH l then v' else val q)) (hg8 : w7.grownBy w8 (some B)) :
  aDd P K tI tS T ls vals wB B kp (k + 1) vP (fun q => if q = cH l then v' else val q) w8 := by
 have hkv : k < vals.length := by omega
 have he : ls[k] = l := by rw [List.getElem?_eq_getElem hk] at hl; exact Option.some.inj hl
 have hxe : vals[k] = x := by rw [List.getElem?_eq_getElem hkv] at hx; exact Option.some.inj hx
 have ev : ∀ p,mJ (ls.take (k + 1)) (vals.take (k + 1)) p = mJ (ls.take k) (vals.take k) p ++ if cH l = p then [x] else [] := fun p => by
  rw [List.take_succ_eq_append_getElem hk,List.take_succ_eq_append_getElem hkv,he,hxe,aIm (by simp; omega)]
 have za : (wr.alloc o).heap.size = wr.heap.size + 1 := by simp
 have z7 := hg.size
 have z8 := hg8.size
 rw [za] at z7
 have hsz := h.sz
 have hrl := fun g hg => (h.row (cH l)).lt g hg
 have old : ∀ g,g < wr.heap.size → g ≠ B → (val (cH l)).ownBlock ≠ some g → w8.heap[g]? = wr.heap[g]? := fun g h1 h2 h3 => by
  rw [hg8.block g (by omega) (by simpa using h2),hg.block g (by omega) fun e => h3 e.symm,Below.heap_alloc wr o g h1]
 have hv' : w8.ownsRow (B + 2) tS 1 v' ((mJ (ls.take k) (vals.take k) (cH l)).length + 1) (mJ (ls.take k) (vals.take k) (cH l) ++ [x]) := eN ho fun g hg' => by
  have := ho.lt g hg'
  exact hg8.block g this.2 (by simp; omega)
 have hne : ∀ q,q ≠ cH l → (val q).ownBlock = none ∨ (val q).ownBlock ≠ v'.ownBlock := fun q hq => by
  rcases hloc with e | e
  ·rw [e]; exact h.sep q _ hq
  ·cases hv : (val q).ownBlock with
   | none => exact .inl rfl
   | some g =>
    right
    rw [e]
    intro e
    have := ((h.row q).lt g hv).2
    cases e
    rw [za] at this
    omega
 refine ⟨⟨?_,?_,?_,?_,fun g hgB => ?_⟩,?_,?_,?_,hm,fun p => ?_,fun p hp => ?_,fun p q hpq => ?_,fun p => ?_⟩
 ·rw [hg8.os,hg.os]; exact h.bel.os
 ·rw [hg8.tape,hg.tape]; exact h.bel.tape
 ·rw [hg8.output,hg.output]; exact h.bel.output
 ·have := h.bel.size; omega
 ·rw [old g (by omega) (by omega) fun e => by have := (hrl g e).1; omega]; exact h.bel.block g hgB
 ·omega
 ·rw [old (B + 1) (by omega) (by omega) fun e => by have := (hrl _ e).1; omega]; exact h.cel
 ·refine eN h.prd fun g hg' => ?_
  have h1 := h.prd.lt g hg'
  exact old g h1.2 (by omega) fun e => by
   rcases h.sepP (cH l) with q | q
   ·rw [q] at e; cases e
   ·exact q (e.trans hg'.symm)
 ·try dsimp only
  rw [ev p]
  by_cases e : p = cH l
  ·subst e
   rw [if_pos rfl,if_pos rfl]
   simpa using hv'
  ·rw [if_neg e,if_neg fun q => e q.symm,List.append_nil]
   refine eN (h.row p) fun g hg' => ?_
   have h1 := (h.row p).lt g hg'
   exact old g h1.2 (by omega) fun e2 => by
    rcases h.sep p (cH l) e with q | q
    ·rw [q] at hg'; cases hg'
    ·exact q (hg'.trans e2.symm)
 ·try dsimp only
  rw [ev p] at hp
  by_cases e : p = cH l
  ·subst e; simp at hp
  ·rw [if_neg e]
   exact h.nil p (by simpa [fun q => e (Eq.symm q)] using (List.append_eq_nil_iff.1 hp).1)
 ·try dsimp only
  by_cases e1 : p = cH l
  ·rw [if_pos e1,if_neg fun q2 => hpq (e1.trans q2.symm)]
   have hq : q ≠ cH l := fun q2 => hpq (e1.trans q2.symm)
   rcases hne q hq with h1 | h1
   ·cases hv : v'.ownBlock with
    | none => exact .inl rfl
    | some g => right; rw [h1]; simp
   ·exact .inr fun e => h1 e.symm
  ·rw [if_neg e1]
   by_cases e2 : q = cH l
   ·rw [if_pos e2]; exact hne p e1
   ·rw [if_neg e2]; exact h.sep p q hpq
 ·try dsimp only
  by_cases e1 : p = cH l
  ·rw [if_pos e1]
   rcases hloc with q | q
   ·rw [q]; exact h.sepP _
   ·right
    rw [q]
    intro e
    have := (h.prd.lt _ e.symm).2
    rw [za] at this
    omega
  ·rw [if_neg e1]; exact h.sepP p
end
end Go.Proofs.YtgcdbbidmfdonaaGreat
namespace Go.Proofs.YtgcdbbidmfdonaaGreat
set_option linter.unusedVariables false
theorem lM {α : Type} {xs : List α} {i : Int} (h0 : 0 ≤ i) (h1 : i < xs.length) : ∃ e,atI xs i = some e ∧ e ∈ xs ∧ xs[i.toNat]? = some e := by
 have hl : i.toNat < xs.length := by omega
 refine ⟨xs[i.toNat],?_,List.getElem_mem hl,List.getElem?_eq_getElem hl⟩
 unfold atI; rw [if_pos h0]; exact List.getElem?_eq_getElem hl
theorem aB1 {α : Type} {xs : List α} {i : Int} {x : α} (h0 : 0 ≤ i) (h1 : i < xs.length) : atI (List.set xs i.toNat x) i = some x := by
 unfold atI; rw [if_pos h0]; exact List.getElem?_set_self (by omega)
theorem yH {α : Type} {k : Option α} : chk True k = k := if_pos trivial
theorem aCk {i : Int} {n : Nat} (h0 : 0 ≤ i) (h1 : i < n) (hn : n ≤ 9223372036854775807) : w64 (i + 1) = i + 1 := aU (by omega) (by omega)
theorem aNn {α : Type} {xs ys : List α} {k : Nat} {e : α} (h : xs[k]? = some e) (hl : ys.length = xs.length) (hy : ys.take k = xs.take k) : (ys.set k e).take (k + 1) = xs.take (k + 1) := by
 have hk : k < xs.length := (List.getElem?_eq_some_iff.1 h).1
 rw [List.take_add_one,List.take_add_one,h,List.getElem?_set_self (by omega),List.take_set_of_le (Nat.le_refl _),hy]
theorem xU {α : Type} {f : α → α → Option Bool} {xs : List α} (hl : xs.length ≤ 9223372036854775807) (h : ∀ v ∈ xs,f v v = some true) :
  cE (S := Int) (X := Unit ⊕ Bool) (fun s => (if s < (xs.length : Int) then ((atI xs s).bind fun v => ((atI xs s).bind fun u => ((f v u).bind fun b => (if (!b) = true then some (.inr (.inr false)) else some (.inl (w64 (s + 1))))))) else some (.inr (.inl ())))) 0 = some (.inl ()) := by
 refine pU (fun (s : Int) => 0 ≤ s ∧ s ≤ xs.length) (fun (s : Int) => ((xs.length : Int) - s).toNat) (fun s hI => ?_) (by omega) (by omega)
 by_cases hs : s < xs.length
 ·obtain ⟨e,he,hm,_⟩ := lM hI.1 hs
  left
  refine ⟨s + 1,?_,by omega,by omega⟩
  simp [hs,he,h e hm,aCk hI.1 hs hl]
 ·right; simp [hs]
theorem aJ0 {α : Type} [DecidableEq α] {xs : List α} (hl : xs.length ≤ 9223372036854775807) :
  cE (S := Int) (X := Unit ⊕ Bool) (fun s => (if s < (xs.length : Int) then ((atI xs s).bind fun v => ((atI xs s).bind fun u => (if v ≠ u then some (.inr (.inr false)) else some (.inl (w64 (s + 1)))))) else some (.inr (.inl ())))) 0 = some (.inl ()) := by
 refine pU (fun (s : Int) => 0 ≤ s ∧ s ≤ xs.length) (fun (s : Int) => ((xs.length : Int) - s).toNat) (fun s hI => ?_) (by omega) (by omega)
 by_cases hs : s < xs.length
 ·obtain ⟨e,he,hm,_⟩ := lM hI.1 hs
  left
  refine ⟨s + 1,?_,by omega,by omega⟩
  simp [hs,he,aCk hI.1 hs hl]
 ·right; simp [hs]
theorem aOa {α : Type} {f : α → Option α} {xs : List α} {z : α} (hl : xs.length ≤ 9223372036854775807) (h : ∀ v ∈ xs,f v = some v) :
  cE (S := Int × List α) (X := List α) (fun s => (if s.1 < (xs.length : Int) then ((atI xs s.1).bind fun v => ((f v).bind fun u => ((atI s.2 s.1).bind fun _ => some (.inl (w64 (s.1 + 1),List.set s.2 (s.1).toNat u))))) else some (.inr s.2))) (0,List.replicate ((xs.length : Int)).toNat z) = some xs := by
 refine pU (fun (s : Int × List α) => 0 ≤ s.1 ∧ s.1 ≤ xs.length ∧ s.2.length = xs.length ∧ s.2.take s.1.toNat = xs.take s.1.toNat) (fun (s : Int × List α) => ((xs.length : Int) - s.1).toNat) (fun s hI => ?_) (by simp) (by simp; omega)
 obtain ⟨i,ys⟩ := s
 obtain ⟨h0,h1,h2,h3⟩ := hI
 dsimp only at h0 h1 h2 h3 ⊢
 by_cases hs : i < xs.length
 ·obtain ⟨e,he,hm,hg⟩ := lM h0 hs
  obtain ⟨e2,he2,_,_⟩ := lM (xs := ys) h0 (by omega)
  left
  refine ⟨(i + 1,ys.set i.toNat e),?_,⟨by omega,by omega,by simpa using h2,?_⟩,by dsimp only; omega⟩
  ·simp [hs,he,he2,h e hm,aCk h0 hs hl]
  ·have : (i + 1).toNat = i.toNat + 1 := by omega
   dsimp only
   rw [this]
   exact aNn hg h2 h3
 ·right
  have hi : i.toNat = xs.length := by omega
  rw [hi,List.take_length,List.take_of_length_le (by omega)] at h3
  simp [hs,h3]
theorem aQ3 {α : Type} {f : α → Int → Option Int} {sm : α → Prop} {xs : List α} (hl : xs.length ≤ 9223372036854775807) (h : ∀ v ∈ xs, ∀ l,0 ≤ l → l ≤ 1048576 → ∃ r,f v l = some r ∧ r ≤ l ∧ (0 ≤ r → sm v)) (l0 : Int) (h0 : 0 ≤ l0) (h1 : l0 ≤ 1048576) :
  ∃ x,cE (S := Int × Int) (X := Int ⊕ Int) (fun s => (if s.2 < (xs.length : Int) then ((atI xs s.2).bind fun v => ((f v s.1).bind fun u => (if u < 0 then some (.inr (.inr (-1))) else some (.inl (u,w64 (s.2 + 1)))))) else some (.inr (.inl s.1)))) (l0,0) = some x ∧ (x = .inr (-1) ∨ ∃ r,x = .inl r ∧ 0 ≤ r ∧ r ≤ l0 ∧ ∀ v ∈ xs,sm v) := by
 refine rN (fun (s : Int × Int) => 0 ≤ s.2 ∧ s.2 ≤ xs.length ∧ 0 ≤ s.1 ∧ s.1 ≤ l0 ∧ ∀ v ∈ xs.take s.2.toNat,sm v) (fun (s : Int × Int) => ((xs.length : Int) - s.2).toNat) _ (fun s hI => ?_) _ (by simp; omega) (by simp; omega)
 obtain ⟨l,i⟩ := s
 obtain ⟨q0,q1,q2,q3,q4⟩ := hI
 dsimp only at q0 q1 q2 q3 q4 ⊢
 by_cases hs : i < xs.length
 ·obtain ⟨e,he,hm,hg⟩ := lM q0 hs
  obtain ⟨r,hr,hrl,hsm⟩ := h e hm l q2 (by omega)
  by_cases hneg : r < 0
  ·right
   exact ⟨.inr (-1),by simp [hs,he,hr,hneg], .inl rfl⟩
  ·left
   refine ⟨(r,i + 1),by simp [hs,he,hr,hneg,aCk q0 hs hl],⟨by omega,by omega,by omega,by omega,fun v hv => ?_⟩,by dsimp only; omega⟩
   have : (i + 1).toNat = i.toNat + 1 := by omega
   dsimp only at hv
   rw [this,List.take_add_one,hg] at hv
   simp only [Option.toList_some,List.mem_append,List.mem_singleton] at hv
   rcases hv with hv | rfl
   ·exact q4 v hv
   ·exact hsm (by omega)
 ·right
  have hi : i.toNat = xs.length := by omega
  rw [hi,List.take_length] at q4
  exact ⟨.inl l,by simp [hs], .inr ⟨l,rfl,q2,q3,q4⟩⟩
theorem yA {α : Type} {c : Int} {B : Int} {M : Int → α} {step : Int × Int × List α → Option ((Int × Int × List α) ⊕ (Int × List α))} (hc : 0 ≤ c)
  (hM : ∀ k i ys,0 ≤ k → k ≤ B → 0 ≤ i → i < ys.length → ys.length ≤ 1048576 → step (k,i,ys) = some (.inl (k + c,i + 1,List.set ys i.toNat (M k)))) (hE : ∀ k i ys, ¬ i < ys.length → step (k,i,ys) = some (.inr (k,ys)))
  {xs : List α} {k0 : Int} (h0 : 0 ≤ k0) (hl : xs.length ≤ 1048576) (hB : k0 + c * xs.length ≤ B) : cE step (k0,0,xs) = some (k0 + c * xs.length,(List.range xs.length).map fun (j : Nat) => M (k0 + c * (j : Int))) := by
 refine pU (fun (s : Int × Int × List α) => 0 ≤ s.2.1 ∧ s.2.1 ≤ xs.length ∧ s.1 = k0 + c * s.2.1 ∧ s.2.2 = ((List.range s.2.1.toNat).map fun (j : Nat) => M (k0 + c * (j : Int))) ++ xs.drop s.2.1.toNat) (fun (s : Int × Int × List α) => ((xs.length : Int) - s.2.1).toNat) (fun s hI => ?_) (by simp) (by simp; omega)
 obtain ⟨k,i,ys⟩ := s
 obtain ⟨q0,q1,q2,q3⟩ := hI
 dsimp only at q0 q1 q2 q3 ⊢
 have hyl : ys.length = xs.length := by rw [q3]; simp; omega
 by_cases hs : i < xs.length
 ·left
  have hci : 0 ≤ c * i := Int.mul_nonneg hc q0
  have hcl : c * i ≤ c * xs.length := Int.mul_le_mul_of_nonneg_left (by omega) hc
  refine ⟨_,hM k i ys (by omega) (by omega) q0 (by omega) (by omega),⟨by dsimp only; omega,by dsimp only; omega,?_,?_⟩,by dsimp only; omega⟩
  ·dsimp only
   rw [q2,Int.mul_add]; omega
  ·have e1 : (i + 1).toNat = i.toNat + 1 := by omega
   dsimp only
   rw [e1,q3,List.set_append_right _ _ (by simp),List.range_succ,List.map_append,List.length_map,List.length_range,Nat.sub_self,List.drop_eq_getElem_cons (show i.toNat < xs.length by omega),List.set_cons_zero]
   have e2 : ((i.toNat : Nat) : Int) = i := by omega
   simp [q2,e2]
 ·right
  have hi : i = xs.length := by omega
  rw [hE k i ys (by omega),q3,q2,hi]
  simp
theorem xZ {α : Type} {c : Int} {B : Int} {M : Int → α} {n : Nat} {step : Int × Int → Option ((Int × Int) ⊕ (Int ⊕ Int))} (hc : 0 ≤ c)
  {k0 : Int} (hM : ∀ k i : Int,0 ≤ k → k ≤ B → 0 ≤ i → i < n → k = k0 + c * i → step (k,i) = some (.inl (k + c,i + 1))) (hE : ∀ k i, ¬ i < (n : Int) → step (k,i) = some (.inr (.inl k)))
  (h0 : 0 ≤ k0) (hl : n ≤ 1048576) (hB : k0 + c * n ≤ B) : cE step (k0,0) = some (.inl (k0 + c * n)) := by
 refine pU (fun (s : Int × Int) => 0 ≤ s.2 ∧ s.2 ≤ n ∧ s.1 = k0 + c * s.2) (fun (s : Int × Int) => ((n : Int) - s.2).toNat) (fun s hI => ?_) (by simp) (by simp; omega)
 obtain ⟨k,i⟩ := s
 obtain ⟨q0,q1,q2⟩ := hI
 dsimp only at q0 q1 q2 ⊢
 by_cases hs : i < n
 ·left
  have hci : 0 ≤ c * i := Int.mul_nonneg hc q0
  have hcl : c * i ≤ c * n := Int.mul_le_mul_of_nonneg_left (by omega) hc
  refine ⟨_,hM k i (by omega) (by omega) q0 hs q2,⟨by dsimp only; omega,by dsimp only; omega,by dsimp only; rw [q2,Int.mul_add]; omega⟩,by dsimp only; omega⟩
 ·right
  have hi : i = n := by omega
  rw [hE k i (by omega),q2,hi]
theorem tE {α : Type} {M : Int → α} {k0 c : Int} {n : Nat} {i : Int} (h0 : 0 ≤ i) (h1 : i < n) : atI ((List.range n).map fun (j : Nat) => M (k0 + c * (j : Int))) i = some (M (k0 + c * i)) := by
 unfold atI
 rw [if_pos h0,List.getElem?_map,List.getElem?_range (by omega)]
 have : ((i.toNat : Nat) : Int) = i := by omega
 simp [this]
theorem aLm {X : Type} {n : Nat} {g : Nat → Bool} {d : X} {e : Nat → X} {step : Int → Option (Int ⊕ X)} (hS : ∀ i : Nat,i < n → step (i : Int) = some (if g i = true then .inl ((i : Int) + 1) else .inr (e i))) (hE : step (n : Int) = some (.inr d)) (hn : n ≤ 9223372036854775807) :
  ∃ x,cE step 0 = some x ∧ (((∀ j,j < n → g j = true) ∧ x = d) ∨ ∃ i,i < n ∧ g i = false ∧ (∀ j,j < i → g j = true) ∧ x = e i) := by
 refine rN (fun (s : Int) => 0 ≤ s ∧ s ≤ n ∧ ∀ j : Nat,(j : Int) < s → g j = true) (fun (s : Int) => ((n : Int) - s).toNat) _ (fun s hI => ?_) 0 ⟨by omega,by omega,fun j hj => by omega⟩ (by omega)
 obtain ⟨q0,q1,q2⟩ := hI
 obtain ⟨i,rfl⟩ : ∃ i : Nat,s = i := ⟨s.toNat,by omega⟩
 by_cases hs : i < n
 ·cases hg : g i
  ·right
   exact ⟨e i,by rw [hS i hs,hg]; rfl, .inr ⟨i,hs,hg,fun j hj => q2 j (by omega),rfl⟩⟩
  ·left
   refine ⟨(i : Int) + 1,by rw [hS i hs,hg]; rfl,⟨by omega,by omega,fun j hj => ?_⟩,by omega⟩
   rcases Nat.lt_or_ge j i with h | h
   ·exact q2 j (by omega)
   ·have : j = i := by omega
    rw [this]; exact hg
 ·right
  have : i = n := by omega
  subst this
  exact ⟨d,hE, .inl ⟨fun j hj => q2 j (by omega),rfl⟩⟩
theorem aFi {X : Type} {n : Nat} {g : Nat → Bool} {d e : X} {step : Int → Option (Int ⊕ X)} (hS : ∀ i : Nat,i < n → step (i : Int) = some (if g i = true then .inl ((i : Int) + 1) else .inr e)) (hE : step (n : Int) = some (.inr d)) (hn : n ≤ 9223372036854775807) :
  cE step 0 = some (if (List.range n).all g = true then d else e) := by
 obtain ⟨x,hx,⟨h,rfl⟩ | ⟨i,hi,hg,_,rfl⟩⟩ := aLm (e := fun _ => e) hS hE hn
 ·rw [hx,if_pos (by simpa using h)]
 ·rw [hx,if_neg (by simp only [List.all_eq_true,List.mem_range]; intro h; rw [h i hi] at hg; cases hg)]
theorem fB {α : Type} {xs : List α} {i : Nat} (h : i < xs.length) : atI xs (i : Int) = some xs[i] := by rw [aC1]; exact List.getElem?_eq_getElem h
theorem yN {α : Type} {xs : List α} {f : α → Bool} {g : Nat → Bool} (h : ∀ (i : Nat) (hi : i < xs.length),g i = f xs[i]) : (List.range xs.length).all g = xs.all f := by
 rw [Bool.eq_iff_iff,List.all_eq_true,List.all_eq_true]
 constructor
 ·intro q v hv
  obtain ⟨i,hi,rfl⟩ := List.getElem_of_mem hv
  rw [← h i hi]; exact q i (List.mem_range.2 hi)
 ·intro q i hi
  have hi := List.mem_range.1 hi
  rw [h i hi]; exact q _ (List.getElem_mem hi)
theorem aM7 {α X : Type} {xs : List α} {f : α → Bool} {d e : X} {step : Int → Option (Int ⊕ X)} (hS : ∀ (i : Nat) (hi : i < xs.length),step (i : Int) = some (if f xs[i] = true then .inl ((i : Int) + 1) else .inr e)) (hE : step (xs.length : Int) = some (.inr d)) (hn : xs.length ≤ 9223372036854775807) :
  cE step 0 = some (if xs.all f = true then d else e) := by
 rw [aFi (n := xs.length) (d := d) (e := e) (g := fun i => if hi : i < xs.length then f xs[i] else true) (fun i hi => by rw [hS i hi]; simp [hi]) hE hn,yN (f := f) fun i hi => by simp [hi]]
theorem uK {α β : Type} {xs : List α} {f : α → List β} {c : Nat} {init : List β} {step : Int × List β → Option ((Int × List β) ⊕ List β)} (hc : ∀ v ∈ xs,(f v).length ≤ c) (hS : ∀ (i : Nat) (hi : i < xs.length) ys,ys.length ≤ init.length + c * i → step ((i : Int),ys) = some (.inl ((i : Int) + 1,ys ++ f xs[i]))) (hE : ∀ ys,step ((xs.length : Int),ys) = some (.inr ys)) (hn : xs.length ≤ 9223372036854775807) :
  cE step (0,init) = some (init ++ xs.flatMap f) := by
 refine pU (fun (s : Int × List β) => 0 ≤ s.1 ∧ s.1 ≤ xs.length ∧ s.2 = init ++ (xs.take s.1.toNat).flatMap f ∧ s.2.length ≤ init.length + c * s.1.toNat) (fun (s : Int × List β) => ((xs.length : Int) - s.1).toNat) (fun s hI => ?_) (by simp) (by simp; omega)
 obtain ⟨i,ys⟩ := s
 obtain ⟨q0,q1,q2,q3⟩ := hI
 dsimp only at q0 q1 q2 q3 ⊢
 obtain ⟨j,rfl⟩ : ∃ j : Nat,i = j := ⟨i.toNat,by omega⟩
 have e2 : ((j : Int)).toNat = j := by omega
 rw [e2] at q2 q3
 by_cases hs : j < xs.length
 ·left
  have e : ((j : Int) + 1).toNat = j + 1 := by omega
  refine ⟨_,hS j hs ys q3,⟨by dsimp only; omega,by dsimp only; omega,?_,?_⟩,by dsimp only; omega⟩
  ·dsimp only
   rw [e,q2,List.take_succ_eq_append_getElem hs,List.flatMap_append, ← List.append_assoc]; simp
  ·dsimp only
   rw [e,List.length_append,Nat.mul_add]
   have := hc xs[j] (List.getElem_mem hs)
   omega
 ·right
  have : j = xs.length := by omega
  subst this
  rw [hE ys,q2,List.take_length]
end Go.Proofs.YtgcdbbidmfdonaaGreat
namespace Go.Proofs.YtgcdbbidmfdonaaGreat
set_option linter.unusedVariables false
def btw (x a b : Int) : Bool := decide (a ≤ x ∧ x ≤ b)
theorem oM (x a b : Int) : eG x a b = some (btw x a b) := by unfold eG btw; split <;> simp_all <;> omega
theorem iW (x a b : Int) : eE x a b = some (btw x a b) := by unfold eE btw; split <;> simp_all <;> omega
def aRz (n d : Int) : Int := (2 * n + d) / (2 * d)
structure aTu (r k n : Int) : Prop where
 p0 : 0 ≤ 2 * k * (n - 2 * k)
 p1 : 2 * k * (n - 2 * k) ≤ 64000000
 r0 : 0 ≤ r * 16 * (2 * k * (n - 2 * k))
 r1 : r * 16 * (2 * k * (n - 2 * k)) ≤ 102400000000000
 n0 : 1 ≤ 5 * n * n - 4 * (2 * k * (n - 2 * k))
 n1 : 5 * n * n ≤ 1280000000
end Go.Proofs.YtgcdbbidmfdonaaGreat
namespace Go.Proofs.YtgcdbbidmfdonaaGreat
set_option linter.unusedVariables false
def smB (c : Int) : Bool := decide (97 ≤ c ∧ c ≤ 122)
def dgB (c : Int) : Bool := decide (48 ≤ c ∧ c ≤ 57)
def okB (c : Int) : Bool := smB c || (dgB c || decide (c = 45))
theorem zW (s : ByteArray) (i : Int) : aCm s i = atI (dD s) i := by
 unfold aCm atI dD
 split
 ·rename_i h
  rw [List.getElem?_map]
  congr 1
  rw [Array.getElem?_toList]
  by_cases hi : i.toNat < s.size
  ·rw [getElem?_pos s i.toNat hi,getElem?_pos s.data i.toNat hi]; rfl
  ·rw [getElem?_neg s i.toNat hi,getElem?_neg s.data i.toNat hi]
 ·rfl
def lX (s : ByteArray) : Bool := decide (1 ≤ s.size ∧ s.size ≤ 12) && ((dD s).take 1).all smB && (dD s).all okB
theorem vL (c : Int) : kS c = some (smB c) := by unfold kS smB; split <;> simp_all <;> omega
theorem aCu (c : Int) : mY c = some (dgB c) := by unfold mY dgB; split <;> simp_all <;> omega
theorem aTf {s : ByteArray} : s = ⟨#[]⟩ ↔ s.size = 0 := by
 constructor
 ·rintro rfl; rfl
 ·intro h
  cases s with | mk d =>
  have : d = #[] := Array.eq_empty_of_size_eq_zero h
  rw [this]
theorem uD (s : ByteArray) : lU s = some (lX s) := by
 have hl := vQ s
 unfold lU lX
 by_cases h0 : s = ⟨#[]⟩
 ·have := aTf.1 h0
  simp [h0]
  intro h; exact absurd h (by decide)
 ·have h1 : s.size ≠ 0 := fun h => h0 (aTf.2 h)
  rw [if_neg h0]
  by_cases h2 : 12 < (s.size : Int)
  ·rw [if_pos h2]
   simp
   intro a b; omega
  ·rw [if_neg h2]
   obtain ⟨c,cs,hc⟩ : ∃ c cs,dD s = c :: cs := by
    cases hb : dD s with
    | nil => rw [hb] at hl; simp at hl; omega
    | cons c cs => exact ⟨c,cs,rfl⟩
   have e0 : aCm s 0 = some c := by rw [zW,hc]; rfl
   rw [e0]
   simp only [Option.bind_some,vL]
   have ht : ((dD s).take 1).all smB = smB c := by rw [hc]; simp
   have hd : decide (1 ≤ s.size ∧ s.size ≤ 12) = true := decide_eq_true ⟨by omega,by omega⟩
   rw [ht,hd]
   cases hs : smB c
   ·simp
   ·simp only [Bool.not_true,Bool.false_eq_true,if_false,Bool.true_and]
    have hz : (s.size : Int) = ((dD s).length : Int) := by rw [hl]
    rw [hz,aM7 (xs := dD s) (f := okB) (d := .inl ()) (e := .inr false) (fun i hi => ?_) (by simp) (by omega)]
    ·cases (dD s).all okB <;> simp [orE]
    ·have hi' : (i : Int) < ((dD s).length : Int) := by omega
     have e1 : w64 ((i : Int) + 1) = i + 1 := aU (by omega) (by omega)
     rw [if_pos hi',zW,fB hi]
     simp only [Option.bind_some,vL,aCu,e1,okB]
     generalize (dD s)[i] = c
     rcases Bool.eq_false_or_eq_true (smB c) with g1 | g1 <;> rcases Bool.eq_false_or_eq_true (dgB c) with g2 | g2 <;> by_cases h45 : c = 45 <;> simp [g1,g2,h45]
theorem zZ (s : ByteArray) : lV s = some (lX s) := by
 have hl := vQ s
 unfold lV lX
 by_cases h1 : (s.size : Int) < 1
 ·rw [if_pos h1]; simp
  intro a b; omega
 ·rw [if_neg h1]
  by_cases h2 : 12 < (s.size : Int)
  ·simp [h2]
   intro a b; omega
  ·have hd : decide (1 ≤ s.size ∧ s.size ≤ 12) = true := decide_eq_true ⟨by omega,by omega⟩
   simp only [h2,decide_false,Option.bind_some,Bool.false_eq_true,if_false,hd,Bool.true_and]
   rw [gW (by omega),aFi (n := (dD s).length) (d := .inl ()) (e := .inr false) (g := fun i => smB ((dD s).getD i 0) || (decide (i ≠ 0) && (dgB ((dD s).getD i 0) || decide ((dD s).getD i 0 = 45)))) (fun i hi => ?_) (by simp) (by omega)]
   ·obtain ⟨c,cs,hc⟩ : ∃ c cs,dD s = c :: cs := by
     cases hb : dD s with
     | nil => rw [hb] at hl; simp at hl; omega
     | cons c cs => exact ⟨c,cs,rfl⟩
    have key : (List.range (dD s).length).all (fun i => smB ((dD s).getD i 0) || (decide (i ≠ 0) && (dgB ((dD s).getD i 0) || decide ((dD s).getD i 0 = 45)))) = (((dD s).take 1).all smB && (dD s).all okB) := by
     rw [hc]
     simp only [List.length_cons,List.range_succ_eq_map,List.all_cons,List.all_map,List.take_succ_cons,List.take_zero,List.all_nil,Bool.and_true]
     have : (List.range cs.length).all ((fun i => smB ((c :: cs).getD i 0) || (decide (i ≠ 0) && (dgB ((c :: cs).getD i 0) || decide ((c :: cs).getD i 0 = 45)))) ∘ Nat.succ) = cs.all okB := yN (f := okB) fun i hi => by simp [okB,hi]
     rw [this]
     simp [okB]
     cases smB c <;> simp
    rw [key]
    cases ((dD s).take 1).all smB && (dD s).all okB <;> simp [orE]
   ·have hi' : (i : Int) < ((dD s).length : Int) := by omega
    have e1 : w64 ((i : Int) + 1) = i + 1 := aU (by omega) (by omega)
    have e2 : (dD s).getD i 0 = (dD s)[i] := by simp [hi]
    rw [if_pos hi',fB hi,e2]
    simp only [Option.bind_some,e1]
    generalize (dD s)[i] = c
    have A : (if 97 ≤ c then some (decide (c ≤ 122)) else some false) = some (smB c) := by unfold smB; split <;> simp_all <;> omega
    have B : (if 48 ≤ c then (if c ≤ 57 then some true else some (decide (c = 45))) else some (decide (c = 45))) = some (dgB c || decide (c = 45)) := by
     unfold dgB
     split
     ·split <;> simp_all <;> omega
     ·simp_all; omega
    rw [A,B]
    simp only [Option.bind_some]
    have hz : ((i : Int) = 0) ↔ i = 0 := by omega
    cases smB c <;> cases (dgB c || decide (c = 45)) <;> by_cases h0 : i = 0 <;> simp [h0]
end Go.Proofs.YtgcdbbidmfdonaaGreat
namespace Go.Proofs.YtgcdbbidmfdonaaGreat
set_option linter.unusedVariables false
def aI5 {α : Type} (xs : List α) (f : Nat → α → Bool) : Bool := (List.range xs.length).all fun i => if hi : i < xs.length then f i xs[i] else true
theorem xV {α : Type} {xs : List α} {f : Nat → α → Bool} : aI5 xs f = true ↔ ∀ (i : Nat) (hi : i < xs.length),f i xs[i] = true := by
 unfold aI5
 rw [List.all_eq_true]
 constructor
 ·intro h i hi
  have := h i (List.mem_range.2 hi)
  rwa [dif_pos hi] at this
 ·intro h i hi
  have hi := List.mem_range.1 hi
  rw [dif_pos hi]
  exact h i hi
theorem aHw {α : Type} {xs : List α} {f : α → Bool} : aI5 xs (fun _ v => f v) = xs.all f := yN fun i hi => by simp [hi]
theorem aJn {α X : Type} {xs : List α} {G : Int → Option (Int ⊕ X)} (f : Nat → α → Bool) {d e : X} (hl : xs.length ≤ 9223372036854775807) (hG : ∀ (i : Nat) (hi : i < xs.length),G i = some (if f i xs[i] = true then .inl (w64 ((i : Int) + 1)) else .inr e)) :
  cE (fun s => (if s < (xs.length : Int) then G s else some (.inr d))) 0 = some (if aI5 xs f = true then d else e) := by
 refine aFi (n := xs.length) (g := fun i => if hi : i < xs.length then f i xs[i] else true) (fun i hi => ?_) (by simp) hl
 have hi' : (i : Int) < xs.length := by omega
 have e1 : w64 ((i : Int) + 1) = i + 1 := aU (by omega) (by omega)
 simp only [if_pos hi',hG i hi,hi,dite_true,e1]
theorem aS3 {α X : Type} {xs : List α} {G : Int → Option (Int ⊕ X)} (k : Nat) (f : Nat → α → Bool) {d e : X} (hk : k ≤ xs.length) (hl : xs.length ≤ 9223372036854775807) (hG : ∀ (i : Nat) (hi : i < xs.length),i < k → G i = some (if f i xs[i] = true then .inl (w64 ((i : Int) + 1)) else .inr e)) :
  cE (fun s => (if s < (k : Int) then G s else some (.inr d))) 0 = some (if aI5 (xs.take k) f = true then d else e) := by
 have hlen : (xs.take k).length = k := by rw [List.length_take]; omega
 have := aJn (xs := xs.take k) (G := G) f (d := d) (e := e) (by omega) (fun i hi => by
  rw [List.getElem_take]; exact hG i (by omega) (by omega))
 rwa [hlen] at this
def aMg {α : Type} (xs : List α) (p : α → Bool) : Int := match xs.findIdx? p with
 | some i => i
 | none => -1
theorem aRy {α : Type} {xs : List α} {G : Int → Option (Int ⊕ (Unit ⊕ Int))} (p : α → Bool) (hl : xs.length ≤ 9223372036854775807) (hG : ∀ (i : Nat) (hi : i < xs.length),G i = (if p xs[i] = true then some (.inr (.inr (i : Int))) else some (.inl (w64 ((i : Int) + 1))))) :
  ((cE (fun s => (if s < (xs.length : Int) then G s else some (.inr (.inl ())))) 0 : Option (Unit ⊕ Int)).bind fun x => orE x fun v => some (-1)) = some (aMg xs p) := by
 obtain ⟨x,hx,h⟩ := aLm (X := Unit ⊕ Int) (n := xs.length) (step := fun s => (if s < (xs.length : Int) then G s else some (.inr (.inl ())))) (g := fun i => if hi : i < xs.length then !p xs[i] else true) (d := .inl ()) (e := fun i => .inr (i : Int)) (fun i hi => by
  have hi' : (i : Int) < xs.length := by omega
  have e1 : w64 ((i : Int) + 1) = i + 1 := aU (by omega) (by omega)
  simp only [if_pos hi',hG i hi,hi,dite_true,e1]
  cases p xs[i] <;> rfl) (by simp) hl
 rw [hx]
 unfold aMg
 rcases h with ⟨h,rfl⟩ | ⟨i,hi,hg,hj,rfl⟩
 ·have : xs.findIdx? p = none := by
   rw [List.findIdx?_eq_none_iff]
   intro v hv
   obtain ⟨i,hi,rfl⟩ := List.getElem_of_mem hv
   have := h i hi
   simpa [hi] using this
  rw [this]; rfl
 ·have : xs.findIdx? p = some i := by
   rw [List.findIdx?_eq_some_iff_getElem]
   refine ⟨hi,by simpa [hi] using hg,fun j hji => ?_⟩
   have := hj j hji
   have hjl : j < xs.length := by omega
   simpa [hjl] using this
  rw [this]; rfl
theorem aNd {α : Type} {xs : List α} {p : α → Bool} : decide (0 ≤ aMg xs p) = xs.any p := by
 unfold aMg
 cases h : xs.findIdx? p with
 | none =>
  rw [List.findIdx?_eq_none_iff] at h
  have e : xs.any p = false := by
   rw [← Bool.not_eq_true,List.any_eq_true]
   rintro ⟨v,hv,hp⟩
   rw [h v hv] at hp; cases hp
  rw [e]; rfl
 | some i =>
  rw [List.findIdx?_eq_some_iff_getElem] at h
  obtain ⟨hi,hp,_⟩ := h
  rw [List.any_eq_true.2 ⟨_,List.getElem_mem hi,hp⟩]
  exact decide_eq_true (by show (0 : Int) ≤ (i : Int); omega)
theorem aOm {α : Type} {xs : List α} {i : Nat} : xD xs 0 (i : Int) = xs.take i := by simp [xD]
theorem aO2 {α : Type} {xs : List α} {i : Nat} (h : i ≤ xs.length) : 0 ≤ (0 : Int) ∧ (0 : Int) ≤ (i : Int) ∧ (i : Int) ≤ (xs.length : Int) := by omega
def aLp {α σ X : Type} (body : Nat → α → σ → Option (σ ⊕ X)) : List α → Nat → σ → Option (σ ⊕ X)
 | [],_,s => some (.inl s)
 | x :: xs,i,s => (body i x s).bind fun r => match r with
  | .inl s' => aLp body xs (i + 1) s'
  | .inr y => some (.inr y)
theorem tH {S X : Type} (step : S → Option (S ⊕ X)) (n : Nat) (s : S) : uE step (n + 1) s = (step s).bind fun r => match r with
  | .inl s' => uE step n s'
  | .inr y => some y := by
 cases h : step s with
 | none => simp [uE,h]
 | some r => cases r <;> simp [uE,h]
theorem aH5 {α S σ X : Type} {xs : List α} {step : S → Option (S ⊕ X)} (mk : Int → σ → S) (body : Nat → α → σ → Option (σ ⊕ X)) (fin : σ → X) (hl : xs.length ≤ 9223372036854775807)
  (hS : ∀ (i : Nat) (hi : i < xs.length) s,step (mk i s) = (body i xs[i] s).map (Sum.map (mk ((i : Int) + 1)) id)) (hE : ∀ s,step (mk xs.length s) = some (.inr (fin s))) (s0 : σ) :
  cE step (mk 0 s0) = (aLp body xs 0 s0).map (Sum.elim fin id) := by
 have key : ∀ (k : Nat) (ys : List α) (n : Nat) s,ys.length + k = xs.length → ys = xs.drop k → ys.length < n → uE step n (mk (k : Int) s) = (aLp body ys k s).map (Sum.elim fin id) := by
  intro k ys
  induction ys generalizing k with
  | nil =>
   intro n s h1 h2 h3
   obtain ⟨n,rfl⟩ : ∃ m,n = m + 1 := ⟨n - 1,by simp at h3; omega⟩
   have : k = xs.length := by simpa using h1
   subst this
   rw [tH,hE]; rfl
  | cons y ys ih =>
   intro n s h1 h2 h3
   obtain ⟨n,rfl⟩ : ∃ m,n = m + 1 := ⟨n - 1,by simp at h3; omega⟩
   have hk : k < xs.length := by simp at h1; omega
   rw [List.drop_eq_getElem_cons hk] at h2
   injection h2 with h2 h4
   rw [tH,hS k hk, ← h2]
   show _ = ((body k y s).bind _).map _
   cases body k y s with
   | none => rfl
   | some r =>
    cases r with
    | inr z => rfl
    | inl s' => exact ih (k + 1) n s' (by simp at h1; omega) h4 (by simp at h3; omega)
 exact key 0 xs rX s0 (by simp) (by simp) (by unfold rX; omega)
theorem aDx {α S σ X : Type} {xs : List α} {step : S → Option (S ⊕ X)} (mk : Int → σ → S) (body : Nat → α → σ → Option (σ ⊕ X)) (fin : σ → X) (I : σ → Prop) (hl : xs.length ≤ 9223372036854775807)
  (hS : ∀ (i : Nat) (hi : i < xs.length) s,I s → step (mk i s) = (body i xs[i] s).map (Sum.map (mk ((i : Int) + 1)) id)) (hI : ∀ (i : Nat) (hi : i < xs.length) s s',I s → body i xs[i] s = some (.inl s') → I s') (hE : ∀ s,I s → step (mk xs.length s) = some (.inr (fin s))) (s0 : σ) (h0 : I s0) :
  cE step (mk 0 s0) = (aLp body xs 0 s0).map (Sum.elim fin id) := by
 have key : ∀ (k : Nat) (ys : List α) (n : Nat) s,I s → ys.length + k = xs.length → ys = xs.drop k → ys.length < n → uE step n (mk (k : Int) s) = (aLp body ys k s).map (Sum.elim fin id) := by
  intro k ys
  induction ys generalizing k with
  | nil =>
   intro n s hs h1 h2 h3
   obtain ⟨n,rfl⟩ : ∃ m,n = m + 1 := ⟨n - 1,by simp at h3; omega⟩
   have : k = xs.length := by simpa using h1
   subst this
   rw [tH,hE s hs]; rfl
  | cons y ys ih =>
   intro n s hs h1 h2 h3
   obtain ⟨n,rfl⟩ : ∃ m,n = m + 1 := ⟨n - 1,by simp at h3; omega⟩
   have hk : k < xs.length := by simp at h1; omega
   rw [List.drop_eq_getElem_cons hk] at h2
   injection h2 with h2 h4
   rw [tH,hS k hk s hs, ← h2]
   show _ = ((body k y s).bind _).map _
   cases hb : body k y s with
   | none => rfl
   | some r =>
    cases r with
    | inr z => rfl
    | inl s' => exact ih (k + 1) n s' (hI k hk s s' hs (by rw [← h2]; exact hb)) (by simp at h1; omega) h4 (by simp at h3; omega)
 exact key 0 xs rX s0 h0 (by simp) (by simp) (by unfold rX; omega)
theorem yV {α σ X : Type} {body : Nat → α → σ → Option (σ ⊕ X)} (f : σ → α → σ) (h : ∀ i x s,body i x s = some (.inl (f s x))) : ∀ (xs : List α) (k : Nat) (s : σ),aLp body xs k s = some (.inl (xs.foldl f s))
 | [],k,s => rfl
 | x :: xs,k,s => by
  show (body k x s).bind _ = _
  rw [h]
  exact yV f h xs (k + 1) (f s x)
theorem itA {a b : Bool} : (if a = true then some b else some false) = some (a && b) := by cases a <;> rfl
theorem itO {a b : Bool} : (if a = true then some true else some b) = some (a || b) := by cases a <;> rfl
theorem aT9 {p : Prop} [Decidable p] {b : Bool} : (if p then some true else some b) = some (decide p || b) := by by_cases h : p <;> simp [h]
end Go.Proofs.YtgcdbbidmfdonaaGreat
namespace Go.Proofs.YtgcdbbidmfdonaaGreat
set_option linter.unusedVariables false
def jU (t : Int) : Bool := btw t 6 240
theorem wX (t : Int) : jH t = some (jU t) := by unfold jH; rw [oM]; rfl
theorem rA (t : Int) : jA t = some (jU t) := by unfold jA; rw [iW]; rfl
def aMu (a : bV) : Bool := a.Wheels.all jU && (lX a.Name && decide (a.Wheels.length ≤ 5))
def whB (w : dE) (a k : Int) : Bool := decide (0 ≤ a ∧ a < w.Arbors.length) && match w.Arbors[a.toNat]? with
 | some b => decide (0 ≤ k ∧ k < b.Wheels.length)
 | none => false
def aMq (w : dE) (m : cV) : Bool := decide (m.A ≠ m.B) && (whB w m.A m.WheelA && whB w m.B m.WheelB)
def aP5 (m n : cV) : Bool := decide (m = n ∨ m = ⟨n.B,n.WheelB,n.A,n.WheelA⟩)
def aPy (w : dE) : Bool := decide (w.Arbors.length ≤ 16) && (decide (w.Meshes.length ≤ 24) && (aI5 w.Arbors (fun i a => aMu a && !((w.Arbors.take i).any fun b => decide (b.Name = a.Name))) && aI5 w.Meshes (fun i m => aMq w m && !((w.Meshes.take i).any fun n => aP5 m n))))
end Go.Proofs.YtgcdbbidmfdonaaGreat
namespace Go.Proofs.YtgcdbbidmfdonaaGreat
set_option linter.unusedVariables false
def Ok {α : Type} (m : Option α) (P : α → Prop) : Prop := ∃ x,m = some x ∧ P x
theorem aH {α : Type} {x : α} {P : α → Prop} (h : P x) : Ok (some x) P := ⟨x,rfl,h⟩
theorem bN {α β : Type} {m : Option α} {f : α → Option β} {P : α → Prop} {Q : β → Prop} (h : Ok m P) (k : ∀ x,P x → Ok (f x) Q) : Ok (m.bind f) Q := by
 obtain ⟨x,rfl,hx⟩ := h
 exact k x hx
theorem dF {α : Type} {p : Prop} [Decidable p] {a b : Option α} {P : α → Prop} (h : p → Ok a P) (k : ¬ p → Ok b P) : Ok (if p then a else b) P := by
 split
 ·exact h ‹_›
 ·exact k ‹_›
theorem iH {α : Type} {p : Prop} [Decidable p] {a : Option α} {P : α → Prop} (hp : p) (h : Ok a P) : Ok (chk p a) P := by rw [gW hp]; exact h
theorem aJd {α : Type} {xs : List α} {i : Int} (h0 : 0 ≤ i) (h1 : i < xs.length) : Ok (atI xs i) (fun e => e ∈ xs ∧ xs[i.toNat]? = some e) := by
 obtain ⟨e,h,hm,hg⟩ := lM h0 h1
 exact ⟨e,h,hm,hg⟩
theorem aBw {α : Type} {m : Option α} {P Q : α → Prop} (h : Ok m P) (k : ∀ x,P x → Q x) : Ok m Q := by
 obtain ⟨x,e,hx⟩ := h
 exact ⟨x,e,k x hx⟩
theorem dH {S X : Type} {step : S → Option (S ⊕ X)} {P : X → Prop} (I : S → Prop) (m : S → Nat) (hs : ∀ s,I s → Ok (step s) (fun y => (∃ s',y = .inl s' ∧ I s' ∧ m s' < m s) ∨ ∃ x,y = .inr x ∧ P x)) (s0 : S) (h0 : I s0) (hm : m s0 < 1180591620717411303424) : Ok (cE step s0) P :=
 rN I m P (fun s hI => by
  obtain ⟨y,e,⟨s',rfl,h1,h2⟩ | ⟨x,rfl,h1⟩⟩ := hs s hI
  ·exact .inl ⟨s',e,h1,h2⟩
  ·exact .inr ⟨x,e,h1⟩) s0 h0 hm
end Go.Proofs.YtgcdbbidmfdonaaGreat
namespace Go.Proofs.YtgcdbbidmfdonaaGreat
set_option linter.unusedVariables false
end Go.Proofs.YtgcdbbidmfdonaaGreat
