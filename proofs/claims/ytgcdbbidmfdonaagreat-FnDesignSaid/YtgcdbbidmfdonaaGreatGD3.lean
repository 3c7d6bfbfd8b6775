/- Texts of this claim, one behind the other (merged by a program of mine). -/
import Derived.KernelRfl
import Derived.MapKept
import Derived.Maps.OwnOps
import Derived.Maps.AppendAt
import Derived.Maps.Views
import Derived.Below
import Derived.Test.YtgcdbbidmfdonaaGreatGD2
set_option linter.unusedSimpArgs false
set_option linter.unusedVariables false
namespace Go.Proofs.YtgcdbbidmfdonaaGreat
open Go.RowKit
set_option linter.unusedVariables false
set_option maxRecDepth 100000
set_option maxHeartbeats 2000000
structure aO2 where
 Year : Int
 Month : Int
 Day : Int
deriving DecidableEq
structure cG where
 code : List Int
 at_ : Int
 seed : Int
deriving DecidableEq
structure cA where
 Name : ByteArray
 Days : Int
 Leap : Int
deriving DecidableEq
def aY (x : cA) : List DV := [.v (.string x.Name), .v (.int .i64 x.Days), .v (.int .i64 x.Leap)]
structure bD where
 Every : Int
 Rest : Int
 Leap : Bool
deriving DecidableEq
def aP (x : bD) : List DV := [.v (.int .i64 x.Every), .v (.int .i64 x.Rest), .v (.bool x.Leap)]
structure aI where
 Name : ByteArray
 Months : List cA
 Rules : List bD
 Week : Int
deriving DecidableEq
def dR (x : aI) : List DV := [.v (.string x.Name), .sl (List.map aY x.Months), .sl (List.map aP x.Rules), .v (.int .i64 x.Week)]
structure qQ where
 Year : Int
 Month : Int
 Shown : Int
 Right : Int
deriving DecidableEq
def aBa (x : qQ) : List DV := [.v (.int .i64 x.Year), .v (.int .i64 x.Month), .v (.int .i64 x.Shown), .v (.int .i64 x.Right)]
structure aA where
 Num : Int
 Den : Int
deriving DecidableEq
def iM (x : aA) : List DV := [.v (.int .i64 x.Num), .v (.int .i64 x.Den)]
structure iD where
 LowDriver : Int
 HighDriver : Int
 LowDriven : Int
 HighDriven : Int
 Stages : Int
deriving DecidableEq
def aAm (x : iD) : List DV := [.v (.int .i64 x.LowDriver), .v (.int .i64 x.HighDriver), .v (.int .i64 x.LowDriven), .v (.int .i64 x.HighDriven), .v (.int .i64 x.Stages)]
structure aO where
 value : Int
 teeth : List Int
deriving DecidableEq
def aQ (x : aO) : List DV := [.v (.int .i64 x.value), .sl (List.map cI x.teeth)]
structure bE where
 Driver : Int
 Driven : Int
deriving DecidableEq
def bW (x : bE) : List DV := [.v (.int .i64 x.Driver), .v (.int .i64 x.Driven)]
structure dK where
 driver : Int
 driven : Int
 off : Int
 train : List bE
deriving DecidableEq
structure sE where
 Train : List bE
 Error : aA
deriving DecidableEq
structure cY where
 A : Int
 WheelA : Int
 B : Int
 WheelB : Int
deriving DecidableEq
def cQ (x : cY) : List DV := [.v (.int .i64 x.A), .v (.int .i64 x.WheelA), .v (.int .i64 x.B), .v (.int .i64 x.WheelB)]
structure dH where
 Name : ByteArray
 Wheels : List Int
deriving DecidableEq
def bF (x : dH) : List DV := [.v (.string x.Name), .sl (List.map cI x.Wheels)]
structure bJ where
 Arbors : List dH
 Meshes : List cY
deriving DecidableEq
def nC (x : bJ) : List DV := [.sl (List.map bF x.Arbors), .sl (List.map cQ x.Meshes)]
structure aV where
 Name : ByteArray
 Works : bJ
 Minute : Int
 Hour : Int
 Escape : Int
 Teeth : Int
 Beats : Int
 Calendar : aI
 Cam : List Int
 Strike : Int
deriving DecidableEq
def aDf (x : aV) : List DV := [.v (.string x.Name), .sl (List.map bF x.Works.Arbors), .sl (List.map cQ x.Works.Meshes), .v (.int .i64 x.Minute), .v (.int .i64 x.Hour), .v (.int .i64 x.Escape), .v (.int .i64 x.Teeth), .v (.int .i64 x.Beats), .v (.string x.Calendar.Name), .sl (List.map aY x.Calendar.Months), .sl (List.map aP x.Calendar.Rules), .v (.int .i64 x.Calendar.Week), .sl (List.map cI x.Cam), .v (.int .i64 x.Strike)]
structure qK where
 Cam : List Int
 Months : Int
 Teeth : Int
 At : Int
 Day : Int
 Week : Int
 Weekday : Int
deriving DecidableEq
structure aV9 where
 Movement : aV
 Start : aO2
 First : Int
 Clock : Int
 Dial : qK
deriving DecidableEq
structure aDb where
 products : List Int
 lists : Int → List (List Int)
structure kA where
 p : Int
 q : Int
 far : Int
deriving DecidableEq
def pC (x : kA) : List DV := [.v (.int .i64 x.p), .v (.int .i64 x.q), .v (.int .i64 x.far)]
def vJ (p0 : List Int) (p1 : List Int) : Option Bool :=
 (if 3000 < (p0.length : Int) then
 some true
 else
 some (decide (3000 < (p1.length : Int))))
def tT (p0 : List Int) : Option cG :=
 some (⟨p0,0,0⟩ : cG)
def iR (p0 : cG) : Option (Int × cG) :=
 (((if p0.at_ < (p0.code.length : Int) then
 ((atI p0.code p0.at_).bind fun v1 =>
 some (w64 v1))
 else
 some 0) : Option Int).bind fun v2 =>
 (if (w64 (p0.at_ + 1)) ≤ (p0.code.length : Int) then
 some (v2,(⟨p0.code,w64 (p0.at_ + 1),IntKind.u64.wrap ((IntKind.u64.wrap ((IntKind.u64.wrap (p0.seed * 6364136223846793005)) + (IntKind.u64.wrap v2))) + 1442695040888963407)⟩ : cG))
 else
 some (w64 (aSy .u64 (aOf .u64 (IntKind.u64.wrap ((IntKind.u64.wrap ((IntKind.u64.wrap (p0.seed * 6364136223846793005)) + (IntKind.u64.wrap v2))) + 1442695040888963407)) 40) 255),(⟨p0.code,w64 (p0.at_ + 1),IntKind.u64.wrap ((IntKind.u64.wrap ((IntKind.u64.wrap (p0.seed * 6364136223846793005)) + (IntKind.u64.wrap v2))) + 1442695040888963407)⟩ : cG))))
def dC (p0 : cG) (p1 : Int) : Option (Int × cG) :=
 (if p1 ≤ 1 then
 some (0,p0)
 else
 ((iR p0).bind fun v1 =>
 (((if 200 < p1 then
 ((iR v1.2).bind fun v2 =>
 some (w64 ((w64 (v1.1 * 256)) + v2.1),v2.2))
 else
 some (v1.1,v1.2)) : Option (Int × cG)).bind fun v3 =>
 (chk (p1 ≠ 0) (
 some (v3.1.tmod p1,v3.2))))))
def iG (p0 : cG) (p1 : Int) : Option (Bool × cG) :=
 ((dC p0 p1).bind fun v1 =>
 some (decide (v1.1 = 0),v1.2))
def kQ  : Option (List ByteArray) :=
 some [(⟨#[101,103,121,112,116,105,97,110]⟩ : ByteArray),(⟨#[102,105,120,101,100]⟩ : ByteArray),(⟨#[103,114,101,103,111,114,105,97,110]⟩ : ByteArray),(⟨#[106,117,108,105,97,110]⟩ : ByteArray)]
def nJ (p0 : cG) (p1 : List ByteArray) : Option (ByteArray × cG) :=
 ((dC p0 (p1.length : Int)).bind fun v1 =>
 ((atI p1 v1.1).bind fun v2 =>
 some (v2,v1.2)))
def oG (p0 : Int) : Option ByteArray :=
 ((cK (S := Int × List Int) (X := List Int) (fun s6 =>
 (if s6.1 ≠ 0 then
 (((if (s6.1.tmod 10) < 0 then
 some (w64 (-(s6.1.tmod 10)))
 else
 some (s6.1.tmod 10)) : Option Int).bind fun v8 =>
 (chk (([IntKind.u8.wrap (w64 (48 + v8))].length + s6.2.length) * 1 * 64 ≤ 140737488355328) (
 some (.inl (w64 (s6.1.tdiv 10),[IntKind.u8.wrap (w64 (48 + v8))] ++ s6.2)))))
 else
 some (.inr s6.2))) (p0,([] : List Int)) : Option (List Int)).bind fun v11 =>
 (if (v11.length : Int) = 0 then
 some (⟨#[48]⟩ : ByteArray)
 else
 (if p0 < 0 then
 (chk ((⟨#[45]⟩ : ByteArray).size + (strOfNums v11).size ≤ 9223372036854775807) (
 some ((⟨#[45]⟩ : ByteArray) ++ (strOfNums v11))))
 else
 some (strOfNums v11))))
def rY (p0 : Int) (p1 : Int) : Option (List cA) :=
 ((cK (S := Int × List cA) (X := List cA) (fun s5 =>
 (if s5.1 ≤ p0 then
 ((oG s5.1).bind fun v6 =>
 (chk ((⟨#[109]⟩ : ByteArray).size + v6.size ≤ 9223372036854775807) (
 (chk ((s5.2.length + [(⟨(⟨#[109]⟩ : ByteArray) ++ v6,p1,p1⟩ : cA)].length) * 3 * 64 ≤ 140737488355328) (
 some (.inl (w64 (s5.1 + 1),s5.2 ++ [(⟨(⟨#[109]⟩ : ByteArray) ++ v6,p1,p1⟩ : cA)])))))))
 else
 some (.inr s5.2))) (1,([] : List cA)) : Option (List cA)).bind fun v9 =>
 some v9)
def lU  : Option (List bD) :=
 some [(⟨4,0,true⟩ : bD),(⟨100,0,false⟩ : bD),(⟨400,0,true⟩ : bD)]
def rZ  : Option (List cA) :=
 ((cK (S := Int × List cA) (X := List cA) (fun s6 =>
 (if s6.1 < 12 then
 ((atI [(⟨#[106,97,110]⟩ : ByteArray),(⟨#[102,101,98]⟩ : ByteArray),(⟨#[109,97,114]⟩ : ByteArray),(⟨#[97,112,114]⟩ : ByteArray),(⟨#[109,97,121]⟩ : ByteArray),(⟨#[106,117,110]⟩ : ByteArray),(⟨#[106,117,108]⟩ : ByteArray),(⟨#[97,117,103]⟩ : ByteArray),(⟨#[115,101,112]⟩ : ByteArray),(⟨#[111,99,116]⟩ : ByteArray),(⟨#[110,111,118]⟩ : ByteArray),(⟨#[100,101,99]⟩ : ByteArray)] s6.1).bind fun v7 =>
 ((atI [31,28,31,30,31,30,31,31,30,31,30,31] s6.1).bind fun v8 =>
 ((atI [31,28,31,30,31,30,31,31,30,31,30,31] s6.1).bind fun v9 =>
 (chk ((s6.2.length + [(⟨v7,v8,v9⟩ : cA)].length) * 3 * 64 ≤ 140737488355328) (
 some (.inl (w64 (s6.1 + 1),s6.2 ++ [(⟨v7,v8,v9⟩ : cA)])))))))
 else
 some (.inr s6.2))) (0,([] : List cA)) : Option (List cA)).bind fun v11 =>
 ((atI v11 1).bind fun v12 =>
 some (List.set v11 (1 : Int).toNat (⟨v12.Name,v12.Days,29⟩ : cA))))
def kP (p0 : ByteArray) : Option (aI × Int) :=
 (if p0 = (⟨#[101,103,121,112,116,105,97,110]⟩ : ByteArray) then
 ((rY 12 30).bind fun v1 =>
 (chk ((v1.length + [(⟨(⟨#[109,49,51]⟩ : ByteArray),5,5⟩ : cA)].length) * 3 * 64 ≤ 140737488355328) (
 some ((⟨p0,v1 ++ [(⟨(⟨#[109,49,51]⟩ : ByteArray),5,5⟩ : cA)],([] : List bD),10⟩ : aI),0))))
 else
 (if p0 = (⟨#[102,105,120,101,100]⟩ : ByteArray) then
 ((rY 12 28).bind fun v3 =>
 (chk ((v3.length + [(⟨(⟨#[109,49,51]⟩ : ByteArray),29,30⟩ : cA)].length) * 3 * 64 ≤ 140737488355328) (
 ((lU).bind fun v5 =>
 some ((⟨p0,v3 ++ [(⟨(⟨#[109,49,51]⟩ : ByteArray),29,30⟩ : cA)],v5,7⟩ : aI),0)))))
 else
 (if p0 = (⟨#[103,114,101,103,111,114,105,97,110]⟩ : ByteArray) then
 ((rZ).bind fun v6 =>
 ((lU).bind fun v7 =>
 some ((⟨p0,v6,v7,7⟩ : aI),0)))
 else
 (if p0 = (⟨#[106,117,108,105,97,110]⟩ : ByteArray) then
 ((rZ).bind fun v8 =>
 some ((⟨p0,v8,[(⟨4,0,true⟩ : bD)],7⟩ : aI),0))
 else
 some ((⟨(⟨#[]⟩ : ByteArray),([] : List cA),([] : List bD),0⟩ : aI),3)))))
def gY (p0 : cG) (p1 : List Int) : Option (Int × cG) :=
 ((dC p0 (p1.length : Int)).bind fun v1 =>
 ((atI p1 v1.1).bind fun v2 =>
 some (v2,v1.2)))
def dU (p0 : Int) (p1 : Int) (p2 : Int) : Option Bool :=
 (if p1 ≤ p0 then
 some (decide (p0 ≤ p2))
 else
 some false)
def oJ (p0 : Int) (p1 : Int) : Option Int :=
 ((cK (S := Int × Int) (X := Int) (fun s3 =>
 (if 0 < s3.2 then
 (chk (s3.2 ≠ 0) (
 some (.inl (s3.2,s3.1.tmod s3.2))))
 else
 some (.inr s3.1))) (p0,p1) : Option Int).bind fun v5 =>
 some v5)
def mY (p0 : List bD) : Option (Int × Bool) :=
 ((cK (S := Int × Int) (X := Int ⊕ (Int × Bool)) (fun s12 =>
 (if s12.2 < (p0.length : Int) then
 ((((atI p0 s12.2).bind fun v13 =>
 ((dU v13.Every 1 1000).bind fun v14 =>
 (if (!v14) = true then
 some true
 else
 ((atI p0 s12.2).bind fun v15 =>
 ((atI p0 s12.2).bind fun v16 =>
 ((dU v15.Rest 0 (w64 (v16.Every - 1))).bind fun v17 =>
 some (!v17))))))) : Option Bool).bind fun v18 =>
 (if v18 = true then
 some (.inr (.inr (0,false)))
 else
 ((atI p0 s12.2).bind fun v19 =>
 ((atI p0 s12.2).bind fun v20 =>
 ((oJ s12.1 v19.Every).bind fun v21 =>
 (chk (v21 ≠ 0) (
 (if 2000 < (w64 ((w64 (s12.1.tdiv v21)) * v20.Every)) then
 some (.inr (.inr (0,false)))
 else
 some (.inl (w64 ((w64 (s12.1.tdiv v21)) * v20.Every),w64 (s12.2 + 1)))))))))))
 else
 some (.inr (.inl s12.1)))) (1,0) : Option (Int ⊕ (Int × Bool))).bind fun v23x => orE v23x fun v23 =>
 some (v23,decide ((p0.length : Int) ≤ 6)))
def mU (p0 : Int) : Option Bool :=
 (if 97 ≤ p0 then
 some (decide (p0 ≤ 122))
 else
 some false)
def pM (p0 : Int) : Option Bool :=
 (if 48 ≤ p0 then
 some (decide (p0 ≤ 57))
 else
 some false)
def kR (p0 : ByteArray) : Option Bool :=
 (((if p0 = (⟨#[]⟩ : ByteArray) then
 some true
 else
 (if 12 < (p0.size : Int) then
 some true
 else
 ((aFs p0 0).bind fun v1 =>
 ((mU v1).bind fun v2 =>
 some (!v2))))) : Option Bool).bind fun v3 =>
 (if v3 = true then
 some false
 else
 ((cK (S := Int) (X := Unit ⊕ Bool) (fun s11 =>
 (if s11 < (p0.size : Int) then
 ((((aFs p0 s11).bind fun v12 =>
 ((mU v12).bind fun v13 =>
 (if (!v13) = true then
 ((aFs p0 s11).bind fun v14 =>
 ((pM v14).bind fun v15 =>
 (if (!v15) = true then
 ((aFs p0 s11).bind fun v16 =>
 some (decide (v16 ≠ 45)))
 else
 some false)))
 else
 some false))) : Option Bool).bind fun v17 =>
 (if v17 = true then
 some (.inr (.inr false))
 else
 some (.inl (w64 (s11 + 1)))))
 else
 some (.inr (.inl ())))) 0 : Option (Unit ⊕ Bool)).bind fun v18x => orE v18x fun v18 =>
 some true)))
def nR (p0 : List cA) : Option Bool :=
 ((cK (S := Int) (X := Unit ⊕ Bool) (fun s16 =>
 (if s16 < (p0.length : Int) then
 ((((((atI p0 s16).bind fun v17 =>
 ((kR v17.Name).bind fun v18 =>
 (if (!v18) = true then
 some true
 else
 ((atI p0 s16).bind fun v19 =>
 ((dU v19.Days 1 60).bind fun v20 =>
 (if (!v20) = true then
 some true
 else
 ((atI p0 s16).bind fun v21 =>
 ((dU v21.Leap 1 60).bind fun v22 =>
 some (!v22))))))))) : Option Bool).bind fun v23 =>
 (if v23 = true then
 some (.inr (.inr (.inr false)))
 else
 cK (S := Int) (X := Unit ⊕ (Int ⊕ (Unit ⊕ Bool))) (fun s27 =>
 (if s27 < s16 then
 ((atI p0 s27).bind fun v28 =>
 ((atI p0 s16).bind fun v29 =>
 (if v28.Name = v29.Name then
 some (.inr (.inr (.inr (.inr false))))
 else
 some (.inl (w64 (s27 + 1))))))
 else
 some (.inr (.inl ())))) 0)) : Option (Unit ⊕ (Int ⊕ (Unit ⊕ Bool)))).bind fun v30x => orE v30x fun v30 =>
 some (.inl (w64 (s16 + 1))))
 else
 some (.inr (.inl ())))) 0 : Option (Unit ⊕ Bool)).bind fun v31x => orE v31x fun v31 =>
 ((dU (p0.length : Int) 1 20).bind fun v32 =>
 some v32))
def pW (p0 : aI) : Option Bool :=
 ((mY p0.Rules).bind fun v1 =>
 (if v1.2 = true then
 ((kR p0.Name).bind fun v2 =>
 (if v2 = true then
 ((nR p0.Months).bind fun v3 =>
 (if v3 = true then
 ((dU p0.Week 1 12).bind fun v4 =>
 some v4)
 else
 some false))
 else
 some false))
 else
 some false))
def nQ (p0 : cG) : Option (aI × cG) :=
 ((iG p0 2).bind fun v1 =>
 (if v1.1 = true then
 ((kQ).bind fun v2 =>
 ((nJ v1.2 v2).bind fun v3 =>
 ((kP v3.1).bind fun v4 =>
 some (v4.1,v3.2))))
 else
 ((dC v1.2 12).bind fun v5 =>
 ((dC v5.2 6).bind fun v6 =>
 ((cK (S := Int × cG × List cA) (X := cG × List cA) (fun s15 =>
 (if s15.1 ≤ (w64 (1 + v6.1)) then
 ((oG s15.1).bind fun v16 =>
 (chk ((⟨#[109]⟩ : ByteArray).size + v16.size ≤ 9223372036854775807) (
 ((dC s15.2.1 40).bind fun v18 =>
 ((((iG v18.2 3).bind fun v19 =>
 (if v19.1 = true then
 ((dC v19.2 40).bind fun v20 =>
 some (v20.2,(⟨(⟨#[109]⟩ : ByteArray) ++ v16,w64 (1 + v18.1),w64 (1 + v20.1)⟩ : cA)))
 else
 some (v19.2,(⟨(⟨#[109]⟩ : ByteArray) ++ v16,w64 (1 + v18.1),w64 (1 + v18.1)⟩ : cA)))) : Option (cG × cA)).bind fun v21 =>
 (chk ((s15.2.2.length + [v21.2].length) * 3 * 64 ≤ 140737488355328) (
 some (.inl (w64 (s15.1 + 1),v21.1,s15.2.2 ++ [v21.2])))))))))
 else
 some (.inr (s15.2.1,s15.2.2)))) (1,v6.2,([] : List cA)) : Option (cG × List cA)).bind fun v23 =>
 ((((dC v23.1 4).bind fun v24 =>
 cK (S := Int × cG × List bD) (X := cG × List bD) (fun s30 =>
 (if 0 < s30.1 then
 ((gY s30.2.1 [1,2,3,4,5,8,33,100]).bind fun v31 =>
 ((dC v31.2 v31.1).bind fun v32 =>
 ((iG v32.2 3).bind fun v33 =>
 (chk ((s30.2.2.length + [(⟨v31.1,v32.1, !v33.1⟩ : bD)].length) * 3 * 64 ≤ 140737488355328) (
 some (.inl (w64 (s30.1 - 1),v33.2,s30.2.2 ++ [(⟨v31.1,v32.1, !v33.1⟩ : bD)])))))))
 else
 some (.inr (s30.2.1,s30.2.2)))) (v24.1,v24.2,([] : List bD))) : Option (cG × List bD)).bind fun v35 =>
 ((((pW (⟨(⟨#[111,119,110]⟩ : ByteArray),v23.2,v35.2,w64 (1 + v5.1)⟩ : aI)).bind fun v36 =>
 (if (!v36) = true then
 some ([] : List bD)
 else
 some v35.2)) : Option (List bD)).bind fun v37 =>
 some ((⟨(⟨#[111,119,110]⟩ : ByteArray),v23.2,v37,w64 (1 + v5.1)⟩ : aI),v35.1))))))))
def hZ (p0 : Int) : Option Bool :=
 ((dU p0 6 240).bind fun v1 =>
 some v1)
def pY (p0 : aI) (p1 : Int) : Option Bool :=
 ((dU p1 1 260).bind fun v1 =>
 (if v1 = true then
 some (decide ((w64 (p1 * (p0.Months.length : Int))) ≤ 260))
 else
 some false))
def jJ (p0 : aI) (p1 : Int) : Option Int :=
 ((mY p0.Rules).bind fun v1 =>
 ((oJ v1.1 p1).bind fun v2 =>
 (chk (v2 ≠ 0) (
 some (w64 ((w64 (v1.1.tdiv v2)) * p1))))))
def oP (p0 : aI) (p1 : Int) : Option Bool :=
 ((cK (S := Bool × Int) (X := Bool) (fun s7 =>
 (if s7.2 < (p0.Rules.length : Int) then
 ((((atI p0.Rules s7.2).bind fun v8 =>
 (chk (v8.Every ≠ 0) (
 ((atI p0.Rules s7.2).bind fun v10 =>
 (if (p1.tmod v8.Every) = v10.Rest then
 ((atI p0.Rules s7.2).bind fun v11 =>
 some v11.Leap)
 else
 some s7.1))))) : Option Bool).bind fun v12 =>
 some (.inl (v12,w64 (s7.2 + 1))))
 else
 some (.inr s7.1))) (false,0) : Option Bool).bind fun v13 =>
 some v13)
def sR (p0 : Int) (p1 : Int) : Option Int :=
 (if p0 < p1 then
 some p0
 else
 some p1)
def gD (p0 : aI) (p1 : Int) (p2 : Int) (p3 : Int) (p4 : Int) : Option Int :=
 ((cK (S := Int × Int × Int) (X := Int × Int) (fun s4 =>
 (if s4.2.2 < p3 then
 ((((oP p0 s4.2.2).bind fun v5 =>
 (if v5 = true then
 some (w64 (s4.1 + 1))
 else
 some s4.1)) : Option Int).bind fun v6 =>
 some (.inl (v6,w64 (s4.2.1 + 1),w64 (s4.2.2 + p2))))
 else
 some (.inr (s4.1,s4.2.1)))) (0,0,p1) : Option (Int × Int)).bind fun v7 =>
 ((atI p0.Months p4).bind fun v8 =>
 (if v7.2 < (w64 (2 * v7.1)) then
 some v8.Leap
 else
 (if (w64 (2 * v7.1)) < v7.2 then
 some v8.Days
 else
 ((sR v8.Leap v8.Days).bind fun v9 =>
 some v9)))))
def oO (p0 : aI) (p1 : Int) (p2 : Int) : Option Int :=
 ((oP p0 p1).bind fun v1 =>
 (if v1 = true then
 ((atI p0.Months p2).bind fun v2 =>
 some v2.Leap)
 else
 ((atI p0.Months p2).bind fun v3 =>
 some v3.Days)))
def pX (p0 : aI) (p1 : List Int) (p2 : Int) (p3 : Int) : Option (qQ × Bool) :=
 (chk ((p0.Months.length : Int) ≠ 0) (
 ((oO p0 p2 p3).bind fun v2 =>
 (chk ((w64 ((p1.length : Int).tdiv (p0.Months.length : Int))) ≠ 0) (
 ((atI p1 (w64 ((w64 ((p2.tmod (w64 ((p1.length : Int).tdiv (p0.Months.length : Int)))) * (p0.Months.length : Int))) + p3))).bind fun v4 =>
 some ((⟨p2,w64 (p3 + 1),v4,v2⟩ : qQ),decide (v4 ≠ v2))))))))
def mZ (p0 : aI) (p1 : List Int) (p2 : Int) : Option Int :=
 ((cK (S := Int × Int) (X := Int) (fun s9 =>
 (if s9.2 < p2 then
 ((cK (S := Int × Int) (X := Int) (fun s13 =>
 (if s13.2 < (p0.Months.length : Int) then
 ((((pX p0 p1 s9.2 s13.2).bind fun v14 =>
 (if v14.2 = true then
 some (w64 (s13.1 + 1))
 else
 some s13.1)) : Option Int).bind fun v15 =>
 some (.inl (v15,w64 (s13.2 + 1))))
 else
 some (.inr s13.1))) (s9.1,0) : Option Int).bind fun v16 =>
 some (.inl (v16,w64 (s9.2 + 1))))
 else
 some (.inr s9.1))) (0,0) : Option Int).bind fun v17 =>
 some v17)
def mF (p0 : aI) (p1 : Int) : Option (List Int × Int × Int) :=
 ((pW p0).bind fun v1 =>
 (if (!v1) = true then
 some (([] : List Int),0,1)
 else
 ((pY p0 p1).bind fun v2 =>
 (if (!v2) = true then
 some (([] : List Int),0,2)
 else
 ((jJ p0 p1).bind fun v3 =>
 ((cK (S := Int × List Int) (X := List Int) (fun s12 =>
 (if s12.1 < p1 then
 ((cK (S := Int × List Int) (X := List Int) (fun s16 =>
 (if s16.1 < (p0.Months.length : Int) then
 ((gD p0 s12.1 p1 v3 s16.1).bind fun v17 =>
 (chk ((s16.2.length + [v17].length) * 1 * 64 ≤ 140737488355328) (
 some (.inl (w64 (s16.1 + 1),s16.2 ++ [v17])))))
 else
 some (.inr s16.2))) (0,s12.2) : Option (List Int)).bind fun v19 =>
 some (.inl (w64 (s12.1 + 1),v19)))
 else
 some (.inr s12.2))) (0,([] : List Int)) : Option (List Int)).bind fun v20 =>
 ((mZ p0 v20 v3).bind fun v21 =>
 some (v20,v21,0))))))))
def oL (p0 : Int) : Option Int :=
 (if p0 < 0 then
 some (IntKind.u64.wrap (-(IntKind.u64.wrap p0)))
 else
 some (IntKind.u64.wrap p0))
def eV (p0 : Int) (p1 : Int) : Option (aA × Bool) :=
 ((oL p0).bind fun v1 =>
 ((oL p1).bind fun v2 =>
 ((cK (S := Int × Int) (X := Int) (fun s5 =>
 (if 0 < s5.2 then
 (chk (s5.2 ≠ 0) (
 some (.inl (s5.2,s5.1.tmod s5.2))))
 else
 some (.inr s5.1))) (v1,v2) : Option Int).bind fun v7 =>
 (chk (v7 ≠ 0) (
 (chk (v7 ≠ 0) (
 (((if 1000000000 < (IntKind.u64.wrap (v1.tdiv v7)) then
 some true
 else
 some (decide (1000000000 < (IntKind.u64.wrap (v2.tdiv v7))))) : Option Bool).bind fun v10 =>
 (if v10 = true then
 some ((⟨0,0⟩ : aA),false)
 else
 (((if ((decide (p0 < 0)) != (decide (p1 < 0))) = true then
 some (⟨w64 (-(w64 (IntKind.u64.wrap (v1.tdiv v7)))),w64 (IntKind.u64.wrap (v2.tdiv v7))⟩ : aA)
 else
 some (⟨w64 (IntKind.u64.wrap (v1.tdiv v7)),w64 (IntKind.u64.wrap (v2.tdiv v7))⟩ : aA)) : Option aA).bind fun v11 =>
 some (v11,true)))))))))))
def nT  : Option iD :=
 some (⟨60,84,7,10,2⟩ : iD)
def jH (p0 : Int) : Option Int :=
 (if p0 < 0 then
 some (w64 (-p0))
 else
 some p0)
def lM (p0 : aA) : Option Bool :=
 ((dU p0.Den 1 1000000000).bind fun v1 =>
 (if v1 = true then
 ((dU p0.Num (-1000000000) 1000000000).bind fun v2 =>
 (if v2 = true then
 ((jH p0.Num).bind fun v3 =>
 ((oJ v3 p0.Den).bind fun v4 =>
 some (decide (v4 = 1))))
 else
 some false))
 else
 some false))
def rX (p0 : Int) (p1 : Int) : Option Bool :=
 (if 6 ≤ p0 then
 (if p1 ≤ 120 then
 ((dU p1 p0 (w64 (p0 + 30))).bind fun v1 =>
 some v1)
 else
 some false)
 else
 some false)
def uX (p0 : iD) : Option Bool :=
 ((rX p0.LowDriver p0.HighDriver).bind fun v1 =>
 (if v1 = true then
 ((rX p0.LowDriven p0.HighDriven).bind fun v2 =>
 (if v2 = true then
 ((dU p0.Stages 1 3).bind fun v3 =>
 some v3)
 else
 some false))
 else
 some false))
def sT (p0 : aA) : Option Bool :=
 ((dU p0.Num 1 1000000).bind fun v1 =>
 (if v1 = true then
 some (decide (p0.Den ≤ 1000000))
 else
 some false))
def qN (p0 : List Int) : Option (List Int) :=
 (chk ((([] : List Int).length + p0.length) * 1 * 64 ≤ 140737488355328) (
 some (([] : List Int) ++ p0)))
def fN (p0 : Int) (p1 : Int) (p2 : Int) : Option (List aO) :=
 ((cK (S := List aO × Int) (X := List aO) (fun s38 =>
 (if s38.2 < p2 then
 ((((cK (S := Int × List aO) (X := List aO) (fun s56 =>
 (if s56.1 < (s38.1.length : Int) then
 (((((if 0 < s38.2 then
 ((atI s38.1 s56.1).bind fun v57 =>
 ((atI v57.teeth (w64 (s38.2 - 1))).bind fun v58 =>
 some v58))
 else
 some p0) : Option Int).bind fun v59 =>
 cK (S := Int × List aO) (X := List aO) (fun s66 =>
 (if s66.1 ≤ p1 then
 ((atI s38.1 s56.1).bind fun v67 =>
 ((atI s38.1 s56.1).bind fun v68 =>
 ((qN v68.teeth).bind fun v69 =>
 (chk ((v69.length + [s66.1].length) * 1 * 64 ≤ 140737488355328) (
 (chk ((s66.2.length + [(⟨w64 (v67.value * s66.1),v69 ++ [s66.1]⟩ : aO)].length) * 2 * 64 ≤ 140737488355328) (
 some (.inl (w64 (s66.1 + 1),s66.2 ++ [(⟨w64 (v67.value * s66.1),v69 ++ [s66.1]⟩ : aO)])))))))))
 else
 some (.inr s66.2))) (v59,s56.2)) : Option (List aO)).bind fun v72 =>
 some (.inl (w64 (s56.1 + 1),v72)))
 else
 some (.inr s56.2))) (0,([] : List aO)) : Option (List aO)).bind fun v73 =>
 some v73) : Option (List aO)).bind fun v74 =>
 some (.inl (v74,w64 (s38.2 + 1))))
 else
 some (.inr s38.1))) ([(⟨1,[]⟩ : aO)],0) : Option (List aO)).bind fun v75 =>
 some v75)
def pR (p0 : List aO) (p1 : List aO) : Option (List aO) :=
 ((cK (S := Int × Int × List aO) (X := Int × List aO) (fun s18 =>
 (if s18.2.1 < (p1.length : Int) then
 ((((cK (S := Int × List aO) (X := Int × List aO) (fun s25 =>
 (((if s25.1 < (p0.length : Int) then
 ((atI p0 s25.1).bind fun v26 =>
 ((atI p1 s18.2.1).bind fun v27 =>
 some (decide (v26.value ≤ v27.value))))
 else
 some false) : Option Bool).bind fun v28 =>
 (if v28 = true then
 ((atI p0 s25.1).bind fun v29 =>
 (chk ((s25.2.length + [v29].length) * 2 * 64 ≤ 140737488355328) (
 some (.inl (w64 (s25.1 + 1),s25.2 ++ [v29])))))
 else
 some (.inr (s25.1,s25.2))))) (s18.1,s18.2.2) : Option (Int × List aO)).bind fun v31 =>
 ((atI p1 s18.2.1).bind fun v32 =>
 (chk ((v31.2.length + [v32].length) * 2 * 64 ≤ 140737488355328) (
 some (v31.1,v31.2 ++ [v32]))))) : Option (Int × List aO)).bind fun v34 =>
 some (.inl (v34.1,w64 (s18.2.1 + 1),v34.2)))
 else
 some (.inr (s18.1,s18.2.2)))) (0,0,([] : List aO)) : Option (Int × List aO)).bind fun v35 =>
 (chk (0 ≤ v35.1 ∧ v35.1 ≤ (p0.length : Int) ∧ (p0.length : Int) ≤ (p0.length : Int)) (
 (chk ((v35.2.length + (wU p0 v35.1 (p0.length : Int)).length) * 2 * 64 ≤ 140737488355328) (
 some (v35.2 ++ (wU p0 v35.1 (p0.length : Int))))))))
def jI : Nat → (List aO) → Option (List aO)
 | 0,_ => none
 | n' + 1,p0 =>
 (if (p0.length : Int) < 2 then
 some p0
 else
 (chk (0 ≤ (0 : Int) ∧ (0 : Int) ≤ (w64 ((p0.length : Int).tdiv 2)) ∧ (w64 ((p0.length : Int).tdiv 2)) ≤ (p0.length : Int)) (
 (chk (0 ≤ (w64 ((p0.length : Int).tdiv 2)) ∧ (w64 ((p0.length : Int).tdiv 2)) ≤ (p0.length : Int) ∧ (p0.length : Int) ≤ (p0.length : Int)) (
 ((jI n' (wU p0 (0 : Int) (w64 ((p0.length : Int).tdiv 2)))).bind fun v4 =>
 ((jI n' (wU p0 (w64 ((p0.length : Int).tdiv 2)) (p0.length : Int))).bind fun v5 =>
 ((pR v4 v5).bind fun v6 =>
 some v6))))))))
def pO (p0 : List aO) (p1 : Int) : Option Int :=
 ((cK (S := Int × Int) (X := Int) (fun s4 =>
 (if s4.1 < s4.2 then
 ((atI p0 (w64 ((w64 (s4.1 + s4.2)).tdiv 2))).bind fun v6 =>
 (if v6.value < p1 then
 some (.inl (w64 ((w64 ((w64 (s4.1 + s4.2)).tdiv 2)) + 1),s4.2))
 else
 some (.inl (s4.1,w64 ((w64 (s4.1 + s4.2)).tdiv 2)))))
 else
 some (.inr s4.1))) (0,(p0.length : Int)) : Option Int).bind fun v7 =>
 some v7)
def oM (p0 : List Int) : Option (List Int) :=
 ((cK (S := Int × List Int) (X := List Int) (fun s18 =>
 (if s18.1 < (p0.length : Int) then
 ((((cK (S := Int) (X := Int) (fun s23 =>
 (((if 0 < s23 then
 ((atI s18.2 (w64 (s23 - 1))).bind fun v24 =>
 ((atI p0 s18.1).bind fun v25 =>
 some (decide (v25 < v24))))
 else
 some false) : Option Bool).bind fun v26 =>
 (if v26 = true then
 some (.inl (w64 (s23 - 1)))
 else
 some (.inr s23)))) (s18.2.length : Int) : Option Int).bind fun v27 =>
 (chk (0 ≤ (0 : Int) ∧ (0 : Int) ≤ v27 ∧ v27 ≤ (s18.2.length : Int)) (
 ((atI p0 s18.1).bind fun v29 =>
 ((qN (wU s18.2 (0 : Int) v27)).bind fun v30 =>
 (chk ((v30.length + [v29].length) * 1 * 64 ≤ 140737488355328) (
 (chk (0 ≤ v27 ∧ v27 ≤ (s18.2.length : Int) ∧ (s18.2.length : Int) ≤ (s18.2.length : Int)) (
 (chk (((v30 ++ [v29]).length + (wU s18.2 v27 (s18.2.length : Int)).length) * 1 * 64 ≤ 140737488355328) (
 some ((v30 ++ [v29]) ++ (wU s18.2 v27 (s18.2.length : Int)))))))))))))) : Option (List Int)).bind fun v34 =>
 some (.inl (w64 (s18.1 + 1),v34)))
 else
 some (.inr s18.2))) (0,([] : List Int)) : Option (List Int)).bind fun v35 =>
 some v35)
def iZ (p0 : List Int) (p1 : List Int) : Option (List bE) :=
 ((oM p0).bind fun v1 =>
 ((oM p1).bind fun v2 =>
 ((cK (S := Int × List bE) (X := List bE) (fun s7 =>
 (if s7.1 < (v2.length : Int) then
 ((atI v1 (w64 ((w64 ((v1.length : Int) - 1)) - s7.1))).bind fun v8 =>
 ((atI v2 s7.1).bind fun v9 =>
 (chk ((s7.2.length + [(⟨v8,v9⟩ : bE)].length) * 2 * 64 ≤ 140737488355328) (
 some (.inl (w64 (s7.1 + 1),s7.2 ++ [(⟨v8,v9⟩ : bE)]))))))
 else
 some (.inr s7.2))) (0,([] : List bE)) : Option (List bE)).bind fun v11 =>
 some v11)))
def kS (p0 : List bE) : Option Int :=
 ((cK (S := Int × Int) (X := Int) (fun s4 =>
 (if s4.2 < (p0.length : Int) then
 ((atI p0 s4.2).bind fun v5 =>
 ((atI p0 s4.2).bind fun v6 =>
 some (.inl (w64 (s4.1 + (w64 (v5.Driver + v6.Driven))),w64 (s4.2 + 1)))))
 else
 some (.inr s4.1))) (0,0) : Option Int).bind fun v7 =>
 some v7)
def iY (p0 : Int) : Option aA :=
 some (⟨p0,1⟩ : aA)
def oX (p0 : aA) (p1 : aA) : Option Int :=
 (if (w64 (p0.Num * p1.Den)) < (w64 (p1.Num * p0.Den)) then
 some (-1)
 else
 (if (w64 (p1.Num * p0.Den)) < (w64 (p0.Num * p1.Den)) then
 some 1
 else
 some 0))
def iH (p0 : List bE) (p1 : List bE) : Option Int :=
 ((kS p0).bind fun v1 =>
 ((kS p1).bind fun v2 =>
 ((cK (S := Int × List Int) (X := List Int) (fun s7 =>
 (if s7.1 < (p0.length : Int) then
 ((atI p0 s7.1).bind fun v8 =>
 ((atI p0 s7.1).bind fun v9 =>
 (chk ((s7.2.length + [v8.Driver,v9.Driven].length) * 1 * 64 ≤ 140737488355328) (
 some (.inl (w64 (s7.1 + 1),s7.2 ++ [v8.Driver,v9.Driven]))))))
 else
 some (.inr s7.2))) (0,[v1]) : Option (List Int)).bind fun v11 =>
 ((cK (S := Int × List Int) (X := List Int) (fun s16 =>
 (if s16.1 < (p1.length : Int) then
 ((atI p1 s16.1).bind fun v17 =>
 ((atI p1 s16.1).bind fun v18 =>
 (chk ((s16.2.length + [v17.Driver,v18.Driven].length) * 1 * 64 ≤ 140737488355328) (
 some (.inl (w64 (s16.1 + 1),s16.2 ++ [v17.Driver,v18.Driven]))))))
 else
 some (.inr s16.2))) (0,[v2]) : Option (List Int)).bind fun v20 =>
 ((cK (S := Int) (X := Unit ⊕ Int) (fun s27 =>
 (((if s27 < (v11.length : Int) then
 some (decide (s27 < (v20.length : Int)))
 else
 some false) : Option Bool).bind fun v28 =>
 (if v28 = true then
 ((atI v11 s27).bind fun v29 =>
 ((atI v20 s27).bind fun v30 =>
 (if v29 < v30 then
 some (.inr (.inr (-1)))
 else
 ((atI v11 s27).bind fun v31 =>
 ((atI v20 s27).bind fun v32 =>
 (if v32 < v31 then
 some (.inr (.inr 1))
 else
 some (.inl (w64 (s27 + 1)))))))))
 else
 some (.inr (.inl ()))))) 0 : Option (Unit ⊕ Int)).bind fun v33x => orE v33x fun v33 =>
 ((iY (v11.length : Int)).bind fun v34 =>
 ((iY (v20.length : Int)).bind fun v35 =>
 ((oX v34 v35).bind fun v36 =>
 some v36))))))))
def eZ (p0 : dK) (p1 : aA) (p2 : aO) (p3 : aO) : Option dK :=
 ((jH (w64 ((w64 (p2.value * p1.Den)) - (w64 (p3.value * p1.Num))))).bind fun v1 =>
 (((if 0 < (p0.train.length : Int) then
 some (decide ((w64 (p0.off * p3.value)) < (w64 (v1 * p0.driven))))
 else
 some false) : Option Bool).bind fun v2 =>
 (if v2 = true then
 some p0
 else
 ((iZ p2.teeth p3.teeth).bind fun v3 =>
 (((if (p0.train.length : Int) = 0 then
 some true
 else
 (if (w64 (v1 * p0.driven)) < (w64 (p0.off * p3.value)) then
 some true
 else
 ((iH v3 p0.train).bind fun v4 =>
 some (decide (v4 < 0))))) : Option Bool).bind fun v5 =>
 (if v5 = true then
 some (⟨p2.value,p3.value,v1,v3⟩ : dK)
 else
 some p0))))))
def iB (p0 : aA) (p1 : iD) : Option (List bE) :=
 ((fN p1.LowDriver p1.HighDriver p1.Stages).bind fun v1 =>
 ((fN p1.LowDriven p1.HighDriven p1.Stages).bind fun v2 =>
 ((jI aLn v2).bind fun v3 =>
 ((cK (S := Int × dK) (X := dK) (fun s37 =>
 (if s37.1 < (v1.length : Int) then
 ((((atI v1 s37.1).bind fun v38 =>
 (chk (p0.Num ≠ 0) (
 ((pO v3 (w64 ((w64 ((w64 (v38.value * p0.Den)).tdiv p0.Num)) + 1))).bind fun v40 =>
 (((if 0 < v40 then
 ((atI v3 (w64 (v40 - 1))).bind fun v41 =>
 cK (S := Int × dK) (X := dK) (fun s48 =>
 (((if 0 ≤ s48.1 then
 ((atI v3 s48.1).bind fun v49 =>
 some (decide (v49.value = v41.value)))
 else
 some false) : Option Bool).bind fun v50 =>
 (if v50 = true then
 ((atI v1 s37.1).bind fun v51 =>
 ((atI v3 s48.1).bind fun v52 =>
 ((eZ s48.2 p0 v51 v52).bind fun v53 =>
 some (.inl (w64 (s48.1 - 1),v53)))))
 else
 some (.inr s48.2)))) (w64 (v40 - 1),s37.2))
 else
 some s37.2) : Option dK).bind fun v54 =>
 cK (S := Int × dK) (X := dK) (fun s62 =>
 (((if s62.1 < (v3.length : Int) then
 ((atI v3 s62.1).bind fun v63 =>
 ((atI v3 v40).bind fun v64 =>
 some (decide (v63.value = v64.value))))
 else
 some false) : Option Bool).bind fun v65 =>
 (if v65 = true then
 ((atI v1 s37.1).bind fun v66 =>
 ((atI v3 s62.1).bind fun v67 =>
 ((eZ s62.2 p0 v66 v67).bind fun v68 =>
 some (.inl (w64 (s62.1 + 1),v68)))))
 else
 some (.inr s62.2)))) (v40,v54)))))) : Option dK).bind fun v69 =>
 some (.inl (w64 (s37.1 + 1),v69)))
 else
 some (.inr s37.2))) (0,(⟨0,0,0,([] : List bE)⟩ : dK)) : Option dK).bind fun v70 =>
 some v70.train))))
def tX (p0 : bE) : Option Bool :=
 ((hZ p0.Driver).bind fun v1 =>
 (if v1 = true then
 ((hZ p0.Driven).bind fun v2 =>
 some v2)
 else
 some false))
def uW (p0 : List bE) : Option Bool :=
 ((cK (S := Int) (X := Unit ⊕ Bool) (fun s4 =>
 (if s4 < (p0.length : Int) then
 ((atI p0 s4).bind fun v5 =>
 ((tX v5).bind fun v6 =>
 (if (!v6) = true then
 some (.inr (.inr false))
 else
 some (.inl (w64 (s4 + 1))))))
 else
 some (.inr (.inl ())))) 0 : Option (Unit ⊕ Bool)).bind fun v7x => orE v7x fun v7 =>
 some (decide ((p0.length : Int) ≤ 5)))
def hH (p0 : aA) (p1 : aA) : Option (aA × Bool) :=
 ((eV (w64 (p0.Num * p1.Num)) (w64 (p0.Den * p1.Den))).bind fun v1 =>
 some (v1.1,v1.2))
def jA (p0 : List bE) : Option (aA × Bool) :=
 ((iY 1).bind fun v1 =>
 ((cK (S := Int × aA) (X := aA ⊕ (aA × Bool)) (fun s7 =>
 (if s7.1 < (p0.length : Int) then
 ((atI p0 s7.1).bind fun v8 =>
 ((atI p0 s7.1).bind fun v9 =>
 ((eV (w64 (-v8.Driver)) v9.Driven).bind fun v10 =>
 ((hH s7.2 v10.1).bind fun v11 =>
 (if (!v11.2) = true then
 some (.inr (.inr ((⟨0,0⟩ : aA),false)))
 else
 some (.inl (w64 (s7.1 + 1),v11.1)))))))
 else
 some (.inr (.inl s7.2)))) (0,v1) : Option (aA ⊕ (aA × Bool))).bind fun v12x => orE v12x fun v12 =>
 some (v12,true)))
def oK (p0 : aA) : Option aA :=
 some (⟨w64 (-p0.Num),p0.Den⟩ : aA)
def oH (p0 : aA) (p1 : aA) : Option (aA × Bool) :=
 ((eV (w64 ((w64 (p0.Num * p1.Den)) + (w64 (p1.Num * p0.Den)))) (w64 (p0.Den * p1.Den))).bind fun v1 =>
 some (v1.1,v1.2))
def oN (p0 : List bE) (p1 : aA) : Option (aA × Bool) :=
 ((jA p0).bind fun v1 =>
 (if (!v1.2) = true then
 some ((⟨0,0⟩ : aA),false)
 else
 ((jH v1.1.Num).bind fun v2 =>
 ((oK p1).bind fun v3 =>
 ((oH (⟨v2,v1.1.Den⟩ : aA) v3).bind fun v4 =>
 some (v4.1,v4.2))))))
def oE (p0 : List bE) (p1 : aA) : Option (aA × Int) :=
 ((((uW p0).bind fun v1 =>
 (if (!v1) = true then
 some true
 else
 ((lM p1).bind fun v2 =>
 some (!v2)))) : Option Bool).bind fun v3 =>
 (if v3 = true then
 some ((⟨0,0⟩ : aA),1)
 else
 ((oN p0 p1).bind fun v4 =>
 (if (!v4.2) = true then
 some ((⟨0,0⟩ : aA),2)
 else
 ((jH v4.1.Num).bind fun v5 =>
 some ((⟨v5,v4.1.Den⟩ : aA),0))))))
def rH (p0 : aA) (p1 : iD) : Option (sE × Int) :=
 ((iB p0 p1).bind fun v1 =>
 ((oE v1 p0).bind fun v2 =>
 (if v2.2 ≠ 0 then
 some ((⟨([] : List bE),(⟨0,0⟩ : aA)⟩ : sE),v2.2)
 else
 some ((⟨v1,v2.1⟩ : sE),0))))
def jG (p0 : aA) (p1 : iD) : Option (sE × Int) :=
 ((((lM p0).bind fun v1 =>
 (if (!v1) = true then
 some true
 else
 ((uX p1).bind fun v2 =>
 some (!v2)))) : Option Bool).bind fun v3 =>
 (if v3 = true then
 some ((⟨([] : List bE),(⟨0,0⟩ : aA)⟩ : sE),1)
 else
 ((sT p0).bind fun v4 =>
 (if (!v4) = true then
 some ((⟨([] : List bE),(⟨0,0⟩ : aA)⟩ : sE),2)
 else
 ((rH p0 p1).bind fun v5 =>
 some (v5.1,v5.2))))))
def kJ (p0 : List bE) : Option bJ :=
 ((atI p0 0).bind fun v1 =>
 ((atI p0 0).bind fun v2 =>
 ((atI p0 1).bind fun v3 =>
 ((atI p0 1).bind fun v4 =>
 some (⟨[(⟨(⟨#[99,101,110,116,101,114]⟩ : ByteArray),[v1.Driver,12]⟩ : dH),(⟨(⟨#[116,104,105,114,100]⟩ : ByteArray),[v2.Driven,v3.Driver]⟩ : dH),(⟨(⟨#[101,115,99,97,112,101]⟩ : ByteArray),[v4.Driven]⟩ : dH),(⟨(⟨#[109,105,110,117,116,101]⟩ : ByteArray),[36,10]⟩ : dH),(⟨(⟨#[104,111,117,114]⟩ : ByteArray),[40]⟩ : dH)],[(⟨0,0,1,0⟩ : cY),(⟨1,1,2,0⟩ : cY),(⟨0,1,3,0⟩ : cY),(⟨3,1,4,0⟩ : cY)]⟩ : bJ)))))
def sU (p0 : aI) : Option aI :=
 (chk ((([] : List cA).length + p0.Months.length) * 3 * 64 ≤ 140737488355328) (
 (chk ((([] : List bD).length + p0.Rules.length) * 3 * 64 ≤ 140737488355328) (
 some (⟨p0.Name,([] : List cA) ++ p0.Months,([] : List bD) ++ p0.Rules,p0.Week⟩ : aI)))))
def eU (p0 : ByteArray) (p1 : Int) (p2 : Int) (p3 : aI) (p4 : Int) : Option (aV × Int) :=
 ((pW p3).bind fun v1 =>
 (if (!v1) = true then
 some ((⟨(⟨#[]⟩ : ByteArray),(⟨([] : List dH),([] : List cY)⟩ : bJ),0,0,0,0,0,(⟨(⟨#[]⟩ : ByteArray),([] : List cA),([] : List bD),0⟩ : aI),([] : List Int),0⟩ : aV),1)
 else
 ((kR p0).bind fun v2 =>
 (if (!v2) = true then
 some ((⟨(⟨#[]⟩ : ByteArray),(⟨([] : List dH),([] : List cY)⟩ : bJ),0,0,0,0,0,(⟨(⟨#[]⟩ : ByteArray),([] : List cA),([] : List bD),0⟩ : aI),([] : List Int),0⟩ : aV),7)
 else
 ((((dU p1 1 36000).bind fun v3 =>
 (if (!v3) = true then
 some true
 else
 ((hZ p2).bind fun v4 =>
 some (!v4)))) : Option Bool).bind fun v5 =>
 (if v5 = true then
 some ((⟨(⟨#[]⟩ : ByteArray),(⟨([] : List dH),([] : List cY)⟩ : bJ),0,0,0,0,0,(⟨(⟨#[]⟩ : ByteArray),([] : List cA),([] : List bD),0⟩ : aI),([] : List Int),0⟩ : aV),2)
 else
 ((mF p3 p4).bind fun v6 =>
 (if v6.2.2 ≠ 0 then
 some ((⟨(⟨#[]⟩ : ByteArray),(⟨([] : List dH),([] : List cY)⟩ : bJ),0,0,0,0,0,(⟨(⟨#[]⟩ : ByteArray),([] : List cA),([] : List bD),0⟩ : aI),([] : List Int),0⟩ : aV),v6.2.2)
 else
 ((eV p1 (w64 (2 * p2))).bind fun v7 =>
 ((nT).bind fun v8 =>
 ((jG v7.1 v8).bind fun v9 =>
 (((if v9.2 ≠ 0 then
 some true
 else
 some (decide (v9.1.Error.Num ≠ 0))) : Option Bool).bind fun v10 =>
 (if v10 = true then
 some ((⟨(⟨#[]⟩ : ByteArray),(⟨([] : List dH),([] : List cY)⟩ : bJ),0,0,0,0,0,(⟨(⟨#[]⟩ : ByteArray),([] : List cA),([] : List bD),0⟩ : aI),([] : List Int),0⟩ : aV),3)
 else
 ((kJ v9.1.Train).bind fun v11 =>
 ((sU p3).bind fun v12 =>
 some ((⟨p0,v11,0,4,2,p2,p1,v12,v6.1,2⟩ : aV),0))))))))))))))))
def vB (p0 : aI) (p1 : Int) (p2 : Int) : Option (List Int) :=
 ((cK (S := Int × List Int) (X := List Int) (fun s9 =>
 (if s9.1 < (w64 (p1 + p2)) then
 ((cK (S := Int × List Int) (X := List Int) (fun s13 =>
 (if s13.1 < (p0.Months.length : Int) then
 ((oO p0 s9.1 s13.1).bind fun v14 =>
 (chk ((s13.2.length + [v14].length) * 1 * 64 ≤ 140737488355328) (
 some (.inl (w64 (s13.1 + 1),s13.2 ++ [v14])))))
 else
 some (.inr s13.2))) (0,s9.2) : Option (List Int)).bind fun v16 =>
 some (.inl (w64 (s9.1 + 1),v16)))
 else
 some (.inr s9.2))) (p1,([] : List Int)) : Option (List Int)).bind fun v17 =>
 some v17)
def nS (p0 : cG) : Option (aV × cG) :=
 ((nQ p0).bind fun v1 =>
 ((gY v1.2 [3600,7200,5400,18000,4800,3960]).bind fun v2 =>
 ((gY v2.2 [30,15,36,20]).bind fun v3 =>
 ((dC v3.2 4).bind fun v4 =>
 ((eU (⟨#[99,108,111,99,107]⟩ : ByteArray) v2.1 v3.1 v1.1 (w64 (1 + v4.1))).bind fun v5 =>
 (((if v5.2 ≠ 0 then
 ((kJ [(⟨64,8⟩ : bE),(⟨60,8⟩ : bE)]).bind fun v6 =>
 ((vB v1.1 0 1).bind fun v7 =>
 some ((⟨#[112,108,97,105,110]⟩ : ByteArray),v6.Arbors,0,4,2,30,3600,v1.1,0,v6.Meshes,v7)))
 else
 some (v5.1.Name,v5.1.Works.Arbors,v5.1.Minute,v5.1.Hour,v5.1.Escape,v5.1.Teeth,v5.1.Beats,v5.1.Calendar,v5.1.Strike,v5.1.Works.Meshes,v5.1.Cam)) : Option (ByteArray × List dH × Int × Int × Int × Int × Int × aI × Int × List cY × List Int)).bind fun v8 =>
 ((((iG v4.2 4).bind fun v9 =>
 (if v9.1 = true then
 ((dC v9.2 3).bind fun v10 =>
 some (v10.2,v10.1))
 else
 some (v9.2,v8.2.2.2.2.2.2.2.2.1))) : Option (cG × Int)).bind fun v11 =>
 some ((⟨v8.1,(⟨v8.2.1,v8.2.2.2.2.2.2.2.2.2.1⟩ : bJ),v8.2.2.1,v8.2.2.2.1,v8.2.2.2.2.1,v8.2.2.2.2.2.1,v8.2.2.2.2.2.2.1,v8.2.2.2.2.2.2.2.1,v8.2.2.2.2.2.2.2.2.2.2,v11.2⟩ : aV),v11.1))))))))
def pS (p0 : dH) : Option Bool :=
 ((cK (S := Int) (X := Unit ⊕ Bool) (fun s4 =>
 (if s4 < (p0.Wheels.length : Int) then
 ((atI p0.Wheels s4).bind fun v5 =>
 ((hZ v5).bind fun v6 =>
 (if (!v6) = true then
 some (.inr (.inr false))
 else
 some (.inl (w64 (s4 + 1))))))
 else
 some (.inr (.inl ())))) 0 : Option (Unit ⊕ Bool)).bind fun v7x => orE v7x fun v7 =>
 ((kR p0.Name).bind fun v8 =>
 (if v8 = true then
 some (decide ((p0.Wheels.length : Int) ≤ 5))
 else
 some false)))
def rI (p0 : bJ) (p1 : ByteArray) : Option Int :=
 ((cK (S := Int) (X := Unit ⊕ Int) (fun s3 =>
 (if s3 < (p0.Arbors.length : Int) then
 ((atI p0.Arbors s3).bind fun v4 =>
 (if v4.Name = p1 then
 some (.inr (.inr s3))
 else
 some (.inl (w64 (s3 + 1)))))
 else
 some (.inr (.inl ())))) 0 : Option (Unit ⊕ Int)).bind fun v5x => orE v5x fun v5 =>
 some (-1))
def mX (p0 : bJ) (p1 : Int) (p2 : Int) : Option Bool :=
 ((dU p1 0 (w64 ((p0.Arbors.length : Int) - 1))).bind fun v1 =>
 (if v1 = true then
 ((atI p0.Arbors p1).bind fun v2 =>
 ((dU p2 0 (w64 ((v2.Wheels.length : Int) - 1))).bind fun v3 =>
 some v3))
 else
 some false))
def rJ (p0 : bJ) (p1 : cY) : Option Bool :=
 (if p1.A ≠ p1.B then
 ((mX p0 p1.A p1.WheelA).bind fun v1 =>
 (if v1 = true then
 ((mX p0 p1.B p1.WheelB).bind fun v2 =>
 some v2)
 else
 some false))
 else
 some false)
def pU (p0 : cY) (p1 : cY) : Option Bool :=
 (if p0 = p1 then
 some true
 else
 (if p0.A = p1.B then
 (if p0.WheelA = p1.WheelB then
 (if p0.B = p1.A then
 some (decide (p0.WheelB = p1.WheelA))
 else
 some false)
 else
 some false)
 else
 some false))
def pV (p0 : bJ) (p1 : cY) (p2 : Int) : Option Bool :=
 ((cK (S := Int) (X := Unit ⊕ Bool) (fun s4 =>
 (if s4 < p2 then
 ((atI p0.Meshes s4).bind fun v5 =>
 ((pU v5 p1).bind fun v6 =>
 (if v6 = true then
 some (.inr (.inr true))
 else
 some (.inl (w64 (s4 + 1))))))
 else
 some (.inr (.inl ())))) 0 : Option (Unit ⊕ Bool)).bind fun v7x => orE v7x fun v7 =>
 some false)
def uZ (p0 : bJ) : Option Bool :=
 ((cK (S := Int) (X := Unit ⊕ Bool) (fun s7 =>
 (if s7 < (p0.Arbors.length : Int) then
 ((((atI p0.Arbors s7).bind fun v8 =>
 ((pS v8).bind fun v9 =>
 (if (!v9) = true then
 some true
 else
 ((atI p0.Arbors s7).bind fun v10 =>
 ((rI p0 v10.Name).bind fun v11 =>
 some (decide (v11 ≠ s7))))))) : Option Bool).bind fun v12 =>
 (if v12 = true then
 some (.inr (.inr false))
 else
 some (.inl (w64 (s7 + 1)))))
 else
 some (.inr (.inl ())))) 0 : Option (Unit ⊕ Bool)).bind fun v13x => orE v13x fun v13 =>
 ((cK (S := Int) (X := Unit ⊕ Bool) (fun s20 =>
 (if s20 < (p0.Meshes.length : Int) then
 ((((atI p0.Meshes s20).bind fun v21 =>
 ((rJ p0 v21).bind fun v22 =>
 (if (!v22) = true then
 some true
 else
 ((atI p0.Meshes s20).bind fun v23 =>
 ((pV p0 v23 s20).bind fun v24 =>
 some v24))))) : Option Bool).bind fun v25 =>
 (if v25 = true then
 some (.inr (.inr false))
 else
 some (.inl (w64 (s20 + 1)))))
 else
 some (.inr (.inl ())))) 0 : Option (Unit ⊕ Bool)).bind fun v26x => orE v26x fun v26 =>
 (if (p0.Arbors.length : Int) ≤ 16 then
 some (decide ((p0.Meshes.length : Int) ≤ 24))
 else
 some false)))
def mG (p0 : bJ) (p1 : Int) : Option Bool :=
 ((dU p1 0 (w64 ((p0.Arbors.length : Int) - 1))).bind fun v1 =>
 some v1)
def vC (p0 : List Int) : Option Bool :=
 ((cK (S := Int) (X := Unit ⊕ Bool) (fun s4 =>
 (if s4 < (p0.length : Int) then
 ((atI p0 s4).bind fun v5 =>
 ((dU v5 1 60).bind fun v6 =>
 (if (!v6) = true then
 some (.inr (.inr false))
 else
 some (.inl (w64 (s4 + 1))))))
 else
 some (.inr (.inl ())))) 0 : Option (Unit ⊕ Bool)).bind fun v7x => orE v7x fun v7 =>
 ((dU (p0.length : Int) 1 260).bind fun v8 =>
 some v8))
def vD (p0 : aV) : Option Bool :=
 ((((kR p0.Name).bind fun v1 =>
 (if (!v1) = true then
 some true
 else
 ((uZ p0.Works).bind fun v2 =>
 (if (!v2) = true then
 some true
 else
 ((mG p0.Works p0.Minute).bind fun v3 =>
 (if (!v3) = true then
 some true
 else
 ((mG p0.Works p0.Hour).bind fun v4 =>
 (if (!v4) = true then
 some true
 else
 ((mG p0.Works p0.Escape).bind fun v5 =>
 some (!v5)))))))))) : Option Bool).bind fun v6 =>
 (if v6 = true then
 some false
 else
 ((hZ p0.Teeth).bind fun v7 =>
 (if v7 = true then
 ((dU p0.Beats 1 36000).bind fun v8 =>
 (if v8 = true then
 ((pW p0.Calendar).bind fun v9 =>
 (if v9 = true then
 ((vC p0.Cam).bind fun v10 =>
 (if v10 = true then
 ((dU p0.Strike 0 2).bind fun v11 =>
 some v11)
 else
 some false))
 else
 some false))
 else
 some false))
 else
 some false))))
def xM (p0 : List Int) (p1 : Int) (p2 : Int) : Option Int :=
 (((if (p0.length : Int) ≤ p1 then
 some true
 else
 some (decide (p2 < 1))) : Option Bool).bind fun v1 =>
 (if v1 = true then
 some 0
 else
 ((atI p0 p1).bind fun v2 =>
 (chk (p2 ≠ 0) (
 some ((w64 v2).tmod p2))))))
def dO (p0 : Int) (p1 : Int) (p2 : Int) : Option Bool :=
 (if p1 ≤ p0 then
 some (decide (p0 ≤ p2))
 else
 some false)
def kG (p0 : bJ) (p1 : Int) : Option Bool :=
 ((dO p1 0 (w64 ((p0.Arbors.length : Int) - 1))).bind fun v1 =>
 some v1)
def iF (p0 : Int) : Option Bool :=
 ((dO p0 6 240).bind fun v1 =>
 some v1)
def kL (p0 : ByteArray) : Option Bool :=
 (((if (p0.size : Int) < 1 then
 some true
 else
 some (decide (12 < (p0.size : Int)))) : Option Bool).bind fun v1 =>
 (if v1 = true then
 some false
 else
 (((chk (p0.size ≤ 140737488355328) (
 cK (S := Int) (X := Unit ⊕ Bool) (fun s8 =>
 (if s8 < ((eA p0).length : Int) then
 ((atI (eA p0) s8).bind fun v9 =>
 (((if 97 ≤ v9 then
 some (decide (v9 ≤ 122))
 else
 some false) : Option Bool).bind fun v10 =>
 (((if 48 ≤ v9 then
 (if v9 ≤ 57 then
 some true
 else
 some (decide (v9 = 45)))
 else
 some (decide (v9 = 45))) : Option Bool).bind fun v11 =>
 (((if (!v10) = true then
 (if s8 = 0 then
 some true
 else
 some (!v11))
 else
 some false) : Option Bool).bind fun v12 =>
 (if v12 = true then
 some (.inr (.inr false))
 else
 some (.inl (w64 (s8 + 1))))))))
 else
 some (.inr (.inl ())))) 0)) : Option (Unit ⊕ Bool)).bind fun v13x => orE v13x fun v13 =>
 some true)))
def lH (p0 : dH) : Option Bool :=
 ((cK (S := Int) (X := Unit ⊕ Bool) (fun s4 =>
 (if s4 < (p0.Wheels.length : Int) then
 ((atI p0.Wheels s4).bind fun v5 =>
 ((iF v5).bind fun v6 =>
 (if (!v6) = true then
 some (.inr (.inr false))
 else
 some (.inl (w64 (s4 + 1))))))
 else
 some (.inr (.inl ())))) 0 : Option (Unit ⊕ Bool)).bind fun v7x => orE v7x fun v7 =>
 ((kL p0.Name).bind fun v8 =>
 (if v8 = true then
 some (decide ((p0.Wheels.length : Int) ≤ 5))
 else
 some false)))
def mN (p0 : bJ) (p1 : Int) (p2 : Int) : Option Bool :=
 ((dO p1 0 (w64 ((p0.Arbors.length : Int) - 1))).bind fun v1 =>
 (if v1 = true then
 ((atI p0.Arbors p1).bind fun v2 =>
 ((dO p2 0 (w64 ((v2.Wheels.length : Int) - 1))).bind fun v3 =>
 some v3))
 else
 some false))
def uP (p0 : bJ) (p1 : cY) : Option Bool :=
 (if p1.A ≠ p1.B then
 ((mN p0 p1.A p1.WheelA).bind fun v1 =>
 (if v1 = true then
 ((mN p0 p1.B p1.WheelB).bind fun v2 =>
 some v2)
 else
 some false))
 else
 some false)
def pI (p0 : cY) (p1 : cY) : Option Bool :=
 (if p0 = p1 then
 some true
 else
 some (decide (p0 = (⟨p1.B,p1.WheelB,p1.A,p1.WheelA⟩ : cY))))
def lR (p0 : cY) (p1 : cY) : Option Bool :=
 ((pI p1 p0).bind fun v1 =>
 some v1)
def cR (p0 : List cY) (p1_0 : cY) : Option Int :=
 ((cK (S := Int) (X := Unit ⊕ Int) (fun s4 =>
 (if s4 < (p0.length : Int) then
 ((atI p0 s4).bind fun v5 =>
 ((lR v5 p1_0).bind fun v6 =>
 (if v6 = true then
 some (.inr (.inr s4))
 else
 some (.inl (w64 (s4 + 1))))))
 else
 some (.inr (.inl ())))) 0 : Option (Unit ⊕ Int)).bind fun v7x => orE v7x fun v7 =>
 some (-1))
def bY (p0 : List cY) (p1_0 : cY) : Option Bool :=
 ((cR p0 p1_0).bind fun v1 =>
 some (decide (0 ≤ v1)))
def jP (p0 : bJ) : Option Bool :=
 (((if 16 < (p0.Arbors.length : Int) then
 some true
 else
 some (decide (24 < (p0.Meshes.length : Int)))) : Option Bool).bind fun v1 =>
 (if v1 = true then
 some false
 else
 ((cK (S := Int) (X := Unit ⊕ Bool) (fun s11 =>
 (if s11 < (p0.Arbors.length : Int) then
 ((((atI p0.Arbors s11).bind fun v12 =>
 ((lH v12).bind fun v13 =>
 (if (!v13) = true then
 some (.inr (.inr (.inr false)))
 else
 (chk (0 ≤ (0 : Int) ∧ (0 : Int) ≤ s11 ∧ s11 ≤ (p0.Arbors.length : Int)) (
 cK (S := Int) (X := Unit ⊕ (Int ⊕ (Unit ⊕ Bool))) (fun s17 =>
 (if s17 < ((wU p0.Arbors (0 : Int) s11).length : Int) then
 ((atI (wU p0.Arbors (0 : Int) s11) s17).bind fun v18 =>
 (if v12.Name = v18.Name then
 some (.inr (.inr (.inr (.inr false))))
 else
 some (.inl (w64 (s17 + 1)))))
 else
 some (.inr (.inl ())))) 0))))) : Option (Unit ⊕ (Int ⊕ (Unit ⊕ Bool)))).bind fun v19x => orE v19x fun v19 =>
 some (.inl (w64 (s11 + 1))))
 else
 some (.inr (.inl ())))) 0 : Option (Unit ⊕ Bool)).bind fun v20x => orE v20x fun v20 =>
 ((cK (S := Int) (X := Unit ⊕ Bool) (fun s27 =>
 (if s27 < (p0.Meshes.length : Int) then
 ((atI p0.Meshes s27).bind fun v28 =>
 ((((uP p0 v28).bind fun v29 =>
 (if (!v29) = true then
 some true
 else
 (chk (0 ≤ (0 : Int) ∧ (0 : Int) ≤ s27 ∧ s27 ≤ (p0.Meshes.length : Int)) (
 ((bY (wU p0.Meshes (0 : Int) s27) v28).bind fun v31 =>
 some v31))))) : Option Bool).bind fun v32 =>
 (if v32 = true then
 some (.inr (.inr false))
 else
 some (.inl (w64 (s27 + 1))))))
 else
 some (.inr (.inl ())))) 0 : Option (Unit ⊕ Bool)).bind fun v33x => orE v33x fun v33 =>
 some true))))
def jC (p0 : cA) (p1 : cA) : Option Bool :=
 some (decide (p0.Name = p1.Name))
def cJ (p0 : List cA) (p1_0 : cA) : Option Int :=
 ((cK (S := Int) (X := Unit ⊕ Int) (fun s4 =>
 (if s4 < (p0.length : Int) then
 ((atI p0 s4).bind fun v5 =>
 ((jC v5 p1_0).bind fun v6 =>
 (if v6 = true then
 some (.inr (.inr s4))
 else
 some (.inl (w64 (s4 + 1))))))
 else
 some (.inr (.inl ())))) 0 : Option (Unit ⊕ Int)).bind fun v7x => orE v7x fun v7 =>
 some (-1))
def bO (p0 : List cA) (p1_0 : cA) : Option Bool :=
 ((cJ p0 p1_0).bind fun v1 =>
 some (decide (0 ≤ v1)))
def tJ (p0 : Int) (p1 : Int) : Option Int :=
 ((cK (S := Int × Int) (X := Int) (fun s3 =>
 (if s3.2 ≠ 0 then
 (chk (s3.2 ≠ 0) (
 some (.inl (s3.2,s3.1.tmod s3.2))))
 else
 some (.inr s3.1))) (p0,p1) : Option Int).bind fun v5 =>
 (if v5 < 0 then
 some (w64 (-v5))
 else
 some v5))
def iE (p0 : List bD) : Option Int :=
 ((cK (S := Int × Int) (X := Int) (fun s6 =>
 (if s6.2 < (p0.length : Int) then
 ((((atI p0 s6.2).bind fun v7 =>
 (if s6.1 ≤ 2000 then
 ((tJ s6.1 v7.Every).bind fun v8 =>
 (chk (v8 ≠ 0) (
 some (w64 ((w64 (s6.1.tdiv v8)) * v7.Every)))))
 else
 some s6.1)) : Option Int).bind fun v10 =>
 some (.inl (v10,w64 (s6.2 + 1))))
 else
 some (.inr s6.1))) (1,0) : Option Int).bind fun v11 =>
 some v11)
def fE (p0 : aI) : Option Bool :=
 ((((kL p0.Name).bind fun v1 =>
 (if (!v1) = true then
 some true
 else
 (if (p0.Months.length : Int) < 1 then
 some true
 else
 (if 20 < (p0.Months.length : Int) then
 some true
 else
 (if 6 < (p0.Rules.length : Int) then
 some true
 else
 ((dO p0.Week 1 12).bind fun v2 =>
 some (!v2))))))) : Option Bool).bind fun v3 =>
 (if v3 = true then
 some false
 else
 ((cK (S := Int) (X := Unit ⊕ Bool) (fun s12 =>
 (if s12 < (p0.Months.length : Int) then
 ((atI p0.Months s12).bind fun v13 =>
 ((((kL v13.Name).bind fun v14 =>
 (if (!v14) = true then
 some true
 else
 ((dO v13.Days 1 60).bind fun v15 =>
 (if (!v15) = true then
 some true
 else
 ((dO v13.Leap 1 60).bind fun v16 =>
 some (!v16)))))) : Option Bool).bind fun v17 =>
 (if v17 = true then
 some (.inr (.inr false))
 else
 (chk (0 ≤ (0 : Int) ∧ (0 : Int) ≤ s12 ∧ s12 ≤ (p0.Months.length : Int)) (
 ((bO (wU p0.Months (0 : Int) s12) v13).bind fun v19 =>
 (if v19 = true then
 some (.inr (.inr false))
 else
 some (.inl (w64 (s12 + 1))))))))))
 else
 some (.inr (.inl ())))) 0 : Option (Unit ⊕ Bool)).bind fun v20x => orE v20x fun v20 =>
 ((cK (S := Int) (X := Unit ⊕ Bool) (fun s26 =>
 (if s26 < (p0.Rules.length : Int) then
 ((atI p0.Rules s26).bind fun v27 =>
 ((((dO v27.Every 1 1000).bind fun v28 =>
 (if (!v28) = true then
 some true
 else
 ((dO v27.Rest 0 (w64 (v27.Every - 1))).bind fun v29 =>
 some (!v29)))) : Option Bool).bind fun v30 =>
 (if v30 = true then
 some (.inr (.inr false))
 else
 some (.inl (w64 (s26 + 1))))))
 else
 some (.inr (.inl ())))) 0 : Option (Unit ⊕ Bool)).bind fun v31x => orE v31x fun v31 =>
 ((iE p0.Rules).bind fun v32 =>
 some (decide (v32 ≤ 2000)))))))
def pF (p0 : List Int) : Option Bool :=
 ((cK (S := Int) (X := Unit ⊕ Bool) (fun s4 =>
 (if s4 < (p0.length : Int) then
 ((atI p0 s4).bind fun v5 =>
 ((dO v5 1 60).bind fun v6 =>
 (if (!v6) = true then
 some (.inr (.inr false))
 else
 some (.inl (w64 (s4 + 1))))))
 else
 some (.inr (.inl ())))) 0 : Option (Unit ⊕ Bool)).bind fun v7x => orE v7x fun v7 =>
 (if 1 ≤ (p0.length : Int) then
 some (decide ((p0.length : Int) ≤ 260))
 else
 some false))
def gF (p0 : aV) : Option Bool :=
 ((((kG p0.Works p0.Minute).bind fun v1 =>
 (if v1 = true then
 ((kG p0.Works p0.Hour).bind fun v2 =>
 (if v2 = true then
 ((kG p0.Works p0.Escape).bind fun v3 =>
 some v3)
 else
 some false))
 else
 some false)) : Option Bool).bind fun v4 =>
 ((((iF p0.Teeth).bind fun v5 =>
 (if v5 = true then
 ((dO p0.Beats 1 36000).bind fun v6 =>
 (if v6 = true then
 ((dO p0.Strike 0 2).bind fun v7 =>
 some v7)
 else
 some false))
 else
 some false)) : Option Bool).bind fun v8 =>
 (if v4 = true then
 (if v8 = true then
 ((kL p0.Name).bind fun v9 =>
 (if v9 = true then
 ((jP p0.Works).bind fun v10 =>
 (if v10 = true then
 ((fE p0.Calendar).bind fun v11 =>
 (if v11 = true then
 ((pF p0.Cam).bind fun v12 =>
 some v12)
 else
 some false))
 else
 some false))
 else
 some false))
 else
 some false)
 else
 some false)))
def mQ (p0 : bJ) (p1 : cY) : Option bE :=
 ((atI p0.Arbors p1.A).bind fun v1 =>
 ((atI v1.Wheels p1.WheelA).bind fun v2 =>
 ((atI p0.Arbors p1.B).bind fun v3 =>
 ((atI v3.Wheels p1.WheelB).bind fun v4 =>
 some (⟨v2,v4⟩ : bE)))))
def kN (p0 : Int) : Option Int :=
 (if p0 < 0 then
 some (IntKind.u64.wrap (-(IntKind.u64.wrap p0)))
 else
 some (IntKind.u64.wrap p0))
def qW (p0 : Int) (p1 : Int) : Option (aA × Bool) :=
 ((kN p0).bind fun v1 =>
 ((kN p1).bind fun v2 =>
 ((cK (S := Int × Int) (X := Int) (fun s5 =>
 (if s5.2 ≠ 0 then
 (chk (s5.2 ≠ 0) (
 some (.inl (s5.2,s5.1.tmod s5.2))))
 else
 some (.inr s5.1))) (v1,v2) : Option Int).bind fun v7 =>
 (chk (v7 ≠ 0) (
 (chk (v7 ≠ 0) (
 (((if 1000000000 < (IntKind.u64.wrap (v1.tdiv v7)) then
 some true
 else
 some (decide (1000000000 < (IntKind.u64.wrap (v2.tdiv v7))))) : Option Bool).bind fun v10 =>
 (if v10 = true then
 some ((⟨0,0⟩ : aA),false)
 else
 (((if ((decide (p0 < 0)) != (decide (p1 < 0))) = true then
 some (⟨w64 (-(w64 (IntKind.u64.wrap (v1.tdiv v7)))),w64 (IntKind.u64.wrap (v2.tdiv v7))⟩ : aA)
 else
 some (⟨w64 (IntKind.u64.wrap (v1.tdiv v7)),w64 (IntKind.u64.wrap (v2.tdiv v7))⟩ : aA)) : Option aA).bind fun v11 =>
 some (v11,true)))))))))))
def dX (p0 : Int) (p1 : Int) : Option (aA × Int) :=
 (if p1 = 0 then
 some ((⟨0,0⟩ : aA),6)
 else
 ((qW p0 p1).bind fun v1 =>
 (if (!v1.2) = true then
 some ((⟨0,0⟩ : aA),2)
 else
 some (v1.1,0))))
def dV (p0 : aA) : Option Bool :=
 ((dO p0.Den 1 1000000000).bind fun v1 =>
 (if v1 = true then
 ((dO p0.Num (-1000000000) 1000000000).bind fun v2 =>
 (if v2 = true then
 ((tJ p0.Num p0.Den).bind fun v3 =>
 some (decide (v3 = 1)))
 else
 some false))
 else
 some false))
def gA (p0 : aA) (p1 : aA) : Option (aA × Int) :=
 ((((dV p0).bind fun v1 =>
 (if (!v1) = true then
 some true
 else
 ((dV p1).bind fun v2 =>
 some (!v2)))) : Option Bool).bind fun v3 =>
 (if v3 = true then
 some ((⟨0,0⟩ : aA),1)
 else
 ((dX (w64 (p0.Num * p1.Num)) (w64 (p0.Den * p1.Den))).bind fun v4 =>
 some (v4.1,v4.2))))
def mP (p0 : aA) (p1 : Int) (p2 : Int) : Option (aA × Int) :=
 ((dX (w64 (-p1)) p2).bind fun v1 =>
 ((gA p0 v1.1).bind fun v2 =>
 some (v2.1,v2.2)))
def lG (p0 : bJ) (p1 : Int) : Option (List aA × Int) :=
 (chk (0 ≤ (p0.Arbors.length : Int) ∧ (p0.Arbors.length : Int) = (p0.Arbors.length : Int) ∧ (p0.Arbors.length : Int).toNat * 2 * 64 ≤ 281474976710656) (
 ((atI (List.replicate (p0.Arbors.length : Int).toNat (⟨0,0⟩ : aA)) p1).bind fun v2 =>
 ((cK (S := Bool × List aA) (X := (List aA) ⊕ (List aA × Int)) (fun s28 =>
 (if s28.1 = true then
 cK (S := Bool × Int × List aA) (X := (Bool × List aA) ⊕ ((List aA) ⊕ (List aA × Int))) (fun s41 =>
 (if s41.2.1 < (p0.Meshes.length : Int) then
 ((((atI p0.Meshes s41.2.1).bind fun v42 =>
 ((mQ p0 v42).bind fun v43 =>
 ((((atI s41.2.2 v42.A).bind fun v44 =>
 (if v44.Den = 0 then
 some (v42.B,v42.A,(⟨v43.Driven,v43.Driver⟩ : bE))
 else
 some (v42.A,v42.B,v43))) : Option (Int × Int × bE)).bind fun v45 =>
 ((((atI s41.2.2 v45.1).bind fun v46 =>
 (if v46.Den = 0 then
 some true
 else
 ((atI s41.2.2 v45.2.1).bind fun v47 =>
 some (decide (v47.Den ≠ 0))))) : Option Bool).bind fun v48 =>
 (if v48 = true then
 some (.inl (s41.1,s41.2.2))
 else
 ((atI s41.2.2 v45.1).bind fun v49 =>
 ((mP v49 v45.2.2.Driver v45.2.2.Driven).bind fun v50 =>
 (if v50.2 ≠ 0 then
 some (.inr (.inr (.inr (.inr (([] : List aA),v50.2)))))
 else
 ((atI s41.2.2 v45.2.1).bind fun v51 =>
 some (.inl (true,List.set s41.2.2 v45.2.1.toNat v50.1))))))))))) : Option ((Bool × List aA) ⊕ ((Bool × Int × List aA) ⊕ ((Bool × List aA) ⊕ ((List aA) ⊕ (List aA × Int)))))).bind fun v52x => orE v52x fun v52 =>
 some (.inl (v52.1,w64 (s41.2.1 + 1),v52.2)))
 else
 some (.inr (.inl (s41.1,s41.2.2))))) (false,0,s28.2)
 else
 some (.inr (.inl s28.2)))) (true,List.set (List.replicate (p0.Arbors.length : Int).toNat (⟨0,0⟩ : aA)) p1.toNat (⟨1,1⟩ : aA)) : Option ((List aA) ⊕ (List aA × Int))).bind fun v53x => orE v53x fun v53 =>
 some (v53,0)))))
def oT (p0 : aA) : Option Bool :=
 some (decide (p0.Den = 0))
def cT (p0 : List aA) : Option Int :=
 ((cK (S := Int) (X := Unit ⊕ Int) (fun s4 =>
 (if s4 < (p0.length : Int) then
 ((atI p0 s4).bind fun v5 =>
 ((oT v5).bind fun v6 =>
 (if v6 = true then
 some (.inr (.inr s4))
 else
 some (.inl (w64 (s4 + 1))))))
 else
 some (.inr (.inl ())))) 0 : Option (Unit ⊕ Int)).bind fun v7x => orE v7x fun v7 =>
 some (-1))
def bZ (p0 : List aA) : Option Bool :=
 ((cT p0).bind fun v1 =>
 some (decide (0 ≤ v1)))
def mM (p0 : bJ) (p1 : Int) : Option (List aA × Int) :=
 ((jP p0).bind fun v1 =>
 (if (!v1) = true then
 some (([] : List aA),1)
 else
 ((dO p1 0 (w64 ((p0.Arbors.length : Int) - 1))).bind fun v2 =>
 (if (!v2) = true then
 some (([] : List aA),2)
 else
 ((lG p0 p1).bind fun v3 =>
 (if v3.2 ≠ 0 then
 some (([] : List aA),v3.2)
 else
 ((bZ v3.1).bind fun v4 =>
 (if v4 = true then
 some (([] : List aA),6)
 else
 ((cK (S := Int) (X := Unit ⊕ (List aA × Int)) (fun s12 =>
 (if s12 < (p0.Meshes.length : Int) then
 ((atI p0.Meshes s12).bind fun v13 =>
 ((mQ p0 v13).bind fun v14 =>
 ((atI v3.1 v13.A).bind fun v15 =>
 ((mP v15 v14.Driver v14.Driven).bind fun v16 =>
 (((if v16.2 ≠ 0 then
 some true
 else
 ((atI v3.1 v13.B).bind fun v17 =>
 some (decide (v16.1 ≠ v17)))) : Option Bool).bind fun v18 =>
 (if v18 = true then
 some (.inr (.inr (([] : List aA),10)))
 else
 some (.inl (w64 (s12 + 1)))))))))
 else
 some (.inr (.inl ())))) 0 : Option (Unit ⊕ (List aA × Int))).bind fun v19x => orE v19x fun v19 =>
 some (v3.1,0))))))))))
def tG (p0 : Int) : Option Int :=
 (if p0 < 0 then
 some (w64 (-p0))
 else
 some p0)
def kE (p0 : aI) (p1 : List Int) : Option Int :=
 (chk ((p0.Months.length : Int) ≠ 0) (
 (if ((p1.length : Int).tmod (p0.Months.length : Int)) ≠ 0 then
 some 0
 else
 (chk ((p0.Months.length : Int) ≠ 0) (
 some (w64 ((p1.length : Int).tdiv (p0.Months.length : Int))))))))
def fR (p0 : aV) : Option (List ByteArray) :=
 ((gF p0).bind fun v1 =>
 (if (!v1) = true then
 some [(⟨#[109,111,118,101,109,101,110,116]⟩ : ByteArray)]
 else
 ((mM p0.Works p0.Minute).bind fun v2 =>
 (((if v2.2 ≠ 0 then
 (chk ([(⟨#[119,111,114,107,115]⟩ : ByteArray)].length * 1 * 64 ≤ 140737488355328) (
 some [(⟨#[119,111,114,107,115]⟩ : ByteArray)]))
 else
 ((((atI v2.1 p0.Hour).bind fun v4 =>
 (if v4 ≠ (⟨1,12⟩ : aA) then
 (chk ([(⟨#[104,111,117,114]⟩ : ByteArray)].length * 1 * 64 ≤ 140737488355328) (
 some [(⟨#[104,111,117,114]⟩ : ByteArray)]))
 else
 some ([] : List ByteArray))) : Option (List ByteArray)).bind fun v6 =>
 ((atI v2.1 p0.Escape).bind fun v7 =>
 ((tG v7.Num).bind fun v8 =>
 (if (w64 ((w64 (2 * p0.Teeth)) * v8)) ≠ (w64 (p0.Beats * v7.Den)) then
 (chk ((v6.length + [(⟨#[98,101,97,116,115]⟩ : ByteArray)].length) * 1 * 64 ≤ 140737488355328) (
 some (v6 ++ [(⟨#[98,101,97,116,115]⟩ : ByteArray)])))
 else
 some v6))))) : Option (List ByteArray)).bind fun v10 =>
 ((((kE p0.Calendar p0.Cam).bind fun v11 =>
 (if v11 = 0 then
 (chk ((v10.length + [(⟨#[99,97,109]⟩ : ByteArray)].length) * 1 * 64 ≤ 140737488355328) (
 some (v10 ++ [(⟨#[99,97,109]⟩ : ByteArray)])))
 else
 some v10)) : Option (List ByteArray)).bind fun v13 =>
 some v13)))))
def mO (p0 : aI) (p1 : Int) : Option Bool :=
 ((cK (S := Bool × Int) (X := Bool) (fun s5 =>
 (if s5.2 < (p0.Rules.length : Int) then
 ((((atI p0.Rules s5.2).bind fun v6 =>
 (chk (v6.Every ≠ 0) (
 (if (p1.tmod v6.Every) = v6.Rest then
 some v6.Leap
 else
 some s5.1)))) : Option Bool).bind fun v8 =>
 some (.inl (v8,w64 (s5.2 + 1))))
 else
 some (.inr s5.1))) (false,0) : Option Bool).bind fun v9 =>
 some v9)
def kF (p0 : aI) (p1 : Bool) (p2 : Int) : Option Int :=
 (if p1 = true then
 ((atI p0.Months (w64 (p2 - 1))).bind fun v1 =>
 some v1.Leap)
 else
 ((atI p0.Months (w64 (p2 - 1))).bind fun v2 =>
 some v2.Days))
def cN (p0 : List Int) : Option (List Int) :=
 (chk ((([] : List Int).length + p0.length) * 1 * 64 ≤ 140737488355328) (
 some (([] : List Int) ++ p0)))
def fK (p0 : List cY) : Option (List cY) :=
 (chk ((([] : List cY).length + p0.length) * 4 * 64 ≤ 140737488355328) (
 some (([] : List cY) ++ p0)))
def nH (p0 : bJ) : Option bJ :=
 ((cK (S := Int × List dH) (X := List dH) (fun s5 =>
 (if s5.1 < (p0.Arbors.length : Int) then
 ((atI p0.Arbors s5.1).bind fun v6 =>
 ((cN v6.Wheels).bind fun v7 =>
 (chk ((s5.2.length + 1) * 2 * 64 ≤ 140737488355328) (
 some (.inl (w64 (s5.1 + 1),s5.2 ++ [(⟨v6.Name,v7⟩ : dH)]))))))
 else
 some (.inr s5.2))) (0,([] : List dH)) : Option (List dH)).bind fun v9 =>
 ((fK p0.Meshes).bind fun v10 =>
 some (⟨v9,v10⟩ : bJ)))
def eW (p0 : List cA) : Option (List cA) :=
 (chk ((([] : List cA).length + p0.length) * 3 * 64 ≤ 140737488355328) (
 some (([] : List cA) ++ p0)))
def dY (p0 : List bD) : Option (List bD) :=
 (chk ((([] : List bD).length + p0.length) * 3 * 64 ≤ 140737488355328) (
 some (([] : List bD) ++ p0)))
def jL (p0 : aV) : Option aV :=
 ((nH p0.Works).bind fun v1 =>
 ((eW p0.Calendar.Months).bind fun v2 =>
 ((dY p0.Calendar.Rules).bind fun v3 =>
 ((cN p0.Cam).bind fun v4 =>
 some (⟨p0.Name,v1,p0.Minute,p0.Hour,p0.Escape,p0.Teeth,p0.Beats,(⟨p0.Calendar.Name,v2,v3,p0.Calendar.Week⟩ : aI),v4,p0.Strike⟩ : aV)))))
def pG (p0 : aI) (p1 : List Int) (p2 : Int) : Option (List qQ) :=
 ((mO p0 p2).bind fun v1 =>
 ((kE p0 p1).bind fun v2 =>
 (chk (v2 ≠ 0) (
 (chk (0 ≤ (w64 ((p2.tmod v2) * (p0.Months.length : Int))) ∧ (w64 ((p2.tmod v2) * (p0.Months.length : Int))) ≤ (p1.length : Int) ∧ (p1.length : Int) ≤ (p1.length : Int)) (
 ((cK (S := Int × List qQ) (X := List qQ) (fun s11 =>
 (if s11.1 ≤ (p0.Months.length : Int) then
 ((((kF p0 v1 s11.1).bind fun v12 =>
 ((atI (wU p1 (w64 ((p2.tmod v2) * (p0.Months.length : Int))) (p1.length : Int)) (w64 (s11.1 - 1))).bind fun v13 =>
 (if v13 ≠ v12 then
 ((atI (wU p1 (w64 ((p2.tmod v2) * (p0.Months.length : Int))) (p1.length : Int)) (w64 (s11.1 - 1))).bind fun v14 =>
 (chk ((s11.2.length + [(⟨p2,s11.1,v14,v12⟩ : qQ)].length) * 4 * 64 ≤ 140737488355328) (
 some (s11.2 ++ [(⟨p2,s11.1,v14,v12⟩ : qQ)]))))
 else
 some s11.2))) : Option (List qQ)).bind fun v16 =>
 some (.inl (w64 (s11.1 + 1),v16)))
 else
 some (.inr s11.2))) (1,([] : List qQ)) : Option (List qQ)).bind fun v17 =>
 some v17)))))))
def lL (p0 : List Int) : Option aV :=
 ((tT p0).bind fun v1 =>
 ((nS v1).bind fun v2 =>
 some v2.1))
def tL (p0 : aI) (p1 : Int) : Option Bool :=
 (chk ((p0.Months.length : Int) ≠ 0) (
 ((dO p1 1 (w64 ((260 : Int).tdiv (p0.Months.length : Int)))).bind fun v2 =>
 some v2)))
def lF (p0 : aI) (p1 : List Int) : Option Int :=
 ((kE p0 p1).bind fun v1 =>
 ((iE p0.Rules).bind fun v2 =>
 ((tJ v1 v2).bind fun v3 =>
 (chk (v3 ≠ 0) (
 ((cK (S := Int × Int) (X := Int) (fun s7 =>
 (if s7.2 < (w64 ((w64 (v1.tdiv v3)) * v2)) then
 ((pG p0 p1 s7.2).bind fun v8 =>
 some (.inl (w64 (s7.1 + (v8.length : Int)),w64 (s7.2 + 1))))
 else
 some (.inr s7.1))) (0,0) : Option Int).bind fun v9 =>
 some v9))))))
def qS (p0 : aI) (p1 : Int) : Option (List Int × Int × Int) :=
 ((fE p0).bind fun v1 =>
 (if (!v1) = true then
 some (([] : List Int),0,1)
 else
 ((tL p0 p1).bind fun v2 =>
 (if (!v2) = true then
 some (([] : List Int),0,2)
 else
 ((iE p0.Rules).bind fun v3 =>
 ((tJ p1 v3).bind fun v4 =>
 (chk (v4 ≠ 0) (
 (chk (0 ≤ p1 ∧ p1 = p1 ∧ p1.toNat * 1 * 64 ≤ 281474976710656) (
 (chk (0 ≤ p1 ∧ p1 = p1 ∧ p1.toNat * 1 * 64 ≤ 281474976710656) (
 ((cK (S := Int × List Int × List Int) (X := List Int × List Int) (fun s17 =>
 (if s17.1 < (w64 ((w64 (p1.tdiv v4)) * v3)) then
 ((((mO p0 s17.1).bind fun v18 =>
 (if v18 = true then
 (chk (p1 ≠ 0) (
 ((atI s17.2.1 (s17.1.tmod p1)).bind fun v20 =>
 ((atI s17.2.1 (s17.1.tmod p1)).bind fun v21 =>
 some (List.set s17.2.1 (s17.1.tmod p1).toNat (w64 (v20 + 1)),s17.2.2)))))
 else
 (chk (p1 ≠ 0) (
 ((atI s17.2.2 (s17.1.tmod p1)).bind fun v23 =>
 ((atI s17.2.2 (s17.1.tmod p1)).bind fun v24 =>
 some (s17.2.1,List.set s17.2.2 (s17.1.tmod p1).toNat (w64 (v23 + 1))))))))) : Option (List Int × List Int)).bind fun v25 =>
 some (.inl (w64 (s17.1 + 1),v25.1,v25.2)))
 else
 some (.inr (s17.2.1,s17.2.2)))) (0,List.replicate p1.toNat 0,List.replicate p1.toNat 0) : Option (List Int × List Int)).bind fun v26 =>
 ((cK (S := Int × List Int) (X := List Int) (fun s47 =>
 (if s47.1 < (v26.1.length : Int) then
 ((cK (S := Int × List Int) (X := List Int) (fun s57 =>
 (if s57.1 < (p0.Months.length : Int) then
 ((atI p0.Months s57.1).bind fun v58 =>
 ((((((atI v26.1 s47.1).bind fun v59 =>
 ((atI v26.2 s47.1).bind fun v60 =>
 (if v60 < v59 then
 some true
 else
 ((atI v26.1 s47.1).bind fun v61 =>
 ((atI v26.2 s47.1).bind fun v62 =>
 (if v61 = v62 then
 some (decide (v58.Leap < v58.Days))
 else
 some false)))))) : Option Bool).bind fun v63 =>
 (if v63 = true then
 some v58.Leap
 else
 some v58.Days)) : Option Int).bind fun v64 =>
 (chk ((s57.2.length + [v64].length) * 1 * 64 ≤ 140737488355328) (
 some (.inl (w64 (s57.1 + 1),s57.2 ++ [v64]))))))
 else
 some (.inr s57.2))) (0,s47.2) : Option (List Int)).bind fun v66 =>
 some (.inl (w64 (s47.1 + 1),v66)))
 else
 some (.inr s47.2))) (0,([] : List Int)) : Option (List Int)).bind fun v67 =>
 ((lF p0 v67).bind fun v68 =>
 some (v67,v68,0))))))))))))))))
def qF (p0 : Int) (p1 : Int) : Option Bool :=
 (if 6 ≤ p0 then
 (if p1 ≤ 120 then
 (if p0 ≤ p1 then
 some (decide (p1 ≤ (w64 (p0 + 30))))
 else
 some false)
 else
 some false)
 else
 some false)
def nG (p0 : iD) : Option Bool :=
 ((qF p0.LowDriver p0.HighDriver).bind fun v1 =>
 (if v1 = true then
 ((qF p0.LowDriven p0.HighDriven).bind fun v2 =>
 (if v2 = true then
 ((dO p0.Stages 1 3).bind fun v3 =>
 some v3)
 else
 some false))
 else
 some false))
def tH (p0 : aA) (p1 : iD) : Option Int :=
 ((((dV p0).bind fun v1 =>
 (if (!v1) = true then
 some true
 else
 ((nG p1).bind fun v2 =>
 some (!v2)))) : Option Bool).bind fun v3 =>
 (if v3 = true then
 some 1
 else
 (((if p0.Num ≤ 0 then
 some true
 else
 (if 1000000 < p0.Num then
 some true
 else
 some (decide (1000000 < p0.Den)))) : Option Bool).bind fun v4 =>
 (if v4 = true then
 some 2
 else
 some 0))))
def oC (p0 p1 p2 : Int) : Option aDb := (chk (1 ≤ p0 ∧ p0 ≤ p1 ∧ p1 ≤ 120 ∧ 1 ≤ p2 ∧ p2 ≤ 3) (some ⟨aAj (gW (bX p0 p1 p2.toNat)),eY (bX p0 p1 p2.toNat)⟩))
def iO (p0 : Int) : Option Bool :=
 some (decide (p0 ≠ p0))
def dT (p0 : Int) (p1 : Int) : Option Int :=
 ((iO p0).bind fun v1 =>
 ((iO p1).bind fun v2 =>
 (if v1 = true then
 (if v2 = true then
 some 0
 else
 some (-1))
 else
 (if v2 = true then
 some 1
 else
 (if p0 < p1 then
 some (-1)
 else
 (if p1 < p0 then
 some 1
 else
 some 0))))))
def iP (p0 : Int) (p1 : Int) (p2 : aA) : Option Int :=
 ((dT (w64 (p0 * p2.Num)) (w64 (p1 * p2.Den))).bind fun v1 =>
 some v1)
def bH (p0 : List Int) (p1 : Int) (p2_0 : aA) : Option (Int × Bool) :=
 ((cK (S := Int × Int) (X := Int) (fun s5 =>
 (if s5.1 < s5.2 then
 ((atI p0 (w64 (aOf .u64 (IntKind.u64.wrap (w64 (s5.1 + s5.2))) 1))).bind fun v7 =>
 ((iP v7 p1 p2_0).bind fun v8 =>
 (if v8 < 0 then
 some (.inl (w64 ((w64 (aOf .u64 (IntKind.u64.wrap (w64 (s5.1 + s5.2))) 1)) + 1),s5.2))
 else
 some (.inl (s5.1,w64 (aOf .u64 (IntKind.u64.wrap (w64 (s5.1 + s5.2))) 1))))))
 else
 some (.inr s5.1))) (0,(p0.length : Int)) : Option Int).bind fun v9 =>
 (if v9 < (p0.length : Int) then
 ((atI p0 v9).bind fun v10 =>
 ((iP v10 p1 p2_0).bind fun v11 =>
 some (v9,decide (v11 = 0))))
 else
 some (v9,false)))
def vH (p0 : Int) (p1 : Int) (p2 : aA) : Option kA :=
 ((tG (w64 ((w64 (p0 * p2.Den)) - (w64 (p1 * p2.Num))))).bind fun v1 =>
 some (⟨p0,p1,v1⟩ : kA))
def gB (p0 : kA) (p1 : kA) : Option Int :=
 ((dT (w64 (p0.far * p1.q)) (w64 (p1.far * p0.q))).bind fun v1 =>
 some v1)
def eF (p0 : List Int) : Option (List Int) :=
 cK (S := Int × Int × List Int) (X := List Int) (fun s6 =>
 (if s6.1 < s6.2.1 then
 ((atI s6.2.2 s6.2.1).bind fun v7 =>
 ((atI s6.2.2 s6.1).bind fun v8 =>
 ((atI s6.2.2 s6.1).bind fun v9 =>
 ((atI (List.set s6.2.2 s6.1.toNat v7) s6.2.1).bind fun v10 =>
 some (.inl (w64 (s6.1 + 1),w64 (s6.2.1 - 1),List.set (List.set s6.2.2 s6.1.toNat v7) s6.2.1.toNat v8))))))
 else
 some (.inr s6.2.2))) (0,w64 ((p0.length : Int) - 1),p0)
def vI (p0 : List Int) (p1 : List Int) : Option (List bE) :=
 ((cK (S := Int × List bE) (X := List bE) (fun s5 =>
 (if s5.1 < (p0.length : Int) then
 ((atI p0 s5.1).bind fun v6 =>
 ((atI p1 s5.1).bind fun v7 =>
 (chk ((s5.2.length + [(⟨v6,v7⟩ : bE)].length) * 2 * 64 ≤ 140737488355328) (
 some (.inl (w64 (s5.1 + 1),s5.2 ++ [(⟨v6,v7⟩ : bE)]))))))
 else
 some (.inr s5.2))) (0,([] : List bE)) : Option (List bE)).bind fun v9 =>
 some v9)
def jD (p0 : List Int) (p1 : List Int) : Option (List bE) :=
 ((cN p0).bind fun v1 =>
 ((eF v1).bind fun v2 =>
 (chk (v2.length = v1.length) (
 ((vI v2 p1).bind fun v4 =>
 some v4)))))
def lY (p0 : List bE) : Option Int :=
 ((cK (S := Int × Int) (X := Int) (fun s3 =>
 (if s3.2 < (p0.length : Int) then
 ((atI p0 s3.2).bind fun v4 =>
 some (.inl (w64 (s3.1 + (w64 (v4.Driver + v4.Driven))),w64 (s3.2 + 1))))
 else
 some (.inr s3.1))) (0,0) : Option Int).bind fun v5 =>
 some v5)
def mK (p0 : List Int) : Option Int :=
 ((cK (S := Int) (X := Unit ⊕ Int) (fun s3 =>
 (if s3 < (p0.length : Int) then
 ((atI p0 s3).bind fun v4 =>
 (if v4 ≠ 0 then
 some (.inr (.inr v4))
 else
 some (.inl (w64 (s3 + 1)))))
 else
 some (.inr (.inl ())))) 0 : Option (Unit ⊕ Int)).bind fun v5x => orE v5x fun v5 =>
 some 0)
def eO (p0 : bE) (p1 : bE) : Option Int :=
 ((dT p0.Driver p1.Driver).bind fun v1 =>
 ((dT p0.Driven p1.Driven).bind fun v2 =>
 ((mK [v1,v2]).bind fun v3 =>
 some v3)))
def bA (p0 : List bE) (p1 : List bE) : Option Int :=
 ((cK (S := Int) (X := Unit ⊕ Int) (fun s5 =>
 (if s5 < (p0.length : Int) then
 ((atI p0 s5).bind fun v6 =>
 (if (p1.length : Int) ≤ s5 then
 some (.inr (.inr 1))
 else
 ((atI p1 s5).bind fun v7 =>
 ((eO v6 v7).bind fun v8 =>
 (if v8 ≠ 0 then
 some (.inr (.inr v8))
 else
 some (.inl (w64 (s5 + 1))))))))
 else
 some (.inr (.inl ())))) 0 : Option (Unit ⊕ Int)).bind fun v9x => orE v9x fun v9 =>
 (if (p0.length : Int) < (p1.length : Int) then
 some (-1)
 else
 some 0))
def iQ (p0 : List bE) (p1 : List bE) : Option Int :=
 ((lY p0).bind fun v1 =>
 ((lY p1).bind fun v2 =>
 ((dT v1 v2).bind fun v3 =>
 (if v3 ≠ 0 then
 some v3
 else
 ((bA p0 p1).bind fun v4 =>
 some v4)))))
def kM (p0 : aA) (p1 : iD) : Option (List bE) :=
 ((oC p1.LowDriver p1.HighDriver p1.Stages).bind fun v1 =>
 ((oC p1.LowDriven p1.HighDriven p1.Stages).bind fun v2 =>
 ((cK (S := Int × List kA) (X := List kA) (fun s31 =>
 (if s31.1 < (v1.products.length : Int) then
 ((((atI v1.products s31.1).bind fun v32 =>
 ((bH v2.products v32 p0).bind fun v33 =>
 cK (S := Int × List kA) (X := List kA) (fun s47 =>
 (((if s47.1 ≤ v33.1 then
 some (decide (s47.1 < (v2.products.length : Int)))
 else
 some false) : Option Bool).bind fun v48 =>
 (if v48 = true then
 ((((atI v2.products s47.1).bind fun v49 =>
 ((vH v32 v49 p0).bind fun v50 =>
 (((((if 0 < (s47.2.length : Int) then
 ((atI s47.2 0).bind fun v51 =>
 ((gB v50 v51).bind fun v52 =>
 some (decide (v52 < 0))))
 else
 some false) : Option Bool).bind fun v53 =>
 (if v53 = true then
 some ([] : List kA)
 else
 some s47.2)) : Option (List kA)).bind fun v54 =>
 (((if (v54.length : Int) = 0 then
 some true
 else
 ((atI v54 0).bind fun v55 =>
 ((gB v50 v55).bind fun v56 =>
 some (decide (v56 = 0))))) : Option Bool).bind fun v57 =>
 (if v57 = true then
 (chk ((v54.length + [v50].length) * 3 * 64 ≤ 140737488355328) (
 some (v54 ++ [v50])))
 else
 some v54))))) : Option (List kA)).bind fun v59 =>
 some (.inl (w64 (s47.1 + 1),v59)))
 else
 some (.inr s47.2)))) (max (w64 (v33.1 - 1)) 0,s31.2))) : Option (List kA)).bind fun v60 =>
 some (.inl (w64 (s31.1 + 1),v60)))
 else
 some (.inr s31.2))) (0,([] : List kA)) : Option (List kA)).bind fun v61 =>
 ((cK (S := List bE × Int) (X := List bE) (fun s102 =>
 (if s102.2 < (v61.length : Int) then
 ((((atI v61 s102.2).bind fun v103 =>
 (chk (-9223372036854775808 ≤ v103.p ∧ v103.p ≤ 9223372036854775807) (
 cK (S := List bE × Int) (X := List bE) (fun s123 =>
 (if s123.2 < ((v1.lists v103.p).length : Int) then
 ((((atI (v1.lists v103.p) s123.2).bind fun v124 =>
 (chk (-9223372036854775808 ≤ v103.q ∧ v103.q ≤ 9223372036854775807) (
 cK (S := List bE × Int) (X := List bE) (fun s133 =>
 (if s133.2 < ((v2.lists v103.q).length : Int) then
 ((((atI (v2.lists v103.q) s133.2).bind fun v134 =>
 ((jD v124 v134).bind fun v135 =>
 (((if s133.1 = [] then
 some true
 else
 ((iQ v135 s133.1).bind fun v136 =>
 some (decide (v136 < 0)))) : Option Bool).bind fun v137 =>
 (if v137 = true then
 (chk (v135 ≠ []) (
 some v135))
 else
 some s133.1)))) : Option (List bE)).bind fun v139 =>
 some (.inl (v139,w64 (s133.2 + 1))))
 else
 some (.inr s133.1))) (s123.1,0)))) : Option (List bE)).bind fun v140 =>
 some (.inl (v140,w64 (s123.2 + 1))))
 else
 some (.inr s123.1))) (s102.1,0)))) : Option (List bE)).bind fun v141 =>
 some (.inl (v141,w64 (s102.2 + 1))))
 else
 some (.inr s102.1))) (([] : List bE),0) : Option (List bE)).bind fun v142 =>
 some v142))))
def fY (p0 : bE) : Option Bool :=
 ((iF p0.Driver).bind fun v1 =>
 (if v1 = true then
 ((iF p0.Driven).bind fun v2 =>
 some v2)
 else
 some false))
def jO (p0 : List bE) : Option Bool :=
 ((cK (S := Int) (X := Unit ⊕ Bool) (fun s4 =>
 (if s4 < (p0.length : Int) then
 ((atI p0 s4).bind fun v5 =>
 ((fY v5).bind fun v6 =>
 (if (!v6) = true then
 some (.inr (.inr false))
 else
 some (.inl (w64 (s4 + 1))))))
 else
 some (.inr (.inl ())))) 0 : Option (Unit ⊕ Bool)).bind fun v7x => orE v7x fun v7 =>
 some (decide ((p0.length : Int) ≤ 5)))
def jQ (p0 : List bE) : Option (aA × Int) :=
 ((cK (S := Int × aA) (X := aA ⊕ (aA × Int)) (fun s5 =>
 (if s5.1 < (p0.length : Int) then
 ((atI p0 s5.1).bind fun v6 =>
 ((dX (w64 (-v6.Driver)) v6.Driven).bind fun v7 =>
 ((gA s5.2 v7.1).bind fun v8 =>
 (if v8.2 ≠ 0 then
 some (.inr (.inr ((⟨0,0⟩ : aA),v8.2)))
 else
 some (.inl (w64 (s5.1 + 1),v8.1))))))
 else
 some (.inr (.inl s5.2)))) (0,(⟨1,1⟩ : aA)) : Option (aA ⊕ (aA × Int))).bind fun v9x => orE v9x fun v9 =>
 some (v9,0))
def kD (p0 : aA) (p1 : aA) : Option (aA × Int) :=
 ((((dV p0).bind fun v1 =>
 (if (!v1) = true then
 some true
 else
 ((dV p1).bind fun v2 =>
 some (!v2)))) : Option Bool).bind fun v3 =>
 (if v3 = true then
 some ((⟨0,0⟩ : aA),1)
 else
 ((dX (w64 ((w64 (p0.Num * p1.Den)) - (w64 (p1.Num * p0.Den)))) (w64 (p0.Den * p1.Den))).bind fun v4 =>
 some (v4.1,v4.2))))
def lS (p0 : List bE) (p1 : aA) : Option (aA × Int) :=
 ((jQ p0).bind fun v1 =>
 (if v1.2 ≠ 0 then
 some ((⟨0,0⟩ : aA),v1.2)
 else
 ((tG v1.1.Num).bind fun v2 =>
 ((kD (⟨v2,v1.1.Den⟩ : aA) p1).bind fun v3 =>
 some (v3.1,v3.2)))))
def qU (p0 : List bE) (p1 : aA) : Option (aA × Int) :=
 ((((jO p0).bind fun v1 =>
 (if (!v1) = true then
 some true
 else
 ((dV p1).bind fun v2 =>
 some (!v2)))) : Option Bool).bind fun v3 =>
 (if v3 = true then
 some ((⟨0,0⟩ : aA),1)
 else
 ((lS p0 p1).bind fun v4 =>
 ((tG v4.1.Num).bind fun v5 =>
 some ((⟨v5,v4.1.Den⟩ : aA),v4.2)))))
def nE (p0 : aA) (p1 : iD) : Option (sE × Int) :=
 ((tH p0 p1).bind fun v1 =>
 (if v1 ≠ 0 then
 some ((⟨([] : List bE),(⟨0,0⟩ : aA)⟩ : sE),v1)
 else
 ((kM p0 p1).bind fun v2 =>
 ((qU v2 p0).bind fun v3 =>
 (if v3.2 ≠ 0 then
 some ((⟨([] : List bE),(⟨0,0⟩ : aA)⟩ : sE),v3.2)
 else
 some ((⟨v2,v3.1⟩ : sE),0))))))
def hJ (p0 : ByteArray) (p1 : Int) (p2 : Int) (p3 : aI) (p4 : Int) : Option (aV × Int) :=
 ((fE p3).bind fun v1 =>
 (if (!v1) = true then
 some ((⟨(⟨#[]⟩ : ByteArray),(⟨([] : List dH),([] : List cY)⟩ : bJ),0,0,0,0,0,(⟨(⟨#[]⟩ : ByteArray),([] : List cA),([] : List bD),0⟩ : aI),([] : List Int),0⟩ : aV),1)
 else
 ((kL p0).bind fun v2 =>
 (if (!v2) = true then
 some ((⟨(⟨#[]⟩ : ByteArray),(⟨([] : List dH),([] : List cY)⟩ : bJ),0,0,0,0,0,(⟨(⟨#[]⟩ : ByteArray),([] : List cA),([] : List bD),0⟩ : aI),([] : List Int),0⟩ : aV),7)
 else
 ((((dO p1 1 36000).bind fun v3 =>
 (if (!v3) = true then
 some true
 else
 ((iF p2).bind fun v4 =>
 some (!v4)))) : Option Bool).bind fun v5 =>
 (if v5 = true then
 some ((⟨(⟨#[]⟩ : ByteArray),(⟨([] : List dH),([] : List cY)⟩ : bJ),0,0,0,0,0,(⟨(⟨#[]⟩ : ByteArray),([] : List cA),([] : List bD),0⟩ : aI),([] : List Int),0⟩ : aV),2)
 else
 ((qS p3 p4).bind fun v6 =>
 (if v6.2.2 ≠ 0 then
 some ((⟨(⟨#[]⟩ : ByteArray),(⟨([] : List dH),([] : List cY)⟩ : bJ),0,0,0,0,0,(⟨(⟨#[]⟩ : ByteArray),([] : List cA),([] : List bD),0⟩ : aI),([] : List Int),0⟩ : aV),v6.2.2)
 else
 ((dX p1 (w64 (2 * p2))).bind fun v7 =>
 (if v7.2 ≠ 0 then
 some ((⟨(⟨#[]⟩ : ByteArray),(⟨([] : List dH),([] : List cY)⟩ : bJ),0,0,0,0,0,(⟨(⟨#[]⟩ : ByteArray),([] : List cA),([] : List bD),0⟩ : aI),([] : List Int),0⟩ : aV),v7.2)
 else
 ((nE v7.1 (⟨60,84,7,10,2⟩ : iD)).bind fun v8 =>
 (if v8.2 ≠ 0 then
 some ((⟨(⟨#[]⟩ : ByteArray),(⟨([] : List dH),([] : List cY)⟩ : bJ),0,0,0,0,0,(⟨(⟨#[]⟩ : ByteArray),([] : List cA),([] : List bD),0⟩ : aI),([] : List Int),0⟩ : aV),v8.2)
 else
 (if v8.1.Error.Num ≠ 0 then
 some ((⟨(⟨#[]⟩ : ByteArray),(⟨([] : List dH),([] : List cY)⟩ : bJ),0,0,0,0,0,(⟨(⟨#[]⟩ : ByteArray),([] : List cA),([] : List bD),0⟩ : aI),([] : List Int),0⟩ : aV),3)
 else
 ((atI v8.1.Train 0).bind fun v9 =>
 ((atI v8.1.Train 1).bind fun v10 =>
 ((jL (⟨p0,(⟨[(⟨(⟨#[99,101,110,116,101,114]⟩ : ByteArray),[v9.Driver,12]⟩ : dH),(⟨(⟨#[116,104,105,114,100]⟩ : ByteArray),[v9.Driven,v10.Driver]⟩ : dH),(⟨(⟨#[101,115,99,97,112,101]⟩ : ByteArray),[v10.Driven]⟩ : dH),(⟨(⟨#[109,105,110,117,116,101]⟩ : ByteArray),[36,10]⟩ : dH),(⟨(⟨#[104,111,117,114]⟩ : ByteArray),[40]⟩ : dH)],[(⟨0,0,1,0⟩ : cY),(⟨1,1,2,0⟩ : cY),(⟨0,1,3,0⟩ : cY),(⟨3,1,4,0⟩ : cY)]⟩ : bJ),0,4,2,p2,p1,p3,v6.1,2⟩ : aV)).bind fun v11 =>
 some (v11,0)))))))))))))))))
def kC (p0 : aV) (p1 : Int) : Option (aA × Int) :=
 ((gF p0).bind fun v1 =>
 (if (!v1) = true then
 some ((⟨0,0⟩ : aA),1)
 else
 ((mM p0.Works p0.Minute).bind fun v2 =>
 (if v2.2 ≠ 0 then
 some ((⟨0,0⟩ : aA),6)
 else
 ((kG p0.Works p1).bind fun v3 =>
 (if (!v3) = true then
 some ((⟨0,0⟩ : aA),2)
 else
 ((atI v2.1 p1).bind fun v4 =>
 some (v4,0))))))))
def pH (p0 : Int) (p1 : Int) : Option Int :=
 (chk (p1 ≠ 0) (
 (((chk (p1 ≠ 0) (
 (if (p0.tmod p1) < 0 then
 some (w64 ((w64 (p0.tdiv p1)) - 1))
 else
 some (w64 (p0.tdiv p1))))) : Option Int).bind fun v3 =>
 some v3)))
def lE (p0 : aA) : Option Int :=
 ((dV p0).bind fun v1 =>
 (if (!v1) = true then
 some 0
 else
 ((pH p0.Num p0.Den).bind fun v2 =>
 some v2)))
def kB (p0 : aV) (p1 : Int) (p2 : Int) : Option (aA × Int) :=
 ((kC p0 p1).bind fun v1 =>
 (if v1.2 ≠ 0 then
 some ((⟨0,0⟩ : aA),v1.2)
 else
 ((dO p2 0 1000000000).bind fun v2 =>
 (if (!v2) = true then
 some ((⟨0,0⟩ : aA),2)
 else
 ((dX p2 3600).bind fun v3 =>
 (if v3.2 ≠ 0 then
 some ((⟨0,0⟩ : aA),v3.2)
 else
 ((gA v1.1 v3.1).bind fun v4 =>
 (if v4.2 ≠ 0 then
 some ((⟨0,0⟩ : aA),v4.2)
 else
 ((lE v4.1).bind fun v5 =>
 ((kD v4.1 (⟨v5,1⟩ : aA)).bind fun v6 =>
 some (v6.1,v6.2)))))))))))
def pE (p0 : aA) (p1 : aA) : Option (aA × Int) :=
 ((((dV p0).bind fun v1 =>
 (if (!v1) = true then
 some true
 else
 ((dV p1).bind fun v2 =>
 some (!v2)))) : Option Bool).bind fun v3 =>
 (if v3 = true then
 some ((⟨0,0⟩ : aA),1)
 else
 ((dX (w64 (p0.Num * p1.Den)) (w64 (p0.Den * p1.Num))).bind fun v4 =>
 some (v4.1,v4.2))))
def mL (p0 : aV) (p1 : Int) : Option (aA × Int) :=
 ((kC p0 p1).bind fun v1 =>
 (if v1.2 ≠ 0 then
 some ((⟨0,0⟩ : aA),v1.2)
 else
 ((tG v1.1.Num).bind fun v2 =>
 ((pE (⟨1,1⟩ : aA) (⟨v2,v1.1.Den⟩ : aA)).bind fun v3 =>
 some (v3.1,v3.2)))))
def gG (p0 : aV) : Option Bool :=
 ((vD p0).bind fun v1 =>
 some v1)
def oI (p0 : aA) (p1 : Bool) : Option (aA × Int) :=
 (if (!p1) = true then
 some ((⟨0,0⟩ : aA),2)
 else
 some (p0,0))
def gC (p0 : aA) (p1 : aA) : Option (aA × Int) :=
 ((((lM p0).bind fun v1 =>
 (if (!v1) = true then
 some true
 else
 ((lM p1).bind fun v2 =>
 some (!v2)))) : Option Bool).bind fun v3 =>
 (if v3 = true then
 some ((⟨0,0⟩ : aA),1)
 else
 ((hH p0 p1).bind fun v4 =>
 ((oI v4.1 v4.2).bind fun v5 =>
 some (v5.1,v5.2)))))
def mT (p0 : aA) (p1 : aA) : Option (aA × Int) :=
 ((((lM p0).bind fun v1 =>
 (if (!v1) = true then
 some true
 else
 ((lM p1).bind fun v2 =>
 some (!v2)))) : Option Bool).bind fun v3 =>
 (if v3 = true then
 some ((⟨0,0⟩ : aA),1)
 else
 ((oK p1).bind fun v4 =>
 ((oH p0 v4).bind fun v5 =>
 ((oI v5.1 v5.2).bind fun v6 =>
 some (v6.1,v6.2))))))
def qM (p0 : aA) : Option aA :=
 (((if p0.Num < 0 then
 some (⟨w64 (-p0.Num),p0.Den⟩ : aA)
 else
 some p0) : Option aA).bind fun v1 =>
 some v1)
def pJ (p0 : List Int) (p1 : List Int) : Option Bool :=
 ((vJ p0 p1).bind fun v1 =>
 (if v1 = true then
 some true
 else
 ((lL p0).bind fun v2 =>
 ((hJ (⟨#[99,108,111,99,107]⟩ : ByteArray) v2.Beats v2.Teeth v2.Calendar 1).bind fun v3 =>
 (if v3.2 ≠ 0 then
 some (decide (v3.2 = 3))
 else
 ((xM p1 0 256).bind fun v4 =>
 ((kB v3.1 v3.1.Minute (w64 (997 * v4))).bind fun v5 =>
 ((kB v3.1 v3.1.Hour (w64 (997 * v4))).bind fun v6 =>
 ((kC v3.1 v3.1.Escape).bind fun v7 =>
 ((mL v3.1 v3.1.Escape).bind fun v8 =>
 ((((fR v3.1).bind fun v9 =>
 (if (v9.length : Int) ≠ 0 then
 some true
 else
 ((gG v3.1).bind fun v10 =>
 (if (!v10) = true then
 some true
 else
 (if v5.2 ≠ 0 then
 some true
 else
 (if v6.2 ≠ 0 then
 some true
 else
 (if v7.2 ≠ 0 then
 some true
 else
 some (decide (v8.2 ≠ 0))))))))) : Option Bool).bind fun v11 =>
 (if v11 = true then
 some false
 else
 ((gC v6.1 (⟨12,1⟩ : aA)).bind fun v12 =>
 ((mT v12.1 v5.1).bind fun v13 =>
 ((qM v7.1).bind fun v14 =>
 ((gC v14 (⟨w64 (2 * v2.Teeth),1⟩ : aA)).bind fun v15 =>
 ((qM v7.1).bind fun v16 =>
 ((gC v16 v8.1).bind fun v17 =>
 (((if v12.2 ≠ 0 then
 some true
 else
 (if v13.2 ≠ 0 then
 some true
 else
 (if v15.2 ≠ 0 then
 some true
 else
 some (decide (v17.2 ≠ 0))))) : Option Bool).bind fun v18 =>
 (if v18 = true then
 some false
 else
 (if v13.1.Den = 1 then
 (if v15.1 = (⟨v2.Beats,1⟩ : aA) then
 some (decide (v17.1 = (⟨1,1⟩ : aA)))
 else
 some false)
 else
 some false)))))))))))))))))))))
end Go.Proofs.YtgcdbbidmfdonaaGreat
namespace Go.Proofs.YtgcdbbidmfdonaaGreat
open Go.RowKit
set_option linter.unusedVariables false
set_option maxRecDepth 100000
abbrev dI (x : Int) : AV := .d (.v (.int .i64 x))
abbrev z0 : AV := dI 0
abbrev dB (x : Bool) : AV := .d (.v (.bool x))
abbrev dS (x : ByteArray) : AV := .d (.v (.string x))
abbrev dL {α : Type} (c : α → List DV) (x : List α) : AV := .d (.sl (List.map c x))
abbrev zl : AV := .d (.v (.slice none 0 0))
abbrev ze : AV := .d (.v (.string (⟨#[]⟩ : ByteArray)))
section
variable {P : Program} {T : Tab} {L N : Nat} {ops : Array Oper} {E : Env} {K : List (Nat × Cls) → AS → Prop} {i : Nat} {is : List Nat} {t : Nat → AV} {h h' : dW} {d : Tmp} {dst : Option Tmp} {op : Op} {ty : TypeId} {pos : String} {aft : Array Edge} {g : Option (Nat × Bool)} {Q : qP → AS → Prop} {σ : AS} {c : Code} {x y : Operand}
theorem wa (k : Nat) (et : TypeId) (esz kb j : Nat) {bt : TypeId} {sz : Nat} {cells cells' : List AV} (H : AW L P N c Q ⟨t,upd (upd h k (.live [⟨et,esz, .data []⟩])) kb (.live [⟨bt,sz, .av [cells']⟩])⟩) (hk : h k = .no := by exact rfl) (hb : h kb = .live [⟨bt,sz, .av [cells]⟩] := by exact rfl) (hj : cells[j]? = some (.d (.v (.slice none 0 0))) := by exact rfl) (hs : Spl j [.own k 0 0] cells cells' := by repeat (first | exact Spl.z _ | apply Spl.t | apply Spl.d)) : AW L P N c Q ⟨t,h⟩ := cM (sW k hk et esz hb hj hs) H
theorem fi (N : Nat) (hT : TOk P T) {f : FuncId} {fn : Func} {body : Code} {hin hout : List fO} {as : List AV} {r : AV} (hf : P.funcs[f]? = some fn) (hw : AW 3 P N body (aU3 T N fn hin.length hout r) ⟨aO7 as 0,lks hin⟩) (hb : fn.body = some body := by exact rfl) (hN : fn.ntmps = N := by exact rfl) (hc : aK1 P f = true := by kernel_rfl) (hl : Nat.ble as.length N = true := by exact rfl) (hm : Nat.ble hin.length 3 = true := by exact rfl) : FnC P f hin as hout r := aMn hT hf hb hN hc hl hm hw
theorem bst (hT : TOk P T) {bt bt' : TypeId} {kk j sz : Nat} {c1 : AV} {cells cs cells' : List AV} {ti : TI} (k : RA L P N ops is Q ⟨t,upd h kk (.live [⟨bt',sz, .av [cells']⟩])⟩) (ho : ops[i]? = some ⟨none, .store bt x y,ty,pos,aft,none⟩ := by exact rfl) (hx : evA N ⟨t,h⟩ x = .ptr kk 0 1 0 j := by exact rfl) (hy : uG (evA N ⟨t,h⟩ y) = c1 :: cs := by exact rfl) (hk1 : okL (c1 :: cs) = true := by exact rfl) (h1 : T bt = some ti := by exact rfl)
  (hl : Nat.beq (c1 :: cs).length ti.size = true := by exact rfl) (hpos : Nat.blt 0 ti.size = true := by exact rfl) (hk : h kk = .live [⟨bt',sz, .av [cells]⟩] := by exact rfl) (hs : Spl j (c1 :: cs) cells cells' := by repeat (first | exact Spl.z _ | apply Spl.t | apply Spl.d)) : RA L P N ops (i :: is) Q ⟨t,h⟩ := rw0 ho w0 (kY hT hx hy hk1 h1 hl hpos hk hs) k
theorem bs1 (hT : TOk P T) {bt bt' : TypeId} {kk j sz : Nat} {c1 : DV} {cells cells' : List AV} {ti : TI} (k : RA L P N ops is Q ⟨t,upd h kk (.live [⟨bt',sz, .av [cells']⟩])⟩) (ho : ops[i]? = some ⟨none, .store bt x y,ty,pos,aft,none⟩ := by exact rfl) (hx : evA N ⟨t,h⟩ x = .ptr kk 0 1 0 j := by exact rfl) (hy : uG (evA N ⟨t,h⟩ y) = [.d c1] := by exact rfl) (hk1 : okL [.d c1] = true := by exact rfl) (h1 : T bt = some ti := by exact rfl)
  (hl : Nat.beq [AV.d c1].length ti.size = true := by exact rfl) (hpos : Nat.blt 0 ti.size = true := by exact rfl) (hk : h kk = .live [⟨bt',sz, .av [cells]⟩] := by exact rfl) (hs : Spl j [.d c1] cells cells' := by repeat (first | exact Spl.z _ | apply Spl.t | apply Spl.d)) : RA L P N ops (i :: is) Q ⟨t,h⟩ := rw0 ho w0 (kY hT hx hy hk1 h1 hl hpos hk hs) k
theorem al (k : Nat) (cs : List AV) (hT : TOk P T) {bt : TypeId} {ti : TI} (H : RA L P N ops is Q ⟨aB t d (.ptr k 0 1 0 0),upd h k (.live [⟨bt,cs.length, .av [cs]⟩])⟩) (ho : ops[i]? = some ⟨some d, .alloc bt,ty,pos,aft,none⟩ := by exact rfl) (hd : Nat.blt d N = true := by exact rfl) (h1 : T bt = some ti := by exact rfl) (hc : zH ti.zero.cells.toList = cs := by exact rfl) (hk : h k = .no := by exact rfl) : RA L P N ops (i :: is) Q ⟨t,h⟩ := rs ho w0 hd (nV k hT h1 hc hk) H
theorem bxx (k : Nat) {bt : TypeId} {c1 : AV} {cs : List AV} (H : RA L P N ops is Q ⟨aB t d (.ptr k 0 1 0 0),upd h k (.live [⟨bt,(c1 :: cs).length, .av [c1 :: cs]⟩])⟩) (ho : ops[i]? = some ⟨some d, .box bt x,ty,pos,aft,none⟩ := by exact rfl) (hd : Nat.blt d N = true := by exact rfl) (hc : uG (evA N ⟨t,h⟩ x) = c1 :: cs := by exact rfl) (hk1 : okL (c1 :: cs) = true := by exact rfl) (hk : h k = .no := by exact rfl) : RA L P N ops (i :: is) Q ⟨t,h⟩ := rs ho w0 hd (aT5 k hc hk1 hk) H
theorem tfa (hT : TOk P T) {s bt : TypeId} {q kk e sz : Nat} {cells : List AV} {ti fj : TI} {fs : Array Field} {fld : Field} (H : RT P N ops is (fun l σ' => K ((i, .lk kk) :: l) σ') ⟨aB t d (.ptr kk 0 1 0 (e + fld.offset)),h⟩) (ho : ops[i]? = some ⟨some d, .fieldAddr s x q,ty,pos,aft,none⟩ := by exact rfl) (hd : Nat.blt d N = true := by exact rfl) (hx : evA N ⟨t,h⟩ x = .ptr kk 0 1 0 e := by exact rfl) (h1 : T s = some ti := by exact rfl) (h2 : ti.desc = .struct fs := by exact rfl) (h3 : fs[q]? = some fld := by exact rfl) (h4 : T fld.type = some fj := by exact rfl) (h5 : Nat.beq fj.size 0 = false := by exact rfl) (hk : h kk = .live [⟨bt,sz, .av [cells]⟩] := by exact rfl) : RT P N ops (i :: is) K ⟨t,h⟩ := dG ho w0 hd (aEb hT hx h1 h2 h3 h4 h5 hk) rfl (by rw [hx]; rfl) (by simp only [Op.operands,List.all_cons,List.all_nil,hx]; simp [AV.key]) H
theorem tld (hT : TOk P T) {lt bt : TypeId} {kk e sz : Nat} {cells : List AV} {c0 : AV} {ti : TI} (H : RT P N ops is (fun l σ' => K ((i, .lk kk) :: l) σ') ⟨aB t d c0,h⟩) (ho : ops[i]? = some ⟨some d, .load lt x,ty,pos,aft,none⟩ := by exact rfl) (hd : Nat.blt d N = true := by exact rfl) (hx : evA N ⟨t,h⟩ x = .ptr kk 0 1 0 e := by exact rfl) (h1 : T lt = some ti := by exact rfl) (h2 : sK ti.desc = false := by exact rfl) (hk : h kk = .live [⟨bt,sz, .av [cells]⟩] := by exact rfl) (hc : cells[e]? = some c0 := by exact rfl) : RT P N ops (i :: is) K ⟨t,h⟩ := dG ho w0 hd (xB hT hx h1 h2 hk hc) rfl (by rw [hx]; rfl) (by simp only [Op.operands,List.all_cons,List.all_nil,hx]; simp [AV.key]) H
theorem r0t {fn : Func} (i : Nat) {as : List AV} {r : AV} (hrs : fn.results.toList = [.tmp i])
  (R : nA T N ⟨t,h⟩ [.tmp i] as := by repeat (first | exact nA.nil | apply nA.tmp (a := .d _) rfl | apply nA.tmp (a := .own _ _ _) rfl | apply nA.tmp (a := .agg _) rfl | apply nA.tmp (a := .ref _) rfl | apply nA.tmp (a := .fn _ _) rfl | apply nA.tmp (a := .ptr _ _ _ _ _) rfl | apply nA.cell1 rfl rfl rfl rfl (by first | rfl) (by first | rfl) rfl | apply nA.cellN rfl rfl rfl rfl (by first | rfl) (by first | rfl) (by repeat (first | exact Seg.z _ | apply Seg.t | apply Seg.d))))
  (hB : Abv h 300 := by repeat (first | exact lW _ | exact lV rfl | refine lX ?_ rfl)) (e : aO0 as = r := by rfl) (hf : r.free = true := by rfl) : aA5 T N fn 0 [] r ⟨t,h⟩ := aWf 300 hrs R hB hf e
theorem rP {r : AV} (ho : (ops[i]?,Nat.blt d N) = (some ⟨some d,op,ty,pos,aft,none⟩,true)) (hp : eR P N ⟨some d,op,ty,pos,aft,none⟩ ⟨t,h⟩ r) (k : RA L P N ops is Q ⟨aB t d r,h⟩) : RA L P N ops (i :: is) Q ⟨t,h⟩ := rp (Prod.mk.inj ho).1 w0 (Prod.mk.inj ho).2 hp k
theorem rL {r : AV} (ho : (ops[i]?,Nat.blt d N) = (some ⟨some d,op,ty,pos,aft,none⟩,true)) (hp : kW P N ⟨some d,op,ty,pos,aft,none⟩ ⟨t,h⟩ r) (k : RA L P N ops is Q ⟨aB t d r,h⟩) : RA L P N ops (i :: is) Q ⟨t,h⟩ := rl (Prod.mk.inj ho).1 w0 (Prod.mk.inj ho).2 hp k
theorem rS {r : AV} (ho : (ops[i]?,Nat.blt d N) = (some ⟨some d,op,ty,pos,aft,none⟩,true)) (hp : dJ P N ⟨some d,op,ty,pos,aft,none⟩ ⟨t,h⟩ r h' ∧ ∀ k,h k ≠ .no → h' k = h k) (k : RA L P N ops is Q ⟨aB t d r,h'⟩) : RA L P N ops (i :: is) Q ⟨t,h⟩ := rs (Prod.mk.inj ho).1 w0 (Prod.mk.inj ho).2 hp k
theorem tP {r : AV} (ho : (ops[i]?,Nat.blt d N) = (some ⟨some d,op,ty,pos,aft,none⟩,true)) (hp : eR P N ⟨some d,op,ty,pos,aft,none⟩ ⟨t,h⟩ r) (k : RT P N ops is (fun l σ' => K ((i, .pu) :: l) σ') ⟨aB t d r,h⟩) : RT P N ops (i :: is) K ⟨t,h⟩ := rQ (Prod.mk.inj ho).1 w0 (Prod.mk.inj ho).2 hp k
end
end Go.Proofs.YtgcdbbidmfdonaaGreat
namespace Go.Proofs.YtgcdbbidmfdonaaGreat
open Go.RowKit
set_option linter.unusedVariables false
set_option maxRecDepth 100000
theorem aNj {α : Type} {c : α → List DV} {xs : List α} {w : World} {F : Nat → Prop} {μ : cF} {h : dW} {v : Value} (r : eQ w F μ h v (aIi c xs)) : eQ w F μ h v (.d (.sl (List.map c xs))) := by
 cases xs with
 | nil => exact aJ9 r
 | cons x xs => exact r
section
variable {P : Program} {T : Tab} {L N : Nat} {t : Nat → AV} {h : dW} {d : Tmp} {dst : Option Tmp} {ty : TypeId} {pos : String} {aft : Array Edge} {g : Option (Nat × Bool)} {x y : Operand}
theorem aJf {d : Nat} {a : AV} (k : ∀ w F μ v,eQ w F μ h v (t d) → eQ w F μ h v a) : lO L N ⟨t,h⟩ ⟨aB t d a,h⟩ := by
 rintro E a' w ⟨F, μ,A⟩
 refine ⟨F, μ,A.H,A.df,A.sz,fun d' hd' => ?_,A.lim⟩
 by_cases e : d' = d
 ·subst e
  have h1 := A.tm d' hd'
  dsimp only at h1 ⊢
  rw [fX]
  exact k _ _ _ _ h1
 ·dsimp only; rw [kK _ _ e]
  exact A.tm d' hd'
theorem aOu {α : Type} (c : α → List DV) {d : Nat} {xs : List α} (hd : t d = aIi c xs) : lO L N ⟨t,h⟩ ⟨aB t d (.d (.sl (List.map c xs))),h⟩ := aJf fun w F μ v r => by rw [hd] at r; exact aNj r
theorem aSu {α : Type} (c : α → List DV) {d : Nat} {xs : List α} (hd : t d = .d (.sl (List.map c xs))) (hx : xs ≠ []) : lO L N ⟨t,h⟩ ⟨aB t d (aIi c xs),h⟩ := aJf fun w F μ v r => by
 rw [hd] at r
 cases xs with
 | nil => exact absurd rfl hx
 | cons x xs => exact r
theorem aSt {α : Type} (c : α → List DV) {d : Nat} (hd : t d = .d (.v (.slice none 0 0))) : lO L N ⟨t,h⟩ ⟨aB t d (aIi c []),h⟩ := aJf fun w F μ v r => by rw [hd] at r; exact r
theorem aIt {α : Type} {c : α → List DV} {xs : List α} [DecidableEq α] (hT : TOk P T) {xt e : TypeId} {ti : TI} {yt : TypeId} (hx : evA N ⟨t,h⟩ x = aIi c xs) (h1 : T xt = some ti) (h2 : ti.desc = .slice e) (hy : evA N ⟨t,h⟩ y = .d (.v (.slice none 0 0))) :
  eR P N ⟨some d, .binOp .eql xt x y yt,ty,pos,aft,g⟩ ⟨t,h⟩ (.d (.v (.bool (decide (xs = []))))) := by
 cases xs with
 | nil => exact kO hT hx h1 h2 hy
 | cons a xs =>
  have := rE (P := P) (d := d) (ty := ty) (pos := pos) (aft := aft) (g := g) (yt := yt) hT (xt := xt) (es := List.map c (a :: xs)) hx (by simp) h1 h2 hy
  simpa using this
end
end Go.Proofs.YtgcdbbidmfdonaaGreat
namespace Go.Proofs.YtgcdbbidmfdonaaGreat
open Go.RowKit
set_option linter.unusedVariables false
set_option maxRecDepth 100000
theorem aKm {P : Program} {T K E : TypeId} (hu : P.underlying T = some (.map K E)) (hK : P.underlying K = some (.int .i64)) {w : World} (hz : (zeroValue E).run P w = .ok (.slice none 0 0) w) {b clock : Nat} {es : Array MapEntry} (hb : w.heap[b]? = some (.map es clock)) {k : Int} {v : Value} (h : aUe es k v) :
  (Instr.lookup T (.map (some b)) (.int .i64 k) false).run P w = .ok v w := by
 have hc : ∀ e,(Instr.checkKey e 10000 K (.int .i64 k)).run P w = .ok () w := fun e => MapKept.run_checkKey hK (by simp [MapKept.IsKey]) e 9999
 rcases h with ⟨i,h⟩ | ⟨h,rfl⟩
 ·have h2 := MapKept.run_findKey (w := w) (kt := K) hK h
  simp [Instr.lookup,run_underlying hu,MapKept.run_getObj_map hb,hc,h2,Result.andThen]
 ·have h2 := MapKept.run_findKey (w := w) (kt := K) hK h
  simp [Instr.lookup,run_underlying hu,MapKept.run_getObj_map hb,hc,h2,hz,Result.andThen]
section
variable {P : Program} {T : Tab} {L N : Nat} {ops : Array Oper} {E : Env} {K : List (Nat × Cls) → AS → Prop} {i : Nat} {is : List Nat} {t : Nat → AV} {h h' : dW} {d : Tmp} {dst : Option Tmp} {op : Op} {ty : TypeId} {pos : String} {aft : Array Edge} {g : Option (Nat × Bool)} {Q : qP → AS → Prop} {σ : AS} {c : Code} {x y : Operand}
theorem aSb {mt kt et : TypeId} {f : Int → List (List Int)} {k : Int} {ti ki : TI} (hT : TOk P T) (h1 : T mt = some ti) (h2 : ti.desc = .map kt et) (h3 : T kt = some ki) (h4 : ki.desc = .int .i64) (hz : ∀ w : World,(zeroValue et).run P w = .ok (.slice none 0 0) w)
  (hx : evA N ⟨t,h⟩ x = .d (.mp f)) (hy : evA N ⟨t,h⟩ y = .d (.v (.int .i64 k))) (hk : -9223372036854775808 ≤ k ∧ k ≤ 9223372036854775807) : eR P N ⟨some d, .lookup mt x y false,ty,pos,aft,g⟩ ⟨t,h⟩ (.d (.sl (aTx (f k)))) := fun w F μ hh ρ st => by
 have hr := st x (by simp [Op.operands])
 have e2 := mE (by have := st y (by simp [Op.operands]); rw [hy] at this; exact this)
 rw [hx] at hr
 have hu := (hT _ _ h1).1
 rw [h2] at hu
 have hu2 := (hT _ _ h3).1
 rw [h4] at hu2
 generalize hv : ρ x = v at hr
 cases hr with | d _ _ hd =>
 cases hd with | mp b clock es f gg hF hb hkk hr =>
 exact ⟨gg k,by simp [execOp,hv,e2,aKm hu hu2 (hz w) hb (hkk k hk.1 hk.2),Result.andThen], .d _ _ (hr k hk.1 hk.2)⟩
theorem aNo {mt kt et : TypeId} {f : Int → List (List Int)} {k : Int} {ti ki ei : TI} (hT : TOk P T) (h1 : T mt = some ti) (h2 : ti.desc = .map kt et) (h3 : T kt = some ki) (h4 : ki.desc = .int .i64) (h5 : T et = some ei) (h6 : ei.zero = .slice none 0 0)
  (hx : evA N ⟨t,h⟩ x = .d (.mp f)) (hy : evA N ⟨t,h⟩ y = .d (.v (.int .i64 k))) (hk : -9223372036854775808 ≤ k ∧ k ≤ 9223372036854775807) : eR P N ⟨some d, .lookup mt x y false,ty,pos,aft,g⟩ ⟨t,h⟩ (.d (.sl (List.map (cL cI) (f k)))) :=
 aSb hT h1 h2 h3 h4 (fun w => by rw [← h6]; exact aKn hT h5 w) hx hy hk
end
end Go.Proofs.YtgcdbbidmfdonaaGreat
namespace Go.Proofs.YtgcdbbidmfdonaaGreat
open Go.RowKit Go.Maps Go.ChangeMaps Go.MapKept Go.WideElems
set_option linter.unusedVariables false
set_option maxRecDepth 100000
def InK (k : Int) : Prop := -9223372036854775808 ≤ k ∧ k ≤ 9223372036854775807
def rvV (v : Value) : Option (DataW Value × List MemPlace) := some (.held v,[])
theorem aQ2 {k : Int} (h : InK k) : (Lit.int .i64 k).wf = true := WalkArith.wf_i64 (by unfold InK at h; omega)
section
variable {P : Program} {T K E : TypeId} {w : World} {b n : Nat} {val : Int → Value}
def AtV (P : Program) (K : TypeId) (w : World) (b n : Nat) (val : Int → Value) : Prop := ∃ D : DataW Value,w.ownsMap P K rvV b n D ∧ ∀ k,InK k → D.atKey (.int .i64 k) (.held (.slice none 0 0)) = .held (val k)
theorem AtV.lt (h : AtV P K w b n val) : b < w.heap.size := let ⟨_,h,_⟩ := h; h.lt
theorem aPa (w : World) : AtV P K (w.alloc (.map #[] 0)) w.heap.size 0 (fun _ => .slice none 0 0) := ⟨_,World.ownsMap_made w P K rvV,fun k _ => rfl⟩
theorem AtV.same (h : AtV P K w b n val) {w' : World} (hg : w'.heap[b]? = w.heap[b]?) : AtV P K w' b n val := by
 obtain ⟨D,⟨es,clock,h1,h2⟩,h3⟩ := h
 exact ⟨D,⟨es,clock,hg.trans h1,h2⟩,h3⟩
theorem AtV.look (h : AtV P K w b n val) (ht : P.underlying T = some (.map K E)) (hK : P.underlying K = some (.int .i64)) (hz : (zeroValue E).run P w = .ok (.slice none 0 0) w) {k : Int} (hk : InK k) : (Instr.lookup T (.map (some b)) (.int .i64 k) false).run P w = .ok (val k) w := by
 obtain ⟨D,h,h2⟩ := h
 obtain ⟨v,ps,hr,hv⟩ := h.lookup (int_keyed hK) ht hz (zd := .held (.slice none 0 0)) (zp := []) rfl (keyOf_int_mk hK (aQ2 hk))
 rw [h2 k hk] at hv
 simp only [rvV,Option.some.injEq,Prod.mk.injEq,DataW.held.injEq] at hv
 rw [hr,hv.1]
theorem AtV.put (h : AtV P K w b n val) (ht : P.underlying T = some (.map K E)) (hK : P.underlying K = some (.int .i64)) (hn : n < maxLen) {k : Int} (hk : InK k) (v : Value) :
  ∃ w',(Instr.mapUpdate T (.map (some b)) (.int .i64 k) v).run P w = .ok () w' ∧ AtV P K w' b (n + 1) (fun k' => if k' = k then v else val k') ∧ w.grownBy w' (some b) := by
 obtain ⟨D,h,h2⟩ := h
 obtain ⟨w',hr,ho,hg⟩ := h.update (int_keyed hK) ht hn (keyOf_int_mk hK (aQ2 hk)) (val := v) (d := .held v) (ps := []) rfl
 have hm : IsMap D := let ⟨_,_,_,_,_,e⟩ := h; ⟨_,e⟩
 refine ⟨w',hr,⟨_,ho,fun k' hk' => ?_⟩,hg⟩
 dsimp only
 by_cases e : k' = k
 ·subst e
  rw [if_pos rfl,atKey_put_same (k := .int .i64 k') hm (show WideAt.IsKeyLit (.int .i64 k') from trivial)]
 ·rw [if_neg e,atKey_put_other (fun q => e (by simpa using q)),h2 k' hk']
theorem AtV.key (h : AtV P K w b n val) (ht : P.underlying T = some (.map K E)) (hK : P.underlying K = some (.int .i64)) (hz : (zeroValue E).run P w = .ok (.slice none 0 0) w) : ∃ clock es,w.heap[b]? = some (.map es clock) ∧ ∀ k,InK k → aUe es k (val k) := by
 have h0 := h
 obtain ⟨D,⟨es,clock,hb,F,_,_⟩,_⟩ := h
 refine ⟨clock,es,hb,fun k hk => ?_⟩
 have hrun := h0.look ht hK hz hk
 have hks : ∀ y ∈ es.toList,IsKey (.int .i64) y.key := fun y hy => by
  obtain ⟨z,hy⟩ := F.reads y hy
  have hkk := rd_key hy
  simp only [keyOf,hK,mapKey] at hkk
  cases hyk : y.key <;> rw [hyk] at hkk <;> simp at hkk
  exact hkk.1.1
 have : ∃ v,aUe es k v := by
  rcases findNow_spec (d := .int .i64) (k := .int .i64 k) (by simp [IsKey]) es.toList 0 hks with ⟨h1,_⟩ | ⟨j,e0,h1,_⟩
  ·exact ⟨_, .inr ⟨h1,rfl⟩⟩
  ·exact ⟨_, .inl ⟨_,h1⟩⟩
 obtain ⟨v,hv⟩ := this
 have h1 := aKm ht hK hz hb hv
 rw [hrun] at h1
 cases h1
 exact hv
end
end Go.Proofs.YtgcdbbidmfdonaaGreat
namespace Go.Proofs.YtgcdbbidmfdonaaGreat
open Go.RowKit
set_option linter.unusedVariables false
set_option maxRecDepth 100000
section
variable {w w' wr w2 w3 w4 : World} {base b : Nat} {e e' : TypeId} {s s' n n' : Nat} {v vc v1 v8 v2 x : Value} {xs xs' vals : List Value} {l r : List Int} {rows : List (List Int)} {tI tS : TypeId}
theorem fS (h : w.ownsRow base e s v n xs) (hb : ∀ g,v.ownBlock = some g → w'.heap[g]? = w.heap[g]?) : w'.ownsRow base e s v n xs := by
 refine ⟨h.1,?_⟩
 rcases h.2 with q | ⟨g,cap,cur,rfl,q1,q2,q3⟩
 ·exact .inl q
 ·exact .inr ⟨g,cap,cur,rfl,q1,(hb g rfl).trans q2,q3⟩
theorem mR (h : w.ownsRow base e s v n xs) (hb : b ≤ base) : w.ownsRow b e s v n xs := by
 refine ⟨h.1,?_⟩
 rcases h.2 with q | ⟨g,cap,cur,rfl,q1,q2⟩
 ·exact .inl q
 ·exact .inr ⟨g,cap,cur,rfl,Nat.le_trans hb q1,q2⟩
def aUg (tI : TypeId) (w : World) (base : Nat) (v : Value) (l : List Int) : Prop := w.ownsRow base tI 1 v l.length (l.map (Value.int .i64))
def yQ (tI tS : TypeId) (w : World) (base : Nat) (v : Value) (rows : List (List Int)) (vals : List Value) : Prop := w.ownsRow base tS 1 v rows.length vals ∧ ∀ (i : Nat) x r,vals[i]? = some x → rows[i]? = some r → aUg tI w base x r ∧ (x.ownBlock = none ∨ x.ownBlock ≠ v.ownBlock) ∧ (r = [] → x = .slice none 0 0)
def wV (tI tS : TypeId) (w : World) (base : Nat) (v : Value) (rows : List (List Int)) : Prop := ∃ vals,yQ tI tS w base v rows vals
theorem wV.nil : wV tI tS w base (.slice none 0 0) [] := ⟨[],World.ownsRow_nil _ _ _ _,fun i x r h => by simp at h⟩
theorem yQ.of (h : yQ tI tS w base v rows vals) (hb : ∀ g,g < w.heap.size → base ≤ g → w'.heap[g]? = w.heap[g]?) : yQ tI tS w' base v rows vals := by
 refine ⟨fS h.1 fun g hg => hb g (h.1.lt g hg).2 (h.1.lt g hg).1,fun i x r h1 h2 => ?_⟩
 obtain ⟨q1,q2⟩ := h.2 i x r h1 h2
 exact ⟨fS q1 fun g hg => hb g (q1.lt g hg).2 (q1.lt g hg).1,q2⟩
theorem wV.of (h : wV tI tS w base v rows) (hb : ∀ g,g < w.heap.size → base ≤ g → w'.heap[g]? = w.heap[g]?) : wV tI tS w' base v rows := let ⟨vals,h⟩ := h; ⟨vals,h.of hb⟩
theorem wV.below (h : wV tI tS w base v rows) (hb : Below w.heap.size w w') : wV tI tS w' base v rows := h.of fun g h1 _ => hb.block g h1
theorem wV.base_ (h : wV tI tS w base v rows) (hb : b ≤ base) : wV tI tS w b v rows := by
 obtain ⟨vals,h1,h2⟩ := h
 refine ⟨vals,mR h1 hb,fun i x r q1 q2 => ⟨mR (h2 i x r q1 q2).1 hb,(h2 i x r q1 q2).2⟩⟩
theorem yQ.len (h : yQ tI tS w base v rows vals) : vals.length = rows.length := by have := h.1.1; omega
theorem aWc {o : Obj} (hb2 : Below wr.heap.size wr w2) (hvc : w2.ownsRow wr.heap.size e' s' vc n' xs') (hg : (w2.alloc o).grownBy w3 vc.ownBlock) {g : Nat} (hlt : g < wr.heap.size) : w3.heap[g]? = wr.heap[g]? := by
 have h2 := hb2.size
 rw [hg.block g (by simp; omega) fun e => by have := (hvc.lt g e.symm).1; omega]
 rw [Below.heap_alloc w2 o g (by omega)]
 exact hb2.block g hlt
theorem aWd {o : Obj} {B : Nat} (h : wr.ownsRow base e s v n xs) (hb2 : Below wr.heap.size wr w2) (hvc : w2.ownsRow wr.heap.size e' s' vc n' xs') (hg : (w2.alloc o).grownBy w3 vc.ownBlock) : w3.ownsRow base e s v n xs := fS h fun g hg' => aWc hb2 hvc hg (h.lt g hg').2
theorem aTu {o o' : Obj} {t : Int} {wj : World} (hj : base = wj.heap.size) (hnx : Below base wj wr) (hbase : base ≤ wr.heap.size) (hv : yQ tI tS wr base v8 rows vals)
  (hb2 : Below wr.heap.size wr w2) (hvc : w2.ownsRow wr.heap.size tI 1 vc l.length (l.map (Value.int .i64))) (hg1 : (w2.alloc o).grownBy w3 vc.ownBlock) (ho1 : w3.ownsRow wr.heap.size tI 1 v1 (l.length + 1) (l.map (Value.int .i64) ++ [.int .i64 t]))
  (hg2 : (w3.alloc o').grownBy w4 v8.ownBlock) (ho2 : w4.ownsRow base tS 1 v2 (rows.length + 1) (vals ++ [v1])) (hloc : v2.ownBlock = v8.ownBlock ∨ v2.ownBlock = some (w3.alloc o').heap.size) :
  wV tI tS w4 base v2 (rows ++ [l ++ [t]]) ∧ Below base wj w4 ∧ base ≤ w4.heap.size := by
 have z2 := hb2.size
 have z3 := hg1.size
 have z4 := hg2.size
 have za : ∀ (w : World) (o : Obj),(w.alloc o).heap.size = w.heap.size + 1 := fun w o => by simp
 rw [za] at z3 z4
 have old : ∀ g,g < wr.heap.size → v8.ownBlock ≠ some g → w4.heap[g]? = wr.heap[g]? := fun g hlt hne => by
  rw [hg2.block g (by simp; omega) fun e => hne e.symm,Below.heap_alloc w3 o' g (by omega)]
  exact aWc hb2 hvc hg1 hlt
 have new1 : ∀ g,v1.ownBlock = some g → w4.heap[g]? = w3.heap[g]? := fun g hg => by
  have := ho1.lt g hg
  rw [hg2.block g (by simp; omega) fun e => by have := (hv.1.lt g e.symm).2; omega,Below.heap_alloc w3 o' g (by omega)]
 refine ⟨⟨vals ++ [v1],by simpa using ho2,fun i x r h1 h2 => ?_⟩,⟨?_,?_,?_,?_,?_⟩,by omega⟩
 ·have hl := hv.len
  by_cases hi : i < rows.length
  ·rw [List.getElem?_append_left (by omega)] at h1
   rw [List.getElem?_append_left hi] at h2
   obtain ⟨q1,q2,q3⟩ := hv.2 i x r h1 h2
   refine ⟨fS q1 fun g hg => old g (q1.lt g hg).2 fun e => ?_,?_,q3⟩
   ·rcases q2 with q2 | q2
    ·rw [q2] at hg; cases hg
    ·exact q2 (hg.trans e.symm)
   ·rcases hloc with hloc | hloc
    ·rw [hloc]; exact q2
    ·cases hx : x.ownBlock with
     | none => exact .inl rfl
     | some g =>
      right
      rw [hloc]
      intro e
      have := (q1.lt g hx).2
      cases e
      simp at this; omega
  ·rw [List.getElem?_append_right (by omega)] at h1
   rw [List.getElem?_append_right (by omega)] at h2
   have hi0 : i = rows.length := by
    have := (List.getElem?_eq_some_iff.1 h2).1
    simp at this; omega
   subst hi0
   simp [hl] at h1 h2
   subst h1 h2
   have q1 : aUg tI w3 base v1 (l ++ [t]) := by
    unfold aUg
    have := mR ho1 hbase
    simpa using this
   refine ⟨fS q1 new1,?_,fun e => by simp at e⟩
   cases hx : v1.ownBlock with
   | none => exact .inl rfl
   | some g =>
    right
    have h3 := ho1.lt g hx
    rcases hloc with hloc | hloc
    ·rw [hloc]
     intro e
     have := (hv.1.lt g e.symm).2
     omega
    ·rw [hloc]
     intro e
     cases e
     have := h3.2
     rw [za] at this
     omega
 ·rw [hg2.os,show (w3.alloc o').os = w3.os from rfl,hg1.os,show (w2.alloc o).os = w2.os from rfl,hb2.os]; exact hnx.os
 ·rw [hg2.tape,show (w3.alloc o').tape = w3.tape from rfl,hg1.tape,show (w2.alloc o).tape = w2.tape from rfl,hb2.tape]; exact hnx.tape
 ·rw [hg2.output,show (w3.alloc o').output = w3.output from rfl,hg1.output,show (w2.alloc o).output = w2.output from rfl,hb2.output]; exact hnx.output
 ·have := hnx.size; omega
 ·intro g hg
  rw [old g (by omega) fun e => by have := (hv.1.lt g e).1; omega]
  exact hnx.block g hg
end
end Go.Proofs.YtgcdbbidmfdonaaGreat
namespace Go.Proofs.YtgcdbbidmfdonaaGreat
open Go.RowKit
set_option linter.unusedVariables false
set_option maxRecDepth 100000
def oR (ls : List (List Int)) (vals : List Value) (p : Int) : List Value := ((ls.zip vals).filter fun q => decide (cU q.1 = p)).map (·.2)
theorem aDz (ls : List (List Int)) (l : List Int) : gW (ls ++ [l]) = if cU l ∈ gW ls then gW ls else gW ls ++ [cU l] := by
 unfold gW
 rw [List.foldl_append]; rfl
theorem aLx {ls : List (List Int)} {vals : List Value} (h : ls.length = vals.length) (l : List Int) (x : Value) (p : Int) : oR (ls ++ [l]) (vals ++ [x]) p = oR ls vals p ++ if cU l = p then [x] else [] := by
 unfold oR
 rw [List.zip_append h,List.filter_append,List.map_append]
 by_cases e : cU l = p <;> simp [e]
theorem aOd {p : Int} : ∀ (ls : List (List Int)) (acc : List Int),p ∈ ls.foldl (fun acc l => if cU l ∈ acc then acc else acc ++ [cU l]) acc ↔ p ∈ acc ∨ ∃ l ∈ ls,cU l = p
 | [],acc => by simp
 | l :: ls,acc => by
  rw [List.foldl_cons,aOd ls]
  split
  ·rename_i hm
   constructor
   ·rintro (h | ⟨l',h1,h2⟩)
    ·exact .inl h
    ·exact .inr ⟨l',List.mem_cons_of_mem _ h1,h2⟩
   ·rintro (h | ⟨l',h1,h2⟩)
    ·exact .inl h
    ·rcases List.mem_cons.1 h1 with rfl | h1
     ·exact .inl (h2 ▸ hm)
     ·exact .inr ⟨l',h1,h2⟩
  ·constructor
   ·rintro (h | ⟨l',h1,h2⟩)
    ·rcases List.mem_append.1 h with h | h
     ·exact .inl h
     ·exact .inr ⟨l,List.mem_cons_self ..,(List.mem_singleton.1 h).symm⟩
    ·exact .inr ⟨l',List.mem_cons_of_mem _ h1,h2⟩
   ·rintro (h | ⟨l',h1,h2⟩)
    ·exact .inl (List.mem_append_left _ h)
    ·rcases List.mem_cons.1 h1 with rfl | h1
     ·exact .inl (by rw [h2]; simp)
     ·exact .inr ⟨l',h1,h2⟩
theorem aHl {p : Int} {ls : List (List Int)} : p ∈ gW ls ↔ ∃ l ∈ ls,cU l = p := by
 unfold gW
 rw [aOd]
 simp
theorem aHu {p : Int} {ls : List (List Int)} {vals : List Value} (h : ls.length = vals.length) : oR ls vals p = [] ↔ p ∉ gW ls := by
 rw [aHl]
 unfold oR
 rw [List.map_eq_nil_iff,List.filter_eq_nil_iff]
 constructor
 ·rintro h2 ⟨l,hl,hp⟩
  obtain ⟨i,hi,rfl⟩ := List.getElem_of_mem hl
  have := h2 (ls[i],vals[i]) (by
   rw [List.mem_iff_getElem]
   exact ⟨i,by simp; omega,by simp⟩)
  simp [hp] at this
 ·rintro h2 ⟨l,x⟩ hq
  have := (List.of_mem_zip hq).1
  simp only [decide_eq_true_eq]
  exact fun e => h2 ⟨l,this,e⟩
section
variable {P : Program} {K tI tS T : TypeId} {ls : List (List Int)} {vals : List Value} {wB wr w5 w7 w8 : World} {B kp k n : Nat} {vP vP' v' x : Value} {val : Int → Value} {p : Int} {l : List Int}
structure aFw (P : Program) (K tI tS T : TypeId) (ls : List (List Int)) (vals : List Value) (wB : World) (B kp k : Nat) (vP : Value) (val : Int → Value) (wr : World) : Prop where
 bel : Below B wB wr
 sz : B + 2 ≤ wr.heap.size
 cel : wr.heap[B + 1]? = some (.cells #[vP, .map (some B)] T (0,0))
 prd : wr.ownsRow (B + 2) tI 1 vP (gW (ls.take kp)).length ((gW (ls.take kp)).map (Value.int .i64))
 map : AtV P K wr B k val
 row : ∀ p,wr.ownsRow (B + 2) tS 1 (val p) (oR (ls.take k) (vals.take k) p).length (oR (ls.take k) (vals.take k) p)
 nil : ∀ p,oR (ls.take k) (vals.take k) p = [] → val p = .slice none 0 0
 sep : ∀ p q,p ≠ q → (val p).ownBlock = none ∨ (val p).ownBlock ≠ (val q).ownBlock
 sepP : ∀ p,(val p).ownBlock = none ∨ (val p).ownBlock ≠ vP.ownBlock
theorem aFw.c0 (h : aFw P K tI tS T ls vals wB B kp k vP val wr) : wr.cell? ⟨B + 1,0,none⟩ = some vP := by simp [World.cell?,h.cel]
theorem aFw.c1 (h : aFw P K tI tS T ls vals wB B kp k vP val wr) : wr.cell? ⟨B + 1,1,none⟩ = some (.map (some B)) := by simp [World.cell?,h.cel]
theorem aFw.f0 (h : aFw P K tI tS T ls vals wB B kp k vP val wr) : wr.frozen? ⟨B + 1,0,none⟩ = false := by simp [World.frozen?,h.cel]
theorem aFw.seen (h : aFw P K tI tS T ls vals wB B k k vP val wr) (hk : k < ls.length) (hl : ls[k]? = some l) (hs : cU l ∈ gW (ls.take k)) : aFw P K tI tS T ls vals wB B (k + 1) k vP val wr := by
 have he : ls[k] = l := by rw [List.getElem?_eq_getElem hk] at hl; exact Option.some.inj hl
 have e : gW (ls.take (k + 1)) = gW (ls.take k) := by rw [List.take_succ_eq_append_getElem hk,he,aDz,if_pos hs]
 exact ⟨h.bel,h.sz,h.cel,by rw [e]; exact h.prd,h.map,h.row,h.nil,h.sep,h.sepP⟩
theorem aFw.fresh {o : Obj} (h : aFw P K tI tS T ls vals wB B k k vP val wr) (hk : k < ls.length) (hl : ls[k]? = some l) (hs : cU l ∉ gW (ls.take k)) (ho : w5.ownsRow (B + 2) tI 1 vP' ((gW (ls.take k)).length + 1) ((gW (ls.take k)).map (Value.int .i64) ++ [.int .i64 (cU l)]))
  (hg : (wr.alloc o).grownBy w5 vP.ownBlock) (hloc : vP'.ownBlock = vP.ownBlock ∨ vP'.ownBlock = some (wr.alloc o).heap.size) (hw : w8.heap = w5.heap.setIfInBounds (B + 1) (.cells #[vP', .map (some B)] T (0,0))) (hos : w8.os = w5.os) (htape : w8.tape = w5.tape) (hout : w8.output = w5.output) :
  aFw P K tI tS T ls vals wB B (k + 1) k vP' val w8 := by
 have he : ls[k] = l := by rw [List.getElem?_eq_getElem hk] at hl; exact Option.some.inj hl
 have e : gW (ls.take (k + 1)) = gW (ls.take k) ++ [cU l] := by rw [List.take_succ_eq_append_getElem hk,he,aDz,if_neg hs]
 have za : (wr.alloc o).heap.size = wr.heap.size + 1 := by simp
 have z5 := hg.size
 rw [za] at z5
 have hsz := h.sz
 have old : ∀ g,g < wr.heap.size → g ≠ B + 1 → vP.ownBlock ≠ some g → w8.heap[g]? = wr.heap[g]? := fun g h1 h2 h3 => by
  rw [hw,Array.getElem?_setIfInBounds_ne (by omega),hg.block g (by omega) fun e => h3 e.symm,Below.heap_alloc wr o g h1]
 have oldP : ∀ g,vP.ownBlock = some g → B + 2 ≤ g ∧ g < wr.heap.size := fun g hg => h.prd.lt g hg
 refine ⟨⟨?_,?_,?_,?_,fun g hgB => ?_⟩,?_,?_,?_,?_,fun p => ?_,h.nil,h.sep,fun p => ?_⟩
 ·rw [hos,hg.os]; exact h.bel.os
 ·rw [htape,hg.tape]; exact h.bel.tape
 ·rw [hout,hg.output]; exact h.bel.output
 ·rw [hw,Array.size_setIfInBounds]; have := h.bel.size; omega
 ·rw [old g (by omega) (by omega) fun e => by have := (oldP g e).1; omega]; exact h.bel.block g hgB
 ·rw [hw,Array.size_setIfInBounds]; omega
 ·rw [hw,Array.getElem?_setIfInBounds_self_of_lt (by omega)]
 ·rw [e]
  have : w8.ownsRow (B + 2) tI 1 vP' ((gW (ls.take k)).length + 1) ((gW (ls.take k)).map (Value.int .i64) ++ [.int .i64 (cU l)]) := fS ho fun g hg' => by
   have := (ho.lt g hg').1
   rw [hw,Array.getElem?_setIfInBounds_ne (by omega)]
  simpa using this
 ·exact h.map.same (old B h.map.lt (by omega) fun e => by have := (oldP B e).1; omega)
 ·refine fS (h.row p) fun g hg' => ?_
  have h1 := (h.row p).lt g hg'
  exact old g h1.2 (by omega) fun e => by
   rcases h.sepP p with q | q
   ·rw [q] at hg'; cases hg'
   ·exact q (hg'.trans e.symm)
 ·rcases hloc with q | q
  ·rw [q]; exact h.sepP p
  ·cases hv : (val p).ownBlock with
   | none => exact .inl rfl
   | some g =>
    right
    rw [q]
    intro e
    have := ((h.row p).lt g hv).2
    cases e
    rw [za] at this
    omega
theorem aFw.join {o : Obj} (h : aFw P K tI tS T ls vals wB B kp k vP val wr) (hk : k < ls.length) (hl : ls[k]? = some l) (hx : vals[k]? = some x) (hlen : ls.length = vals.length) (ho : w7.ownsRow (B + 2) tS 1 v' ((oR (ls.take k) (vals.take k) (cU l)).length + 1) (oR (ls.take k) (vals.take k) (cU l) ++ [x]))
  (hg : (wr.alloc o).grownBy w7 (val (cU l)).ownBlock) (hloc : v'.ownBlock = (val (cU l)).ownBlock ∨ v'.ownBlock = some (wr.alloc o).heap.size) (hm : AtV P K w8 B (k + 1) (fun q => if q = cU l then v' else val q)) (hg8 : w7.grownBy w8 (some B)) :
  aFw P K tI tS T ls vals wB B kp (k + 1) vP (fun q => if q = cU l then v' else val q) w8 := by
 have hkv : k < vals.length := by omega
 have he : ls[k] = l := by rw [List.getElem?_eq_getElem hk] at hl; exact Option.some.inj hl
 have hxe : vals[k] = x := by rw [List.getElem?_eq_getElem hkv] at hx; exact Option.some.inj hx
 have ev : ∀ p,oR (ls.take (k + 1)) (vals.take (k + 1)) p = oR (ls.take k) (vals.take k) p ++ if cU l = p then [x] else [] := fun p => by
  rw [List.take_succ_eq_append_getElem hk,List.take_succ_eq_append_getElem hkv,he,hxe,aLx (by simp; omega)]
 have za : (wr.alloc o).heap.size = wr.heap.size + 1 := by simp
 have z7 := hg.size
 have z8 := hg8.size
 rw [za] at z7
 have hsz := h.sz
 have hrl := fun g hg => (h.row (cU l)).lt g hg
 have old : ∀ g,g < wr.heap.size → g ≠ B → (val (cU l)).ownBlock ≠ some g → w8.heap[g]? = wr.heap[g]? := fun g h1 h2 h3 => by
  rw [hg8.block g (by omega) (by simpa using h2),hg.block g (by omega) fun e => h3 e.symm,Below.heap_alloc wr o g h1]
 have hv' : w8.ownsRow (B + 2) tS 1 v' ((oR (ls.take k) (vals.take k) (cU l)).length + 1) (oR (ls.take k) (vals.take k) (cU l) ++ [x]) := fS ho fun g hg' => by
  have := ho.lt g hg'
  exact hg8.block g this.2 (by simp; omega)
 have hne : ∀ q,q ≠ cU l → (val q).ownBlock = none ∨ (val q).ownBlock ≠ v'.ownBlock := fun q hq => by
  rcases hloc with e | e
  ·rw [e]; exact h.sep q _ hq
  ·cases hv : (val q).ownBlock with
   | none => exact .inl rfl
   | some g =>
    right
    rw [e]
    intro e
    have := ((h.row q).lt g hv).2
    cases e
    rw [za] at this
    omega
 refine ⟨⟨?_,?_,?_,?_,fun g hgB => ?_⟩,?_,?_,?_,hm,fun p => ?_,fun p hp => ?_,fun p q hpq => ?_,fun p => ?_⟩
 ·rw [hg8.os,hg.os]; exact h.bel.os
 ·rw [hg8.tape,hg.tape]; exact h.bel.tape
 ·rw [hg8.output,hg.output]; exact h.bel.output
 ·have := h.bel.size; omega
 ·rw [old g (by omega) (by omega) fun e => by have := (hrl g e).1; omega]; exact h.bel.block g hgB
 ·omega
 ·rw [old (B + 1) (by omega) (by omega) fun e => by have := (hrl _ e).1; omega]; exact h.cel
 ·refine fS h.prd fun g hg' => ?_
  have h1 := h.prd.lt g hg'
  exact old g h1.2 (by omega) fun e => by
   rcases h.sepP (cU l) with q | q
   ·rw [q] at e; cases e
   ·exact q (e.trans hg'.symm)
 ·try dsimp only
  rw [ev p]
  by_cases e : p = cU l
  ·subst e
   rw [if_pos rfl,if_pos rfl]
   simpa using hv'
  ·rw [if_neg e,if_neg fun q => e q.symm,List.append_nil]
   refine fS (h.row p) fun g hg' => ?_
   have h1 := (h.row p).lt g hg'
   exact old g h1.2 (by omega) fun e2 => by
    rcases h.sep p (cU l) e with q | q
    ·rw [q] at hg'; cases hg'
    ·exact q (hg'.trans e2.symm)
 ·try dsimp only
  rw [ev p] at hp
  by_cases e : p = cU l
  ·subst e; simp at hp
  ·rw [if_neg e]
   exact h.nil p (by simpa [fun q => e (Eq.symm q)] using (List.append_eq_nil_iff.1 hp).1)
 ·try dsimp only
  by_cases e1 : p = cU l
  ·rw [if_pos e1,if_neg fun q2 => hpq (e1.trans q2.symm)]
   have hq : q ≠ cU l := fun q2 => hpq (e1.trans q2.symm)
   rcases hne q hq with h1 | h1
   ·cases hv : v'.ownBlock with
    | none => exact .inl rfl
    | some g => right; rw [h1]; simp
   ·exact .inr fun e => h1 e.symm
  ·rw [if_neg e1]
   by_cases e2 : q = cU l
   ·rw [if_pos e2]; exact hne p e1
   ·rw [if_neg e2]; exact h.sep p q hpq
 ·try dsimp only
  by_cases e1 : p = cU l
  ·rw [if_pos e1]
   rcases hloc with q | q
   ·rw [q]; exact h.sepP _
   ·right
    rw [q]
    intro e
    have := (h.prd.lt _ e.symm).2
    rw [za] at this
    omega
  ·rw [if_neg e1]; exact h.sepP p
end
end Go.Proofs.YtgcdbbidmfdonaaGreat
namespace Go.Proofs.YtgcdbbidmfdonaaGreat
set_option linter.unusedVariables false
theorem sZ {α : Type} {xs : List α} {i : Int} (h0 : 0 ≤ i) (h1 : i < xs.length) : ∃ e,atI xs i = some e ∧ e ∈ xs ∧ xs[i.toNat]? = some e := by
 have hl : i.toNat < xs.length := by omega
 refine ⟨xs[i.toNat],?_,List.getElem_mem hl,List.getElem?_eq_getElem hl⟩
 unfold atI; rw [if_pos h0]; exact List.getElem?_eq_getElem hl
theorem aJo {α : Type} {k : Option α} : chk True k = k := if_pos trivial
theorem aMl {X : Type} {n : Nat} {g : Nat → Bool} {d : X} {e : Nat → X} {step : Int → Option (Int ⊕ X)} (hS : ∀ i : Nat,i < n → step (i : Int) = some (if g i = true then .inl ((i : Int) + 1) else .inr (e i))) (hE : step (n : Int) = some (.inr d)) (hn : n ≤ 9223372036854775807) :
  ∃ x,cK step 0 = some x ∧ (((∀ j,j < n → g j = true) ∧ x = d) ∨ ∃ i,i < n ∧ g i = false ∧ (∀ j,j < i → g j = true) ∧ x = e i) := by
 refine xQ (fun (s : Int) => 0 ≤ s ∧ s ≤ n ∧ ∀ j : Nat,(j : Int) < s → g j = true) (fun (s : Int) => ((n : Int) - s).toNat) _ (fun s hI => ?_) 0 ⟨by omega,by omega,fun j hj => by omega⟩ (by omega)
 obtain ⟨q0,q1,q2⟩ := hI
 obtain ⟨i,rfl⟩ : ∃ i : Nat,s = i := ⟨s.toNat,by omega⟩
 by_cases hs : i < n
 ·cases hg : g i
  ·right
   exact ⟨e i,by rw [hS i hs,hg]; rfl, .inr ⟨i,hs,hg,fun j hj => q2 j (by omega),rfl⟩⟩
  ·left
   refine ⟨(i : Int) + 1,by rw [hS i hs,hg]; rfl,⟨by omega,by omega,fun j hj => ?_⟩,by omega⟩
   rcases Nat.lt_or_ge j i with h | h
   ·exact q2 j (by omega)
   ·have : j = i := by omega
    rw [this]; exact hg
 ·right
  have : i = n := by omega
  subst this
  exact ⟨d,hE, .inl ⟨fun j hj => q2 j (by omega),rfl⟩⟩
theorem aI8 {X : Type} {n : Nat} {g : Nat → Bool} {d e : X} {step : Int → Option (Int ⊕ X)} (hS : ∀ i : Nat,i < n → step (i : Int) = some (if g i = true then .inl ((i : Int) + 1) else .inr e)) (hE : step (n : Int) = some (.inr d)) (hn : n ≤ 9223372036854775807) :
  cK step 0 = some (if (List.range n).all g = true then d else e) := by
 obtain ⟨x,hx,⟨h,rfl⟩ | ⟨i,hi,hg,_,rfl⟩⟩ := aMl (e := fun _ => e) hS hE hn
 ·rw [hx,if_pos (by simpa using h)]
 ·rw [hx,if_neg (by simp only [List.all_eq_true,List.mem_range]; intro h; rw [h i hi] at hg; cases hg)]
theorem dP {α : Type} {xs : List α} {i : Nat} (h : i < xs.length) : atI xs (i : Int) = some xs[i] := by rw [aRl]; exact List.getElem?_eq_getElem h
theorem aA6 {α : Type} {xs : List α} {f : α → Bool} {g : Nat → Bool} (h : ∀ (i : Nat) (hi : i < xs.length),g i = f xs[i]) : (List.range xs.length).all g = xs.all f := by
 rw [Bool.eq_iff_iff,List.all_eq_true,List.all_eq_true]
 constructor
 ·intro q v hv
  obtain ⟨i,hi,rfl⟩ := List.getElem_of_mem hv
  rw [← h i hi]; exact q i (List.mem_range.2 hi)
 ·intro q i hi
  have hi := List.mem_range.1 hi
  rw [h i hi]; exact q _ (List.getElem_mem hi)
theorem aQk {α X : Type} {xs : List α} {f : α → Bool} {d e : X} {step : Int → Option (Int ⊕ X)} (hS : ∀ (i : Nat) (hi : i < xs.length),step (i : Int) = some (if f xs[i] = true then .inl ((i : Int) + 1) else .inr e)) (hE : step (xs.length : Int) = some (.inr d)) (hn : xs.length ≤ 9223372036854775807) :
  cK step 0 = some (if xs.all f = true then d else e) := by
 rw [aI8 (n := xs.length) (d := d) (e := e) (g := fun i => if hi : i < xs.length then f xs[i] else true) (fun i hi => by rw [hS i hi]; simp [hi]) hE hn,aA6 (f := f) fun i hi => by simp [hi]]
theorem xA {α β : Type} {xs : List α} {f : α → List β} {c : Nat} {init : List β} {step : Int × List β → Option ((Int × List β) ⊕ List β)} (hc : ∀ v ∈ xs,(f v).length ≤ c) (hS : ∀ (i : Nat) (hi : i < xs.length) ys,ys.length ≤ init.length + c * i → step ((i : Int),ys) = some (.inl ((i : Int) + 1,ys ++ f xs[i]))) (hE : ∀ ys,step ((xs.length : Int),ys) = some (.inr ys)) (hn : xs.length ≤ 9223372036854775807) :
  cK step (0,init) = some (init ++ xs.flatMap f) := by
 refine aE1 (fun (s : Int × List β) => 0 ≤ s.1 ∧ s.1 ≤ xs.length ∧ s.2 = init ++ (xs.take s.1.toNat).flatMap f ∧ s.2.length ≤ init.length + c * s.1.toNat) (fun (s : Int × List β) => ((xs.length : Int) - s.1).toNat) (fun s hI => ?_) (by simp) (by simp; omega)
 obtain ⟨i,ys⟩ := s
 obtain ⟨q0,q1,q2,q3⟩ := hI
 dsimp only at q0 q1 q2 q3 ⊢
 obtain ⟨j,rfl⟩ : ∃ j : Nat,i = j := ⟨i.toNat,by omega⟩
 have e2 : ((j : Int)).toNat = j := by omega
 rw [e2] at q2 q3
 by_cases hs : j < xs.length
 ·left
  have e : ((j : Int) + 1).toNat = j + 1 := by omega
  refine ⟨_,hS j hs ys q3,⟨by dsimp only; omega,by dsimp only; omega,?_,?_⟩,by dsimp only; omega⟩
  ·dsimp only
   rw [e,q2,List.take_succ_eq_append_getElem hs,List.flatMap_append, ← List.append_assoc]; simp
  ·dsimp only
   rw [e,List.length_append,Nat.mul_add]
   have := hc xs[j] (List.getElem_mem hs)
   omega
 ·right
  have : j = xs.length := by omega
  subst this
  rw [hE ys,q2,List.take_length]
end Go.Proofs.YtgcdbbidmfdonaaGreat
namespace Go.Proofs.YtgcdbbidmfdonaaGreat
set_option linter.unusedVariables false
def btw (x a b : Int) : Bool := decide (a ≤ x ∧ x ≤ b)
theorem fV (x a b : Int) : dO x a b = some (btw x a b) := by unfold dO btw; split <;> simp_all <;> omega
theorem eJ (x a b : Int) : dU x a b = some (btw x a b) := by unfold dU btw; split <;> simp_all <;> omega
theorem aT6 {n d : Int} (hd : 1 ≤ d) (h : n.tmod d < 0) : n.tdiv d - 1 = n / d := by
 have h1 := Int.mul_tdiv_add_tmod n d
 have h2 : -d < n.tmod d := by
  have := Int.lt_tmod_of_pos n (show 0 < d by omega); omega
 have e : n = d * (n.tdiv d - 1) + (n.tmod d + d) := by rw [Int.mul_sub]; omega
 have := Int.ediv_emod_unique (a := n) (b := d) (r := n.tmod d + d) (q := n.tdiv d - 1) (by omega)
 exact (this.2 ⟨by omega,by omega,by omega⟩).1.symm
theorem aT8 {n d : Int} (hd : 1 ≤ d) (h : ¬ n.tmod d < 0) : n.tdiv d = n / d := by
 have h1 := Int.mul_tdiv_add_tmod n d
 have h2 : n.tmod d < d := Int.tmod_lt_of_pos n (by omega)
 have := Int.ediv_emod_unique (a := n) (b := d) (r := n.tmod d) (q := n.tdiv d) (by omega)
 exact (this.2 ⟨by omega,by omega,by omega⟩).1.symm
theorem aEj {n d : Int} (hd : 1 ≤ d) {L : Int} (hL : 0 ≤ L) (h0 : -L ≤ n) (h1 : n ≤ L) : -L ≤ n / d ∧ n / d ≤ L := by
 constructor
 ·rw [Int.le_ediv_iff_mul_le (by omega)]
  have : L * 1 ≤ L * d := Int.mul_le_mul_of_nonneg_left hd hL
  rw [Int.neg_mul]; omega
 ·refine Int.le_trans (Int.ediv_le_ediv (by omega) h1) ?_
  exact Int.ediv_le_self _ hL
theorem aSp {n d : Int} (hd : 1 ≤ d) {L : Int} (hL : 0 ≤ L) (h0 : -L ≤ n) (h1 : n ≤ L) : -L ≤ n.tdiv d ∧ n.tdiv d ≤ L := by
 rcases Int.le_total 0 n with h | h
 ·rw [aT7 h]; exact aEj hd hL h0 h1
 ·have := aEj (n := -n) hd hL (by omega) (by omega)
  have e : n.tdiv d = -((-n) / d) := by rw [← aT7 (by omega),Int.neg_tdiv,Int.neg_neg]
  rw [e]; omega
def aUx (n d : Int) : Int := (2 * n + d) / (2 * d)
structure aWi (r k n : Int) : Prop where
 p0 : 0 ≤ 2 * k * (n - 2 * k)
 p1 : 2 * k * (n - 2 * k) ≤ 64000000
 r0 : 0 ≤ r * 16 * (2 * k * (n - 2 * k))
 r1 : r * 16 * (2 * k * (n - 2 * k)) ≤ 102400000000000
 n0 : 1 ≤ 5 * n * n - 4 * (2 * k * (n - 2 * k))
 n1 : 5 * n * n ≤ 1280000000
theorem aEw {n d : Int} (hd : 1 ≤ d) (n0 : -4000000000000000000 ≤ n) (n1 : n ≤ 4000000000000000000) : pH n d = some (n / d) := by
 have b := aSp hd (L := 4000000000000000000) (by omega) n0 n1
 unfold pH
 rw [iN (by omega)]
 have w1 : w64 (n.tdiv d) = n.tdiv d := aS (by omega) (by omega)
 by_cases h : n.tmod d < 0
 ·have := aT6 hd h
  have e := aEj hd (L := 4000000000000000000) (by omega) n0 n1
  simp [h,w1,aJo,this,show d ≠ 0 by omega,aS (x := n / d) (by omega) (by omega)]
 ·have := aT8 hd h
  simp only [this] at w1 ⊢
  simp [h,w1,aJo,show d ≠ 0 by omega]
end Go.Proofs.YtgcdbbidmfdonaaGreat
namespace Go.Proofs.YtgcdbbidmfdonaaGreat
set_option linter.unusedVariables false
def smB (c : Int) : Bool := decide (97 ≤ c ∧ c ≤ 122)
def dgB (c : Int) : Bool := decide (48 ≤ c ∧ c ≤ 57)
def okB (c : Int) : Bool := smB c || (dgB c || decide (c = 45))
theorem aCk (s : ByteArray) (i : Int) : aFs s i = atI (eA s) i := by
 unfold aFs atI eA
 split
 ·rename_i h
  rw [List.getElem?_map]
  congr 1
  rw [Array.getElem?_toList]
  by_cases hi : i.toNat < s.size
  ·rw [getElem?_pos s i.toNat hi,getElem?_pos s.data i.toNat hi]; rfl
  ·rw [getElem?_neg s i.toNat hi,getElem?_neg s.data i.toNat hi]
 ·rfl
def kH (s : ByteArray) : Bool := decide (1 ≤ s.size ∧ s.size ≤ 12) && ((eA s).take 1).all smB && (eA s).all okB
theorem yG (c : Int) : mU c = some (smB c) := by unfold mU smB; split <;> simp_all <;> omega
theorem aFc (c : Int) : pM c = some (dgB c) := by unfold pM dgB; split <;> simp_all <;> omega
theorem aWg {s : ByteArray} : s = ⟨#[]⟩ ↔ s.size = 0 := by
 constructor
 ·rintro rfl; rfl
 ·intro h
  cases s with | mk d =>
  have : d = #[] := Array.eq_empty_of_size_eq_zero h
  rw [this]
theorem oF (s : ByteArray) : kR s = some (kH s) := by
 have hl := yU s
 unfold kR kH
 by_cases h0 : s = ⟨#[]⟩
 ·have := aWg.1 h0
  simp [h0]
  intro h; exact absurd h (by decide)
 ·have h1 : s.size ≠ 0 := fun h => h0 (aWg.2 h)
  rw [if_neg h0]
  by_cases h2 : 12 < (s.size : Int)
  ·rw [if_pos h2]
   simp
   intro a b; omega
  ·rw [if_neg h2]
   obtain ⟨c,cs,hc⟩ : ∃ c cs,eA s = c :: cs := by
    cases hb : eA s with
    | nil => rw [hb] at hl; simp at hl; omega
    | cons c cs => exact ⟨c,cs,rfl⟩
   have e0 : aFs s 0 = some c := by rw [aCk,hc]; rfl
   rw [e0]
   simp only [Option.bind_some,yG]
   have ht : ((eA s).take 1).all smB = smB c := by rw [hc]; simp
   have hd : decide (1 ≤ s.size ∧ s.size ≤ 12) = true := decide_eq_true ⟨by omega,by omega⟩
   rw [ht,hd]
   cases hs : smB c
   ·simp
   ·simp only [Bool.not_true,Bool.false_eq_true,if_false,Bool.true_and]
    have hz : (s.size : Int) = ((eA s).length : Int) := by rw [hl]
    rw [hz,aQk (xs := eA s) (f := okB) (d := .inl ()) (e := .inr false) (fun i hi => ?_) (by simp) (by omega)]
    ·cases (eA s).all okB <;> simp [orE]
    ·have hi' : (i : Int) < ((eA s).length : Int) := by omega
     have e1 : w64 ((i : Int) + 1) = i + 1 := aS (by omega) (by omega)
     rw [if_pos hi',aCk,dP hi]
     simp only [Option.bind_some,yG,aFc,e1,okB]
     generalize (eA s)[i] = c
     rcases Bool.eq_false_or_eq_true (smB c) with g1 | g1 <;> rcases Bool.eq_false_or_eq_true (dgB c) with g2 | g2 <;> by_cases h45 : c = 45 <;> simp [g1,g2,h45]
theorem tE (s : ByteArray) : kL s = some (kH s) := by
 have hl := yU s
 unfold kL kH
 by_cases h1 : (s.size : Int) < 1
 ·rw [if_pos h1]; simp
  intro a b; omega
 ·rw [if_neg h1]
  by_cases h2 : 12 < (s.size : Int)
  ·simp [h2]
   intro a b; omega
  ·have hd : decide (1 ≤ s.size ∧ s.size ≤ 12) = true := decide_eq_true ⟨by omega,by omega⟩
   simp only [h2,decide_false,Option.bind_some,Bool.false_eq_true,if_false,hd,Bool.true_and]
   rw [iN (by omega),aI8 (n := (eA s).length) (d := .inl ()) (e := .inr false) (g := fun i => smB ((eA s).getD i 0) || (decide (i ≠ 0) && (dgB ((eA s).getD i 0) || decide ((eA s).getD i 0 = 45)))) (fun i hi => ?_) (by simp) (by omega)]
   ·obtain ⟨c,cs,hc⟩ : ∃ c cs,eA s = c :: cs := by
     cases hb : eA s with
     | nil => rw [hb] at hl; simp at hl; omega
     | cons c cs => exact ⟨c,cs,rfl⟩
    have key : (List.range (eA s).length).all (fun i => smB ((eA s).getD i 0) || (decide (i ≠ 0) && (dgB ((eA s).getD i 0) || decide ((eA s).getD i 0 = 45)))) = (((eA s).take 1).all smB && (eA s).all okB) := by
     rw [hc]
     simp only [List.length_cons,List.range_succ_eq_map,List.all_cons,List.all_map,List.take_succ_cons,List.take_zero,List.all_nil,Bool.and_true]
     have : (List.range cs.length).all ((fun i => smB ((c :: cs).getD i 0) || (decide (i ≠ 0) && (dgB ((c :: cs).getD i 0) || decide ((c :: cs).getD i 0 = 45)))) ∘ Nat.succ) = cs.all okB := aA6 (f := okB) fun i hi => by simp [okB,hi]
     rw [this]
     simp [okB]
     cases smB c <;> simp
    rw [key]
    cases ((eA s).take 1).all smB && (eA s).all okB <;> simp [orE]
   ·have hi' : (i : Int) < ((eA s).length : Int) := by omega
    have e1 : w64 ((i : Int) + 1) = i + 1 := aS (by omega) (by omega)
    have e2 : (eA s).getD i 0 = (eA s)[i] := by simp [hi]
    rw [if_pos hi',dP hi,e2]
    simp only [Option.bind_some,e1]
    generalize (eA s)[i] = c
    have A : (if 97 ≤ c then some (decide (c ≤ 122)) else some false) = some (smB c) := by unfold smB; split <;> simp_all <;> omega
    have B : (if 48 ≤ c then (if c ≤ 57 then some true else some (decide (c = 45))) else some (decide (c = 45))) = some (dgB c || decide (c = 45)) := by
     unfold dgB
     split
     ·split <;> simp_all <;> omega
     ·simp_all; omega
    rw [A,B]
    simp only [Option.bind_some]
    have hz : ((i : Int) = 0) ↔ i = 0 := by omega
    cases smB c <;> cases (dgB c || decide (c = 45)) <;> by_cases h0 : i = 0 <;> simp [h0]
end Go.Proofs.YtgcdbbidmfdonaaGreat
namespace Go.Proofs.YtgcdbbidmfdonaaGreat
set_option linter.unusedVariables false
def aHz {α : Type} (xs : List α) (f : Nat → α → Bool) : Bool := (List.range xs.length).all fun i => if hi : i < xs.length then f i xs[i] else true
theorem wW {α : Type} {xs : List α} {f : Nat → α → Bool} : aHz xs f = true ↔ ∀ (i : Nat) (hi : i < xs.length),f i xs[i] = true := by
 unfold aHz
 rw [List.all_eq_true]
 constructor
 ·intro h i hi
  have := h i (List.mem_range.2 hi)
  rwa [dif_pos hi] at this
 ·intro h i hi
  have hi := List.mem_range.1 hi
  rw [dif_pos hi]
  exact h i hi
theorem qD {α : Type} {xs : List α} {f : α → Bool} : aHz xs (fun _ v => f v) = xs.all f := aA6 fun i hi => by simp [hi]
theorem wQ {α X : Type} {xs : List α} {G : Int → Option (Int ⊕ X)} (f : Nat → α → Bool) {d e : X} (hl : xs.length ≤ 9223372036854775807) (hG : ∀ (i : Nat) (hi : i < xs.length),G i = some (if f i xs[i] = true then .inl (w64 ((i : Int) + 1)) else .inr e)) :
  cK (fun s => (if s < (xs.length : Int) then G s else some (.inr d))) 0 = some (if aHz xs f = true then d else e) := by
 refine aI8 (n := xs.length) (g := fun i => if hi : i < xs.length then f i xs[i] else true) (fun i hi => ?_) (by simp) hl
 have hi' : (i : Int) < xs.length := by omega
 have e1 : w64 ((i : Int) + 1) = i + 1 := aS (by omega) (by omega)
 simp only [if_pos hi',hG i hi,hi,dite_true,e1]
theorem aTz {α X : Type} {xs : List α} {G : Int → Option (Int ⊕ X)} (k : Nat) (f : Nat → α → Bool) {d e : X} (hk : k ≤ xs.length) (hl : xs.length ≤ 9223372036854775807) (hG : ∀ (i : Nat) (hi : i < xs.length),i < k → G i = some (if f i xs[i] = true then .inl (w64 ((i : Int) + 1)) else .inr e)) :
  cK (fun s => (if s < (k : Int) then G s else some (.inr d))) 0 = some (if aHz (xs.take k) f = true then d else e) := by
 have hlen : (xs.take k).length = k := by rw [List.length_take]; omega
 have := wQ (xs := xs.take k) (G := G) f (d := d) (e := e) (by omega) (fun i hi => by
  rw [List.getElem_take]; exact hG i (by omega) (by omega))
 rwa [hlen] at this
def aIo {α : Type} (xs : List α) (p : α → Bool) : Int := match xs.findIdx? p with
 | some i => i
 | none => -1
theorem aPp {α : Type} {xs : List α} {G : Int → Option (Int ⊕ (Unit ⊕ Int))} (p : α → Bool) (hl : xs.length ≤ 9223372036854775807) (hG : ∀ (i : Nat) (hi : i < xs.length),G i = (if p xs[i] = true then some (.inr (.inr (i : Int))) else some (.inl (w64 ((i : Int) + 1))))) :
  ((cK (fun s => (if s < (xs.length : Int) then G s else some (.inr (.inl ())))) 0 : Option (Unit ⊕ Int)).bind fun x => orE x fun v => some (-1)) = some (aIo xs p) := by
 obtain ⟨x,hx,h⟩ := aMl (X := Unit ⊕ Int) (n := xs.length) (step := fun s => (if s < (xs.length : Int) then G s else some (.inr (.inl ())))) (g := fun i => if hi : i < xs.length then !p xs[i] else true) (d := .inl ()) (e := fun i => .inr (i : Int)) (fun i hi => by
  have hi' : (i : Int) < xs.length := by omega
  have e1 : w64 ((i : Int) + 1) = i + 1 := aS (by omega) (by omega)
  simp only [if_pos hi',hG i hi,hi,dite_true,e1]
  cases p xs[i] <;> rfl) (by simp) hl
 rw [hx]
 unfold aIo
 rcases h with ⟨h,rfl⟩ | ⟨i,hi,hg,hj,rfl⟩
 ·have : xs.findIdx? p = none := by
   rw [List.findIdx?_eq_none_iff]
   intro v hv
   obtain ⟨i,hi,rfl⟩ := List.getElem_of_mem hv
   have := h i hi
   simpa [hi] using this
  rw [this]; rfl
 ·have : xs.findIdx? p = some i := by
   rw [List.findIdx?_eq_some_iff_getElem]
   refine ⟨hi,by simpa [hi] using hg,fun j hji => ?_⟩
   have := hj j hji
   have hjl : j < xs.length := by omega
   simpa [hjl] using this
  rw [this]; rfl
theorem aE6 {α : Type} {xs : List α} {p : α → Bool} : decide (0 ≤ aIo xs p) = xs.any p := by
 unfold aIo
 cases h : xs.findIdx? p with
 | none =>
  rw [List.findIdx?_eq_none_iff] at h
  have e : xs.any p = false := by
   rw [← Bool.not_eq_true,List.any_eq_true]
   rintro ⟨v,hv,hp⟩
   rw [h v hv] at hp; cases hp
  rw [e]; rfl
 | some i =>
  rw [List.findIdx?_eq_some_iff_getElem] at h
  obtain ⟨hi,hp,_⟩ := h
  rw [List.any_eq_true.2 ⟨_,List.getElem_mem hi,hp⟩]
  exact decide_eq_true (by show (0 : Int) ≤ (i : Int); omega)
theorem aLi {α : Type} {xs : List α} {p : α → Bool} {i : Nat} (hi : i < xs.length) (hp : p xs[i] = true) : decide (aIo xs p ≠ (i : Int)) = (xs.take i).any p := by
 unfold aIo
 cases h : xs.findIdx? p with
 | none =>
  rw [List.findIdx?_eq_none_iff] at h
  rw [h _ (List.getElem_mem hi)] at hp; cases hp
 | some j =>
  rw [List.findIdx?_eq_some_iff_getElem] at h
  obtain ⟨hj,hpj,hmin⟩ := h
  by_cases e : j = i
  ·subst e
   have e2 : (xs.take j).any p = false := by
    rw [← Bool.not_eq_true,List.any_eq_true]
    rintro ⟨v,hv,hq⟩
    obtain ⟨k,hk,rfl⟩ := List.getElem_of_mem hv
    rw [List.length_take] at hk
    rw [List.getElem_take] at hq
    exact hmin k (by omega) hq
   rw [e2]
   exact decide_eq_false (by simp)
  ·have hlt : j < i := by
    rcases Nat.lt_trichotomy j i with h | h | h
    ·exact h
    ·exact absurd h e
    ·exact absurd hp (hmin i h)
   have e2 : (xs.take i).any p = true := List.any_eq_true.2 ⟨xs[j],by
    rw [List.mem_iff_getElem]
    exact ⟨j,by rw [List.length_take]; omega,by rw [List.getElem_take]⟩,hpj⟩
   rw [e2]
   exact decide_eq_true (by show (j : Int) ≠ (i : Int); omega)
theorem aOl {α : Type} {xs : List α} {i : Nat} : wU xs 0 (i : Int) = xs.take i := by simp [wU]
theorem aJd {α : Type} {xs : List α} {i : Nat} (h : i ≤ xs.length) : 0 ≤ (0 : Int) ∧ (0 : Int) ≤ (i : Int) ∧ (i : Int) ≤ (xs.length : Int) := by omega
def aLz {α σ X : Type} (body : Nat → α → σ → Option (σ ⊕ X)) : List α → Nat → σ → Option (σ ⊕ X)
 | [],_,s => some (.inl s)
 | x :: xs,i,s => (body i x s).bind fun r => match r with
  | .inl s' => aLz body xs (i + 1) s'
  | .inr y => some (.inr y)
theorem vL {S X : Type} (step : S → Option (S ⊕ X)) (n : Nat) (s : S) : wO step (n + 1) s = (step s).bind fun r => match r with
  | .inl s' => wO step n s'
  | .inr y => some y := by
 cases h : step s with
 | none => simp [wO,h]
 | some r => cases r <;> simp [wO,h]
theorem aE2 {α S σ X : Type} {xs : List α} {step : S → Option (S ⊕ X)} (mk : Int → σ → S) (body : Nat → α → σ → Option (σ ⊕ X)) (fin : σ → X) (hl : xs.length ≤ 9223372036854775807)
  (hS : ∀ (i : Nat) (hi : i < xs.length) s,step (mk i s) = (body i xs[i] s).map (Sum.map (mk ((i : Int) + 1)) id)) (hE : ∀ s,step (mk xs.length s) = some (.inr (fin s))) (s0 : σ) :
  cK step (mk 0 s0) = (aLz body xs 0 s0).map (Sum.elim fin id) := by
 have key : ∀ (k : Nat) (ys : List α) (n : Nat) s,ys.length + k = xs.length → ys = xs.drop k → ys.length < n → wO step n (mk (k : Int) s) = (aLz body ys k s).map (Sum.elim fin id) := by
  intro k ys
  induction ys generalizing k with
  | nil =>
   intro n s h1 h2 h3
   obtain ⟨n,rfl⟩ : ∃ m,n = m + 1 := ⟨n - 1,by simp at h3; omega⟩
   have : k = xs.length := by simpa using h1
   subst this
   rw [vL,hE]; rfl
  | cons y ys ih =>
   intro n s h1 h2 h3
   obtain ⟨n,rfl⟩ : ∃ m,n = m + 1 := ⟨n - 1,by simp at h3; omega⟩
   have hk : k < xs.length := by simp at h1; omega
   rw [List.drop_eq_getElem_cons hk] at h2
   injection h2 with h2 h4
   rw [vL,hS k hk, ← h2]
   show _ = ((body k y s).bind _).map _
   cases body k y s with
   | none => rfl
   | some r =>
    cases r with
    | inr z => rfl
    | inl s' => exact ih (k + 1) n s' (by simp at h1; omega) h4 (by simp at h3; omega)
 exact key 0 xs aDj s0 (by simp) (by simp) (by unfold aDj; omega)
theorem aBy {α S σ X : Type} {xs : List α} {step : S → Option (S ⊕ X)} (mk : Int → σ → S) (body : Nat → α → σ → Option (σ ⊕ X)) (fin : σ → X) (I : σ → Prop) (hl : xs.length ≤ 9223372036854775807)
  (hS : ∀ (i : Nat) (hi : i < xs.length) s,I s → step (mk i s) = (body i xs[i] s).map (Sum.map (mk ((i : Int) + 1)) id)) (hI : ∀ (i : Nat) (hi : i < xs.length) s s',I s → body i xs[i] s = some (.inl s') → I s') (hE : ∀ s,I s → step (mk xs.length s) = some (.inr (fin s))) (s0 : σ) (h0 : I s0) :
  cK step (mk 0 s0) = (aLz body xs 0 s0).map (Sum.elim fin id) := by
 have key : ∀ (k : Nat) (ys : List α) (n : Nat) s,I s → ys.length + k = xs.length → ys = xs.drop k → ys.length < n → wO step n (mk (k : Int) s) = (aLz body ys k s).map (Sum.elim fin id) := by
  intro k ys
  induction ys generalizing k with
  | nil =>
   intro n s hs h1 h2 h3
   obtain ⟨n,rfl⟩ : ∃ m,n = m + 1 := ⟨n - 1,by simp at h3; omega⟩
   have : k = xs.length := by simpa using h1
   subst this
   rw [vL,hE s hs]; rfl
  | cons y ys ih =>
   intro n s hs h1 h2 h3
   obtain ⟨n,rfl⟩ : ∃ m,n = m + 1 := ⟨n - 1,by simp at h3; omega⟩
   have hk : k < xs.length := by simp at h1; omega
   rw [List.drop_eq_getElem_cons hk] at h2
   injection h2 with h2 h4
   rw [vL,hS k hk s hs, ← h2]
   show _ = ((body k y s).bind _).map _
   cases hb : body k y s with
   | none => rfl
   | some r =>
    cases r with
    | inr z => rfl
    | inl s' => exact ih (k + 1) n s' (hI k hk s s' hs (by rw [← h2]; exact hb)) (by simp at h1; omega) h4 (by simp at h3; omega)
 exact key 0 xs aDj s0 h0 (by simp) (by simp) (by unfold aDj; omega)
theorem aBi {α σ X : Type} {body : Nat → α → σ → Option (σ ⊕ X)} (f : σ → α → σ) (h : ∀ i x s,body i x s = some (.inl (f s x))) : ∀ (xs : List α) (k : Nat) (s : σ),aLz body xs k s = some (.inl (xs.foldl f s))
 | [],k,s => rfl
 | x :: xs,k,s => by
  show (body k x s).bind _ = _
  rw [h]
  exact aBi f h xs (k + 1) (f s x)
theorem itA {a b : Bool} : (if a = true then some b else some false) = some (a && b) := by cases a <;> rfl
theorem itO {a b : Bool} : (if a = true then some true else some b) = some (a || b) := by cases a <;> rfl
theorem itF {a b : Bool} : (if a = true then some false else some b) = some (!a && b) := by cases a <;> rfl
theorem aWk {p : Prop} [Decidable p] {b : Bool} : (if p then some b else some false) = some (decide p && b) := by by_cases h : p <;> simp [h]
theorem aWl {p : Prop} [Decidable p] {b : Bool} : (if p then some true else some b) = some (decide p || b) := by by_cases h : p <;> simp [h]
theorem aKo {a b : Bool} {k : Option Bool} (h : k = some b) : (orE (if a = true then (.inl () : Unit ⊕ Bool) else .inr false) fun _ => k) = some (a && b) := by cases a <;> simp [orE,h]
end Go.Proofs.YtgcdbbidmfdonaaGreat
namespace Go.Proofs.YtgcdbbidmfdonaaGreat
set_option linter.unusedVariables false
def gU (t : Int) : Bool := btw t 6 240
theorem rV (t : Int) : iF t = some (gU t) := by unfold iF; rw [fV]; rfl
theorem kT (t : Int) : hZ t = some (gU t) := by unfold hZ; rw [eJ]; rfl
def aDc (a : dH) : Bool := a.Wheels.all gU && (kH a.Name && decide (a.Wheels.length ≤ 5))
theorem aBw {a : dH} (hl : a.Wheels.length ≤ 9223372036854775807) : lH a = some (aDc a) := by
 unfold lH aDc
 rw [wQ (fun _ v => gU v) hl fun i hi => by rw [dP hi,Option.bind_some,rV,Option.bind_some]; cases gU a.Wheels[i] <;> rfl,qD,Option.bind_some,tE]
 cases a.Wheels.all gU <;> cases kH a.Name <;> simp [orE]; omega
theorem aFe {a : dH} (hl : a.Wheels.length ≤ 9223372036854775807) : pS a = some (aDc a) := by
 unfold pS aDc
 rw [wQ (fun _ v => gU v) hl fun i hi => by rw [dP hi,Option.bind_some,kT,Option.bind_some]; cases gU a.Wheels[i] <;> rfl,qD,Option.bind_some,oF]
 cases a.Wheels.all gU <;> cases kH a.Name <;> simp [orE]; omega
def whB (w : bJ) (a k : Int) : Bool := decide (0 ≤ a ∧ a < w.Arbors.length) && match w.Arbors[a.toNat]? with
 | some b => decide (0 ≤ k ∧ k < b.Wheels.length)
 | none => false
theorem wF {α : Type} {l : List α} {a : Int} (hl : l.length ≤ 9223372036854775807) : btw a 0 (w64 ((l.length : Int) - 1)) = decide (0 ≤ a ∧ a < l.length) := by
 rw [aS (by omega) (by omega)]
 unfold btw
 rw [decide_eq_decide]; omega
theorem aD5 {w : bJ} {a k : Int} (hl : w.Arbors.length ≤ 9223372036854775807) (hw : ∀ b ∈ w.Arbors,b.Wheels.length ≤ 9223372036854775807) {f : dH → Option Bool} (hf : ∀ b ∈ w.Arbors,f b = some (decide (0 ≤ k ∧ k < b.Wheels.length))) :
  (if decide (0 ≤ a ∧ a < w.Arbors.length) = true then ((atI w.Arbors a).bind f) else some false) = some (whB w a k) := by
 unfold whB
 by_cases h : 0 ≤ a ∧ a < w.Arbors.length
 ·obtain ⟨e,he,hm,hg⟩ := sZ h.1 h.2
  rw [decide_eq_true h,if_pos rfl,he,Option.bind_some,hf e hm,hg]; rfl
 ·rw [decide_eq_false h]; rfl
theorem aEy {w : bJ} (hl : w.Arbors.length ≤ 9223372036854775807) (hw : ∀ b ∈ w.Arbors,b.Wheels.length ≤ 9223372036854775807) (a k : Int) : mN w a k = some (whB w a k) := by
 unfold mN
 rw [fV,Option.bind_some,wF hl]
 exact aD5 hl hw fun b hb => by rw [fV,Option.bind_some,wF (hw b hb)]
theorem aFh {w : bJ} (hl : w.Arbors.length ≤ 9223372036854775807) (hw : ∀ b ∈ w.Arbors,b.Wheels.length ≤ 9223372036854775807) (a k : Int) : mX w a k = some (whB w a k) := by
 unfold mX
 rw [eJ,Option.bind_some,wF hl]
 exact aD5 hl hw fun b hb => by rw [eJ,Option.bind_some,wF (hw b hb)]
def tM (w : bJ) (m : cY) : Bool := decide (m.A ≠ m.B) && (whB w m.A m.WheelA && whB w m.B m.WheelB)
theorem aK9 {w : bJ} (hl : w.Arbors.length ≤ 9223372036854775807) (hw : ∀ b ∈ w.Arbors,b.Wheels.length ≤ 9223372036854775807) (m : cY) : uP w m = some (tM w m) := by
 unfold uP tM
 simp only [aEy hl hw,Option.bind_some]
 by_cases h : m.A = m.B <;> cases whB w m.A m.WheelA <;> simp [h]
theorem aHf {w : bJ} (hl : w.Arbors.length ≤ 9223372036854775807) (hw : ∀ b ∈ w.Arbors,b.Wheels.length ≤ 9223372036854775807) (m : cY) : rJ w m = some (tM w m) := by
 unfold rJ tM
 simp only [aFh hl hw,Option.bind_some]
 by_cases h : m.A = m.B <;> cases whB w m.A m.WheelA <;> simp [h]
def rK (m n : cY) : Bool := decide (m = n ∨ m = ⟨n.B,n.WheelB,n.A,n.WheelA⟩)
theorem aLu (m n : cY) : rK m n = rK n m := by
 unfold rK
 rw [decide_eq_decide]
 obtain ⟨a,b,c,d⟩ := m
 obtain ⟨a',b',c',d'⟩ := n
 simp only [cY.mk.injEq]
 omega
theorem aEz (m n : cY) : pI m n = some (rK m n) := by
 unfold pI rK
 by_cases h : m = n
 ·simp [h]
 ·rw [if_neg h]; simp [h]
theorem aFf (m n : cY) : pU m n = some (rK m n) := by
 unfold pU rK
 by_cases h : m = n
 ·simp [h]
 ·rw [if_neg h]
  obtain ⟨a,b,c,d⟩ := m
  obtain ⟨a',b',c',d'⟩ := n
  have e : decide ((⟨a,b,c,d⟩ : cY) = ⟨a',b',c',d'⟩ ∨ (⟨a,b,c,d⟩ : cY) = ⟨c',d',a',b'⟩) = decide (a = c' ∧ b = d' ∧ c = a' ∧ d = b') := by
   rw [decide_eq_decide]
   simp only [h,false_or,cY.mk.injEq]
  dsimp only
  rw [e]
  by_cases h1 : a = c' <;> by_cases h2 : b = d' <;> by_cases h3 : c = a' <;> simp [h1,h2,h3]
def aCl (w : bJ) : Bool := decide (w.Arbors.length ≤ 16) && (decide (w.Meshes.length ≤ 24) && (aHz w.Arbors (fun i a => aDc a && !((w.Arbors.take i).any fun b => decide (b.Name = a.Name))) && aHz w.Meshes (fun i m => tM w m && !((w.Meshes.take i).any fun n => rK m n))))
theorem aCy {xs : List cY} {m : cY} (hl : xs.length ≤ 9223372036854775807) : bY xs m = some (xs.any fun n => rK m n) := by
 unfold bY cR
 rw [aPp (fun n => rK m n) hl fun i hi => by rw [dP hi,Option.bind_some,lR,aEz,Option.bind_some,Option.bind_some],Option.bind_some,aE6]
theorem uM {w : bJ} (hl : w.Arbors.length ≤ 9223372036854775807) (hw : ∀ b ∈ w.Arbors,b.Wheels.length ≤ 9223372036854775807) (hm : w.Meshes.length ≤ 9223372036854775807) : jP w = some (aCl w) := by
 unfold jP aCl
 by_cases h1 : w.Arbors.length ≤ 16
 ·by_cases h2 : w.Meshes.length ≤ 24
  ·rw [if_neg (by omega),Option.bind_some,decide_eq_false (by omega),if_neg (by decide),decide_eq_true h1,decide_eq_true h2,
    wQ (e := .inr false) (fun i a => aDc a && !((w.Arbors.take i).any fun b => decide (b.Name = a.Name))) hl fun i hi => ?_,Option.bind_some,
    wQ (e := .inr false) (fun i m => tM w m && !((w.Meshes.take i).any fun n => rK m n)) hm fun i hi => ?_,Option.bind_some]
   ·cases aHz w.Arbors (fun i a => aDc a && !((w.Arbors.take i).any fun b => decide (b.Name = a.Name))) <;> cases aHz w.Meshes (fun i m => tM w m && !((w.Meshes.take i).any fun n => rK m n)) <;> rfl
   ·rw [dP hi,Option.bind_some,aK9 hl hw,Option.bind_some,iN (aJd (by omega)),aOl,aCy (by rw [List.length_take]; omega)]
    cases tM w w.Meshes[i] <;> cases ((w.Meshes.take i).any fun n => rK w.Meshes[i] n) <;> rfl
   ·rw [dP hi,Option.bind_some,aBw (hw _ (List.getElem_mem hi)),Option.bind_some,iN (aJd (by omega)),aOl,
     wQ (fun _ b => !decide (b.Name = w.Arbors[i].Name)) (by rw [List.length_take]; omega) fun j hj => by
      rw [dP hj,Option.bind_some]
      by_cases q : w.Arbors[i].Name = (w.Arbors.take i)[j].Name
      ·rw [if_pos q,decide_eq_true q.symm]; rfl
      ·rw [if_neg q,decide_eq_false (Ne.symm q)]; rfl,qD]
    have e : ((w.Arbors.take i).all fun b => !decide (b.Name = w.Arbors[i].Name)) = !((w.Arbors.take i).any fun b => decide (b.Name = w.Arbors[i].Name)) := by rw [Bool.eq_iff_iff]; simp
    rw [e]
    cases aDc w.Arbors[i] <;> cases ((w.Arbors.take i).any fun b => decide (b.Name = w.Arbors[i].Name)) <;> rfl
  ·rw [if_neg (by omega),Option.bind_some,decide_eq_true (by omega),if_pos rfl,decide_eq_false h2,decide_eq_true h1]; rfl
 ·rw [if_pos (by omega),Option.bind_some,if_pos rfl,decide_eq_false h1]; rfl
theorem aHd {w : bJ} (hl : w.Arbors.length ≤ 9223372036854775807) (s : ByteArray) : rI w s = some (aIo w.Arbors fun a => decide (a.Name = s)) := by
 unfold rI
 rw [aPp (fun a => decide (a.Name = s)) hl fun i hi => by rw [dP hi,Option.bind_some]; by_cases q : w.Arbors[i].Name = s <;> simp [q]]
theorem aFg {w : bJ} (hm : w.Meshes.length ≤ 9223372036854775807) (m : cY) {k : Nat} (hk : k ≤ w.Meshes.length) : pV w m (k : Int) = some ((w.Meshes.take k).any fun n => rK m n) := by
 unfold pV
 rw [aTz k (fun _ n => !rK m n) hk hm fun i hi _ => by rw [dP hi,Option.bind_some,aFf,Option.bind_some,aLu]; cases rK m w.Meshes[i] <;> rfl,qD,Option.bind_some]
 have e : ((w.Meshes.take k).all fun n => !rK m n) = !((w.Meshes.take k).any fun n => rK m n) := by rw [Bool.eq_iff_iff]; simp
 rw [e]
 cases ((w.Meshes.take k).any fun n => rK m n) <;> rfl
theorem aLq {w : bJ} (hl : w.Arbors.length ≤ 9223372036854775807) (hw : ∀ b ∈ w.Arbors,b.Wheels.length ≤ 9223372036854775807) (hm : w.Meshes.length ≤ 9223372036854775807) : uZ w = some (aCl w) := by
 unfold uZ aCl
 rw [wQ (e := .inr false) (fun i a => aDc a && !((w.Arbors.take i).any fun b => decide (b.Name = a.Name))) hl fun i hi => ?_,Option.bind_some,
   wQ (e := .inr false) (fun i m => tM w m && !((w.Meshes.take i).any fun n => rK m n)) hm fun i hi => ?_,Option.bind_some]
 ·have e1 : decide ((w.Meshes.length : Int) ≤ 24) = decide (w.Meshes.length ≤ 24) := by rw [decide_eq_decide]; omega
  have e2 : (if (w.Arbors.length : Int) ≤ 16 then some (decide ((w.Meshes.length : Int) ≤ 24)) else some false) = some (decide (w.Arbors.length ≤ 16) && decide (w.Meshes.length ≤ 24)) := by
   rw [e1]
   by_cases h1 : w.Arbors.length ≤ 16
   ·rw [if_pos (by omega),decide_eq_true h1,Bool.true_and]
   ·rw [if_neg (by omega),decide_eq_false h1]; rfl
  rw [e2]
  cases aHz w.Arbors (fun i a => aDc a && !((w.Arbors.take i).any fun b => decide (b.Name = a.Name))) <;> cases aHz w.Meshes (fun i m => tM w m && !((w.Meshes.take i).any fun n => rK m n)) <;> cases decide (w.Arbors.length ≤ 16) <;> cases decide (w.Meshes.length ≤ 24) <;> rfl
 ·simp only [dP hi,Option.bind_some,aHf hl hw,aFg hm _ (Nat.le_of_lt hi)]
  cases tM w w.Meshes[i] <;> cases ((w.Meshes.take i).any fun n => rK w.Meshes[i] n) <;> rfl
 ·simp only [dP hi,Option.bind_some,aFe (hw _ (List.getElem_mem hi)),aHd hl,aLi (p := fun a => decide (a.Name = w.Arbors[i].Name)) hi (decide_eq_true rfl)]
  cases aDc w.Arbors[i] <;> cases ((w.Arbors.take i).any fun b => decide (b.Name = w.Arbors[i].Name)) <;> rfl
end Go.Proofs.YtgcdbbidmfdonaaGreat
namespace Go.Proofs.YtgcdbbidmfdonaaGreat
set_option linter.unusedVariables false
def Ok {α : Type} (m : Option α) (P : α → Prop) : Prop := ∃ x,m = some x ∧ P x
theorem aC {α : Type} {x : α} {P : α → Prop} (h : P x) : Ok (some x) P := ⟨x,rfl,h⟩
theorem aN {α β : Type} {m : Option α} {f : α → Option β} {P : α → Prop} {Q : β → Prop} (h : Ok m P) (k : ∀ x,P x → Ok (f x) Q) : Ok (m.bind f) Q := by
 obtain ⟨x,rfl,hx⟩ := h
 exact k x hx
theorem bQ {α : Type} {p : Prop} [Decidable p] {a b : Option α} {P : α → Prop} (h : p → Ok a P) (k : ¬ p → Ok b P) : Ok (if p then a else b) P := by
 split
 ·exact h ‹_›
 ·exact k ‹_›
theorem fF {α : Type} {p : Prop} [Decidable p] {a : Option α} {P : α → Prop} (hp : p) (h : Ok a P) : Ok (chk p a) P := by rw [iN hp]; exact h
theorem nZ {α : Type} {xs : List α} {i : Int} (h0 : 0 ≤ i) (h1 : i < xs.length) : Ok (atI xs i) (fun e => e ∈ xs ∧ xs[i.toNat]? = some e) := by
 obtain ⟨e,h,hm,hg⟩ := sZ h0 h1
 exact ⟨e,h,hm,hg⟩
theorem aB2 {α : Type} {m : Option α} {P Q : α → Prop} (h : Ok m P) (k : ∀ x,P x → Q x) : Ok m Q := by
 obtain ⟨x,e,hx⟩ := h
 exact ⟨x,e,k x hx⟩
theorem cV {S X : Type} {step : S → Option (S ⊕ X)} {P : X → Prop} (I : S → Prop) (m : S → Nat) (hs : ∀ s,I s → Ok (step s) (fun y => (∃ s',y = .inl s' ∧ I s' ∧ m s' < m s) ∨ ∃ x,y = .inr x ∧ P x)) (s0 : S) (h0 : I s0) (hm : m s0 < 1180591620717411303424) : Ok (cK step s0) P :=
 xQ I m P (fun s hI => by
  obtain ⟨y,e,⟨s',rfl,h1,h2⟩ | ⟨x,rfl,h1⟩⟩ := hs s hI
  ·exact .inl ⟨s',e,h1,h2⟩
  ·exact .inr ⟨x,e,h1⟩) s0 h0 hm
end Go.Proofs.YtgcdbbidmfdonaaGreat
namespace Go.Proofs.YtgcdbbidmfdonaaGreat
set_option linter.unusedVariables false
def qI (n : Int) (s : cG) : Prop := 0 ≤ s.at_ ∧ s.at_ ≤ n ∧ s.code.length ≤ 1000000 ∧ ∀ b ∈ s.code,0 ≤ b ∧ b ≤ 255
theorem aQw (x : Int) : 0 ≤ aSy .u64 x 255 ∧ aSy .u64 x 255 ≤ 255 := by
 unfold aSy
 have h : (BitVec.ofInt IntKind.u64.bits x &&& BitVec.ofInt IntKind.u64.bits 255).toNat ≤ 255 := by
  rw [BitVec.toNat_and]
  have : (BitVec.ofInt IntKind.u64.bits 255).toNat = 255 := by decide
  rw [this]
  exact Nat.and_le_right
 generalize (BitVec.ofInt IntKind.u64.bits x &&& BitVec.ofInt IntKind.u64.bits 255).toNat = v at h
 have e : IntKind.u64.wrap (v : Int) = v := by
  unfold IntKind.wrap
  simp [IntKind.bits,IntKind.signed]
  omega
 rw [e]; omega
theorem aRy {c : List Int} (h1 : c.length ≤ 1000000) (h2 : ∀ b ∈ c,0 ≤ b ∧ b ≤ 255) : Ok (tT c) (qI 0) := aC ⟨by simp,by simp,h1,h2⟩
theorem aNi {n : Int} {s : cG} (h : qI n s) (hn : n ≤ 1000000000000) : Ok (iR s) (fun r => 0 ≤ r.1 ∧ r.1 ≤ 255 ∧ qI (n + 1) r.2) := by
 obtain ⟨h0,h1,h2,h3⟩ := h
 unfold iR
 refine aN (P := fun v => 0 ≤ v ∧ v ≤ 255) ?_ fun v hv => ?_
 ·refine bQ (fun hc => ?_) fun _ => aC (by omega)
  refine aN (nZ h0 hc) fun e he => aC ?_
  have := h3 e he.1
  rw [aS (by omega) (by omega)]; exact this
 ·have e1 : w64 (s.at_ + 1) = s.at_ + 1 := aS (by omega) (by omega)
  rw [e1]
  refine bQ (fun _ => aC ⟨hv.1,hv.2,by dsimp only; omega,by dsimp only; omega,h2,h3⟩) fun _ => aC ⟨?_,?_,by dsimp only; omega,by dsimp only; omega,h2,h3⟩
  ·have := aQw (aOf .u64 (IntKind.u64.wrap ((IntKind.u64.wrap ((IntKind.u64.wrap (s.seed * 6364136223846793005)) + (IntKind.u64.wrap v))) + 1442695040888963407)) 40)
   dsimp only
   rw [aS (by omega) (by omega)]; omega
  ·have := aQw (aOf .u64 (IntKind.u64.wrap ((IntKind.u64.wrap ((IntKind.u64.wrap (s.seed * 6364136223846793005)) + (IntKind.u64.wrap v))) + 1442695040888963407)) 40)
   dsimp only
   rw [aS (by omega) (by omega)]; omega
theorem jX {n m : Int} {s : cG} (h : qI n s) (hm : n ≤ m) : qI m s := ⟨h.1,by have := h.2.1; omega,h.2.2⟩
theorem rD {n : Int} {s : cG} {k : Int} (h : qI n s) (hn : n ≤ 1000000000) : Ok (dC s k) (fun r => 0 ≤ r.1 ∧ (r.1 < k ∨ r.1 = 0) ∧ r.1 ≤ 65535 ∧ qI (n + 2) r.2) := by
 unfold dC
 refine bQ (fun _ => aC ⟨by simp,by simp,by simp,jX h (by omega)⟩) fun hk => ?_
 refine aN (aNi h (by omega)) fun v hv => ?_
 refine aN (P := fun r => 0 ≤ r.1 ∧ r.1 ≤ 65535 ∧ qI (n + 2) r.2) ?_ fun r hr => ?_
 ·refine bQ (fun _ => ?_) fun _ => aC ⟨hv.1,by have := hv.2.1; dsimp only; omega,jX hv.2.2 (by omega)⟩
  refine aN (aNi hv.2.2 (by omega)) fun u hu => aC ?_
  have a := hv.1; have b := hv.2.1; have c := hu.1; have d := hu.2.1
  dsimp only
  rw [aS (x := v.1 * 256) (by omega) (by omega),aS (by omega) (by omega)]
  exact ⟨by omega,by omega,by have := hu.2.2; rwa [Int.add_assoc] at this⟩
 ·refine fF (by omega) (aC ?_)
  have e : r.1.tmod k = r.1 % k := Int.tmod_eq_emod_of_nonneg hr.1
  have h1 := Int.emod_nonneg r.1 (show k ≠ 0 by omega)
  have h2 := Int.emod_lt_of_pos r.1 (show 0 < k by omega)
  have h3 : r.1 % k ≤ r.1 := by
   have := Int.mul_nonneg (show 0 ≤ k by omega) (Int.ediv_nonneg hr.1 (show 0 ≤ k by omega))
   rw [Int.emod_def]; omega
  dsimp only
  rw [e]
  exact ⟨h1, .inl h2,by have := hr.2.1; omega,hr.2.2⟩
theorem aKb {n : Int} {s : cG} {k : Int} (h : qI n s) (hn : n ≤ 1000000000) : Ok (iG s k) (fun r => qI (n + 2) r.2) :=
 aN (rD h hn) fun r hr => aC hr.2.2.2
theorem aD8 {n : Int} {s : cG} {xs : List Int} (h : qI n s) (hn : n ≤ 1000000000) (hx : 0 < xs.length) : Ok (gY s xs) (fun r => r.1 ∈ xs ∧ qI (n + 2) r.2) := by
 refine aN (rD h hn) fun r hr => ?_
 refine aN (nZ hr.1 ?_) fun e he => aC ⟨he.1,hr.2.2.2⟩
 rcases hr.2.1 with h1 | h1
 ·exact h1
 ·rw [h1]; omega
theorem aSq {n : Int} {s : cG} {xs : List ByteArray} (h : qI n s) (hn : n ≤ 1000000000) (hx : 0 < xs.length) : Ok (nJ s xs) (fun r => r.1 ∈ xs ∧ qI (n + 2) r.2) := by
 refine aN (rD h hn) fun r hr => ?_
 refine aN (nZ hr.1 ?_) fun e he => aC ⟨he.1,hr.2.2.2⟩
 rcases hr.2.1 with h1 | h1
 ·exact h1
 ·rw [h1]; omega
end Go.Proofs.YtgcdbbidmfdonaaGreat
