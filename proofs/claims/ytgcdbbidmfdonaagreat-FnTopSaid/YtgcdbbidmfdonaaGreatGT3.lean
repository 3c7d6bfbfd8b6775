/- Texts of this claim, one behind the other (merged by a program of mine). -/
import Derived.KernelRfl
import Derived.Test.YtgcdbbidmfdonaaGreatGT2
set_option linter.unusedSimpArgs false
set_option linter.unusedVariables false
namespace Go.Proofs.YtgcdbbidmfdonaaGreat
open Go.RowKit
set_option linter.unusedVariables false
set_option maxRecDepth 100000
set_option maxHeartbeats 2000000
structure bQ where
 Year : Int
 Month : Int
 Day : Int
deriving DecidableEq
structure bN where
 code : List Int
 at_ : Int
 seed : Int
deriving DecidableEq
structure bP where
 Name : ByteArray
 Days : Int
 Leap : Int
deriving DecidableEq
def aM (x : bP) : List DV := [.v (.string x.Name), .v (.int .i64 x.Days), .v (.int .i64 x.Leap)]
structure bA where
 Every : Int
 Rest : Int
 Leap : Bool
deriving DecidableEq
def aB (x : bA) : List DV := [.v (.int .i64 x.Every), .v (.int .i64 x.Rest), .v (.bool x.Leap)]
structure aA where
 Name : ByteArray
 Months : List bP
 Rules : List bA
 Week : Int
deriving DecidableEq
def dG (x : aA) : List DV := [.v (.string x.Name), .sl (List.map aM x.Months), .sl (List.map aB x.Rules), .v (.int .i64 x.Week)]
structure gX where
 Year : Int
 Month : Int
 Shown : Int
 Right : Int
deriving DecidableEq
def wB (x : gX) : List DV := [.v (.int .i64 x.Year), .v (.int .i64 x.Month), .v (.int .i64 x.Shown), .v (.int .i64 x.Right)]
structure aJ where
 Num : Int
 Den : Int
deriving DecidableEq
def eZ (x : aJ) : List DV := [.v (.int .i64 x.Num), .v (.int .i64 x.Den)]
structure qE where
 LowDriver : Int
 HighDriver : Int
 LowDriven : Int
 HighDriven : Int
 Stages : Int
deriving DecidableEq
def aB8 (x : qE) : List DV := [.v (.int .i64 x.LowDriver), .v (.int .i64 x.HighDriver), .v (.int .i64 x.LowDriven), .v (.int .i64 x.HighDriven), .v (.int .i64 x.Stages)]
structure aZ where
 value : Int
 teeth : List Int
deriving DecidableEq
def aV (x : aZ) : List DV := [.v (.int .i64 x.value), .sl (List.map cI x.teeth)]
structure dW where
 Driver : Int
 Driven : Int
deriving DecidableEq
def eY (x : dW) : List DV := [.v (.int .i64 x.Driver), .v (.int .i64 x.Driven)]
structure fH where
 driver : Int
 driven : Int
 off : Int
 train : List dW
deriving DecidableEq
structure aBl where
 Train : List dW
 Error : aJ
deriving DecidableEq
structure cH where
 A : Int
 WheelA : Int
 B : Int
 WheelB : Int
deriving DecidableEq
def bC (x : cH) : List DV := [.v (.int .i64 x.A), .v (.int .i64 x.WheelA), .v (.int .i64 x.B), .v (.int .i64 x.WheelB)]
structure cQ where
 Name : ByteArray
 Wheels : List Int
deriving DecidableEq
def aL (x : cQ) : List DV := [.v (.string x.Name), .sl (List.map cI x.Wheels)]
structure bJ where
 Arbors : List cQ
 Meshes : List cH
deriving DecidableEq
def fT (x : bJ) : List DV := [.sl (List.map aL x.Arbors), .sl (List.map bC x.Meshes)]
structure aX where
 Name : ByteArray
 Works : bJ
 Minute : Int
 Hour : Int
 Escape : Int
 Teeth : Int
 Beats : Int
 Calendar : aA
 Cam : List Int
 Strike : Int
deriving DecidableEq
def fY (x : aX) : List DV := [.v (.string x.Name), .sl (List.map aL x.Works.Arbors), .sl (List.map bC x.Works.Meshes), .v (.int .i64 x.Minute), .v (.int .i64 x.Hour), .v (.int .i64 x.Escape), .v (.int .i64 x.Teeth), .v (.int .i64 x.Beats), .v (.string x.Calendar.Name), .sl (List.map aM x.Calendar.Months), .sl (List.map aB x.Calendar.Rules), .v (.int .i64 x.Calendar.Week), .sl (List.map cI x.Cam), .v (.int .i64 x.Strike)]
structure aC where
 Cam : List Int
 Months : Int
 Teeth : Int
 At : Int
 Day : Int
 Week : Int
 Weekday : Int
deriving DecidableEq
def oM (x : aC) : List DV := [.sl (List.map cI x.Cam), .v (.int .i64 x.Months), .v (.int .i64 x.Teeth), .v (.int .i64 x.At), .v (.int .i64 x.Day), .v (.int .i64 x.Week), .v (.int .i64 x.Weekday)]
structure dO where
 Movement : aX
 Start : bQ
 First : Int
 Clock : Int
 Dial : aC
deriving DecidableEq
def aSz (x : dO) : List DV := [.v (.string x.Movement.Name), .sl (List.map aL x.Movement.Works.Arbors), .sl (List.map bC x.Movement.Works.Meshes), .v (.int .i64 x.Movement.Minute), .v (.int .i64 x.Movement.Hour), .v (.int .i64 x.Movement.Escape), .v (.int .i64 x.Movement.Teeth), .v (.int .i64 x.Movement.Beats), .v (.string x.Movement.Calendar.Name), .sl (List.map aM x.Movement.Calendar.Months), .sl (List.map aB x.Movement.Calendar.Rules), .v (.int .i64 x.Movement.Calendar.Week), .sl (List.map cI x.Movement.Cam), .v (.int .i64 x.Movement.Strike), .v (.int .i64 x.Start.Year), .v (.int .i64 x.Start.Month), .v (.int .i64 x.Start.Day), .v (.int .i64 x.First), .v (.int .i64 x.Clock), .sl (List.map cI x.Dial.Cam), .v (.int .i64 x.Dial.Months), .v (.int .i64 x.Dial.Teeth), .v (.int .i64 x.Dial.At), .v (.int .i64 x.Dial.Day), .v (.int .i64 x.Dial.Week), .v (.int .i64 x.Dial.Weekday)]
structure aWb where
 p : Int
 q : Int
 far : Int
deriving DecidableEq
def xM (p0 : List Int) (p1 : List Int) : Option Bool :=
 (if 3000 < (p0.length : Int) then
 some true
 else
 some (decide (3000 < (p1.length : Int))))
def rG (p0 : List Int) : Option bN :=
 some (⟨p0,0,0⟩ : bN)
def iU (p0 : bN) : Option (Int × bN) :=
 (((if p0.at_ < (p0.code.length : Int) then
 ((atI p0.code p0.at_).bind fun v1 =>
 some (w64 v1))
 else
 some 0) : Option Int).bind fun v2 =>
 (if (w64 (p0.at_ + 1)) ≤ (p0.code.length : Int) then
 some (v2,(⟨p0.code,w64 (p0.at_ + 1),IntKind.u64.wrap ((IntKind.u64.wrap ((IntKind.u64.wrap (p0.seed * 6364136223846793005)) + (IntKind.u64.wrap v2))) + 1442695040888963407)⟩ : bN))
 else
 some (w64 (aS7 .u64 (aTz .u64 (IntKind.u64.wrap ((IntKind.u64.wrap ((IntKind.u64.wrap (p0.seed * 6364136223846793005)) + (IntKind.u64.wrap v2))) + 1442695040888963407)) 40) 255),(⟨p0.code,w64 (p0.at_ + 1),IntKind.u64.wrap ((IntKind.u64.wrap ((IntKind.u64.wrap (p0.seed * 6364136223846793005)) + (IntKind.u64.wrap v2))) + 1442695040888963407)⟩ : bN))))
def bR (p0 : bN) (p1 : Int) : Option (Int × bN) :=
 (if p1 ≤ 1 then
 some (0,p0)
 else
 ((iU p0).bind fun v1 =>
 (((if 200 < p1 then
 ((iU v1.2).bind fun v2 =>
 some (w64 ((w64 (v1.1 * 256)) + v2.1),v2.2))
 else
 some (v1.1,v1.2)) : Option (Int × bN)).bind fun v3 =>
 (chk (p1 ≠ 0) (
 some (v3.1.tmod p1,v3.2))))))
def fG (p0 : bN) (p1 : Int) : Option (Bool × bN) :=
 ((bR p0 p1).bind fun v1 =>
 some (decide (v1.1 = 0),v1.2))
def lC  : Option (List ByteArray) :=
 some [(⟨#[101,103,121,112,116,105,97,110]⟩ : ByteArray),(⟨#[102,105,120,101,100]⟩ : ByteArray),(⟨#[103,114,101,103,111,114,105,97,110]⟩ : ByteArray),(⟨#[106,117,108,105,97,110]⟩ : ByteArray)]
def nQ (p0 : bN) (p1 : List ByteArray) : Option (ByteArray × bN) :=
 ((bR p0 (p1.length : Int)).bind fun v1 =>
 ((atI p1 v1.1).bind fun v2 =>
 some (v2,v1.2)))
def oO (p0 : Int) : Option ByteArray :=
 ((cM (S := Int × List Int) (X := List Int) (fun s6 =>
 (if s6.1 ≠ 0 then
 (((if (s6.1.tmod 10) < 0 then
 some (w64 (-(s6.1.tmod 10)))
 else
 some (s6.1.tmod 10)) : Option Int).bind fun v8 =>
 (chk (([IntKind.u8.wrap (w64 (48 + v8))].length + s6.2.length) * 1 * 64 ≤ 140737488355328) (
 some (.inl (w64 (s6.1.tdiv 10),[IntKind.u8.wrap (w64 (48 + v8))] ++ s6.2)))))
 else
 some (.inr s6.2))) (p0,([] : List Int)) : Option (List Int)).bind fun v11 =>
 (if (v11.length : Int) = 0 then
 some (⟨#[48]⟩ : ByteArray)
 else
 (if p0 < 0 then
 (chk ((⟨#[45]⟩ : ByteArray).size + (strOfNums v11).size ≤ 9223372036854775807) (
 some ((⟨#[45]⟩ : ByteArray) ++ (strOfNums v11))))
 else
 some (strOfNums v11))))
def sI (p0 : Int) (p1 : Int) : Option (List bP) :=
 ((cM (S := Int × List bP) (X := List bP) (fun s5 =>
 (if s5.1 ≤ p0 then
 ((oO s5.1).bind fun v6 =>
 (chk ((⟨#[109]⟩ : ByteArray).size + v6.size ≤ 9223372036854775807) (
 (chk ((s5.2.length + [(⟨(⟨#[109]⟩ : ByteArray) ++ v6,p1,p1⟩ : bP)].length) * 3 * 64 ≤ 140737488355328) (
 some (.inl (w64 (s5.1 + 1),s5.2 ++ [(⟨(⟨#[109]⟩ : ByteArray) ++ v6,p1,p1⟩ : bP)])))))))
 else
 some (.inr s5.2))) (1,([] : List bP)) : Option (List bP)).bind fun v9 =>
 some v9)
def lW  : Option (List bA) :=
 some [(⟨4,0,true⟩ : bA),(⟨100,0,false⟩ : bA),(⟨400,0,true⟩ : bA)]
def sL  : Option (List bP) :=
 ((cM (S := Int × List bP) (X := List bP) (fun s6 =>
 (if s6.1 < 12 then
 ((atI [(⟨#[106,97,110]⟩ : ByteArray),(⟨#[102,101,98]⟩ : ByteArray),(⟨#[109,97,114]⟩ : ByteArray),(⟨#[97,112,114]⟩ : ByteArray),(⟨#[109,97,121]⟩ : ByteArray),(⟨#[106,117,110]⟩ : ByteArray),(⟨#[106,117,108]⟩ : ByteArray),(⟨#[97,117,103]⟩ : ByteArray),(⟨#[115,101,112]⟩ : ByteArray),(⟨#[111,99,116]⟩ : ByteArray),(⟨#[110,111,118]⟩ : ByteArray),(⟨#[100,101,99]⟩ : ByteArray)] s6.1).bind fun v7 =>
 ((atI [31,28,31,30,31,30,31,31,30,31,30,31] s6.1).bind fun v8 =>
 ((atI [31,28,31,30,31,30,31,31,30,31,30,31] s6.1).bind fun v9 =>
 (chk ((s6.2.length + [(⟨v7,v8,v9⟩ : bP)].length) * 3 * 64 ≤ 140737488355328) (
 some (.inl (w64 (s6.1 + 1),s6.2 ++ [(⟨v7,v8,v9⟩ : bP)])))))))
 else
 some (.inr s6.2))) (0,([] : List bP)) : Option (List bP)).bind fun v11 =>
 ((atI v11 1).bind fun v12 =>
 some (List.set v11 (1 : Int).toNat (⟨v12.Name,v12.Days,29⟩ : bP))))
def lF (p0 : ByteArray) : Option (aA × Int) :=
 (if p0 = (⟨#[101,103,121,112,116,105,97,110]⟩ : ByteArray) then
 ((sI 12 30).bind fun v1 =>
 (chk ((v1.length + [(⟨(⟨#[109,49,51]⟩ : ByteArray),5,5⟩ : bP)].length) * 3 * 64 ≤ 140737488355328) (
 some ((⟨p0,v1 ++ [(⟨(⟨#[109,49,51]⟩ : ByteArray),5,5⟩ : bP)],([] : List bA),10⟩ : aA),0))))
 else
 (if p0 = (⟨#[102,105,120,101,100]⟩ : ByteArray) then
 ((sI 12 28).bind fun v3 =>
 (chk ((v3.length + [(⟨(⟨#[109,49,51]⟩ : ByteArray),29,30⟩ : bP)].length) * 3 * 64 ≤ 140737488355328) (
 ((lW).bind fun v5 =>
 some ((⟨p0,v3 ++ [(⟨(⟨#[109,49,51]⟩ : ByteArray),29,30⟩ : bP)],v5,7⟩ : aA),0)))))
 else
 (if p0 = (⟨#[103,114,101,103,111,114,105,97,110]⟩ : ByteArray) then
 ((sL).bind fun v6 =>
 ((lW).bind fun v7 =>
 some ((⟨p0,v6,v7,7⟩ : aA),0)))
 else
 (if p0 = (⟨#[106,117,108,105,97,110]⟩ : ByteArray) then
 ((sL).bind fun v8 =>
 some ((⟨p0,v8,[(⟨4,0,true⟩ : bA)],7⟩ : aA),0))
 else
 some ((⟨(⟨#[]⟩ : ByteArray),([] : List bP),([] : List bA),0⟩ : aA),3)))))
def eR (p0 : bN) (p1 : List Int) : Option (Int × bN) :=
 ((bR p0 (p1.length : Int)).bind fun v1 =>
 ((atI p1 v1.1).bind fun v2 =>
 some (v2,v1.2)))
def cN (p0 : Int) (p1 : Int) (p2 : Int) : Option Bool :=
 (if p1 ≤ p0 then
 some (decide (p0 ≤ p2))
 else
 some false)
def oB (p0 : Int) (p1 : Int) : Option Int :=
 ((cM (S := Int × Int) (X := Int) (fun s3 =>
 (if 0 < s3.2 then
 (chk (s3.2 ≠ 0) (
 some (.inl (s3.2,s3.1.tmod s3.2))))
 else
 some (.inr s3.1))) (p0,p1) : Option Int).bind fun v5 =>
 some v5)
def mS (p0 : List bA) : Option (Int × Bool) :=
 ((cM (S := Int × Int) (X := Int ⊕ (Int × Bool)) (fun s12 =>
 (if s12.2 < (p0.length : Int) then
 ((((atI p0 s12.2).bind fun v13 =>
 ((cN v13.Every 1 1000).bind fun v14 =>
 (if (!v14) = true then
 some true
 else
 ((atI p0 s12.2).bind fun v15 =>
 ((atI p0 s12.2).bind fun v16 =>
 ((cN v15.Rest 0 (w64 (v16.Every - 1))).bind fun v17 =>
 some (!v17))))))) : Option Bool).bind fun v18 =>
 (if v18 = true then
 some (.inr (.inr (0,false)))
 else
 ((atI p0 s12.2).bind fun v19 =>
 ((atI p0 s12.2).bind fun v20 =>
 ((oB s12.1 v19.Every).bind fun v21 =>
 (chk (v21 ≠ 0) (
 (if 2000 < (w64 ((w64 (s12.1.tdiv v21)) * v20.Every)) then
 some (.inr (.inr (0,false)))
 else
 some (.inl (w64 ((w64 (s12.1.tdiv v21)) * v20.Every),w64 (s12.2 + 1)))))))))))
 else
 some (.inr (.inl s12.1)))) (1,0) : Option (Int ⊕ (Int × Bool))).bind fun v23x => orE v23x fun v23 =>
 some (v23,decide ((p0.length : Int) ≤ 6)))
def mP (p0 : Int) : Option Bool :=
 (if 97 ≤ p0 then
 some (decide (p0 ≤ 122))
 else
 some false)
def pJ (p0 : Int) : Option Bool :=
 (if 48 ≤ p0 then
 some (decide (p0 ≤ 57))
 else
 some false)
def kZ (p0 : ByteArray) : Option Bool :=
 (((if p0 = (⟨#[]⟩ : ByteArray) then
 some true
 else
 (if 12 < (p0.size : Int) then
 some true
 else
 ((aG2 p0 0).bind fun v1 =>
 ((mP v1).bind fun v2 =>
 some (!v2))))) : Option Bool).bind fun v3 =>
 (if v3 = true then
 some false
 else
 ((cM (S := Int) (X := Unit ⊕ Bool) (fun s11 =>
 (if s11 < (p0.size : Int) then
 ((((aG2 p0 s11).bind fun v12 =>
 ((mP v12).bind fun v13 =>
 (if (!v13) = true then
 ((aG2 p0 s11).bind fun v14 =>
 ((pJ v14).bind fun v15 =>
 (if (!v15) = true then
 ((aG2 p0 s11).bind fun v16 =>
 some (decide (v16 ≠ 45)))
 else
 some false)))
 else
 some false))) : Option Bool).bind fun v17 =>
 (if v17 = true then
 some (.inr (.inr false))
 else
 some (.inl (w64 (s11 + 1)))))
 else
 some (.inr (.inl ())))) 0 : Option (Unit ⊕ Bool)).bind fun v18x => orE v18x fun v18 =>
 some true)))
def nJ (p0 : List bP) : Option Bool :=
 ((cM (S := Int) (X := Unit ⊕ Bool) (fun s16 =>
 (if s16 < (p0.length : Int) then
 ((((((atI p0 s16).bind fun v17 =>
 ((kZ v17.Name).bind fun v18 =>
 (if (!v18) = true then
 some true
 else
 ((atI p0 s16).bind fun v19 =>
 ((cN v19.Days 1 60).bind fun v20 =>
 (if (!v20) = true then
 some true
 else
 ((atI p0 s16).bind fun v21 =>
 ((cN v21.Leap 1 60).bind fun v22 =>
 some (!v22))))))))) : Option Bool).bind fun v23 =>
 (if v23 = true then
 some (.inr (.inr (.inr false)))
 else
 cM (S := Int) (X := Unit ⊕ (Int ⊕ (Unit ⊕ Bool))) (fun s27 =>
 (if s27 < s16 then
 ((atI p0 s27).bind fun v28 =>
 ((atI p0 s16).bind fun v29 =>
 (if v28.Name = v29.Name then
 some (.inr (.inr (.inr (.inr false))))
 else
 some (.inl (w64 (s27 + 1))))))
 else
 some (.inr (.inl ())))) 0)) : Option (Unit ⊕ (Int ⊕ (Unit ⊕ Bool)))).bind fun v30x => orE v30x fun v30 =>
 some (.inl (w64 (s16 + 1))))
 else
 some (.inr (.inl ())))) 0 : Option (Unit ⊕ Bool)).bind fun v31x => orE v31x fun v31 =>
 ((cN (p0.length : Int) 1 20).bind fun v32 =>
 some v32))
def nM (p0 : aA) : Option Bool :=
 ((mS p0.Rules).bind fun v1 =>
 (if v1.2 = true then
 ((kZ p0.Name).bind fun v2 =>
 (if v2 = true then
 ((nJ p0.Months).bind fun v3 =>
 (if v3 = true then
 ((cN p0.Week 1 12).bind fun v4 =>
 some v4)
 else
 some false))
 else
 some false))
 else
 some false))
def nD (p0 : bN) : Option (aA × bN) :=
 ((fG p0 2).bind fun v1 =>
 (if v1.1 = true then
 ((lC).bind fun v2 =>
 ((nQ v1.2 v2).bind fun v3 =>
 ((lF v3.1).bind fun v4 =>
 some (v4.1,v3.2))))
 else
 ((bR v1.2 12).bind fun v5 =>
 ((bR v5.2 6).bind fun v6 =>
 ((cM (S := Int × bN × List bP) (X := bN × List bP) (fun s15 =>
 (if s15.1 ≤ (w64 (1 + v6.1)) then
 ((oO s15.1).bind fun v16 =>
 (chk ((⟨#[109]⟩ : ByteArray).size + v16.size ≤ 9223372036854775807) (
 ((bR s15.2.1 40).bind fun v18 =>
 ((((fG v18.2 3).bind fun v19 =>
 (if v19.1 = true then
 ((bR v19.2 40).bind fun v20 =>
 some (v20.2,(⟨(⟨#[109]⟩ : ByteArray) ++ v16,w64 (1 + v18.1),w64 (1 + v20.1)⟩ : bP)))
 else
 some (v19.2,(⟨(⟨#[109]⟩ : ByteArray) ++ v16,w64 (1 + v18.1),w64 (1 + v18.1)⟩ : bP)))) : Option (bN × bP)).bind fun v21 =>
 (chk ((s15.2.2.length + [v21.2].length) * 3 * 64 ≤ 140737488355328) (
 some (.inl (w64 (s15.1 + 1),v21.1,s15.2.2 ++ [v21.2])))))))))
 else
 some (.inr (s15.2.1,s15.2.2)))) (1,v6.2,([] : List bP)) : Option (bN × List bP)).bind fun v23 =>
 ((((bR v23.1 4).bind fun v24 =>
 cM (S := Int × bN × List bA) (X := bN × List bA) (fun s30 =>
 (if 0 < s30.1 then
 ((eR s30.2.1 [1,2,3,4,5,8,33,100]).bind fun v31 =>
 ((bR v31.2 v31.1).bind fun v32 =>
 ((fG v32.2 3).bind fun v33 =>
 (chk ((s30.2.2.length + [(⟨v31.1,v32.1, !v33.1⟩ : bA)].length) * 3 * 64 ≤ 140737488355328) (
 some (.inl (w64 (s30.1 - 1),v33.2,s30.2.2 ++ [(⟨v31.1,v32.1, !v33.1⟩ : bA)])))))))
 else
 some (.inr (s30.2.1,s30.2.2)))) (v24.1,v24.2,([] : List bA))) : Option (bN × List bA)).bind fun v35 =>
 ((((nM (⟨(⟨#[111,119,110]⟩ : ByteArray),v23.2,v35.2,w64 (1 + v5.1)⟩ : aA)).bind fun v36 =>
 (if (!v36) = true then
 some ([] : List bA)
 else
 some v35.2)) : Option (List bA)).bind fun v37 =>
 some ((⟨(⟨#[111,119,110]⟩ : ByteArray),v23.2,v37,w64 (1 + v5.1)⟩ : aA),v35.1))))))))
def iB (p0 : Int) : Option Bool :=
 ((cN p0 6 240).bind fun v1 =>
 some v1)
def sO (p0 : aA) (p1 : Int) : Option Bool :=
 ((cN p1 1 260).bind fun v1 =>
 (if v1 = true then
 some (decide ((w64 (p1 * (p0.Months.length : Int))) ≤ 260))
 else
 some false))
def mY (p0 : aA) (p1 : Int) : Option Int :=
 ((mS p0.Rules).bind fun v1 =>
 ((oB v1.1 p1).bind fun v2 =>
 (chk (v2 ≠ 0) (
 some (w64 ((w64 (v1.1.tdiv v2)) * p1))))))
def oH (p0 : aA) (p1 : Int) : Option Bool :=
 ((cM (S := Bool × Int) (X := Bool) (fun s7 =>
 (if s7.2 < (p0.Rules.length : Int) then
 ((((atI p0.Rules s7.2).bind fun v8 =>
 (chk (v8.Every ≠ 0) (
 ((atI p0.Rules s7.2).bind fun v10 =>
 (if (p1.tmod v8.Every) = v10.Rest then
 ((atI p0.Rules s7.2).bind fun v11 =>
 some v11.Leap)
 else
 some s7.1))))) : Option Bool).bind fun v12 =>
 some (.inl (v12,w64 (s7.2 + 1))))
 else
 some (.inr s7.1))) (false,0) : Option Bool).bind fun v13 =>
 some v13)
def xA (p0 : Int) (p1 : Int) : Option Int :=
 (if p0 < p1 then
 some p0
 else
 some p1)
def pH (p0 : aA) (p1 : Int) (p2 : Int) (p3 : Int) (p4 : Int) : Option Int :=
 ((cM (S := Int × Int × Int) (X := Int × Int) (fun s4 =>
 (if s4.2.2 < p3 then
 ((((oH p0 s4.2.2).bind fun v5 =>
 (if v5 = true then
 some (w64 (s4.1 + 1))
 else
 some s4.1)) : Option Int).bind fun v6 =>
 some (.inl (v6,w64 (s4.2.1 + 1),w64 (s4.2.2 + p2))))
 else
 some (.inr (s4.1,s4.2.1)))) (0,0,p1) : Option (Int × Int)).bind fun v7 =>
 ((atI p0.Months p4).bind fun v8 =>
 (if v7.2 < (w64 (2 * v7.1)) then
 some v8.Leap
 else
 (if (w64 (2 * v7.1)) < v7.2 then
 some v8.Days
 else
 ((xA v8.Leap v8.Days).bind fun v9 =>
 some v9)))))
def kS (p0 : aA) (p1 : Int) (p2 : Int) : Option Int :=
 ((oH p0 p1).bind fun v1 =>
 (if v1 = true then
 ((atI p0.Months p2).bind fun v2 =>
 some v2.Leap)
 else
 ((atI p0.Months p2).bind fun v3 =>
 some v3.Days)))
def pX (p0 : aA) (p1 : List Int) (p2 : Int) (p3 : Int) : Option (gX × Bool) :=
 (chk ((p0.Months.length : Int) ≠ 0) (
 ((kS p0 p2 p3).bind fun v2 =>
 (chk ((w64 ((p1.length : Int).tdiv (p0.Months.length : Int))) ≠ 0) (
 ((atI p1 (w64 ((w64 ((p2.tmod (w64 ((p1.length : Int).tdiv (p0.Months.length : Int)))) * (p0.Months.length : Int))) + p3))).bind fun v4 =>
 some ((⟨p2,w64 (p3 + 1),v4,v2⟩ : gX),decide (v4 ≠ v2))))))))
def pY (p0 : aA) (p1 : List Int) (p2 : Int) : Option Int :=
 ((cM (S := Int × Int) (X := Int) (fun s9 =>
 (if s9.2 < p2 then
 ((cM (S := Int × Int) (X := Int) (fun s13 =>
 (if s13.2 < (p0.Months.length : Int) then
 ((((pX p0 p1 s9.2 s13.2).bind fun v14 =>
 (if v14.2 = true then
 some (w64 (s13.1 + 1))
 else
 some s13.1)) : Option Int).bind fun v15 =>
 some (.inl (v15,w64 (s13.2 + 1))))
 else
 some (.inr s13.1))) (s9.1,0) : Option Int).bind fun v16 =>
 some (.inl (v16,w64 (s9.2 + 1))))
 else
 some (.inr s9.1))) (0,0) : Option Int).bind fun v17 =>
 some v17)
def qY (p0 : aA) (p1 : Int) : Option (List Int × Int × Int) :=
 ((nM p0).bind fun v1 =>
 (if (!v1) = true then
 some (([] : List Int),0,1)
 else
 ((sO p0 p1).bind fun v2 =>
 (if (!v2) = true then
 some (([] : List Int),0,2)
 else
 ((mY p0 p1).bind fun v3 =>
 ((cM (S := Int × List Int) (X := List Int) (fun s12 =>
 (if s12.1 < p1 then
 ((cM (S := Int × List Int) (X := List Int) (fun s16 =>
 (if s16.1 < (p0.Months.length : Int) then
 ((pH p0 s12.1 p1 v3 s16.1).bind fun v17 =>
 (chk ((s16.2.length + [v17].length) * 1 * 64 ≤ 140737488355328) (
 some (.inl (w64 (s16.1 + 1),s16.2 ++ [v17])))))
 else
 some (.inr s16.2))) (0,s12.2) : Option (List Int)).bind fun v19 =>
 some (.inl (w64 (s12.1 + 1),v19)))
 else
 some (.inr s12.2))) (0,([] : List Int)) : Option (List Int)).bind fun v20 =>
 ((pY p0 v20 v3).bind fun v21 =>
 some (v20,v21,0))))))))
def oS (p0 : Int) : Option Int :=
 (if p0 < 0 then
 some (IntKind.u64.wrap (-(IntKind.u64.wrap p0)))
 else
 some (IntKind.u64.wrap p0))
def fM (p0 : Int) (p1 : Int) : Option (aJ × Bool) :=
 ((oS p0).bind fun v1 =>
 ((oS p1).bind fun v2 =>
 ((cM (S := Int × Int) (X := Int) (fun s5 =>
 (if 0 < s5.2 then
 (chk (s5.2 ≠ 0) (
 some (.inl (s5.2,s5.1.tmod s5.2))))
 else
 some (.inr s5.1))) (v1,v2) : Option Int).bind fun v7 =>
 (chk (v7 ≠ 0) (
 (chk (v7 ≠ 0) (
 (((if 1000000000 < (IntKind.u64.wrap (v1.tdiv v7)) then
 some true
 else
 some (decide (1000000000 < (IntKind.u64.wrap (v2.tdiv v7))))) : Option Bool).bind fun v10 =>
 (if v10 = true then
 some ((⟨0,0⟩ : aJ),false)
 else
 (((if ((decide (p0 < 0)) != (decide (p1 < 0))) = true then
 some (⟨w64 (-(w64 (IntKind.u64.wrap (v1.tdiv v7)))),w64 (IntKind.u64.wrap (v2.tdiv v7))⟩ : aJ)
 else
 some (⟨w64 (IntKind.u64.wrap (v1.tdiv v7)),w64 (IntKind.u64.wrap (v2.tdiv v7))⟩ : aJ)) : Option aJ).bind fun v11 =>
 some (v11,true)))))))))))
def qN  : Option qE :=
 some (⟨60,84,7,10,2⟩ : qE)
def iI (p0 : Int) : Option Int :=
 (if p0 < 0 then
 some (w64 (-p0))
 else
 some p0)
def tO (p0 : aJ) : Option Bool :=
 ((cN p0.Den 1 1000000000).bind fun v1 =>
 (if v1 = true then
 ((cN p0.Num (-1000000000) 1000000000).bind fun v2 =>
 (if v2 = true then
 ((iI p0.Num).bind fun v3 =>
 ((oB v3 p0.Den).bind fun v4 =>
 some (decide (v4 = 1))))
 else
 some false))
 else
 some false))
def sV (p0 : Int) (p1 : Int) : Option Bool :=
 (if 6 ≤ p0 then
 (if p1 ≤ 120 then
 ((cN p1 p0 (w64 (p0 + 30))).bind fun v1 =>
 some v1)
 else
 some false)
 else
 some false)
def zA (p0 : qE) : Option Bool :=
 ((sV p0.LowDriver p0.HighDriver).bind fun v1 =>
 (if v1 = true then
 ((sV p0.LowDriven p0.HighDriven).bind fun v2 =>
 (if v2 = true then
 ((cN p0.Stages 1 3).bind fun v3 =>
 some v3)
 else
 some false))
 else
 some false))
def xG (p0 : aJ) : Option Bool :=
 ((cN p0.Num 1 1000000).bind fun v1 =>
 (if v1 = true then
 some (decide (p0.Den ≤ 1000000))
 else
 some false))
def jY (p0 : List Int) : Option (List Int) :=
 (chk ((([] : List Int).length + p0.length) * 1 * 64 ≤ 140737488355328) (
 some (([] : List Int) ++ p0)))
def jA (p0 : Int) (p1 : Int) (p2 : Int) : Option (List aZ) :=
 ((cM (S := List aZ × Int) (X := List aZ) (fun s38 =>
 (if s38.2 < p2 then
 ((((cM (S := Int × List aZ) (X := List aZ) (fun s56 =>
 (if s56.1 < (s38.1.length : Int) then
 (((((if 0 < s38.2 then
 ((atI s38.1 s56.1).bind fun v57 =>
 ((atI v57.teeth (w64 (s38.2 - 1))).bind fun v58 =>
 some v58))
 else
 some p0) : Option Int).bind fun v59 =>
 cM (S := Int × List aZ) (X := List aZ) (fun s66 =>
 (if s66.1 ≤ p1 then
 ((atI s38.1 s56.1).bind fun v67 =>
 ((atI s38.1 s56.1).bind fun v68 =>
 ((jY v68.teeth).bind fun v69 =>
 (chk ((v69.length + [s66.1].length) * 1 * 64 ≤ 140737488355328) (
 (chk ((s66.2.length + [(⟨w64 (v67.value * s66.1),v69 ++ [s66.1]⟩ : aZ)].length) * 2 * 64 ≤ 140737488355328) (
 some (.inl (w64 (s66.1 + 1),s66.2 ++ [(⟨w64 (v67.value * s66.1),v69 ++ [s66.1]⟩ : aZ)])))))))))
 else
 some (.inr s66.2))) (v59,s56.2)) : Option (List aZ)).bind fun v72 =>
 some (.inl (w64 (s56.1 + 1),v72)))
 else
 some (.inr s56.2))) (0,([] : List aZ)) : Option (List aZ)).bind fun v73 =>
 some v73) : Option (List aZ)).bind fun v74 =>
 some (.inl (v74,w64 (s38.2 + 1))))
 else
 some (.inr s38.1))) ([(⟨1,[]⟩ : aZ)],0) : Option (List aZ)).bind fun v75 =>
 some v75)
def pG (p0 : List aZ) (p1 : List aZ) : Option (List aZ) :=
 ((cM (S := Int × Int × List aZ) (X := Int × List aZ) (fun s18 =>
 (if s18.2.1 < (p1.length : Int) then
 ((((cM (S := Int × List aZ) (X := Int × List aZ) (fun s25 =>
 (((if s25.1 < (p0.length : Int) then
 ((atI p0 s25.1).bind fun v26 =>
 ((atI p1 s18.2.1).bind fun v27 =>
 some (decide (v26.value ≤ v27.value))))
 else
 some false) : Option Bool).bind fun v28 =>
 (if v28 = true then
 ((atI p0 s25.1).bind fun v29 =>
 (chk ((s25.2.length + [v29].length) * 2 * 64 ≤ 140737488355328) (
 some (.inl (w64 (s25.1 + 1),s25.2 ++ [v29])))))
 else
 some (.inr (s25.1,s25.2))))) (s18.1,s18.2.2) : Option (Int × List aZ)).bind fun v31 =>
 ((atI p1 s18.2.1).bind fun v32 =>
 (chk ((v31.2.length + [v32].length) * 2 * 64 ≤ 140737488355328) (
 some (v31.1,v31.2 ++ [v32]))))) : Option (Int × List aZ)).bind fun v34 =>
 some (.inl (v34.1,w64 (s18.2.1 + 1),v34.2)))
 else
 some (.inr (s18.1,s18.2.2)))) (0,0,([] : List aZ)) : Option (Int × List aZ)).bind fun v35 =>
 (chk (0 ≤ v35.1 ∧ v35.1 ≤ (p0.length : Int) ∧ (p0.length : Int) ≤ (p0.length : Int)) (
 (chk ((v35.2.length + (xS p0 v35.1 (p0.length : Int)).length) * 2 * 64 ≤ 140737488355328) (
 some (v35.2 ++ (xS p0 v35.1 (p0.length : Int))))))))
def jH : Nat → (List aZ) → Option (List aZ)
 | 0,_ => none
 | n' + 1,p0 =>
 (if (p0.length : Int) < 2 then
 some p0
 else
 (chk (0 ≤ (0 : Int) ∧ (0 : Int) ≤ (w64 ((p0.length : Int).tdiv 2)) ∧ (w64 ((p0.length : Int).tdiv 2)) ≤ (p0.length : Int)) (
 (chk (0 ≤ (w64 ((p0.length : Int).tdiv 2)) ∧ (w64 ((p0.length : Int).tdiv 2)) ≤ (p0.length : Int) ∧ (p0.length : Int) ≤ (p0.length : Int)) (
 ((jH n' (xS p0 (0 : Int) (w64 ((p0.length : Int).tdiv 2)))).bind fun v4 =>
 ((jH n' (xS p0 (w64 ((p0.length : Int).tdiv 2)) (p0.length : Int))).bind fun v5 =>
 ((pG v4 v5).bind fun v6 =>
 some v6))))))))
def pV (p0 : List aZ) (p1 : Int) : Option Int :=
 ((cM (S := Int × Int) (X := Int) (fun s4 =>
 (if s4.1 < s4.2 then
 ((atI p0 (w64 ((w64 (s4.1 + s4.2)).tdiv 2))).bind fun v6 =>
 (if v6.value < p1 then
 some (.inl (w64 ((w64 ((w64 (s4.1 + s4.2)).tdiv 2)) + 1),s4.2))
 else
 some (.inl (s4.1,w64 ((w64 (s4.1 + s4.2)).tdiv 2)))))
 else
 some (.inr s4.1))) (0,(p0.length : Int)) : Option Int).bind fun v7 =>
 some v7)
def oK (p0 : List Int) : Option (List Int) :=
 ((cM (S := Int × List Int) (X := List Int) (fun s18 =>
 (if s18.1 < (p0.length : Int) then
 ((((cM (S := Int) (X := Int) (fun s23 =>
 (((if 0 < s23 then
 ((atI s18.2 (w64 (s23 - 1))).bind fun v24 =>
 ((atI p0 s18.1).bind fun v25 =>
 some (decide (v25 < v24))))
 else
 some false) : Option Bool).bind fun v26 =>
 (if v26 = true then
 some (.inl (w64 (s23 - 1)))
 else
 some (.inr s23)))) (s18.2.length : Int) : Option Int).bind fun v27 =>
 (chk (0 ≤ (0 : Int) ∧ (0 : Int) ≤ v27 ∧ v27 ≤ (s18.2.length : Int)) (
 ((atI p0 s18.1).bind fun v29 =>
 ((jY (xS s18.2 (0 : Int) v27)).bind fun v30 =>
 (chk ((v30.length + [v29].length) * 1 * 64 ≤ 140737488355328) (
 (chk (0 ≤ v27 ∧ v27 ≤ (s18.2.length : Int) ∧ (s18.2.length : Int) ≤ (s18.2.length : Int)) (
 (chk (((v30 ++ [v29]).length + (xS s18.2 v27 (s18.2.length : Int)).length) * 1 * 64 ≤ 140737488355328) (
 some ((v30 ++ [v29]) ++ (xS s18.2 v27 (s18.2.length : Int)))))))))))))) : Option (List Int)).bind fun v34 =>
 some (.inl (w64 (s18.1 + 1),v34)))
 else
 some (.inr s18.2))) (0,([] : List Int)) : Option (List Int)).bind fun v35 =>
 some v35)
def pT (p0 : List Int) (p1 : List Int) : Option (List dW) :=
 ((oK p0).bind fun v1 =>
 ((oK p1).bind fun v2 =>
 ((cM (S := Int × List dW) (X := List dW) (fun s7 =>
 (if s7.1 < (v2.length : Int) then
 ((atI v1 (w64 ((w64 ((v1.length : Int) - 1)) - s7.1))).bind fun v8 =>
 ((atI v2 s7.1).bind fun v9 =>
 (chk ((s7.2.length + [(⟨v8,v9⟩ : dW)].length) * 2 * 64 ≤ 140737488355328) (
 some (.inl (w64 (s7.1 + 1),s7.2 ++ [(⟨v8,v9⟩ : dW)]))))))
 else
 some (.inr s7.2))) (0,([] : List dW)) : Option (List dW)).bind fun v11 =>
 some v11)))
def qQ (p0 : List dW) : Option Int :=
 ((cM (S := Int × Int) (X := Int) (fun s4 =>
 (if s4.2 < (p0.length : Int) then
 ((atI p0 s4.2).bind fun v5 =>
 ((atI p0 s4.2).bind fun v6 =>
 some (.inl (w64 (s4.1 + (w64 (v5.Driver + v6.Driven))),w64 (s4.2 + 1)))))
 else
 some (.inr s4.1))) (0,0) : Option Int).bind fun v7 =>
 some v7)
def iC (p0 : Int) : Option aJ :=
 some (⟨p0,1⟩ : aJ)
def oX (p0 : aJ) (p1 : aJ) : Option Int :=
 (if (w64 (p0.Num * p1.Den)) < (w64 (p1.Num * p0.Den)) then
 some (-1)
 else
 (if (w64 (p1.Num * p0.Den)) < (w64 (p0.Num * p1.Den)) then
 some 1
 else
 some 0))
def lU (p0 : List dW) (p1 : List dW) : Option Int :=
 ((qQ p0).bind fun v1 =>
 ((qQ p1).bind fun v2 =>
 ((cM (S := Int × List Int) (X := List Int) (fun s7 =>
 (if s7.1 < (p0.length : Int) then
 ((atI p0 s7.1).bind fun v8 =>
 ((atI p0 s7.1).bind fun v9 =>
 (chk ((s7.2.length + [v8.Driver,v9.Driven].length) * 1 * 64 ≤ 140737488355328) (
 some (.inl (w64 (s7.1 + 1),s7.2 ++ [v8.Driver,v9.Driven]))))))
 else
 some (.inr s7.2))) (0,[v1]) : Option (List Int)).bind fun v11 =>
 ((cM (S := Int × List Int) (X := List Int) (fun s16 =>
 (if s16.1 < (p1.length : Int) then
 ((atI p1 s16.1).bind fun v17 =>
 ((atI p1 s16.1).bind fun v18 =>
 (chk ((s16.2.length + [v17.Driver,v18.Driven].length) * 1 * 64 ≤ 140737488355328) (
 some (.inl (w64 (s16.1 + 1),s16.2 ++ [v17.Driver,v18.Driven]))))))
 else
 some (.inr s16.2))) (0,[v2]) : Option (List Int)).bind fun v20 =>
 ((cM (S := Int) (X := Unit ⊕ Int) (fun s27 =>
 (((if s27 < (v11.length : Int) then
 some (decide (s27 < (v20.length : Int)))
 else
 some false) : Option Bool).bind fun v28 =>
 (if v28 = true then
 ((atI v11 s27).bind fun v29 =>
 ((atI v20 s27).bind fun v30 =>
 (if v29 < v30 then
 some (.inr (.inr (-1)))
 else
 ((atI v11 s27).bind fun v31 =>
 ((atI v20 s27).bind fun v32 =>
 (if v32 < v31 then
 some (.inr (.inr 1))
 else
 some (.inl (w64 (s27 + 1)))))))))
 else
 some (.inr (.inl ()))))) 0 : Option (Unit ⊕ Int)).bind fun v33x => orE v33x fun v33 =>
 ((iC (v11.length : Int)).bind fun v34 =>
 ((iC (v20.length : Int)).bind fun v35 =>
 ((oX v34 v35).bind fun v36 =>
 some v36))))))))
def hH (p0 : fH) (p1 : aJ) (p2 : aZ) (p3 : aZ) : Option fH :=
 ((iI (w64 ((w64 (p2.value * p1.Den)) - (w64 (p3.value * p1.Num))))).bind fun v1 =>
 (((if 0 < (p0.train.length : Int) then
 some (decide ((w64 (p0.off * p3.value)) < (w64 (v1 * p0.driven))))
 else
 some false) : Option Bool).bind fun v2 =>
 (if v2 = true then
 some p0
 else
 ((pT p2.teeth p3.teeth).bind fun v3 =>
 (((if (p0.train.length : Int) = 0 then
 some true
 else
 (if (w64 (v1 * p0.driven)) < (w64 (p0.off * p3.value)) then
 some true
 else
 ((lU v3 p0.train).bind fun v4 =>
 some (decide (v4 < 0))))) : Option Bool).bind fun v5 =>
 (if v5 = true then
 some (⟨p2.value,p3.value,v1,v3⟩ : fH)
 else
 some p0))))))
def nE (p0 : aJ) (p1 : qE) : Option (List dW) :=
 ((jA p1.LowDriver p1.HighDriver p1.Stages).bind fun v1 =>
 ((jA p1.LowDriven p1.HighDriven p1.Stages).bind fun v2 =>
 ((jH aM6 v2).bind fun v3 =>
 ((cM (S := Int × fH) (X := fH) (fun s37 =>
 (if s37.1 < (v1.length : Int) then
 ((((atI v1 s37.1).bind fun v38 =>
 (chk (p0.Num ≠ 0) (
 ((pV v3 (w64 ((w64 ((w64 (v38.value * p0.Den)).tdiv p0.Num)) + 1))).bind fun v40 =>
 (((if 0 < v40 then
 ((atI v3 (w64 (v40 - 1))).bind fun v41 =>
 cM (S := Int × fH) (X := fH) (fun s48 =>
 (((if 0 ≤ s48.1 then
 ((atI v3 s48.1).bind fun v49 =>
 some (decide (v49.value = v41.value)))
 else
 some false) : Option Bool).bind fun v50 =>
 (if v50 = true then
 ((atI v1 s37.1).bind fun v51 =>
 ((atI v3 s48.1).bind fun v52 =>
 ((hH s48.2 p0 v51 v52).bind fun v53 =>
 some (.inl (w64 (s48.1 - 1),v53)))))
 else
 some (.inr s48.2)))) (w64 (v40 - 1),s37.2))
 else
 some s37.2) : Option fH).bind fun v54 =>
 cM (S := Int × fH) (X := fH) (fun s62 =>
 (((if s62.1 < (v3.length : Int) then
 ((atI v3 s62.1).bind fun v63 =>
 ((atI v3 v40).bind fun v64 =>
 some (decide (v63.value = v64.value))))
 else
 some false) : Option Bool).bind fun v65 =>
 (if v65 = true then
 ((atI v1 s37.1).bind fun v66 =>
 ((atI v3 s62.1).bind fun v67 =>
 ((hH s62.2 p0 v66 v67).bind fun v68 =>
 some (.inl (w64 (s62.1 + 1),v68)))))
 else
 some (.inr s62.2)))) (v40,v54)))))) : Option fH).bind fun v69 =>
 some (.inl (w64 (s37.1 + 1),v69)))
 else
 some (.inr s37.2))) (0,(⟨0,0,0,([] : List dW)⟩ : fH)) : Option fH).bind fun v70 =>
 some v70.train))))
def tX (p0 : dW) : Option Bool :=
 ((iB p0.Driver).bind fun v1 =>
 (if v1 = true then
 ((iB p0.Driven).bind fun v2 =>
 some v2)
 else
 some false))
def wL (p0 : List dW) : Option Bool :=
 ((cM (S := Int) (X := Unit ⊕ Bool) (fun s4 =>
 (if s4 < (p0.length : Int) then
 ((atI p0 s4).bind fun v5 =>
 ((tX v5).bind fun v6 =>
 (if (!v6) = true then
 some (.inr (.inr false))
 else
 some (.inl (w64 (s4 + 1))))))
 else
 some (.inr (.inl ())))) 0 : Option (Unit ⊕ Bool)).bind fun v7x => orE v7x fun v7 =>
 some (decide ((p0.length : Int) ≤ 5)))
def iR (p0 : aJ) (p1 : aJ) : Option (aJ × Bool) :=
 ((fM (w64 (p0.Num * p1.Num)) (w64 (p0.Den * p1.Den))).bind fun v1 =>
 some (v1.1,v1.2))
def qA (p0 : List dW) : Option (aJ × Bool) :=
 ((iC 1).bind fun v1 =>
 ((cM (S := Int × aJ) (X := aJ ⊕ (aJ × Bool)) (fun s7 =>
 (if s7.1 < (p0.length : Int) then
 ((atI p0 s7.1).bind fun v8 =>
 ((atI p0 s7.1).bind fun v9 =>
 ((fM (w64 (-v8.Driver)) v9.Driven).bind fun v10 =>
 ((iR s7.2 v10.1).bind fun v11 =>
 (if (!v11.2) = true then
 some (.inr (.inr ((⟨0,0⟩ : aJ),false)))
 else
 some (.inl (w64 (s7.1 + 1),v11.1)))))))
 else
 some (.inr (.inl s7.2)))) (0,v1) : Option (aJ ⊕ (aJ × Bool))).bind fun v12x => orE v12x fun v12 =>
 some (v12,true)))
def xC (p0 : aJ) : Option aJ :=
 some (⟨w64 (-p0.Num),p0.Den⟩ : aJ)
def xP (p0 : aJ) (p1 : aJ) : Option (aJ × Bool) :=
 ((fM (w64 ((w64 (p0.Num * p1.Den)) + (w64 (p1.Num * p0.Den)))) (w64 (p0.Den * p1.Den))).bind fun v1 =>
 some (v1.1,v1.2))
def rX (p0 : List dW) (p1 : aJ) : Option (aJ × Bool) :=
 ((qA p0).bind fun v1 =>
 (if (!v1.2) = true then
 some ((⟨0,0⟩ : aJ),false)
 else
 ((iI v1.1.Num).bind fun v2 =>
 ((xC p1).bind fun v3 =>
 ((xP (⟨v2,v1.1.Den⟩ : aJ) v3).bind fun v4 =>
 some (v4.1,v4.2))))))
def uU (p0 : List dW) (p1 : aJ) : Option (aJ × Int) :=
 ((((wL p0).bind fun v1 =>
 (if (!v1) = true then
 some true
 else
 ((tO p1).bind fun v2 =>
 some (!v2)))) : Option Bool).bind fun v3 =>
 (if v3 = true then
 some ((⟨0,0⟩ : aJ),1)
 else
 ((rX p0 p1).bind fun v4 =>
 (if (!v4.2) = true then
 some ((⟨0,0⟩ : aJ),2)
 else
 ((iI v4.1.Num).bind fun v5 =>
 some ((⟨v5,v4.1.Den⟩ : aJ),0))))))
def uA (p0 : aJ) (p1 : qE) : Option (aBl × Int) :=
 ((nE p0 p1).bind fun v1 =>
 ((uU v1 p0).bind fun v2 =>
 (if v2.2 ≠ 0 then
 some ((⟨([] : List dW),(⟨0,0⟩ : aJ)⟩ : aBl),v2.2)
 else
 some ((⟨v1,v2.1⟩ : aBl),0))))
def nA (p0 : aJ) (p1 : qE) : Option (aBl × Int) :=
 ((((tO p0).bind fun v1 =>
 (if (!v1) = true then
 some true
 else
 ((zA p1).bind fun v2 =>
 some (!v2)))) : Option Bool).bind fun v3 =>
 (if v3 = true then
 some ((⟨([] : List dW),(⟨0,0⟩ : aJ)⟩ : aBl),1)
 else
 ((xG p0).bind fun v4 =>
 (if (!v4) = true then
 some ((⟨([] : List dW),(⟨0,0⟩ : aJ)⟩ : aBl),2)
 else
 ((uA p0 p1).bind fun v5 =>
 some (v5.1,v5.2))))))
def mI (p0 : List dW) : Option bJ :=
 ((atI p0 0).bind fun v1 =>
 ((atI p0 0).bind fun v2 =>
 ((atI p0 1).bind fun v3 =>
 ((atI p0 1).bind fun v4 =>
 some (⟨[(⟨(⟨#[99,101,110,116,101,114]⟩ : ByteArray),[v1.Driver,12]⟩ : cQ),(⟨(⟨#[116,104,105,114,100]⟩ : ByteArray),[v2.Driven,v3.Driver]⟩ : cQ),(⟨(⟨#[101,115,99,97,112,101]⟩ : ByteArray),[v4.Driven]⟩ : cQ),(⟨(⟨#[109,105,110,117,116,101]⟩ : ByteArray),[36,10]⟩ : cQ),(⟨(⟨#[104,111,117,114]⟩ : ByteArray),[40]⟩ : cQ)],[(⟨0,0,1,0⟩ : cH),(⟨1,1,2,0⟩ : cH),(⟨0,1,3,0⟩ : cH),(⟨3,1,4,0⟩ : cH)]⟩ : bJ)))))
def oI (p0 : aA) : Option aA :=
 (chk ((([] : List bP).length + p0.Months.length) * 3 * 64 ≤ 140737488355328) (
 (chk ((([] : List bA).length + p0.Rules.length) * 3 * 64 ≤ 140737488355328) (
 some (⟨p0.Name,([] : List bP) ++ p0.Months,([] : List bA) ++ p0.Rules,p0.Week⟩ : aA)))))
def iA (p0 : ByteArray) (p1 : Int) (p2 : Int) (p3 : aA) (p4 : Int) : Option (aX × Int) :=
 ((nM p3).bind fun v1 =>
 (if (!v1) = true then
 some ((⟨(⟨#[]⟩ : ByteArray),(⟨([] : List cQ),([] : List cH)⟩ : bJ),0,0,0,0,0,(⟨(⟨#[]⟩ : ByteArray),([] : List bP),([] : List bA),0⟩ : aA),([] : List Int),0⟩ : aX),1)
 else
 ((kZ p0).bind fun v2 =>
 (if (!v2) = true then
 some ((⟨(⟨#[]⟩ : ByteArray),(⟨([] : List cQ),([] : List cH)⟩ : bJ),0,0,0,0,0,(⟨(⟨#[]⟩ : ByteArray),([] : List bP),([] : List bA),0⟩ : aA),([] : List Int),0⟩ : aX),7)
 else
 ((((cN p1 1 36000).bind fun v3 =>
 (if (!v3) = true then
 some true
 else
 ((iB p2).bind fun v4 =>
 some (!v4)))) : Option Bool).bind fun v5 =>
 (if v5 = true then
 some ((⟨(⟨#[]⟩ : ByteArray),(⟨([] : List cQ),([] : List cH)⟩ : bJ),0,0,0,0,0,(⟨(⟨#[]⟩ : ByteArray),([] : List bP),([] : List bA),0⟩ : aA),([] : List Int),0⟩ : aX),2)
 else
 ((qY p3 p4).bind fun v6 =>
 (if v6.2.2 ≠ 0 then
 some ((⟨(⟨#[]⟩ : ByteArray),(⟨([] : List cQ),([] : List cH)⟩ : bJ),0,0,0,0,0,(⟨(⟨#[]⟩ : ByteArray),([] : List bP),([] : List bA),0⟩ : aA),([] : List Int),0⟩ : aX),v6.2.2)
 else
 ((fM p1 (w64 (2 * p2))).bind fun v7 =>
 ((qN).bind fun v8 =>
 ((nA v7.1 v8).bind fun v9 =>
 (((if v9.2 ≠ 0 then
 some true
 else
 some (decide (v9.1.Error.Num ≠ 0))) : Option Bool).bind fun v10 =>
 (if v10 = true then
 some ((⟨(⟨#[]⟩ : ByteArray),(⟨([] : List cQ),([] : List cH)⟩ : bJ),0,0,0,0,0,(⟨(⟨#[]⟩ : ByteArray),([] : List bP),([] : List bA),0⟩ : aA),([] : List Int),0⟩ : aX),3)
 else
 ((mI v9.1.Train).bind fun v11 =>
 ((oI p3).bind fun v12 =>
 some ((⟨p0,v11,0,4,2,p2,p1,v12,v6.1,2⟩ : aX),0))))))))))))))))
def vV (p0 : aA) (p1 : Int) (p2 : Int) : Option (List Int) :=
 ((cM (S := Int × List Int) (X := List Int) (fun s9 =>
 (if s9.1 < (w64 (p1 + p2)) then
 ((cM (S := Int × List Int) (X := List Int) (fun s13 =>
 (if s13.1 < (p0.Months.length : Int) then
 ((kS p0 s9.1 s13.1).bind fun v14 =>
 (chk ((s13.2.length + [v14].length) * 1 * 64 ≤ 140737488355328) (
 some (.inl (w64 (s13.1 + 1),s13.2 ++ [v14])))))
 else
 some (.inr s13.2))) (0,s9.2) : Option (List Int)).bind fun v16 =>
 some (.inl (w64 (s9.1 + 1),v16)))
 else
 some (.inr s9.2))) (p1,([] : List Int)) : Option (List Int)).bind fun v17 =>
 some v17)
def lE (p0 : bN) : Option (aX × bN) :=
 ((nD p0).bind fun v1 =>
 ((eR v1.2 [3600,7200,5400,18000,4800,3960]).bind fun v2 =>
 ((eR v2.2 [30,15,36,20]).bind fun v3 =>
 ((bR v3.2 4).bind fun v4 =>
 ((iA (⟨#[99,108,111,99,107]⟩ : ByteArray) v2.1 v3.1 v1.1 (w64 (1 + v4.1))).bind fun v5 =>
 (((if v5.2 ≠ 0 then
 ((mI [(⟨64,8⟩ : dW),(⟨60,8⟩ : dW)]).bind fun v6 =>
 ((vV v1.1 0 1).bind fun v7 =>
 some ((⟨#[112,108,97,105,110]⟩ : ByteArray),v6.Arbors,0,4,2,30,3600,v1.1,0,v6.Meshes,v7)))
 else
 some (v5.1.Name,v5.1.Works.Arbors,v5.1.Minute,v5.1.Hour,v5.1.Escape,v5.1.Teeth,v5.1.Beats,v5.1.Calendar,v5.1.Strike,v5.1.Works.Meshes,v5.1.Cam)) : Option (ByteArray × List cQ × Int × Int × Int × Int × Int × aA × Int × List cH × List Int)).bind fun v8 =>
 ((((fG v4.2 4).bind fun v9 =>
 (if v9.1 = true then
 ((bR v9.2 3).bind fun v10 =>
 some (v10.2,v10.1))
 else
 some (v9.2,v8.2.2.2.2.2.2.2.2.1))) : Option (bN × Int)).bind fun v11 =>
 some ((⟨v8.1,(⟨v8.2.1,v8.2.2.2.2.2.2.2.2.2.1⟩ : bJ),v8.2.2.1,v8.2.2.2.1,v8.2.2.2.2.1,v8.2.2.2.2.2.1,v8.2.2.2.2.2.2.1,v8.2.2.2.2.2.2.2.1,v8.2.2.2.2.2.2.2.2.2.2,v11.2⟩ : aX),v11.1))))))))
def kV (p0 : bN) (p1 : aA) : Option (bQ × bN) :=
 ((eR p0 [0,1900,2000,2023,2024,2100,9999,4,33]).bind fun v1 =>
 ((bR v1.2 (p1.Months.length : Int)).bind fun v2 =>
 ((kS p1 v1.1 (w64 ((w64 (1 + v2.1)) - 1))).bind fun v3 =>
 ((bR v2.2 v3).bind fun v4 =>
 ((((fG v4.2 3).bind fun v5 =>
 (if v5.1 = true then
 some (v5.2,(⟨v1.1,w64 (1 + v2.1),v3⟩ : bQ))
 else
 some (v5.2,(⟨v1.1,w64 (1 + v2.1),w64 (1 + v4.1)⟩ : bQ)))) : Option (bN × bQ)).bind fun v6 =>
 some (v6.2,v6.1))))))
def pM (p0 : cQ) : Option Bool :=
 ((cM (S := Int) (X := Unit ⊕ Bool) (fun s4 =>
 (if s4 < (p0.Wheels.length : Int) then
 ((atI p0.Wheels s4).bind fun v5 =>
 ((iB v5).bind fun v6 =>
 (if (!v6) = true then
 some (.inr (.inr false))
 else
 some (.inl (w64 (s4 + 1))))))
 else
 some (.inr (.inl ())))) 0 : Option (Unit ⊕ Bool)).bind fun v7x => orE v7x fun v7 =>
 ((kZ p0.Name).bind fun v8 =>
 (if v8 = true then
 some (decide ((p0.Wheels.length : Int) ≤ 5))
 else
 some false)))
def qW (p0 : bJ) (p1 : ByteArray) : Option Int :=
 ((cM (S := Int) (X := Unit ⊕ Int) (fun s3 =>
 (if s3 < (p0.Arbors.length : Int) then
 ((atI p0.Arbors s3).bind fun v4 =>
 (if v4.Name = p1 then
 some (.inr (.inr s3))
 else
 some (.inl (w64 (s3 + 1)))))
 else
 some (.inr (.inl ())))) 0 : Option (Unit ⊕ Int)).bind fun v5x => orE v5x fun v5 =>
 some (-1))
def mO (p0 : bJ) (p1 : Int) (p2 : Int) : Option Bool :=
 ((cN p1 0 (w64 ((p0.Arbors.length : Int) - 1))).bind fun v1 =>
 (if v1 = true then
 ((atI p0.Arbors p1).bind fun v2 =>
 ((cN p2 0 (w64 ((v2.Wheels.length : Int) - 1))).bind fun v3 =>
 some v3))
 else
 some false))
def rB (p0 : bJ) (p1 : cH) : Option Bool :=
 (if p1.A ≠ p1.B then
 ((mO p0 p1.A p1.WheelA).bind fun v1 =>
 (if v1 = true then
 ((mO p0 p1.B p1.WheelB).bind fun v2 =>
 some v2)
 else
 some false))
 else
 some false)
def pQ (p0 : cH) (p1 : cH) : Option Bool :=
 (if p0 = p1 then
 some true
 else
 (if p0.A = p1.B then
 (if p0.WheelA = p1.WheelB then
 (if p0.B = p1.A then
 some (decide (p0.WheelB = p1.WheelA))
 else
 some false)
 else
 some false)
 else
 some false))
def pW (p0 : bJ) (p1 : cH) (p2 : Int) : Option Bool :=
 ((cM (S := Int) (X := Unit ⊕ Bool) (fun s4 =>
 (if s4 < p2 then
 ((atI p0.Meshes s4).bind fun v5 =>
 ((pQ v5 p1).bind fun v6 =>
 (if v6 = true then
 some (.inr (.inr true))
 else
 some (.inl (w64 (s4 + 1))))))
 else
 some (.inr (.inl ())))) 0 : Option (Unit ⊕ Bool)).bind fun v7x => orE v7x fun v7 =>
 some false)
def wS (p0 : bJ) : Option Bool :=
 ((cM (S := Int) (X := Unit ⊕ Bool) (fun s7 =>
 (if s7 < (p0.Arbors.length : Int) then
 ((((atI p0.Arbors s7).bind fun v8 =>
 ((pM v8).bind fun v9 =>
 (if (!v9) = true then
 some true
 else
 ((atI p0.Arbors s7).bind fun v10 =>
 ((qW p0 v10.Name).bind fun v11 =>
 some (decide (v11 ≠ s7))))))) : Option Bool).bind fun v12 =>
 (if v12 = true then
 some (.inr (.inr false))
 else
 some (.inl (w64 (s7 + 1)))))
 else
 some (.inr (.inl ())))) 0 : Option (Unit ⊕ Bool)).bind fun v13x => orE v13x fun v13 =>
 ((cM (S := Int) (X := Unit ⊕ Bool) (fun s20 =>
 (if s20 < (p0.Meshes.length : Int) then
 ((((atI p0.Meshes s20).bind fun v21 =>
 ((rB p0 v21).bind fun v22 =>
 (if (!v22) = true then
 some true
 else
 ((atI p0.Meshes s20).bind fun v23 =>
 ((pW p0 v23 s20).bind fun v24 =>
 some v24))))) : Option Bool).bind fun v25 =>
 (if v25 = true then
 some (.inr (.inr false))
 else
 some (.inl (w64 (s20 + 1)))))
 else
 some (.inr (.inl ())))) 0 : Option (Unit ⊕ Bool)).bind fun v26x => orE v26x fun v26 =>
 (if (p0.Arbors.length : Int) ≤ 16 then
 some (decide ((p0.Meshes.length : Int) ≤ 24))
 else
 some false)))
def kP (p0 : bJ) (p1 : Int) : Option Bool :=
 ((cN p1 0 (w64 ((p0.Arbors.length : Int) - 1))).bind fun v1 =>
 some v1)
def rM (p0 : List Int) : Option Bool :=
 ((cM (S := Int) (X := Unit ⊕ Bool) (fun s4 =>
 (if s4 < (p0.length : Int) then
 ((atI p0 s4).bind fun v5 =>
 ((cN v5 1 60).bind fun v6 =>
 (if (!v6) = true then
 some (.inr (.inr false))
 else
 some (.inl (w64 (s4 + 1))))))
 else
 some (.inr (.inl ())))) 0 : Option (Unit ⊕ Bool)).bind fun v7x => orE v7x fun v7 =>
 ((cN (p0.length : Int) 1 260).bind fun v8 =>
 some v8))
def tK (p0 : aX) : Option Bool :=
 ((((kZ p0.Name).bind fun v1 =>
 (if (!v1) = true then
 some true
 else
 ((wS p0.Works).bind fun v2 =>
 (if (!v2) = true then
 some true
 else
 ((kP p0.Works p0.Minute).bind fun v3 =>
 (if (!v3) = true then
 some true
 else
 ((kP p0.Works p0.Hour).bind fun v4 =>
 (if (!v4) = true then
 some true
 else
 ((kP p0.Works p0.Escape).bind fun v5 =>
 some (!v5)))))))))) : Option Bool).bind fun v6 =>
 (if v6 = true then
 some false
 else
 ((iB p0.Teeth).bind fun v7 =>
 (if v7 = true then
 ((cN p0.Beats 1 36000).bind fun v8 =>
 (if v8 = true then
 ((nM p0.Calendar).bind fun v9 =>
 (if v9 = true then
 ((rM p0.Cam).bind fun v10 =>
 (if v10 = true then
 ((cN p0.Strike 0 2).bind fun v11 =>
 some v11)
 else
 some false))
 else
 some false))
 else
 some false))
 else
 some false))))
def oL (p0 : bJ) (p1 : cH) : Option dW :=
 ((atI p0.Arbors p1.A).bind fun v1 =>
 ((atI v1.Wheels p1.WheelA).bind fun v2 =>
 ((atI p0.Arbors p1.B).bind fun v3 =>
 ((atI v3.Wheels p1.WheelB).bind fun v4 =>
 some (⟨v2,v4⟩ : dW)))))
def hP (p0 : bJ) (p1 : List Bool) (p2 : List aJ) : Option (Bool × Bool × List Bool × List aJ) :=
 ((cM (S := Bool × Int × List Bool × List aJ) (X := (Bool × List Bool × List aJ) ⊕ (Bool × Bool × List Bool × List aJ)) (fun s14 =>
 (if s14.2.1 < (p0.Meshes.length : Int) then
 ((((atI p0.Meshes s14.2.1).bind fun v15 =>
 ((oL p0 v15).bind fun v16 =>
 ((atI s14.2.2.1 v15.A).bind fun v17 =>
 ((atI s14.2.2.1 v15.B).bind fun v18 =>
 (if (v17 == v18) = true then
 some (.inl (s14.1,s14.2.2.1,s14.2.2.2))
 else
 ((((atI s14.2.2.1 v15.B).bind fun v19 =>
 (if v19 = true then
 some ((⟨v15.B,0,v15.A,0⟩ : cH),(⟨v16.Driven,v16.Driver⟩ : dW))
 else
 some (v15,v16))) : Option (cH × dW)).bind fun v20 =>
 ((fM (w64 (-v20.2.Driver)) v20.2.Driven).bind fun v21 =>
 ((atI s14.2.2.2 v20.1.A).bind fun v22 =>
 ((iR v22 v21.1).bind fun v23 =>
 (if (!v23.2) = true then
 some (.inr (.inr (.inr (false,false,s14.2.2.1,s14.2.2.2))))
 else
 ((atI s14.2.2.2 v20.1.B).bind fun v24 =>
 ((atI s14.2.2.1 v20.1.B).bind fun v25 =>
 some (.inl (true,List.set s14.2.2.1 v20.1.B.toNat true,List.set s14.2.2.2 v20.1.B.toNat v23.1)))))))))))))) : Option ((Bool × List Bool × List aJ) ⊕ ((Bool × Int × List Bool × List aJ) ⊕ ((Bool × List Bool × List aJ) ⊕ (Bool × Bool × List Bool × List aJ))))).bind fun v26x => orE v26x fun v26 =>
 some (.inl (v26.1,w64 (s14.2.1 + 1),v26.2.1,v26.2.2)))
 else
 some (.inr (.inl (s14.1,s14.2.2.1,s14.2.2.2))))) (false,0,p1,p2) : Option ((Bool × List Bool × List aJ) ⊕ (Bool × Bool × List Bool × List aJ))).bind fun v27x => orE v27x fun v27 =>
 some (v27.1,true,v27.2.1,v27.2.2))
def rJ (p0 : bJ) (p1 : cH) (p2 : List aJ) : Option Bool :=
 ((oL p0 p1).bind fun v1 =>
 ((fM (w64 (-v1.Driver)) v1.Driven).bind fun v2 =>
 ((atI p2 p1.A).bind fun v3 =>
 ((iR v3 v2.1).bind fun v4 =>
 (if v4.2 = true then
 ((atI p2 p1.B).bind fun v5 =>
 some (decide (v4.1 = v5)))
 else
 some false)))))
def mX (p0 : bJ) (p1 : Int) : Option (List aJ × Int) :=
 ((kP p0 p1).bind fun v1 =>
 (if (!v1) = true then
 some (([] : List aJ),2)
 else
 (chk (0 ≤ (p0.Arbors.length : Int) ∧ (p0.Arbors.length : Int) = (p0.Arbors.length : Int) ∧ (p0.Arbors.length : Int).toNat * 1 * 64 ≤ 281474976710656) (
 (chk (0 ≤ (p0.Arbors.length : Int) ∧ (p0.Arbors.length : Int) = (p0.Arbors.length : Int) ∧ (p0.Arbors.length : Int).toNat * 2 * 64 ≤ 281474976710656) (
 ((atI (List.replicate (p0.Arbors.length : Int).toNat false) p1).bind fun v4 =>
 ((iC 1).bind fun v5 =>
 ((atI (List.replicate (p0.Arbors.length : Int).toNat (⟨0,0⟩ : aJ)) p1).bind fun v6 =>
 ((cM (S := Bool × List Bool × List aJ) (X := (List Bool × List aJ) ⊕ (List aJ × Int)) (fun s11 =>
 (if s11.1 = true then
 ((hP p0 s11.2.1 s11.2.2).bind fun v12 =>
 (chk (v12.2.2.1.length = s11.2.1.length) (
 (chk (v12.2.2.2.length = s11.2.2.length) (
 (if (!v12.2.1) = true then
 some (.inr (.inr (([] : List aJ),2)))
 else
 some (.inl (v12.1,v12.2.2.1,v12.2.2.2))))))))
 else
 some (.inr (.inl (s11.2.1,s11.2.2))))) (true,List.set (List.replicate (p0.Arbors.length : Int).toNat false) p1.toNat true,List.set (List.replicate (p0.Arbors.length : Int).toNat (⟨0,0⟩ : aJ)) p1.toNat v5) : Option ((List Bool × List aJ) ⊕ (List aJ × Int))).bind fun v15x => orE v15x fun v15 =>
 ((cM (S := Int) (X := Unit ⊕ (List aJ × Int)) (fun s18 =>
 (if s18 < (v15.1.length : Int) then
 ((atI v15.1 s18).bind fun v19 =>
 (if (!v19) = true then
 some (.inr (.inr (([] : List aJ),6)))
 else
 some (.inl (w64 (s18 + 1)))))
 else
 some (.inr (.inl ())))) 0 : Option (Unit ⊕ (List aJ × Int))).bind fun v20x => orE v20x fun v20 =>
 ((cM (S := Int) (X := Unit ⊕ (List aJ × Int)) (fun s24 =>
 (if s24 < (p0.Meshes.length : Int) then
 ((atI p0.Meshes s24).bind fun v25 =>
 ((rJ p0 v25 v15.2).bind fun v26 =>
 (if (!v26) = true then
 some (.inr (.inr (([] : List aJ),10)))
 else
 some (.inl (w64 (s24 + 1))))))
 else
 some (.inr (.inl ())))) 0 : Option (Unit ⊕ (List aJ × Int))).bind fun v27x => orE v27x fun v27 =>
 some (v15.2,0)))))))))))))
def sS (p0 : aX) (p1 : aJ) : Option Bool :=
 ((iI p1.Num).bind fun v1 =>
 some (decide ((w64 ((w64 (2 * p0.Teeth)) * v1)) = (w64 (p0.Beats * p1.Den)))))
def oP (p0 : aA) (p1 : List Int) : Option Int :=
 ((((nM p0).bind fun v1 =>
 (if (!v1) = true then
 some true
 else
 ((rM p1).bind fun v2 =>
 some (!v2)))) : Option Bool).bind fun v3 =>
 (if v3 = true then
 some 1
 else
 (chk ((p0.Months.length : Int) ≠ 0) (
 (if ((p1.length : Int).tmod (p0.Months.length : Int)) ≠ 0 then
 some 6
 else
 some 0)))))
def lG (p0 : aX) : Option (List ByteArray) :=
 ((mX p0.Works p0.Minute).bind fun v1 =>
 (((if v1.2 ≠ 0 then
 (chk ((([] : List ByteArray).length + [(⟨#[119,111,114,107,115]⟩ : ByteArray)].length) * 1 * 64 ≤ 140737488355328) (
 some (([] : List ByteArray) ++ [(⟨#[119,111,114,107,115]⟩ : ByteArray)])))
 else
 ((((atI v1.1 p0.Hour).bind fun v3 =>
 (if v3 ≠ (⟨1,12⟩ : aJ) then
 (chk ((([] : List ByteArray).length + [(⟨#[104,111,117,114]⟩ : ByteArray)].length) * 1 * 64 ≤ 140737488355328) (
 some (([] : List ByteArray) ++ [(⟨#[104,111,117,114]⟩ : ByteArray)])))
 else
 some ([] : List ByteArray))) : Option (List ByteArray)).bind fun v5 =>
 ((atI v1.1 p0.Escape).bind fun v6 =>
 ((sS p0 v6).bind fun v7 =>
 (if (!v7) = true then
 (chk ((v5.length + [(⟨#[98,101,97,116,115]⟩ : ByteArray)].length) * 1 * 64 ≤ 140737488355328) (
 some (v5 ++ [(⟨#[98,101,97,116,115]⟩ : ByteArray)])))
 else
 some v5))))) : Option (List ByteArray)).bind fun v9 =>
 ((((oP p0.Calendar p0.Cam).bind fun v10 =>
 (if v10 ≠ 0 then
 (chk ((v9.length + [(⟨#[99,97,109]⟩ : ByteArray)].length) * 1 * 64 ≤ 140737488355328) (
 some (v9 ++ [(⟨#[99,97,109]⟩ : ByteArray)])))
 else
 some v9)) : Option (List ByteArray)).bind fun v12 =>
 some v12)))
def uV (p0 : Int) : Option Bool :=
 ((cN p0 0 9999).bind fun v1 =>
 some v1)
def vS (p0 : aA) (p1 : bQ) : Option Bool :=
 ((((uV p1.Year).bind fun v1 =>
 (if (!v1) = true then
 some true
 else
 ((cN p1.Month 1 (p0.Months.length : Int)).bind fun v2 =>
 some (!v2)))) : Option Bool).bind fun v3 =>
 (if v3 = true then
 some false
 else
 ((kS p0 p1.Year (w64 (p1.Month - 1))).bind fun v4 =>
 ((cN p1.Day 1 v4).bind fun v5 =>
 some v5))))
def jT (p0 : Int) (p1 : Int) : Option Int :=
 (if p1 < p0 then
 some p0
 else
 some p1)
def jQ (p0 : aA) (p1 : List Int) (p2 : bQ) (p3 : Int) : Option (aC × Int) :=
 ((oP p0 p1).bind fun v1 =>
 (if v1 ≠ 0 then
 some ((⟨([] : List Int),0,0,0,0,0,0⟩ : aC),v1)
 else
 ((((vS p0 p2).bind fun v2 =>
 (if (!v2) = true then
 some true
 else
 ((cN p3 1 p0.Week).bind fun v3 =>
 some (!v3)))) : Option Bool).bind fun v4 =>
 (if v4 = true then
 some ((⟨([] : List Int),0,0,0,0,0,0⟩ : aC),2)
 else
 ((jY p1).bind fun v5 =>
 (chk ((p0.Months.length : Int) ≠ 0) (
 (chk ((w64 ((p1.length : Int).tdiv (p0.Months.length : Int))) ≠ 0) (
 ((cM (S := Int × Int) (X := Int) (fun s11 =>
 (if s11.1 < (p1.length : Int) then
 ((atI p1 s11.1).bind fun v12 =>
 ((jT s11.2 v12).bind fun v13 =>
 some (.inl (w64 (s11.1 + 1),v13))))
 else
 some (.inr s11.2))) (0,0) : Option Int).bind fun v14 =>
 ((cM (S := Int × Int) (X := Int) (fun s20 =>
 (if s20.1 < (p0.Months.length : Int) then
 ((atI p0.Months s20.1).bind fun v21 =>
 ((atI p0.Months s20.1).bind fun v22 =>
 ((jT v21.Days v22.Leap).bind fun v23 =>
 ((jT s20.2 v23).bind fun v24 =>
 some (.inl (w64 (s20.1 + 1),v24))))))
 else
 some (.inr s20.2))) (0,v14) : Option Int).bind fun v25 =>
 some ((⟨v5,(p0.Months.length : Int),v25,w64 ((w64 ((w64 ((p2.Year.tmod (w64 ((p1.length : Int).tdiv (p0.Months.length : Int)))) * (p0.Months.length : Int))) + p2.Month)) - 1),p2.Day,p0.Week,p3⟩ : aC),0))))))))))))
def kT (p0 : aX) (p1 : bQ) (p2 : Int) : Option (aC × Int) :=
 ((jQ p0.Calendar p0.Cam p1 p2).bind fun v1 =>
 some (v1.1,v1.2))
def tS (p0 : bJ) : Option bJ :=
 (chk ((([] : List cH).length + p0.Meshes.length) * 4 * 64 ≤ 140737488355328) (
 ((cM (S := Int × List cQ) (X := List cQ) (fun s7 =>
 (if s7.1 < (p0.Arbors.length : Int) then
 ((atI p0.Arbors s7.1).bind fun v8 =>
 ((atI p0.Arbors s7.1).bind fun v9 =>
 ((jY v9.Wheels).bind fun v10 =>
 (chk ((s7.2.length + 1) * 2 * 64 ≤ 140737488355328) (
 some (.inl (w64 (s7.1 + 1),s7.2 ++ [(⟨v8.Name,v10⟩ : cQ)])))))))
 else
 some (.inr s7.2))) (0,([] : List cQ)) : Option (List cQ)).bind fun v12 =>
 some (⟨v12,([] : List cH) ++ p0.Meshes⟩ : bJ))))
def qT (p0 : aX) : Option aX :=
 ((tS p0.Works).bind fun v1 =>
 ((oI p0.Calendar).bind fun v2 =>
 ((jY p0.Cam).bind fun v3 =>
 some (⟨p0.Name,v1,p0.Minute,p0.Hour,p0.Escape,p0.Teeth,p0.Beats,v2,v3,p0.Strike⟩ : aX))))
def qU (p0 : aX) (p1 : bQ) (p2 : Int) : Option (dO × Int) :=
 ((tK p0).bind fun v1 =>
 (if (!v1) = true then
 some ((⟨(⟨(⟨#[]⟩ : ByteArray),(⟨([] : List cQ),([] : List cH)⟩ : bJ),0,0,0,0,0,(⟨(⟨#[]⟩ : ByteArray),([] : List bP),([] : List bA),0⟩ : aA),([] : List Int),0⟩ : aX),(⟨0,0,0⟩ : bQ),0,0,(⟨([] : List Int),0,0,0,0,0,0⟩ : aC)⟩ : dO),1)
 else
 ((lG p0).bind fun v2 =>
 (if 0 < (v2.length : Int) then
 some ((⟨(⟨(⟨#[]⟩ : ByteArray),(⟨([] : List cQ),([] : List cH)⟩ : bJ),0,0,0,0,0,(⟨(⟨#[]⟩ : ByteArray),([] : List bP),([] : List bA),0⟩ : aA),([] : List Int),0⟩ : aX),(⟨0,0,0⟩ : bQ),0,0,(⟨([] : List Int),0,0,0,0,0,0⟩ : aC)⟩ : dO),6)
 else
 ((kT p0 p1 p2).bind fun v3 =>
 (if v3.2 ≠ 0 then
 some ((⟨(⟨(⟨#[]⟩ : ByteArray),(⟨([] : List cQ),([] : List cH)⟩ : bJ),0,0,0,0,0,(⟨(⟨#[]⟩ : ByteArray),([] : List bP),([] : List bA),0⟩ : aA),([] : List Int),0⟩ : aX),(⟨0,0,0⟩ : bQ),0,0,(⟨([] : List Int),0,0,0,0,0,0⟩ : aC)⟩ : dO),v3.2)
 else
 ((qT p0).bind fun v4 =>
 some ((⟨v4,p1,p2,0,v3.1⟩ : dO),0))))))))
def pL (p0 : aC) : Option Bool :=
 ((((rM p0.Cam).bind fun v1 =>
 (if (!v1) = true then
 some true
 else
 (if p0.Months < 1 then
 some true
 else
 (chk (p0.Months ≠ 0) (
 (if ((p0.Cam.length : Int).tmod p0.Months) ≠ 0 then
 some true
 else
 ((cN p0.Teeth 1 60).bind fun v3 =>
 some (!v3)))))))) : Option Bool).bind fun v4 =>
 (if v4 = true then
 some false
 else
 ((cM (S := Int) (X := Unit ⊕ Bool) (fun s7 =>
 (if s7 < (p0.Cam.length : Int) then
 ((atI p0.Cam s7).bind fun v8 =>
 (if p0.Teeth < v8 then
 some (.inr (.inr false))
 else
 some (.inl (w64 (s7 + 1)))))
 else
 some (.inr (.inl ())))) 0 : Option (Unit ⊕ Bool)).bind fun v9x => orE v9x fun v9 =>
 ((cN p0.At 0 (w64 ((p0.Cam.length : Int) - 1))).bind fun v10 =>
 (if v10 = true then
 ((cN p0.Day 1 p0.Teeth).bind fun v11 =>
 (if v11 = true then
 ((cN p0.Week 1 12).bind fun v12 =>
 (if v12 = true then
 ((cN p0.Weekday 1 p0.Week).bind fun v13 =>
 some v13)
 else
 some false))
 else
 some false))
 else
 some false)))))
def rD (p0 : List Int) (p1 : List Int) : Option Bool :=
 (if (p0.length : Int) ≠ (p1.length : Int) then
 some false
 else
 ((cM (S := Int) (X := Unit ⊕ Bool) (fun s4 =>
 (if s4 < (p0.length : Int) then
 ((atI p0 s4).bind fun v5 =>
 ((atI p1 s4).bind fun v6 =>
 (if v5 ≠ v6 then
 some (.inr (.inr false))
 else
 some (.inl (w64 (s4 + 1))))))
 else
 some (.inr (.inl ())))) 0 : Option (Unit ⊕ Bool)).bind fun v7x => orE v7x fun v7 =>
 some true))
def pC (p0 : dO) : Option Bool :=
 ((((tK p0.Movement).bind fun v1 =>
 (if (!v1) = true then
 some true
 else
 ((lG p0.Movement).bind fun v2 =>
 (if 0 < (v2.length : Int) then
 some true
 else
 ((cN p0.Clock 0 1000000000).bind fun v3 =>
 (if (!v3) = true then
 some true
 else
 ((pL p0.Dial).bind fun v4 =>
 some (!v4)))))))) : Option Bool).bind fun v5 =>
 (if v5 = true then
 some false
 else
 ((kT p0.Movement p0.Start p0.First).bind fun v6 =>
 (if v6.2 = 0 then
 ((rD p0.Dial.Cam p0.Movement.Cam).bind fun v7 =>
 (if v7 = true then
 (if p0.Dial.Months = v6.1.Months then
 (if p0.Dial.Week = v6.1.Week then
 some (decide (p0.Dial.Teeth = v6.1.Teeth))
 else
 some false)
 else
 some false)
 else
 some false))
 else
 some false))))
def jU (p0 : aC) : Option aC :=
 ((jY p0.Cam).bind fun v1 =>
 some (⟨v1,p0.Months,p0.Teeth,p0.At,p0.Day,p0.Week,p0.Weekday⟩ : aC))
def oJ (p0 : dO) : Option dO :=
 ((qT p0.Movement).bind fun v1 =>
 ((jU p0.Dial).bind fun v2 =>
 some (⟨v1,p0.Start,p0.First,p0.Clock,v2⟩ : dO)))
def pU (p0 : aC) : Option Int :=
 ((atI p0.Cam p0.At).bind fun v1 =>
 (if p0.Day = v1 then
 some (w64 ((w64 (p0.Teeth + 1)) - p0.Day))
 else
 some 1))
def iT (p0 : dO) (p1 : Int) : Option dO :=
 (if p0.Dial.Teeth < (w64 (p0.Dial.Day + p1)) then
 (chk ((p0.Dial.Cam.length : Int) ≠ 0) (
 some (⟨p0.Movement,p0.Start,p0.First,p0.Clock,(⟨p0.Dial.Cam,p0.Dial.Months,p0.Dial.Teeth,(w64 (p0.Dial.At + 1)).tmod (p0.Dial.Cam.length : Int),w64 ((w64 (p0.Dial.Day + p1)) - p0.Dial.Teeth),p0.Dial.Week,p0.Dial.Weekday⟩ : aC)⟩ : dO)))
 else
 some (⟨p0.Movement,p0.Start,p0.First,p0.Clock,(⟨p0.Dial.Cam,p0.Dial.Months,p0.Dial.Teeth,p0.Dial.At,w64 (p0.Dial.Day + p1),p0.Dial.Week,p0.Dial.Weekday⟩ : aC)⟩ : dO))
def eW (p0 : dO) : Option dO :=
 ((pU p0.Dial).bind fun v1 =>
 ((iT p0 v1).bind fun v2 =>
 (chk (v2.Dial.Week ≠ 0) (
 some (⟨v2.Movement,v2.Start,v2.First,v2.Clock,(⟨v2.Dial.Cam,v2.Dial.Months,v2.Dial.Teeth,v2.Dial.At,v2.Dial.Day,v2.Dial.Week,w64 ((v2.Dial.Weekday.tmod v2.Dial.Week) + 1)⟩ : aC)⟩ : dO)))))
def mQ (p0 : Int) : Option Int :=
 some (w64 ((w64 ((w64 (p0.tdiv 12)) * 78)) + (w64 ((w64 ((p0.tmod 12) * (w64 ((p0.tmod 12) + 1)))).tdiv 2))))
def hU (p0 : Int) (p1 : Int) (p2 : Int) : Option (Int × Int) :=
 ((((cN p0 0 2).bind fun v1 =>
 (if (!v1) = true then
 some true
 else
 ((cN p1 0 p2).bind fun v2 =>
 (if (!v2) = true then
 some true
 else
 some (decide (1000000000 < p2)))))) : Option Bool).bind fun v3 =>
 (if v3 = true then
 some (0,2)
 else
 (if p0 = 0 then
 some (0,0)
 else
 ((mQ (w64 (p2.tdiv 3600))).bind fun v5 =>
 ((mQ (w64 (p1.tdiv 3600))).bind fun v7 =>
 some (w64 (v5 - v7),0))))))
def qR (p0 : dO) (p1 : Int) : Option (dO × Int × Int) :=
 ((pC p0).bind fun v1 =>
 (if (!v1) = true then
 some ((⟨(⟨(⟨#[]⟩ : ByteArray),(⟨([] : List cQ),([] : List cH)⟩ : bJ),0,0,0,0,0,(⟨(⟨#[]⟩ : ByteArray),([] : List bP),([] : List bA),0⟩ : aA),([] : List Int),0⟩ : aX),(⟨0,0,0⟩ : bQ),0,0,(⟨([] : List Int),0,0,0,0,0,0⟩ : aC)⟩ : dO),0,1)
 else
 ((((cN p1 0 3000000).bind fun v2 =>
 (if (!v2) = true then
 some true
 else
 some (decide (1000000000 < (w64 (p0.Clock + p1)))))) : Option Bool).bind fun v3 =>
 (if v3 = true then
 some ((⟨(⟨(⟨#[]⟩ : ByteArray),(⟨([] : List cQ),([] : List cH)⟩ : bJ),0,0,0,0,0,(⟨(⟨#[]⟩ : ByteArray),([] : List bP),([] : List bA),0⟩ : aA),([] : List Int),0⟩ : aX),(⟨0,0,0⟩ : bQ),0,0,(⟨([] : List Int),0,0,0,0,0,0⟩ : aC)⟩ : dO),0,2)
 else
 ((oJ p0).bind fun v4 =>
 ((cM (S := Int × ByteArray × Int × Int × Int × Int × Int × ByteArray × Int × Int × bQ × Int × Int × Int × Int × Int × Int × Int × Int × List cQ × List cH × List bP × List bA × List Int × List Int) (X := ByteArray × Int × Int × Int × Int × Int × ByteArray × Int × Int × bQ × Int × Int × Int × Int × Int × Int × Int × Int × List cQ × List cH × List bP × List bA × List Int × List Int) (fun s9 =>
 (if s9.1 < (w64 (s9.2.2.2.2.2.2.2.2.2.2.2.2.1.tdiv 86400)) then
 ((eW (⟨(⟨s9.2.1,(⟨s9.2.2.2.2.2.2.2.2.2.2.2.2.2.2.2.2.2.2.2.1,s9.2.2.2.2.2.2.2.2.2.2.2.2.2.2.2.2.2.2.2.2.1⟩ : bJ),s9.2.2.1,s9.2.2.2.1,s9.2.2.2.2.1,s9.2.2.2.2.2.1,s9.2.2.2.2.2.2.1,(⟨s9.2.2.2.2.2.2.2.1,s9.2.2.2.2.2.2.2.2.2.2.2.2.2.2.2.2.2.2.2.2.2.1,s9.2.2.2.2.2.2.2.2.2.2.2.2.2.2.2.2.2.2.2.2.2.2.1,s9.2.2.2.2.2.2.2.2.1⟩ : aA),s9.2.2.2.2.2.2.2.2.2.2.2.2.2.2.2.2.2.2.2.2.2.2.2.1,s9.2.2.2.2.2.2.2.2.2.1⟩ : aX),s9.2.2.2.2.2.2.2.2.2.2.1,s9.2.2.2.2.2.2.2.2.2.2.2.1,s9.2.2.2.2.2.2.2.2.2.2.2.2.1,(⟨s9.2.2.2.2.2.2.2.2.2.2.2.2.2.2.2.2.2.2.2.2.2.2.2.2,s9.2.2.2.2.2.2.2.2.2.2.2.2.2.1,s9.2.2.2.2.2.2.2.2.2.2.2.2.2.2.1,s9.2.2.2.2.2.2.2.2.2.2.2.2.2.2.2.1,s9.2.2.2.2.2.2.2.2.2.2.2.2.2.2.2.2.1,s9.2.2.2.2.2.2.2.2.2.2.2.2.2.2.2.2.2.1,s9.2.2.2.2.2.2.2.2.2.2.2.2.2.2.2.2.2.2.1⟩ : aC)⟩ : dO)).bind fun v11 =>
 some (.inl (w64 (s9.1 + 1),v11.Movement.Name,v11.Movement.Minute,v11.Movement.Hour,v11.Movement.Escape,v11.Movement.Teeth,v11.Movement.Beats,v11.Movement.Calendar.Name,v11.Movement.Calendar.Week,v11.Movement.Strike,v11.Start,v11.First,v11.Clock,v11.Dial.Months,v11.Dial.Teeth,v11.Dial.At,v11.Dial.Day,v11.Dial.Week,v11.Dial.Weekday,v11.Movement.Works.Arbors,v11.Movement.Works.Meshes,v11.Movement.Calendar.Months,v11.Movement.Calendar.Rules,v11.Movement.Cam,v11.Dial.Cam)))
 else
 some (.inr (s9.2.1,s9.2.2.1,s9.2.2.2.1,s9.2.2.2.2.1,s9.2.2.2.2.2.1,s9.2.2.2.2.2.2.1,s9.2.2.2.2.2.2.2.1,s9.2.2.2.2.2.2.2.2.1,s9.2.2.2.2.2.2.2.2.2.1,s9.2.2.2.2.2.2.2.2.2.2.1,s9.2.2.2.2.2.2.2.2.2.2.2.1,s9.2.2.2.2.2.2.2.2.2.2.2.2.1,s9.2.2.2.2.2.2.2.2.2.2.2.2.2.1,s9.2.2.2.2.2.2.2.2.2.2.2.2.2.2.1,s9.2.2.2.2.2.2.2.2.2.2.2.2.2.2.2.1,s9.2.2.2.2.2.2.2.2.2.2.2.2.2.2.2.2.1,s9.2.2.2.2.2.2.2.2.2.2.2.2.2.2.2.2.2.1,s9.2.2.2.2.2.2.2.2.2.2.2.2.2.2.2.2.2.2.1,s9.2.2.2.2.2.2.2.2.2.2.2.2.2.2.2.2.2.2.2.1,s9.2.2.2.2.2.2.2.2.2.2.2.2.2.2.2.2.2.2.2.2.1,s9.2.2.2.2.2.2.2.2.2.2.2.2.2.2.2.2.2.2.2.2.2.1,s9.2.2.2.2.2.2.2.2.2.2.2.2.2.2.2.2.2.2.2.2.2.2.1,s9.2.2.2.2.2.2.2.2.2.2.2.2.2.2.2.2.2.2.2.2.2.2.2.1,s9.2.2.2.2.2.2.2.2.2.2.2.2.2.2.2.2.2.2.2.2.2.2.2.2)))) (w64 (p0.Clock.tdiv 86400),v4.Movement.Name,v4.Movement.Minute,v4.Movement.Hour,v4.Movement.Escape,v4.Movement.Teeth,v4.Movement.Beats,v4.Movement.Calendar.Name,v4.Movement.Calendar.Week,v4.Movement.Strike,v4.Start,v4.First,w64 (v4.Clock + p1),v4.Dial.Months,v4.Dial.Teeth,v4.Dial.At,v4.Dial.Day,v4.Dial.Week,v4.Dial.Weekday,v4.Movement.Works.Arbors,v4.Movement.Works.Meshes,v4.Movement.Calendar.Months,v4.Movement.Calendar.Rules,v4.Movement.Cam,v4.Dial.Cam) : Option (ByteArray × Int × Int × Int × Int × Int × ByteArray × Int × Int × bQ × Int × Int × Int × Int × Int × Int × Int × Int × List cQ × List cH × List bP × List bA × List Int × List Int)).bind fun v12 =>
 ((hU p0.Movement.Strike p0.Clock v12.2.2.2.2.2.2.2.2.2.2.2.1).bind fun v13 =>
 some ((⟨(⟨v12.1,(⟨v12.2.2.2.2.2.2.2.2.2.2.2.2.2.2.2.2.2.2.1,v12.2.2.2.2.2.2.2.2.2.2.2.2.2.2.2.2.2.2.2.1⟩ : bJ),v12.2.1,v12.2.2.1,v12.2.2.2.1,v12.2.2.2.2.1,v12.2.2.2.2.2.1,(⟨v12.2.2.2.2.2.2.1,v12.2.2.2.2.2.2.2.2.2.2.2.2.2.2.2.2.2.2.2.2.1,v12.2.2.2.2.2.2.2.2.2.2.2.2.2.2.2.2.2.2.2.2.2.1,v12.2.2.2.2.2.2.2.1⟩ : aA),v12.2.2.2.2.2.2.2.2.2.2.2.2.2.2.2.2.2.2.2.2.2.2.1,v12.2.2.2.2.2.2.2.2.1⟩ : aX),v12.2.2.2.2.2.2.2.2.2.1,v12.2.2.2.2.2.2.2.2.2.2.1,v12.2.2.2.2.2.2.2.2.2.2.2.1,(⟨v12.2.2.2.2.2.2.2.2.2.2.2.2.2.2.2.2.2.2.2.2.2.2.2,v12.2.2.2.2.2.2.2.2.2.2.2.2.1,v12.2.2.2.2.2.2.2.2.2.2.2.2.2.1,v12.2.2.2.2.2.2.2.2.2.2.2.2.2.2.1,v12.2.2.2.2.2.2.2.2.2.2.2.2.2.2.2.1,v12.2.2.2.2.2.2.2.2.2.2.2.2.2.2.2.2.1,v12.2.2.2.2.2.2.2.2.2.2.2.2.2.2.2.2.2.1⟩ : aC)⟩ : dO),v13.1,0))))))))
def iE (p0 : aC) (p1 : Int) : Option aC :=
 (if p0.Teeth < (w64 (p0.Day + p1)) then
 (chk ((p0.Cam.length : Int) ≠ 0) (
 some (⟨p0.Cam,p0.Months,p0.Teeth,(w64 (p0.At + 1)).tmod (p0.Cam.length : Int),w64 ((w64 (p0.Day + p1)) - p0.Teeth),p0.Week,p0.Weekday⟩ : aC)))
 else
 some (⟨p0.Cam,p0.Months,p0.Teeth,p0.At,w64 (p0.Day + p1),p0.Week,p0.Weekday⟩ : aC))
def pR (p0 : aC) : Option (aC × Int) :=
 ((pL p0).bind fun v1 =>
 (if (!v1) = true then
 some ((⟨([] : List Int),0,0,0,0,0,0⟩ : aC),1)
 else
 ((jU p0).bind fun v2 =>
 ((iE v2 1).bind fun v3 =>
 some (v3,0)))))
def mZ (p0 : aC) : Option (aC × Int) :=
 ((pL p0).bind fun v1 =>
 (if (!v1) = true then
 some ((⟨([] : List Int),0,0,0,0,0,0⟩ : aC),1)
 else
 ((jU p0).bind fun v2 =>
 (chk ((v2.Cam.length : Int) ≠ 0) (
 some ((⟨v2.Cam,v2.Months,v2.Teeth,(w64 (v2.At + 1)).tmod (v2.Cam.length : Int),v2.Day,v2.Week,v2.Weekday⟩ : aC),0))))))
def kU (p0 : aC) : Option (aC × Int) :=
 ((pL p0).bind fun v1 =>
 (if (!v1) = true then
 some ((⟨([] : List Int),0,0,0,0,0,0⟩ : aC),1)
 else
 ((jU p0).bind fun v2 =>
 (chk (v2.Week ≠ 0) (
 some ((⟨v2.Cam,v2.Months,v2.Teeth,v2.At,v2.Day,v2.Week,w64 ((v2.Weekday.tmod v2.Week) + 1)⟩ : aC),0))))))
def mF (p0 : dO) (p1 : Int) : Option (dO × Int) :=
 ((pC p0).bind fun v1 =>
 (if (!v1) = true then
 some ((⟨(⟨(⟨#[]⟩ : ByteArray),(⟨([] : List cQ),([] : List cH)⟩ : bJ),0,0,0,0,0,(⟨(⟨#[]⟩ : ByteArray),([] : List bP),([] : List bA),0⟩ : aA),([] : List Int),0⟩ : aX),(⟨0,0,0⟩ : bQ),0,0,(⟨([] : List Int),0,0,0,0,0,0⟩ : aC)⟩ : dO),1)
 else
 ((oJ p0).bind fun v2 =>
 (((if p1 = 1 then
 ((pR p0.Dial).bind fun v3 =>
 some (.inl (v3.1.Months,v3.1.Teeth,v3.1.At,v3.1.Day,v3.1.Week,v3.1.Weekday,v3.1.Cam)))
 else
 (if p1 = 2 then
 ((mZ p0.Dial).bind fun v4 =>
 some (.inl (v4.1.Months,v4.1.Teeth,v4.1.At,v4.1.Day,v4.1.Week,v4.1.Weekday,v4.1.Cam)))
 else
 (if p1 = 3 then
 ((kU p0.Dial).bind fun v5 =>
 some (.inl (v5.1.Months,v5.1.Teeth,v5.1.At,v5.1.Day,v5.1.Week,v5.1.Weekday,v5.1.Cam)))
 else
 some (.inr ((⟨(⟨(⟨#[]⟩ : ByteArray),(⟨([] : List cQ),([] : List cH)⟩ : bJ),0,0,0,0,0,(⟨(⟨#[]⟩ : ByteArray),([] : List bP),([] : List bA),0⟩ : aA),([] : List Int),0⟩ : aX),(⟨0,0,0⟩ : bQ),0,0,(⟨([] : List Int),0,0,0,0,0,0⟩ : aC)⟩ : dO),2))))) : Option ((Int × Int × Int × Int × Int × Int × List Int) ⊕ (dO × Int))).bind fun v6x => orE v6x fun v6 =>
 some ((⟨v2.Movement,v2.Start,v2.First,v2.Clock,(⟨v6.2.2.2.2.2.2,v6.1,v6.2.1,v6.2.2.1,v6.2.2.2.1,v6.2.2.2.2.1,v6.2.2.2.2.2.1⟩ : aC)⟩ : dO),0)))))
def nF (p0 : bN) : Option (dO × bN) :=
 ((lE p0).bind fun v1 =>
 ((kV v1.2 v1.1.Calendar).bind fun v2 =>
 ((bR v2.2 v1.1.Calendar.Week).bind fun v3 =>
 ((qU v1.1 v2.1 (w64 (1 + v3.1))).bind fun v4 =>
 (((if v4.2 ≠ 0 then
 none
 else
 some ()) : Option Unit).bind fun v7 =>
 ((((bR v3.2 4).bind fun v8 =>
 cM (S := Int × bN × ByteArray × Int × Int × Int × Int × Int × ByteArray × Int × Int × bQ × Int × Int × Int × Int × Int × Int × Int × Int × List cQ × List cH × List bP × List bA × List Int × List Int) (X := bN × ByteArray × Int × Int × Int × Int × Int × ByteArray × Int × Int × bQ × Int × Int × Int × Int × Int × Int × Int × Int × List cQ × List cH × List bP × List bA × List Int × List Int) (fun s13 =>
 (if 0 < s13.1 then
 ((((eR s13.2.1 [0,1,3600,86399,86400,1000000,40000]).bind fun v14 =>
 ((qR (⟨(⟨s13.2.2.1,(⟨s13.2.2.2.2.2.2.2.2.2.2.2.2.2.2.2.2.2.2.2.2.1,s13.2.2.2.2.2.2.2.2.2.2.2.2.2.2.2.2.2.2.2.2.2.1⟩ : bJ),s13.2.2.2.1,s13.2.2.2.2.1,s13.2.2.2.2.2.1,s13.2.2.2.2.2.2.1,s13.2.2.2.2.2.2.2.1,(⟨s13.2.2.2.2.2.2.2.2.1,s13.2.2.2.2.2.2.2.2.2.2.2.2.2.2.2.2.2.2.2.2.2.2.1,s13.2.2.2.2.2.2.2.2.2.2.2.2.2.2.2.2.2.2.2.2.2.2.2.1,s13.2.2.2.2.2.2.2.2.2.1⟩ : aA),s13.2.2.2.2.2.2.2.2.2.2.2.2.2.2.2.2.2.2.2.2.2.2.2.2.1,s13.2.2.2.2.2.2.2.2.2.2.1⟩ : aX),s13.2.2.2.2.2.2.2.2.2.2.2.1,s13.2.2.2.2.2.2.2.2.2.2.2.2.1,s13.2.2.2.2.2.2.2.2.2.2.2.2.2.1,(⟨s13.2.2.2.2.2.2.2.2.2.2.2.2.2.2.2.2.2.2.2.2.2.2.2.2.2,s13.2.2.2.2.2.2.2.2.2.2.2.2.2.2.1,s13.2.2.2.2.2.2.2.2.2.2.2.2.2.2.2.1,s13.2.2.2.2.2.2.2.2.2.2.2.2.2.2.2.2.1,s13.2.2.2.2.2.2.2.2.2.2.2.2.2.2.2.2.2.1,s13.2.2.2.2.2.2.2.2.2.2.2.2.2.2.2.2.2.2.1,s13.2.2.2.2.2.2.2.2.2.2.2.2.2.2.2.2.2.2.2.1⟩ : aC)⟩ : dO) v14.1).bind fun v15 =>
 (if v15.2.2 = 0 then
 some (v14.2,v15.1.Movement.Name,v15.1.Movement.Minute,v15.1.Movement.Hour,v15.1.Movement.Escape,v15.1.Movement.Teeth,v15.1.Movement.Beats,v15.1.Movement.Calendar.Name,v15.1.Movement.Calendar.Week,v15.1.Movement.Strike,v15.1.Start,v15.1.First,v15.1.Clock,v15.1.Dial.Months,v15.1.Dial.Teeth,v15.1.Dial.At,v15.1.Dial.Day,v15.1.Dial.Week,v15.1.Dial.Weekday,v15.1.Movement.Works.Arbors,v15.1.Movement.Works.Meshes,v15.1.Movement.Calendar.Months,v15.1.Movement.Calendar.Rules,v15.1.Movement.Cam,v15.1.Dial.Cam)
 else
 some (v14.2,s13.2.2.1,s13.2.2.2.1,s13.2.2.2.2.1,s13.2.2.2.2.2.1,s13.2.2.2.2.2.2.1,s13.2.2.2.2.2.2.2.1,s13.2.2.2.2.2.2.2.2.1,s13.2.2.2.2.2.2.2.2.2.1,s13.2.2.2.2.2.2.2.2.2.2.1,s13.2.2.2.2.2.2.2.2.2.2.2.1,s13.2.2.2.2.2.2.2.2.2.2.2.2.1,s13.2.2.2.2.2.2.2.2.2.2.2.2.2.1,s13.2.2.2.2.2.2.2.2.2.2.2.2.2.2.1,s13.2.2.2.2.2.2.2.2.2.2.2.2.2.2.2.1,s13.2.2.2.2.2.2.2.2.2.2.2.2.2.2.2.2.1,s13.2.2.2.2.2.2.2.2.2.2.2.2.2.2.2.2.2.1,s13.2.2.2.2.2.2.2.2.2.2.2.2.2.2.2.2.2.2.1,s13.2.2.2.2.2.2.2.2.2.2.2.2.2.2.2.2.2.2.2.1,s13.2.2.2.2.2.2.2.2.2.2.2.2.2.2.2.2.2.2.2.2.1,s13.2.2.2.2.2.2.2.2.2.2.2.2.2.2.2.2.2.2.2.2.2.1,s13.2.2.2.2.2.2.2.2.2.2.2.2.2.2.2.2.2.2.2.2.2.2.1,s13.2.2.2.2.2.2.2.2.2.2.2.2.2.2.2.2.2.2.2.2.2.2.2.1,s13.2.2.2.2.2.2.2.2.2.2.2.2.2.2.2.2.2.2.2.2.2.2.2.2.1,s13.2.2.2.2.2.2.2.2.2.2.2.2.2.2.2.2.2.2.2.2.2.2.2.2.2)))) : Option (bN × ByteArray × Int × Int × Int × Int × Int × ByteArray × Int × Int × bQ × Int × Int × Int × Int × Int × Int × Int × Int × List cQ × List cH × List bP × List bA × List Int × List Int)).bind fun v16 =>
 some (.inl (w64 (s13.1 - 1),v16.1,v16.2.1,v16.2.2.1,v16.2.2.2.1,v16.2.2.2.2.1,v16.2.2.2.2.2.1,v16.2.2.2.2.2.2.1,v16.2.2.2.2.2.2.2.1,v16.2.2.2.2.2.2.2.2.1,v16.2.2.2.2.2.2.2.2.2.1,v16.2.2.2.2.2.2.2.2.2.2.1,v16.2.2.2.2.2.2.2.2.2.2.2.1,v16.2.2.2.2.2.2.2.2.2.2.2.2.1,v16.2.2.2.2.2.2.2.2.2.2.2.2.2.1,v16.2.2.2.2.2.2.2.2.2.2.2.2.2.2.1,v16.2.2.2.2.2.2.2.2.2.2.2.2.2.2.2.1,v16.2.2.2.2.2.2.2.2.2.2.2.2.2.2.2.2.1,v16.2.2.2.2.2.2.2.2.2.2.2.2.2.2.2.2.2.1,v16.2.2.2.2.2.2.2.2.2.2.2.2.2.2.2.2.2.2.1,v16.2.2.2.2.2.2.2.2.2.2.2.2.2.2.2.2.2.2.2.1,v16.2.2.2.2.2.2.2.2.2.2.2.2.2.2.2.2.2.2.2.2.1,v16.2.2.2.2.2.2.2.2.2.2.2.2.2.2.2.2.2.2.2.2.2.1,v16.2.2.2.2.2.2.2.2.2.2.2.2.2.2.2.2.2.2.2.2.2.2.1,v16.2.2.2.2.2.2.2.2.2.2.2.2.2.2.2.2.2.2.2.2.2.2.2.1,v16.2.2.2.2.2.2.2.2.2.2.2.2.2.2.2.2.2.2.2.2.2.2.2.2)))
 else
 some (.inr (s13.2.1,s13.2.2.1,s13.2.2.2.1,s13.2.2.2.2.1,s13.2.2.2.2.2.1,s13.2.2.2.2.2.2.1,s13.2.2.2.2.2.2.2.1,s13.2.2.2.2.2.2.2.2.1,s13.2.2.2.2.2.2.2.2.2.1,s13.2.2.2.2.2.2.2.2.2.2.1,s13.2.2.2.2.2.2.2.2.2.2.2.1,s13.2.2.2.2.2.2.2.2.2.2.2.2.1,s13.2.2.2.2.2.2.2.2.2.2.2.2.2.1,s13.2.2.2.2.2.2.2.2.2.2.2.2.2.2.1,s13.2.2.2.2.2.2.2.2.2.2.2.2.2.2.2.1,s13.2.2.2.2.2.2.2.2.2.2.2.2.2.2.2.2.1,s13.2.2.2.2.2.2.2.2.2.2.2.2.2.2.2.2.2.1,s13.2.2.2.2.2.2.2.2.2.2.2.2.2.2.2.2.2.2.1,s13.2.2.2.2.2.2.2.2.2.2.2.2.2.2.2.2.2.2.2.1,s13.2.2.2.2.2.2.2.2.2.2.2.2.2.2.2.2.2.2.2.2.1,s13.2.2.2.2.2.2.2.2.2.2.2.2.2.2.2.2.2.2.2.2.2.1,s13.2.2.2.2.2.2.2.2.2.2.2.2.2.2.2.2.2.2.2.2.2.2.1,s13.2.2.2.2.2.2.2.2.2.2.2.2.2.2.2.2.2.2.2.2.2.2.2.1,s13.2.2.2.2.2.2.2.2.2.2.2.2.2.2.2.2.2.2.2.2.2.2.2.2.1,s13.2.2.2.2.2.2.2.2.2.2.2.2.2.2.2.2.2.2.2.2.2.2.2.2.2)))) (v8.1,v8.2,v4.1.Movement.Name,v4.1.Movement.Minute,v4.1.Movement.Hour,v4.1.Movement.Escape,v4.1.Movement.Teeth,v4.1.Movement.Beats,v4.1.Movement.Calendar.Name,v4.1.Movement.Calendar.Week,v4.1.Movement.Strike,v4.1.Start,v4.1.First,v4.1.Clock,v4.1.Dial.Months,v4.1.Dial.Teeth,v4.1.Dial.At,v4.1.Dial.Day,v4.1.Dial.Week,v4.1.Dial.Weekday,v4.1.Movement.Works.Arbors,v4.1.Movement.Works.Meshes,v4.1.Movement.Calendar.Months,v4.1.Movement.Calendar.Rules,v4.1.Movement.Cam,v4.1.Dial.Cam)) : Option (bN × ByteArray × Int × Int × Int × Int × Int × ByteArray × Int × Int × bQ × Int × Int × Int × Int × Int × Int × Int × Int × List cQ × List cH × List bP × List bA × List Int × List Int)).bind fun v17 =>
 ((((fG v17.1 4).bind fun v18 =>
 (if v18.1 = true then
 ((bR v18.2 3).bind fun v19 =>
 ((mF (⟨(⟨v17.2.1,(⟨v17.2.2.2.2.2.2.2.2.2.2.2.2.2.2.2.2.2.2.2.1,v17.2.2.2.2.2.2.2.2.2.2.2.2.2.2.2.2.2.2.2.2.1⟩ : bJ),v17.2.2.1,v17.2.2.2.1,v17.2.2.2.2.1,v17.2.2.2.2.2.1,v17.2.2.2.2.2.2.1,(⟨v17.2.2.2.2.2.2.2.1,v17.2.2.2.2.2.2.2.2.2.2.2.2.2.2.2.2.2.2.2.2.2.1,v17.2.2.2.2.2.2.2.2.2.2.2.2.2.2.2.2.2.2.2.2.2.2.1,v17.2.2.2.2.2.2.2.2.1⟩ : aA),v17.2.2.2.2.2.2.2.2.2.2.2.2.2.2.2.2.2.2.2.2.2.2.2.1,v17.2.2.2.2.2.2.2.2.2.1⟩ : aX),v17.2.2.2.2.2.2.2.2.2.2.1,v17.2.2.2.2.2.2.2.2.2.2.2.1,v17.2.2.2.2.2.2.2.2.2.2.2.2.1,(⟨v17.2.2.2.2.2.2.2.2.2.2.2.2.2.2.2.2.2.2.2.2.2.2.2.2,v17.2.2.2.2.2.2.2.2.2.2.2.2.2.1,v17.2.2.2.2.2.2.2.2.2.2.2.2.2.2.1,v17.2.2.2.2.2.2.2.2.2.2.2.2.2.2.2.1,v17.2.2.2.2.2.2.2.2.2.2.2.2.2.2.2.2.1,v17.2.2.2.2.2.2.2.2.2.2.2.2.2.2.2.2.2.1,v17.2.2.2.2.2.2.2.2.2.2.2.2.2.2.2.2.2.2.1⟩ : aC)⟩ : dO) (w64 (1 + v19.1))).bind fun v20 =>
 some (v19.2,v20.1.Movement.Name,v20.1.Movement.Minute,v20.1.Movement.Hour,v20.1.Movement.Escape,v20.1.Movement.Teeth,v20.1.Movement.Beats,v20.1.Movement.Calendar.Name,v20.1.Movement.Calendar.Week,v20.1.Movement.Strike,v20.1.Start,v20.1.First,v20.1.Clock,v20.1.Dial.Months,v20.1.Dial.Teeth,v20.1.Dial.At,v20.1.Dial.Day,v20.1.Dial.Week,v20.1.Dial.Weekday,v20.1.Movement.Works.Arbors,v20.1.Movement.Works.Meshes,v20.1.Movement.Calendar.Months,v20.1.Movement.Calendar.Rules,v20.1.Movement.Cam,v20.1.Dial.Cam)))
 else
 some (v18.2,v17.2.1,v17.2.2.1,v17.2.2.2.1,v17.2.2.2.2.1,v17.2.2.2.2.2.1,v17.2.2.2.2.2.2.1,v17.2.2.2.2.2.2.2.1,v17.2.2.2.2.2.2.2.2.1,v17.2.2.2.2.2.2.2.2.2.1,v17.2.2.2.2.2.2.2.2.2.2.1,v17.2.2.2.2.2.2.2.2.2.2.2.1,v17.2.2.2.2.2.2.2.2.2.2.2.2.1,v17.2.2.2.2.2.2.2.2.2.2.2.2.2.1,v17.2.2.2.2.2.2.2.2.2.2.2.2.2.2.1,v17.2.2.2.2.2.2.2.2.2.2.2.2.2.2.2.1,v17.2.2.2.2.2.2.2.2.2.2.2.2.2.2.2.2.1,v17.2.2.2.2.2.2.2.2.2.2.2.2.2.2.2.2.2.1,v17.2.2.2.2.2.2.2.2.2.2.2.2.2.2.2.2.2.2.1,v17.2.2.2.2.2.2.2.2.2.2.2.2.2.2.2.2.2.2.2.1,v17.2.2.2.2.2.2.2.2.2.2.2.2.2.2.2.2.2.2.2.2.1,v17.2.2.2.2.2.2.2.2.2.2.2.2.2.2.2.2.2.2.2.2.2.1,v17.2.2.2.2.2.2.2.2.2.2.2.2.2.2.2.2.2.2.2.2.2.2.1,v17.2.2.2.2.2.2.2.2.2.2.2.2.2.2.2.2.2.2.2.2.2.2.2.1,v17.2.2.2.2.2.2.2.2.2.2.2.2.2.2.2.2.2.2.2.2.2.2.2.2))) : Option (bN × ByteArray × Int × Int × Int × Int × Int × ByteArray × Int × Int × bQ × Int × Int × Int × Int × Int × Int × Int × Int × List cQ × List cH × List bP × List bA × List Int × List Int)).bind fun v21 =>
 some ((⟨(⟨v21.2.1,(⟨v21.2.2.2.2.2.2.2.2.2.2.2.2.2.2.2.2.2.2.2.1,v21.2.2.2.2.2.2.2.2.2.2.2.2.2.2.2.2.2.2.2.2.1⟩ : bJ),v21.2.2.1,v21.2.2.2.1,v21.2.2.2.2.1,v21.2.2.2.2.2.1,v21.2.2.2.2.2.2.1,(⟨v21.2.2.2.2.2.2.2.1,v21.2.2.2.2.2.2.2.2.2.2.2.2.2.2.2.2.2.2.2.2.2.1,v21.2.2.2.2.2.2.2.2.2.2.2.2.2.2.2.2.2.2.2.2.2.2.1,v21.2.2.2.2.2.2.2.2.1⟩ : aA),v21.2.2.2.2.2.2.2.2.2.2.2.2.2.2.2.2.2.2.2.2.2.2.2.1,v21.2.2.2.2.2.2.2.2.2.1⟩ : aX),v21.2.2.2.2.2.2.2.2.2.2.1,v21.2.2.2.2.2.2.2.2.2.2.2.1,v21.2.2.2.2.2.2.2.2.2.2.2.2.1,(⟨v21.2.2.2.2.2.2.2.2.2.2.2.2.2.2.2.2.2.2.2.2.2.2.2.2,v21.2.2.2.2.2.2.2.2.2.2.2.2.2.1,v21.2.2.2.2.2.2.2.2.2.2.2.2.2.2.1,v21.2.2.2.2.2.2.2.2.2.2.2.2.2.2.2.1,v21.2.2.2.2.2.2.2.2.2.2.2.2.2.2.2.2.1,v21.2.2.2.2.2.2.2.2.2.2.2.2.2.2.2.2.2.1,v21.2.2.2.2.2.2.2.2.2.2.2.2.2.2.2.2.2.2.1⟩ : aC)⟩ : dO),v21.1))))))))
def wE (p0 : List Int) : Option dO :=
 ((rG p0).bind fun v1 =>
 ((nF v1).bind fun v2 =>
 ((kT v2.1.Movement v2.1.Start v2.1.First).bind fun v3 =>
 some (⟨v2.1.Movement,v2.1.Start,v2.1.First,0,v3.1⟩ : dO))))
def cK (p0 : Int) (p1 : Int) (p2 : Int) : Option Bool :=
 (if p1 ≤ p0 then
 some (decide (p0 ≤ p2))
 else
 some false)
def mB (p0 : bJ) (p1 : Int) : Option Bool :=
 ((cK p1 0 (w64 ((p0.Arbors.length : Int) - 1))).bind fun v1 =>
 some v1)
def oQ (p0 : Int) : Option Bool :=
 ((cK p0 6 240).bind fun v1 =>
 some v1)
def mK (p0 : ByteArray) : Option Bool :=
 (((if (p0.size : Int) < 1 then
 some true
 else
 some (decide (12 < (p0.size : Int)))) : Option Bool).bind fun v1 =>
 (if v1 = true then
 some false
 else
 (((chk (p0.size ≤ 140737488355328) (
 cM (S := Int) (X := Unit ⊕ Bool) (fun s8 =>
 (if s8 < ((eL p0).length : Int) then
 ((atI (eL p0) s8).bind fun v9 =>
 (((if 97 ≤ v9 then
 some (decide (v9 ≤ 122))
 else
 some false) : Option Bool).bind fun v10 =>
 (((if 48 ≤ v9 then
 (if v9 ≤ 57 then
 some true
 else
 some (decide (v9 = 45)))
 else
 some (decide (v9 = 45))) : Option Bool).bind fun v11 =>
 (((if (!v10) = true then
 (if s8 = 0 then
 some true
 else
 some (!v11))
 else
 some false) : Option Bool).bind fun v12 =>
 (if v12 = true then
 some (.inr (.inr false))
 else
 some (.inl (w64 (s8 + 1))))))))
 else
 some (.inr (.inl ())))) 0)) : Option (Unit ⊕ Bool)).bind fun v13x => orE v13x fun v13 =>
 some true)))
def lP (p0 : cQ) : Option Bool :=
 ((cM (S := Int) (X := Unit ⊕ Bool) (fun s4 =>
 (if s4 < (p0.Wheels.length : Int) then
 ((atI p0.Wheels s4).bind fun v5 =>
 ((oQ v5).bind fun v6 =>
 (if (!v6) = true then
 some (.inr (.inr false))
 else
 some (.inl (w64 (s4 + 1))))))
 else
 some (.inr (.inl ())))) 0 : Option (Unit ⊕ Bool)).bind fun v7x => orE v7x fun v7 =>
 ((mK p0.Name).bind fun v8 =>
 (if v8 = true then
 some (decide ((p0.Wheels.length : Int) ≤ 5))
 else
 some false)))
def mM (p0 : bJ) (p1 : Int) (p2 : Int) : Option Bool :=
 ((cK p1 0 (w64 ((p0.Arbors.length : Int) - 1))).bind fun v1 =>
 (if v1 = true then
 ((atI p0.Arbors p1).bind fun v2 =>
 ((cK p2 0 (w64 ((v2.Wheels.length : Int) - 1))).bind fun v3 =>
 some v3))
 else
 some false))
def wU (p0 : bJ) (p1 : cH) : Option Bool :=
 (if p1.A ≠ p1.B then
 ((mM p0 p1.A p1.WheelA).bind fun v1 =>
 (if v1 = true then
 ((mM p0 p1.B p1.WheelB).bind fun v2 =>
 some v2)
 else
 some false))
 else
 some false)
def pF (p0 : cH) (p1 : cH) : Option Bool :=
 (if p0 = p1 then
 some true
 else
 some (decide (p0 = (⟨p1.B,p1.WheelB,p1.A,p1.WheelA⟩ : cH))))
def lX (p0 : cH) (p1 : cH) : Option Bool :=
 ((pF p1 p0).bind fun v1 =>
 some v1)
def dF (p0 : List cH) (p1_0 : cH) : Option Int :=
 ((cM (S := Int) (X := Unit ⊕ Int) (fun s4 =>
 (if s4 < (p0.length : Int) then
 ((atI p0 s4).bind fun v5 =>
 ((lX v5 p1_0).bind fun v6 =>
 (if v6 = true then
 some (.inr (.inr s4))
 else
 some (.inl (w64 (s4 + 1))))))
 else
 some (.inr (.inl ())))) 0 : Option (Unit ⊕ Int)).bind fun v7x => orE v7x fun v7 =>
 some (-1))
def cF (p0 : List cH) (p1_0 : cH) : Option Bool :=
 ((dF p0 p1_0).bind fun v1 =>
 some (decide (0 ≤ v1)))
def jV (p0 : bJ) : Option Bool :=
 (((if 16 < (p0.Arbors.length : Int) then
 some true
 else
 some (decide (24 < (p0.Meshes.length : Int)))) : Option Bool).bind fun v1 =>
 (if v1 = true then
 some false
 else
 ((cM (S := Int) (X := Unit ⊕ Bool) (fun s11 =>
 (if s11 < (p0.Arbors.length : Int) then
 ((((atI p0.Arbors s11).bind fun v12 =>
 ((lP v12).bind fun v13 =>
 (if (!v13) = true then
 some (.inr (.inr (.inr false)))
 else
 (chk (0 ≤ (0 : Int) ∧ (0 : Int) ≤ s11 ∧ s11 ≤ (p0.Arbors.length : Int)) (
 cM (S := Int) (X := Unit ⊕ (Int ⊕ (Unit ⊕ Bool))) (fun s17 =>
 (if s17 < ((xS p0.Arbors (0 : Int) s11).length : Int) then
 ((atI (xS p0.Arbors (0 : Int) s11) s17).bind fun v18 =>
 (if v12.Name = v18.Name then
 some (.inr (.inr (.inr (.inr false))))
 else
 some (.inl (w64 (s17 + 1)))))
 else
 some (.inr (.inl ())))) 0))))) : Option (Unit ⊕ (Int ⊕ (Unit ⊕ Bool)))).bind fun v19x => orE v19x fun v19 =>
 some (.inl (w64 (s11 + 1))))
 else
 some (.inr (.inl ())))) 0 : Option (Unit ⊕ Bool)).bind fun v20x => orE v20x fun v20 =>
 ((cM (S := Int) (X := Unit ⊕ Bool) (fun s27 =>
 (if s27 < (p0.Meshes.length : Int) then
 ((atI p0.Meshes s27).bind fun v28 =>
 ((((wU p0 v28).bind fun v29 =>
 (if (!v29) = true then
 some true
 else
 (chk (0 ≤ (0 : Int) ∧ (0 : Int) ≤ s27 ∧ s27 ≤ (p0.Meshes.length : Int)) (
 ((cF (xS p0.Meshes (0 : Int) s27) v28).bind fun v31 =>
 some v31))))) : Option Bool).bind fun v32 =>
 (if v32 = true then
 some (.inr (.inr false))
 else
 some (.inl (w64 (s27 + 1))))))
 else
 some (.inr (.inl ())))) 0 : Option (Unit ⊕ Bool)).bind fun v33x => orE v33x fun v33 =>
 some true))))
def jF (p0 : bP) (p1 : bP) : Option Bool :=
 some (decide (p0.Name = p1.Name))
def cR (p0 : List bP) (p1_0 : bP) : Option Int :=
 ((cM (S := Int) (X := Unit ⊕ Int) (fun s4 =>
 (if s4 < (p0.length : Int) then
 ((atI p0 s4).bind fun v5 =>
 ((jF v5 p1_0).bind fun v6 =>
 (if v6 = true then
 some (.inr (.inr s4))
 else
 some (.inl (w64 (s4 + 1))))))
 else
 some (.inr (.inl ())))) 0 : Option (Unit ⊕ Int)).bind fun v7x => orE v7x fun v7 =>
 some (-1))
def bW (p0 : List bP) (p1_0 : bP) : Option Bool :=
 ((cR p0 p1_0).bind fun v1 =>
 some (decide (0 ≤ v1)))
def yK (p0 : Int) (p1 : Int) : Option Int :=
 ((cM (S := Int × Int) (X := Int) (fun s3 =>
 (if s3.2 ≠ 0 then
 (chk (s3.2 ≠ 0) (
 some (.inl (s3.2,s3.1.tmod s3.2))))
 else
 some (.inr s3.1))) (p0,p1) : Option Int).bind fun v5 =>
 (if v5 < 0 then
 some (w64 (-v5))
 else
 some v5))
def lM (p0 : List bA) : Option Int :=
 ((cM (S := Int × Int) (X := Int) (fun s6 =>
 (if s6.2 < (p0.length : Int) then
 ((((atI p0 s6.2).bind fun v7 =>
 (if s6.1 ≤ 2000 then
 ((yK s6.1 v7.Every).bind fun v8 =>
 (chk (v8 ≠ 0) (
 some (w64 ((w64 (s6.1.tdiv v8)) * v7.Every)))))
 else
 some s6.1)) : Option Int).bind fun v10 =>
 some (.inl (v10,w64 (s6.2 + 1))))
 else
 some (.inr s6.1))) (1,0) : Option Int).bind fun v11 =>
 some v11)
def eT (p0 : aA) : Option Bool :=
 ((((mK p0.Name).bind fun v1 =>
 (if (!v1) = true then
 some true
 else
 (if (p0.Months.length : Int) < 1 then
 some true
 else
 (if 20 < (p0.Months.length : Int) then
 some true
 else
 (if 6 < (p0.Rules.length : Int) then
 some true
 else
 ((cK p0.Week 1 12).bind fun v2 =>
 some (!v2))))))) : Option Bool).bind fun v3 =>
 (if v3 = true then
 some false
 else
 ((cM (S := Int) (X := Unit ⊕ Bool) (fun s12 =>
 (if s12 < (p0.Months.length : Int) then
 ((atI p0.Months s12).bind fun v13 =>
 ((((mK v13.Name).bind fun v14 =>
 (if (!v14) = true then
 some true
 else
 ((cK v13.Days 1 60).bind fun v15 =>
 (if (!v15) = true then
 some true
 else
 ((cK v13.Leap 1 60).bind fun v16 =>
 some (!v16)))))) : Option Bool).bind fun v17 =>
 (if v17 = true then
 some (.inr (.inr false))
 else
 (chk (0 ≤ (0 : Int) ∧ (0 : Int) ≤ s12 ∧ s12 ≤ (p0.Months.length : Int)) (
 ((bW (xS p0.Months (0 : Int) s12) v13).bind fun v19 =>
 (if v19 = true then
 some (.inr (.inr false))
 else
 some (.inl (w64 (s12 + 1))))))))))
 else
 some (.inr (.inl ())))) 0 : Option (Unit ⊕ Bool)).bind fun v20x => orE v20x fun v20 =>
 ((cM (S := Int) (X := Unit ⊕ Bool) (fun s26 =>
 (if s26 < (p0.Rules.length : Int) then
 ((atI p0.Rules s26).bind fun v27 =>
 ((((cK v27.Every 1 1000).bind fun v28 =>
 (if (!v28) = true then
 some true
 else
 ((cK v27.Rest 0 (w64 (v27.Every - 1))).bind fun v29 =>
 some (!v29)))) : Option Bool).bind fun v30 =>
 (if v30 = true then
 some (.inr (.inr false))
 else
 some (.inl (w64 (s26 + 1))))))
 else
 some (.inr (.inl ())))) 0 : Option (Unit ⊕ Bool)).bind fun v31x => orE v31x fun v31 =>
 ((lM p0.Rules).bind fun v32 =>
 some (decide (v32 ≤ 2000)))))))
def kL (p0 : List Int) : Option Bool :=
 ((cM (S := Int) (X := Unit ⊕ Bool) (fun s4 =>
 (if s4 < (p0.length : Int) then
 ((atI p0 s4).bind fun v5 =>
 ((cK v5 1 60).bind fun v6 =>
 (if (!v6) = true then
 some (.inr (.inr false))
 else
 some (.inl (w64 (s4 + 1))))))
 else
 some (.inr (.inl ())))) 0 : Option (Unit ⊕ Bool)).bind fun v7x => orE v7x fun v7 =>
 (if 1 ≤ (p0.length : Int) then
 some (decide ((p0.length : Int) ≤ 260))
 else
 some false))
def gO (p0 : aX) : Option Bool :=
 ((((mB p0.Works p0.Minute).bind fun v1 =>
 (if v1 = true then
 ((mB p0.Works p0.Hour).bind fun v2 =>
 (if v2 = true then
 ((mB p0.Works p0.Escape).bind fun v3 =>
 some v3)
 else
 some false))
 else
 some false)) : Option Bool).bind fun v4 =>
 ((((oQ p0.Teeth).bind fun v5 =>
 (if v5 = true then
 ((cK p0.Beats 1 36000).bind fun v6 =>
 (if v6 = true then
 ((cK p0.Strike 0 2).bind fun v7 =>
 some v7)
 else
 some false))
 else
 some false)) : Option Bool).bind fun v8 =>
 (if v4 = true then
 (if v8 = true then
 ((mK p0.Name).bind fun v9 =>
 (if v9 = true then
 ((jV p0.Works).bind fun v10 =>
 (if v10 = true then
 ((eT p0.Calendar).bind fun v11 =>
 (if v11 = true then
 ((kL p0.Cam).bind fun v12 =>
 some v12)
 else
 some false))
 else
 some false))
 else
 some false))
 else
 some false)
 else
 some false)))
def mT (p0 : bJ) (p1 : cH) : Option dW :=
 ((atI p0.Arbors p1.A).bind fun v1 =>
 ((atI v1.Wheels p1.WheelA).bind fun v2 =>
 ((atI p0.Arbors p1.B).bind fun v3 =>
 ((atI v3.Wheels p1.WheelB).bind fun v4 =>
 some (⟨v2,v4⟩ : dW)))))
def lD (p0 : Int) : Option Int :=
 (if p0 < 0 then
 some (IntKind.u64.wrap (-(IntKind.u64.wrap p0)))
 else
 some (IntKind.u64.wrap p0))
def rF (p0 : Int) (p1 : Int) : Option (aJ × Bool) :=
 ((lD p0).bind fun v1 =>
 ((lD p1).bind fun v2 =>
 ((cM (S := Int × Int) (X := Int) (fun s5 =>
 (if s5.2 ≠ 0 then
 (chk (s5.2 ≠ 0) (
 some (.inl (s5.2,s5.1.tmod s5.2))))
 else
 some (.inr s5.1))) (v1,v2) : Option Int).bind fun v7 =>
 (chk (v7 ≠ 0) (
 (chk (v7 ≠ 0) (
 (((if 1000000000 < (IntKind.u64.wrap (v1.tdiv v7)) then
 some true
 else
 some (decide (1000000000 < (IntKind.u64.wrap (v2.tdiv v7))))) : Option Bool).bind fun v10 =>
 (if v10 = true then
 some ((⟨0,0⟩ : aJ),false)
 else
 (((if ((decide (p0 < 0)) != (decide (p1 < 0))) = true then
 some (⟨w64 (-(w64 (IntKind.u64.wrap (v1.tdiv v7)))),w64 (IntKind.u64.wrap (v2.tdiv v7))⟩ : aJ)
 else
 some (⟨w64 (IntKind.u64.wrap (v1.tdiv v7)),w64 (IntKind.u64.wrap (v2.tdiv v7))⟩ : aJ)) : Option aJ).bind fun v11 =>
 some (v11,true)))))))))))
def kY (p0 : Int) (p1 : Int) : Option (aJ × Int) :=
 (if p1 = 0 then
 some ((⟨0,0⟩ : aJ),6)
 else
 ((rF p0 p1).bind fun v1 =>
 (if (!v1.2) = true then
 some ((⟨0,0⟩ : aJ),2)
 else
 some (v1.1,0))))
def jX (p0 : aJ) : Option Bool :=
 ((cK p0.Den 1 1000000000).bind fun v1 =>
 (if v1 = true then
 ((cK p0.Num (-1000000000) 1000000000).bind fun v2 =>
 (if v2 = true then
 ((yK p0.Num p0.Den).bind fun v3 =>
 some (decide (v3 = 1)))
 else
 some false))
 else
 some false))
def pN (p0 : aJ) (p1 : aJ) : Option (aJ × Int) :=
 ((((jX p0).bind fun v1 =>
 (if (!v1) = true then
 some true
 else
 ((jX p1).bind fun v2 =>
 some (!v2)))) : Option Bool).bind fun v3 =>
 (if v3 = true then
 some ((⟨0,0⟩ : aJ),1)
 else
 ((kY (w64 (p0.Num * p1.Num)) (w64 (p0.Den * p1.Den))).bind fun v4 =>
 some (v4.1,v4.2))))
def mR (p0 : aJ) (p1 : Int) (p2 : Int) : Option (aJ × Int) :=
 ((kY (w64 (-p1)) p2).bind fun v1 =>
 ((pN p0 v1.1).bind fun v2 =>
 some (v2.1,v2.2)))
def lN (p0 : bJ) (p1 : Int) : Option (List aJ × Int) :=
 (chk (0 ≤ (p0.Arbors.length : Int) ∧ (p0.Arbors.length : Int) = (p0.Arbors.length : Int) ∧ (p0.Arbors.length : Int).toNat * 2 * 64 ≤ 281474976710656) (
 ((atI (List.replicate (p0.Arbors.length : Int).toNat (⟨0,0⟩ : aJ)) p1).bind fun v2 =>
 ((cM (S := Bool × List aJ) (X := (List aJ) ⊕ (List aJ × Int)) (fun s28 =>
 (if s28.1 = true then
 cM (S := Bool × Int × List aJ) (X := (Bool × List aJ) ⊕ ((List aJ) ⊕ (List aJ × Int))) (fun s41 =>
 (if s41.2.1 < (p0.Meshes.length : Int) then
 ((((atI p0.Meshes s41.2.1).bind fun v42 =>
 ((mT p0 v42).bind fun v43 =>
 ((((atI s41.2.2 v42.A).bind fun v44 =>
 (if v44.Den = 0 then
 some (v42.B,v42.A,(⟨v43.Driven,v43.Driver⟩ : dW))
 else
 some (v42.A,v42.B,v43))) : Option (Int × Int × dW)).bind fun v45 =>
 ((((atI s41.2.2 v45.1).bind fun v46 =>
 (if v46.Den = 0 then
 some true
 else
 ((atI s41.2.2 v45.2.1).bind fun v47 =>
 some (decide (v47.Den ≠ 0))))) : Option Bool).bind fun v48 =>
 (if v48 = true then
 some (.inl (s41.1,s41.2.2))
 else
 ((atI s41.2.2 v45.1).bind fun v49 =>
 ((mR v49 v45.2.2.Driver v45.2.2.Driven).bind fun v50 =>
 (if v50.2 ≠ 0 then
 some (.inr (.inr (.inr (.inr (([] : List aJ),v50.2)))))
 else
 ((atI s41.2.2 v45.2.1).bind fun v51 =>
 some (.inl (true,List.set s41.2.2 v45.2.1.toNat v50.1))))))))))) : Option ((Bool × List aJ) ⊕ ((Bool × Int × List aJ) ⊕ ((Bool × List aJ) ⊕ ((List aJ) ⊕ (List aJ × Int)))))).bind fun v52x => orE v52x fun v52 =>
 some (.inl (v52.1,w64 (s41.2.1 + 1),v52.2)))
 else
 some (.inr (.inl (s41.1,s41.2.2))))) (false,0,s28.2)
 else
 some (.inr (.inl s28.2)))) (true,List.set (List.replicate (p0.Arbors.length : Int).toNat (⟨0,0⟩ : aJ)) p1.toNat (⟨1,1⟩ : aJ)) : Option ((List aJ) ⊕ (List aJ × Int))).bind fun v53x => orE v53x fun v53 =>
 some (v53,0)))))
def oY (p0 : aJ) : Option Bool :=
 some (decide (p0.Den = 0))
def dE (p0 : List aJ) : Option Int :=
 ((cM (S := Int) (X := Unit ⊕ Int) (fun s4 =>
 (if s4 < (p0.length : Int) then
 ((atI p0 s4).bind fun v5 =>
 ((oY v5).bind fun v6 =>
 (if v6 = true then
 some (.inr (.inr s4))
 else
 some (.inl (w64 (s4 + 1))))))
 else
 some (.inr (.inl ())))) 0 : Option (Unit ⊕ Int)).bind fun v7x => orE v7x fun v7 =>
 some (-1))
def cD (p0 : List aJ) : Option Bool :=
 ((dE p0).bind fun v1 =>
 some (decide (0 ≤ v1)))
def pS (p0 : bJ) (p1 : Int) : Option (List aJ × Int) :=
 ((jV p0).bind fun v1 =>
 (if (!v1) = true then
 some (([] : List aJ),1)
 else
 ((cK p1 0 (w64 ((p0.Arbors.length : Int) - 1))).bind fun v2 =>
 (if (!v2) = true then
 some (([] : List aJ),2)
 else
 ((lN p0 p1).bind fun v3 =>
 (if v3.2 ≠ 0 then
 some (([] : List aJ),v3.2)
 else
 ((cD v3.1).bind fun v4 =>
 (if v4 = true then
 some (([] : List aJ),6)
 else
 ((cM (S := Int) (X := Unit ⊕ (List aJ × Int)) (fun s12 =>
 (if s12 < (p0.Meshes.length : Int) then
 ((atI p0.Meshes s12).bind fun v13 =>
 ((mT p0 v13).bind fun v14 =>
 ((atI v3.1 v13.A).bind fun v15 =>
 ((mR v15 v14.Driver v14.Driven).bind fun v16 =>
 (((if v16.2 ≠ 0 then
 some true
 else
 ((atI v3.1 v13.B).bind fun v17 =>
 some (decide (v16.1 ≠ v17)))) : Option Bool).bind fun v18 =>
 (if v18 = true then
 some (.inr (.inr (([] : List aJ),10)))
 else
 some (.inl (w64 (s12 + 1)))))))))
 else
 some (.inr (.inl ())))) 0 : Option (Unit ⊕ (List aJ × Int))).bind fun v19x => orE v19x fun v19 =>
 some (v3.1,0))))))))))
def aDf (p0 : Int) : Option Int :=
 (if p0 < 0 then
 some (w64 (-p0))
 else
 some p0)
def jI (p0 : aA) (p1 : List Int) : Option Int :=
 (chk ((p0.Months.length : Int) ≠ 0) (
 (if ((p1.length : Int).tmod (p0.Months.length : Int)) ≠ 0 then
 some 0
 else
 (chk ((p0.Months.length : Int) ≠ 0) (
 some (w64 ((p1.length : Int).tdiv (p0.Months.length : Int))))))))
def iD (p0 : aX) : Option (List ByteArray) :=
 ((gO p0).bind fun v1 =>
 (if (!v1) = true then
 some [(⟨#[109,111,118,101,109,101,110,116]⟩ : ByteArray)]
 else
 ((pS p0.Works p0.Minute).bind fun v2 =>
 (((if v2.2 ≠ 0 then
 (chk ([(⟨#[119,111,114,107,115]⟩ : ByteArray)].length * 1 * 64 ≤ 140737488355328) (
 some [(⟨#[119,111,114,107,115]⟩ : ByteArray)]))
 else
 ((((atI v2.1 p0.Hour).bind fun v4 =>
 (if v4 ≠ (⟨1,12⟩ : aJ) then
 (chk ([(⟨#[104,111,117,114]⟩ : ByteArray)].length * 1 * 64 ≤ 140737488355328) (
 some [(⟨#[104,111,117,114]⟩ : ByteArray)]))
 else
 some ([] : List ByteArray))) : Option (List ByteArray)).bind fun v6 =>
 ((atI v2.1 p0.Escape).bind fun v7 =>
 ((aDf v7.Num).bind fun v8 =>
 (if (w64 ((w64 (2 * p0.Teeth)) * v8)) ≠ (w64 (p0.Beats * v7.Den)) then
 (chk ((v6.length + [(⟨#[98,101,97,116,115]⟩ : ByteArray)].length) * 1 * 64 ≤ 140737488355328) (
 some (v6 ++ [(⟨#[98,101,97,116,115]⟩ : ByteArray)])))
 else
 some v6))))) : Option (List ByteArray)).bind fun v10 =>
 ((((jI p0.Calendar p0.Cam).bind fun v11 =>
 (if v11 = 0 then
 (chk ((v10.length + [(⟨#[99,97,109]⟩ : ByteArray)].length) * 1 * 64 ≤ 140737488355328) (
 some (v10 ++ [(⟨#[99,97,109]⟩ : ByteArray)])))
 else
 some v10)) : Option (List ByteArray)).bind fun v13 =>
 some v13)))))
def mJ (p0 : aA) (p1 : List Int) : Option Int :=
 ((((eT p0).bind fun v1 =>
 (if (!v1) = true then
 some true
 else
 ((kL p1).bind fun v2 =>
 some (!v2)))) : Option Bool).bind fun v3 =>
 (if v3 = true then
 some 1
 else
 ((jI p0 p1).bind fun v4 =>
 (if v4 = 0 then
 some 6
 else
 some 0))))
def kX (p0 : Int) : Option Bool :=
 ((cK p0 0 9999).bind fun v1 =>
 some v1)
def mC (p0 : aA) (p1 : Int) : Option Bool :=
 ((cK p1 1 (p0.Months.length : Int)).bind fun v1 =>
 some v1)
def gZ (p0 : aA) (p1 : Int) : Option Bool :=
 ((cM (S := Bool × Int) (X := Bool) (fun s5 =>
 (if s5.2 < (p0.Rules.length : Int) then
 ((((atI p0.Rules s5.2).bind fun v6 =>
 (chk (v6.Every ≠ 0) (
 (if (p1.tmod v6.Every) = v6.Rest then
 some v6.Leap
 else
 some s5.1)))) : Option Bool).bind fun v8 =>
 some (.inl (v8,w64 (s5.2 + 1))))
 else
 some (.inr s5.1))) (false,0) : Option Bool).bind fun v9 =>
 some v9)
def eB (p0 : aA) (p1 : Bool) (p2 : Int) : Option Int :=
 (if p1 = true then
 ((atI p0.Months (w64 (p2 - 1))).bind fun v1 =>
 some v1.Leap)
 else
 ((atI p0.Months (w64 (p2 - 1))).bind fun v2 =>
 some v2.Days))
def jG (p0 : aA) (p1 : bQ) : Option Bool :=
 ((eT p0).bind fun v1 =>
 (if v1 = true then
 ((kX p1.Year).bind fun v2 =>
 (if v2 = true then
 ((mC p0 p1.Month).bind fun v3 =>
 (if v3 = true then
 ((gZ p0 p1.Year).bind fun v4 =>
 ((eB p0 v4 p1.Month).bind fun v5 =>
 ((cK p1.Day 1 v5).bind fun v6 =>
 some v6)))
 else
 some false))
 else
 some false))
 else
 some false))
def eC (p0 : List Int) : Option Int :=
 (((if (p0.length : Int) < 1 then
 none
 else
 some ()) : Option Unit).bind fun v1 =>
 ((atI p0 0).bind fun v2 =>
 ((cM (S := Int × Int) (X := Int) (fun s5 =>
 (if s5.2 < (p0.length : Int) then
 ((atI p0 s5.2).bind fun v6 =>
 some (.inl (max s5.1 v6,w64 (s5.2 + 1))))
 else
 some (.inr s5.1))) (v2,1) : Option Int).bind fun v7 =>
 some v7)))
def cO (p0 : List Int) : Option (List Int) :=
 (chk ((([] : List Int).length + p0.length) * 1 * 64 ≤ 140737488355328) (
 some (([] : List Int) ++ p0)))
def hY (p0 : aA) (p1 : List Int) (p2 : bQ) (p3 : Int) : Option (aC × Int) :=
 ((mJ p0 p1).bind fun v1 =>
 (if v1 ≠ 0 then
 some ((⟨([] : List Int),0,0,0,0,0,0⟩ : aC),v1)
 else
 ((((jG p0 p2).bind fun v2 =>
 (if (!v2) = true then
 some true
 else
 ((cK p3 1 p0.Week).bind fun v3 =>
 some (!v3)))) : Option Bool).bind fun v4 =>
 (if v4 = true then
 some ((⟨([] : List Int),0,0,0,0,0,0⟩ : aC),2)
 else
 ((eC p1).bind fun v5 =>
 ((cM (S := Int × Int) (X := Int) (fun s8 =>
 (if s8.2 < (p0.Months.length : Int) then
 ((atI p0.Months s8.2).bind fun v9 =>
 some (.inl (max (max s8.1 v9.Days) v9.Leap,w64 (s8.2 + 1))))
 else
 some (.inr s8.1))) (v5,0) : Option Int).bind fun v10 =>
 ((cO p1).bind fun v11 =>
 ((jI p0 p1).bind fun v12 =>
 (chk (v12 ≠ 0) (
 some ((⟨v11,(p0.Months.length : Int),v10,w64 ((w64 ((w64 ((p2.Year.tmod v12) * (p0.Months.length : Int))) + p2.Month)) - 1),p2.Day,p0.Week,p3⟩ : aC),0)))))))))))
def gC (p0 : List cH) : Option (List cH) :=
 (chk ((([] : List cH).length + p0.length) * 4 * 64 ≤ 140737488355328) (
 some (([] : List cH) ++ p0)))
def nK (p0 : bJ) : Option bJ :=
 ((cM (S := Int × List cQ) (X := List cQ) (fun s5 =>
 (if s5.1 < (p0.Arbors.length : Int) then
 ((atI p0.Arbors s5.1).bind fun v6 =>
 ((cO v6.Wheels).bind fun v7 =>
 (chk ((s5.2.length + 1) * 2 * 64 ≤ 140737488355328) (
 some (.inl (w64 (s5.1 + 1),s5.2 ++ [(⟨v6.Name,v7⟩ : cQ)]))))))
 else
 some (.inr s5.2))) (0,([] : List cQ)) : Option (List cQ)).bind fun v9 =>
 ((gC p0.Meshes).bind fun v10 =>
 some (⟨v9,v10⟩ : bJ)))
def fI (p0 : List bP) : Option (List bP) :=
 (chk ((([] : List bP).length + p0.length) * 3 * 64 ≤ 140737488355328) (
 some (([] : List bP) ++ p0)))
def eH (p0 : List bA) : Option (List bA) :=
 (chk ((([] : List bA).length + p0.length) * 3 * 64 ≤ 140737488355328) (
 some (([] : List bA) ++ p0)))
def hJ (p0 : aX) : Option aX :=
 ((nK p0.Works).bind fun v1 =>
 ((fI p0.Calendar.Months).bind fun v2 =>
 ((eH p0.Calendar.Rules).bind fun v3 =>
 ((cO p0.Cam).bind fun v4 =>
 some (⟨p0.Name,v1,p0.Minute,p0.Hour,p0.Escape,p0.Teeth,p0.Beats,(⟨p0.Calendar.Name,v2,v3,p0.Calendar.Week⟩ : aA),v4,p0.Strike⟩ : aX)))))
def tJ (p0 : aX) (p1 : bQ) (p2 : Int) : Option (dO × Int) :=
 ((gO p0).bind fun v1 =>
 (if (!v1) = true then
 some ((⟨(⟨(⟨#[]⟩ : ByteArray),(⟨([] : List cQ),([] : List cH)⟩ : bJ),0,0,0,0,0,(⟨(⟨#[]⟩ : ByteArray),([] : List bP),([] : List bA),0⟩ : aA),([] : List Int),0⟩ : aX),(⟨0,0,0⟩ : bQ),0,0,(⟨([] : List Int),0,0,0,0,0,0⟩ : aC)⟩ : dO),1)
 else
 ((iD p0).bind fun v2 =>
 (if 0 < (v2.length : Int) then
 some ((⟨(⟨(⟨#[]⟩ : ByteArray),(⟨([] : List cQ),([] : List cH)⟩ : bJ),0,0,0,0,0,(⟨(⟨#[]⟩ : ByteArray),([] : List bP),([] : List bA),0⟩ : aA),([] : List Int),0⟩ : aX),(⟨0,0,0⟩ : bQ),0,0,(⟨([] : List Int),0,0,0,0,0,0⟩ : aC)⟩ : dO),6)
 else
 ((hY p0.Calendar p0.Cam p1 p2).bind fun v3 =>
 (if v3.2 ≠ 0 then
 some ((⟨(⟨(⟨#[]⟩ : ByteArray),(⟨([] : List cQ),([] : List cH)⟩ : bJ),0,0,0,0,0,(⟨(⟨#[]⟩ : ByteArray),([] : List bP),([] : List bA),0⟩ : aA),([] : List Int),0⟩ : aX),(⟨0,0,0⟩ : bQ),0,0,(⟨([] : List Int),0,0,0,0,0,0⟩ : aC)⟩ : dO),v3.2)
 else
 ((hJ p0).bind fun v4 =>
 some ((⟨v4,p1,p2,0,v3.1⟩ : dO),0))))))))
def gH (p0 : aC) : Option Bool :=
 ((((kL p0.Cam).bind fun v1 =>
 (if (!v1) = true then
 some true
 else
 (if p0.Months < 1 then
 some true
 else
 (chk (p0.Months ≠ 0) (
 some (decide (((p0.Cam.length : Int).tmod p0.Months) ≠ 0))))))) : Option Bool).bind fun v3 =>
 (if v3 = true then
 some false
 else
 (((if 60 < p0.Teeth then
 some true
 else
 ((eC p0.Cam).bind fun v4 =>
 some (decide (p0.Teeth < v4)))) : Option Bool).bind fun v5 =>
 (if v5 = true then
 some false
 else
 ((cK p0.At 0 (w64 ((p0.Cam.length : Int) - 1))).bind fun v6 =>
 (if v6 = true then
 ((cK p0.Day 1 p0.Teeth).bind fun v7 =>
 (if v7 = true then
 ((cK p0.Week 1 12).bind fun v8 =>
 (if v8 = true then
 ((cK p0.Weekday 1 p0.Week).bind fun v9 =>
 some v9)
 else
 some false))
 else
 some false))
 else
 some false))))))
def eQ (p0 : List Int) (p1 : List Int) : Option Bool :=
 (if (p0.length : Int) ≠ (p1.length : Int) then
 some false
 else
 ((cM (S := Int) (X := Unit ⊕ Bool) (fun s4 =>
 (if s4 < (p0.length : Int) then
 ((atI p0 s4).bind fun v5 =>
 ((atI p1 s4).bind fun v6 =>
 (if v5 ≠ v6 then
 some (.inr (.inr false))
 else
 some (.inl (w64 (s4 + 1))))))
 else
 some (.inr (.inl ())))) 0 : Option (Unit ⊕ Bool)).bind fun v7x => orE v7x fun v7 =>
 some true))
def gM (p0 : dO) : Option Bool :=
 ((tJ p0.Movement p0.Start p0.First).bind fun v1 =>
 (((if v1.2 ≠ 0 then
 some true
 else
 ((cK p0.Clock 0 1000000000).bind fun v2 =>
 (if (!v2) = true then
 some true
 else
 ((gH p0.Dial).bind fun v3 =>
 some (!v3))))) : Option Bool).bind fun v4 =>
 (if v4 = true then
 some false
 else
 ((eQ p0.Dial.Cam v1.1.Dial.Cam).bind fun v5 =>
 (if v5 = true then
 (if p0.Dial.Months = v1.1.Dial.Months then
 (if p0.Dial.Teeth = v1.1.Dial.Teeth then
 some (decide (p0.Dial.Week = v1.1.Dial.Week))
 else
 some false)
 else
 some false)
 else
 some false)))))
def nI (p0 : aC) : Option aC :=
 ((cO p0.Cam).bind fun v1 =>
 some (⟨v1,p0.Months,p0.Teeth,p0.At,p0.Day,p0.Week,p0.Weekday⟩ : aC))
def kO (p0 : dO) : Option dO :=
 ((hJ p0.Movement).bind fun v1 =>
 ((nI p0.Dial).bind fun v2 =>
 some (⟨v1,p0.Start,p0.First,p0.Clock,v2⟩ : dO)))
def gP (p0 : aC) : Option Int :=
 ((atI p0.Cam p0.At).bind fun v1 =>
 (if p0.Day = v1 then
 some (w64 ((w64 (p0.Teeth + 1)) - p0.Day))
 else
 some 1))
def dY (p0 : dO) : Option dO :=
 (chk ((p0.Dial.Cam.length : Int) ≠ 0) (
 some (⟨p0.Movement,p0.Start,p0.First,p0.Clock,(⟨p0.Dial.Cam,p0.Dial.Months,p0.Dial.Teeth,(w64 (p0.Dial.At + 1)).tmod (p0.Dial.Cam.length : Int),p0.Dial.Day,p0.Dial.Week,p0.Dial.Weekday⟩ : aC)⟩ : dO)))
def eA (p0 : dO) (p1 : Int) : Option dO :=
 (if p0.Dial.Teeth < (w64 (p0.Dial.Day + p1)) then
 ((dY (⟨p0.Movement,p0.Start,p0.First,p0.Clock,(⟨p0.Dial.Cam,p0.Dial.Months,p0.Dial.Teeth,p0.Dial.At,w64 ((w64 (p0.Dial.Day + p1)) - p0.Dial.Teeth),p0.Dial.Week,p0.Dial.Weekday⟩ : aC)⟩ : dO)).bind fun v1 =>
 some v1)
 else
 some (⟨p0.Movement,p0.Start,p0.First,p0.Clock,(⟨p0.Dial.Cam,p0.Dial.Months,p0.Dial.Teeth,p0.Dial.At,w64 (p0.Dial.Day + p1),p0.Dial.Week,p0.Dial.Weekday⟩ : aC)⟩ : dO))
def dR (p0 : dO) : Option dO :=
 (chk (p0.Dial.Week ≠ 0) (
 some (⟨p0.Movement,p0.Start,p0.First,p0.Clock,(⟨p0.Dial.Cam,p0.Dial.Months,p0.Dial.Teeth,p0.Dial.At,p0.Dial.Day,p0.Dial.Week,w64 ((p0.Dial.Weekday.tmod p0.Dial.Week) + 1)⟩ : aC)⟩ : dO)))
def dQ (p0 : dO) : Option dO :=
 ((gP p0.Dial).bind fun v1 =>
 ((eA p0 v1).bind fun v2 =>
 ((dR v2).bind fun v3 =>
 some v3)))
def oT (p0 : Int) : Option Int :=
 some (w64 ((w64 ((w64 (p0.tdiv 12)) * 78)) + (w64 ((w64 ((p0.tmod 12) * (w64 ((p0.tmod 12) + 1)))).tdiv 2))))
def jM (p0 : Int) (p1 : Int) (p2 : Int) : Option (Int × Int) :=
 ((((cK p0 0 2).bind fun v1 =>
 (if (!v1) = true then
 some true
 else
 ((cK p1 0 p2).bind fun v2 =>
 (if (!v2) = true then
 some true
 else
 some (decide (1000000000 < p2)))))) : Option Bool).bind fun v3 =>
 (if v3 = true then
 some (0,2)
 else
 (if p0 = 0 then
 some (0,0)
 else
 ((oT (w64 (p2.tdiv 3600))).bind fun v5 =>
 ((oT (w64 (p1.tdiv 3600))).bind fun v7 =>
 some (w64 (v5 - v7),0))))))
def qP (p0 : dO) (p1 : Int) : Option (dO × Int × Int) :=
 ((gM p0).bind fun v1 =>
 (if (!v1) = true then
 some ((⟨(⟨(⟨#[]⟩ : ByteArray),(⟨([] : List cQ),([] : List cH)⟩ : bJ),0,0,0,0,0,(⟨(⟨#[]⟩ : ByteArray),([] : List bP),([] : List bA),0⟩ : aA),([] : List Int),0⟩ : aX),(⟨0,0,0⟩ : bQ),0,0,(⟨([] : List Int),0,0,0,0,0,0⟩ : aC)⟩ : dO),0,1)
 else
 ((((cK p1 0 3000000).bind fun v2 =>
 (if (!v2) = true then
 some true
 else
 some (decide (1000000000 < (w64 (p0.Clock + p1)))))) : Option Bool).bind fun v3 =>
 (if v3 = true then
 some ((⟨(⟨(⟨#[]⟩ : ByteArray),(⟨([] : List cQ),([] : List cH)⟩ : bJ),0,0,0,0,0,(⟨(⟨#[]⟩ : ByteArray),([] : List bP),([] : List bA),0⟩ : aA),([] : List Int),0⟩ : aX),(⟨0,0,0⟩ : bQ),0,0,(⟨([] : List Int),0,0,0,0,0,0⟩ : aC)⟩ : dO),0,2)
 else
 ((kO p0).bind fun v4 =>
 ((cM (S := Int × ByteArray × Int × Int × Int × Int × Int × ByteArray × Int × Int × bQ × Int × Int × Int × Int × Int × Int × Int × Int × List cQ × List cH × List bP × List bA × List Int × List Int) (X := ByteArray × Int × Int × Int × Int × Int × ByteArray × Int × Int × bQ × Int × Int × Int × Int × Int × Int × Int × Int × List cQ × List cH × List bP × List bA × List Int × List Int) (fun s9 =>
 (if 0 < s9.1 then
 ((dQ (⟨(⟨s9.2.1,(⟨s9.2.2.2.2.2.2.2.2.2.2.2.2.2.2.2.2.2.2.2.1,s9.2.2.2.2.2.2.2.2.2.2.2.2.2.2.2.2.2.2.2.2.1⟩ : bJ),s9.2.2.1,s9.2.2.2.1,s9.2.2.2.2.1,s9.2.2.2.2.2.1,s9.2.2.2.2.2.2.1,(⟨s9.2.2.2.2.2.2.2.1,s9.2.2.2.2.2.2.2.2.2.2.2.2.2.2.2.2.2.2.2.2.2.1,s9.2.2.2.2.2.2.2.2.2.2.2.2.2.2.2.2.2.2.2.2.2.2.1,s9.2.2.2.2.2.2.2.2.1⟩ : aA),s9.2.2.2.2.2.2.2.2.2.2.2.2.2.2.2.2.2.2.2.2.2.2.2.1,s9.2.2.2.2.2.2.2.2.2.1⟩ : aX),s9.2.2.2.2.2.2.2.2.2.2.1,s9.2.2.2.2.2.2.2.2.2.2.2.1,s9.2.2.2.2.2.2.2.2.2.2.2.2.1,(⟨s9.2.2.2.2.2.2.2.2.2.2.2.2.2.2.2.2.2.2.2.2.2.2.2.2,s9.2.2.2.2.2.2.2.2.2.2.2.2.2.1,s9.2.2.2.2.2.2.2.2.2.2.2.2.2.2.1,s9.2.2.2.2.2.2.2.2.2.2.2.2.2.2.2.1,s9.2.2.2.2.2.2.2.2.2.2.2.2.2.2.2.2.1,s9.2.2.2.2.2.2.2.2.2.2.2.2.2.2.2.2.2.1,s9.2.2.2.2.2.2.2.2.2.2.2.2.2.2.2.2.2.2.1⟩ : aC)⟩ : dO)).bind fun v10 =>
 some (.inl (w64 (s9.1 - 1),v10.Movement.Name,v10.Movement.Minute,v10.Movement.Hour,v10.Movement.Escape,v10.Movement.Teeth,v10.Movement.Beats,v10.Movement.Calendar.Name,v10.Movement.Calendar.Week,v10.Movement.Strike,v10.Start,v10.First,v10.Clock,v10.Dial.Months,v10.Dial.Teeth,v10.Dial.At,v10.Dial.Day,v10.Dial.Week,v10.Dial.Weekday,v10.Movement.Works.Arbors,v10.Movement.Works.Meshes,v10.Movement.Calendar.Months,v10.Movement.Calendar.Rules,v10.Movement.Cam,v10.Dial.Cam)))
 else
 some (.inr (s9.2.1,s9.2.2.1,s9.2.2.2.1,s9.2.2.2.2.1,s9.2.2.2.2.2.1,s9.2.2.2.2.2.2.1,s9.2.2.2.2.2.2.2.1,s9.2.2.2.2.2.2.2.2.1,s9.2.2.2.2.2.2.2.2.2.1,s9.2.2.2.2.2.2.2.2.2.2.1,s9.2.2.2.2.2.2.2.2.2.2.2.1,s9.2.2.2.2.2.2.2.2.2.2.2.2.1,s9.2.2.2.2.2.2.2.2.2.2.2.2.2.1,s9.2.2.2.2.2.2.2.2.2.2.2.2.2.2.1,s9.2.2.2.2.2.2.2.2.2.2.2.2.2.2.2.1,s9.2.2.2.2.2.2.2.2.2.2.2.2.2.2.2.2.1,s9.2.2.2.2.2.2.2.2.2.2.2.2.2.2.2.2.2.1,s9.2.2.2.2.2.2.2.2.2.2.2.2.2.2.2.2.2.2.1,s9.2.2.2.2.2.2.2.2.2.2.2.2.2.2.2.2.2.2.2.1,s9.2.2.2.2.2.2.2.2.2.2.2.2.2.2.2.2.2.2.2.2.1,s9.2.2.2.2.2.2.2.2.2.2.2.2.2.2.2.2.2.2.2.2.2.1,s9.2.2.2.2.2.2.2.2.2.2.2.2.2.2.2.2.2.2.2.2.2.2.1,s9.2.2.2.2.2.2.2.2.2.2.2.2.2.2.2.2.2.2.2.2.2.2.2.1,s9.2.2.2.2.2.2.2.2.2.2.2.2.2.2.2.2.2.2.2.2.2.2.2.2)))) (w64 ((w64 ((w64 (v4.Clock + p1)).tdiv 86400)) - (w64 (p0.Clock.tdiv 86400))),v4.Movement.Name,v4.Movement.Minute,v4.Movement.Hour,v4.Movement.Escape,v4.Movement.Teeth,v4.Movement.Beats,v4.Movement.Calendar.Name,v4.Movement.Calendar.Week,v4.Movement.Strike,v4.Start,v4.First,w64 (v4.Clock + p1),v4.Dial.Months,v4.Dial.Teeth,v4.Dial.At,v4.Dial.Day,v4.Dial.Week,v4.Dial.Weekday,v4.Movement.Works.Arbors,v4.Movement.Works.Meshes,v4.Movement.Calendar.Months,v4.Movement.Calendar.Rules,v4.Movement.Cam,v4.Dial.Cam) : Option (ByteArray × Int × Int × Int × Int × Int × ByteArray × Int × Int × bQ × Int × Int × Int × Int × Int × Int × Int × Int × List cQ × List cH × List bP × List bA × List Int × List Int)).bind fun v11 =>
 ((jM v11.2.2.2.2.2.2.2.2.1 p0.Clock v11.2.2.2.2.2.2.2.2.2.2.2.1).bind fun v12 =>
 some ((⟨(⟨v11.1,(⟨v11.2.2.2.2.2.2.2.2.2.2.2.2.2.2.2.2.2.2.1,v11.2.2.2.2.2.2.2.2.2.2.2.2.2.2.2.2.2.2.2.1⟩ : bJ),v11.2.1,v11.2.2.1,v11.2.2.2.1,v11.2.2.2.2.1,v11.2.2.2.2.2.1,(⟨v11.2.2.2.2.2.2.1,v11.2.2.2.2.2.2.2.2.2.2.2.2.2.2.2.2.2.2.2.2.1,v11.2.2.2.2.2.2.2.2.2.2.2.2.2.2.2.2.2.2.2.2.2.1,v11.2.2.2.2.2.2.2.1⟩ : aA),v11.2.2.2.2.2.2.2.2.2.2.2.2.2.2.2.2.2.2.2.2.2.2.1,v11.2.2.2.2.2.2.2.2.1⟩ : aX),v11.2.2.2.2.2.2.2.2.2.1,v11.2.2.2.2.2.2.2.2.2.2.1,v11.2.2.2.2.2.2.2.2.2.2.2.1,(⟨v11.2.2.2.2.2.2.2.2.2.2.2.2.2.2.2.2.2.2.2.2.2.2.2,v11.2.2.2.2.2.2.2.2.2.2.2.2.1,v11.2.2.2.2.2.2.2.2.2.2.2.2.2.1,v11.2.2.2.2.2.2.2.2.2.2.2.2.2.2.1,v11.2.2.2.2.2.2.2.2.2.2.2.2.2.2.2.1,v11.2.2.2.2.2.2.2.2.2.2.2.2.2.2.2.2.1,v11.2.2.2.2.2.2.2.2.2.2.2.2.2.2.2.2.2.1⟩ : aC)⟩ : dO),v12.1,0))))))))
def yI (p0 : dO) (p1 : Int) : Option (dO × Int) :=
 ((gM p0).bind fun v1 =>
 (if (!v1) = true then
 some ((⟨(⟨(⟨#[]⟩ : ByteArray),(⟨([] : List cQ),([] : List cH)⟩ : bJ),0,0,0,0,0,(⟨(⟨#[]⟩ : ByteArray),([] : List bP),([] : List bA),0⟩ : aA),([] : List Int),0⟩ : aX),(⟨0,0,0⟩ : bQ),0,0,(⟨([] : List Int),0,0,0,0,0,0⟩ : aC)⟩ : dO),1)
 else
 ((kO p0).bind fun v2 =>
 (((if p1 = 1 then
 ((eA v2 1).bind fun v3 =>
 some (.inl (v3.Movement.Name,v3.Movement.Minute,v3.Movement.Hour,v3.Movement.Escape,v3.Movement.Teeth,v3.Movement.Beats,v3.Movement.Calendar.Name,v3.Movement.Calendar.Week,v3.Movement.Strike,v3.Start,v3.First,v3.Clock,v3.Dial.Months,v3.Dial.Teeth,v3.Dial.At,v3.Dial.Day,v3.Dial.Week,v3.Dial.Weekday,v3.Movement.Works.Arbors,v3.Movement.Works.Meshes,v3.Movement.Calendar.Months,v3.Movement.Calendar.Rules,v3.Movement.Cam,v3.Dial.Cam)))
 else
 (if p1 = 2 then
 ((dY v2).bind fun v4 =>
 some (.inl (v4.Movement.Name,v4.Movement.Minute,v4.Movement.Hour,v4.Movement.Escape,v4.Movement.Teeth,v4.Movement.Beats,v4.Movement.Calendar.Name,v4.Movement.Calendar.Week,v4.Movement.Strike,v4.Start,v4.First,v4.Clock,v4.Dial.Months,v4.Dial.Teeth,v4.Dial.At,v4.Dial.Day,v4.Dial.Week,v4.Dial.Weekday,v4.Movement.Works.Arbors,v4.Movement.Works.Meshes,v4.Movement.Calendar.Months,v4.Movement.Calendar.Rules,v4.Movement.Cam,v4.Dial.Cam)))
 else
 (if p1 = 3 then
 ((dR v2).bind fun v5 =>
 some (.inl (v5.Movement.Name,v5.Movement.Minute,v5.Movement.Hour,v5.Movement.Escape,v5.Movement.Teeth,v5.Movement.Beats,v5.Movement.Calendar.Name,v5.Movement.Calendar.Week,v5.Movement.Strike,v5.Start,v5.First,v5.Clock,v5.Dial.Months,v5.Dial.Teeth,v5.Dial.At,v5.Dial.Day,v5.Dial.Week,v5.Dial.Weekday,v5.Movement.Works.Arbors,v5.Movement.Works.Meshes,v5.Movement.Calendar.Months,v5.Movement.Calendar.Rules,v5.Movement.Cam,v5.Dial.Cam)))
 else
 some (.inr ((⟨(⟨(⟨#[]⟩ : ByteArray),(⟨([] : List cQ),([] : List cH)⟩ : bJ),0,0,0,0,0,(⟨(⟨#[]⟩ : ByteArray),([] : List bP),([] : List bA),0⟩ : aA),([] : List Int),0⟩ : aX),(⟨0,0,0⟩ : bQ),0,0,(⟨([] : List Int),0,0,0,0,0,0⟩ : aC)⟩ : dO),2))))) : Option ((ByteArray × Int × Int × Int × Int × Int × ByteArray × Int × Int × bQ × Int × Int × Int × Int × Int × Int × Int × Int × List cQ × List cH × List bP × List bA × List Int × List Int) ⊕ (dO × Int))).bind fun v6x => orE v6x fun v6 =>
 some ((⟨(⟨v6.1,(⟨v6.2.2.2.2.2.2.2.2.2.2.2.2.2.2.2.2.2.2.1,v6.2.2.2.2.2.2.2.2.2.2.2.2.2.2.2.2.2.2.2.1⟩ : bJ),v6.2.1,v6.2.2.1,v6.2.2.2.1,v6.2.2.2.2.1,v6.2.2.2.2.2.1,(⟨v6.2.2.2.2.2.2.1,v6.2.2.2.2.2.2.2.2.2.2.2.2.2.2.2.2.2.2.2.2.1,v6.2.2.2.2.2.2.2.2.2.2.2.2.2.2.2.2.2.2.2.2.2.1,v6.2.2.2.2.2.2.2.1⟩ : aA),v6.2.2.2.2.2.2.2.2.2.2.2.2.2.2.2.2.2.2.2.2.2.2.1,v6.2.2.2.2.2.2.2.2.1⟩ : aX),v6.2.2.2.2.2.2.2.2.2.1,v6.2.2.2.2.2.2.2.2.2.2.1,v6.2.2.2.2.2.2.2.2.2.2.2.1,(⟨v6.2.2.2.2.2.2.2.2.2.2.2.2.2.2.2.2.2.2.2.2.2.2.2,v6.2.2.2.2.2.2.2.2.2.2.2.2.1,v6.2.2.2.2.2.2.2.2.2.2.2.2.2.1,v6.2.2.2.2.2.2.2.2.2.2.2.2.2.2.1,v6.2.2.2.2.2.2.2.2.2.2.2.2.2.2.2.1,v6.2.2.2.2.2.2.2.2.2.2.2.2.2.2.2.2.1,v6.2.2.2.2.2.2.2.2.2.2.2.2.2.2.2.2.2.1⟩ : aC)⟩ : dO),0)))))
def sQ (p0 : dO) : Option Bool :=
 ((pC p0).bind fun v1 =>
 some v1)
def iS (p0 : aA) : Option (Int × Int) :=
 ((cM (S := Int × Int × Int) (X := Int × Int) (fun s3 =>
 (if s3.2.2 < (p0.Months.length : Int) then
 ((atI p0.Months s3.2.2).bind fun v4 =>
 some (.inl (w64 (s3.1 + v4.Days),w64 (s3.2.1 + v4.Leap),w64 (s3.2.2 + 1))))
 else
 some (.inr (s3.1,s3.2.1)))) (0,0,0) : Option (Int × Int)).bind fun v5 =>
 some (v5.1,v5.2))
def jS (p0 : aA) (p1 : Int) : Option Int :=
 ((iS p0).bind fun v1 =>
 ((cM (S := Int × Int) (X := Int) (fun s5 =>
 (if s5.2 < p1 then
 ((((gZ p0 s5.2).bind fun v6 =>
 (if v6 = true then
 some (w64 (s5.1 + v1.2))
 else
 some (w64 (s5.1 + v1.1)))) : Option Int).bind fun v7 =>
 some (.inl (v7,w64 (s5.2 + 1))))
 else
 some (.inr s5.1))) (0,0) : Option Int).bind fun v8 =>
 some v8))
def vO (p0 : aA) (p1 : bQ) : Option Int :=
 ((jS p0 p1.Year).bind fun v1 =>
 ((gZ p0 p1.Year).bind fun v2 =>
 ((cM (S := Int × Int) (X := Int) (fun s5 =>
 (if s5.2 < p1.Month then
 ((eB p0 v2 s5.2).bind fun v6 =>
 some (.inl (w64 (s5.1 + v6),w64 (s5.2 + 1))))
 else
 some (.inr s5.1))) (w64 ((w64 (v1 + p1.Day)) - 1),1) : Option Int).bind fun v7 =>
 some v7)))
def zM (p0 : aA) (p1 : bQ) : Option (Int × Int) :=
 ((eT p0).bind fun v1 =>
 (if (!v1) = true then
 some (0,1)
 else
 ((jG p0 p1).bind fun v2 =>
 (if (!v2) = true then
 some (0,2)
 else
 ((vO p0 p1).bind fun v3 =>
 some (v3,0))))))
def qX (p0 : aA) : Option Int :=
 ((jS p0 10000).bind fun v1 =>
 some (w64 (v1 - 1)))
def tC (p0 : aA) (p1 : Int) : Option bQ :=
 ((iS p0).bind fun v1 =>
 ((cM (S := Int × bQ) (X := Int × bQ) (fun s5 =>
 ((((gZ p0 s5.2.Year).bind fun v6 =>
 (if v6 = true then
 some v1.2
 else
 some v1.1)) : Option Int).bind fun v7 =>
 (if s5.1 < v7 then
 some (.inr (s5.1,s5.2))
 else
 some (.inl (w64 (s5.1 - v7),(⟨w64 (s5.2.Year + 1),s5.2.Month,s5.2.Day⟩ : bQ)))))) (p1,(⟨0,1,0⟩ : bQ)) : Option (Int × bQ)).bind fun v8 =>
 ((((gZ p0 v8.2.Year).bind fun v9 =>
 cM (S := Int × bQ) (X := Int × bQ) (fun s13 =>
 ((eB p0 v9 s13.2.Month).bind fun v14 =>
 (if v14 ≤ s13.1 then
 ((eB p0 v9 s13.2.Month).bind fun v15 =>
 some (.inl (w64 (s13.1 - v15),(⟨s13.2.Year,w64 (s13.2.Month + 1),s13.2.Day⟩ : bQ))))
 else
 some (.inr (s13.1,s13.2))))) (v8.1,v8.2)) : Option (Int × bQ)).bind fun v16 =>
 some (⟨v16.2.Year,v16.2.Month,w64 (v16.1 + 1)⟩ : bQ))))
def uY (p0 : aA) (p1 : Int) (p2 : Int) : Option (bQ × Int) :=
 ((qX p0).bind fun v1 =>
 ((cK p2 (w64 (-p1)) (w64 (v1 - p1))).bind fun v2 =>
 (if (!v2) = true then
 some ((⟨0,0,0⟩ : bQ),2)
 else
 ((tC p0 (w64 (p1 + p2))).bind fun v3 =>
 some (v3,0)))))
def tY (p0 : aA) (p1 : bQ) (p2 : Int) : Option (bQ × Int) :=
 ((zM p0 p1).bind fun v1 =>
 (if v1.2 ≠ 0 then
 some ((⟨0,0,0⟩ : bQ),v1.2)
 else
 ((uY p0 v1.1 p2).bind fun v2 =>
 some (v2.1,v2.2))))
def kR (p0 : dO) : Option (bQ × Int × Int) :=
 ((tY p0.Movement.Calendar p0.Start (w64 (p0.Clock.tdiv 86400))).bind fun v2 =>
 (if v2.2 ≠ 0 then
 some ((⟨0,0,0⟩ : bQ),0,v2.2)
 else
 (chk (p0.Movement.Calendar.Week ≠ 0) (
 some (v2.1,w64 (((w64 ((w64 (p0.First - 1)) + (w64 (p0.Clock.tdiv 86400)))).tmod p0.Movement.Calendar.Week) + 1),0)))))
def yB (p0 : dO) : Option (dO × Int) :=
 ((gM p0).bind fun v1 =>
 (if (!v1) = true then
 some ((⟨(⟨(⟨#[]⟩ : ByteArray),(⟨([] : List cQ),([] : List cH)⟩ : bJ),0,0,0,0,0,(⟨(⟨#[]⟩ : ByteArray),([] : List bP),([] : List bA),0⟩ : aA),([] : List Int),0⟩ : aX),(⟨0,0,0⟩ : bQ),0,0,(⟨([] : List Int),0,0,0,0,0,0⟩ : aC)⟩ : dO),1)
 else
 ((kR p0).bind fun v2 =>
 (if v2.2.2 ≠ 0 then
 some ((⟨(⟨(⟨#[]⟩ : ByteArray),(⟨([] : List cQ),([] : List cH)⟩ : bJ),0,0,0,0,0,(⟨(⟨#[]⟩ : ByteArray),([] : List bP),([] : List bA),0⟩ : aA),([] : List Int),0⟩ : aX),(⟨0,0,0⟩ : bQ),0,0,(⟨([] : List Int),0,0,0,0,0,0⟩ : aC)⟩ : dO),v2.2.2)
 else
 ((hY p0.Movement.Calendar p0.Movement.Cam v2.1 v2.2.1).bind fun v3 =>
 (if v3.2 ≠ 0 then
 some ((⟨(⟨(⟨#[]⟩ : ByteArray),(⟨([] : List cQ),([] : List cH)⟩ : bJ),0,0,0,0,0,(⟨(⟨#[]⟩ : ByteArray),([] : List bP),([] : List bA),0⟩ : aA),([] : List Int),0⟩ : aX),(⟨0,0,0⟩ : bQ),0,0,(⟨([] : List Int),0,0,0,0,0,0⟩ : aC)⟩ : dO),v3.2)
 else
 ((kO p0).bind fun v4 =>
 some ((⟨v4.Movement,v4.Start,v4.First,v4.Clock,v3.1⟩ : dO),0))))))))
def pZ (p0 : dO) : Option (bQ × Int) :=
 ((gM p0).bind fun v1 =>
 (if (!v1) = true then
 some ((⟨0,0,0⟩ : bQ),1)
 else
 ((kR p0).bind fun v2 =>
 some (v2.1,v2.2.2))))
def lR (p0 : aC) : Option Int :=
 (chk (p0.Months ≠ 0) (
 some (w64 ((p0.At.tmod p0.Months) + 1))))
def pE (p0 : aC) (p1 : Int) (p2 : Int) : Option Bool :=
 (if p0.Day = p2 then
 ((lR p0).bind fun v1 =>
 some (decide (v1 = p1)))
 else
 some false)
def iF (p0 : dO) : Option Bool :=
 ((gM p0).bind fun v1 =>
 (if (!v1) = true then
 some false
 else
 ((kR p0).bind fun v2 =>
 (if v2.2.2 = 0 then
 ((pE p0.Dial v2.1.Month v2.1.Day).bind fun v3 =>
 (if v3 = true then
 some (decide (p0.Dial.Weekday = v2.2.1))
 else
 some false))
 else
 some false))))
def rH (p0 : List Int) : Option (List Int) :=
 ((rG p0).bind fun v1 =>
 ((((bR v1 8).bind fun v2 =>
 cM (S := Int × bN × List Int) (X := List Int) (fun s6 =>
 (if 0 < s6.1 then
 ((eR s6.2.1 [0,1,3600,86400,86399,1000000,3000000,777777]).bind fun v7 =>
 (chk ((s6.2.2.length + [v7.1].length) * 1 * 64 ≤ 140737488355328) (
 some (.inl (w64 (s6.1 - 1),v7.2,s6.2.2 ++ [v7.1])))))
 else
 some (.inr s6.2.2))) (w64 (1 + v2.1),v2.2,([] : List Int))) : Option (List Int)).bind fun v9 =>
 some v9))
def pP (p0 : aA) (p1 : List Int) (p2 : Int) : Option (List gX) :=
 ((gZ p0 p2).bind fun v1 =>
 ((jI p0 p1).bind fun v2 =>
 (chk (v2 ≠ 0) (
 (chk (0 ≤ (w64 ((p2.tmod v2) * (p0.Months.length : Int))) ∧ (w64 ((p2.tmod v2) * (p0.Months.length : Int))) ≤ (p1.length : Int) ∧ (p1.length : Int) ≤ (p1.length : Int)) (
 ((cM (S := Int × List gX) (X := List gX) (fun s11 =>
 (if s11.1 ≤ (p0.Months.length : Int) then
 ((((eB p0 v1 s11.1).bind fun v12 =>
 ((atI (xS p1 (w64 ((p2.tmod v2) * (p0.Months.length : Int))) (p1.length : Int)) (w64 (s11.1 - 1))).bind fun v13 =>
 (if v13 ≠ v12 then
 ((atI (xS p1 (w64 ((p2.tmod v2) * (p0.Months.length : Int))) (p1.length : Int)) (w64 (s11.1 - 1))).bind fun v14 =>
 (chk ((s11.2.length + [(⟨p2,s11.1,v14,v12⟩ : gX)].length) * 4 * 64 ≤ 140737488355328) (
 some (s11.2 ++ [(⟨p2,s11.1,v14,v12⟩ : gX)]))))
 else
 some s11.2))) : Option (List gX)).bind fun v16 =>
 some (.inl (w64 (s11.1 + 1),v16)))
 else
 some (.inr s11.2))) (1,([] : List gX)) : Option (List gX)).bind fun v17 =>
 some v17)))))))
def nL (p0 : aA) (p1 : List Int) (p2 : Int) (p3 : Int) : Option (List gX × Int) :=
 ((mJ p0 p1).bind fun v1 =>
 (if v1 ≠ 0 then
 some (([] : List gX),v1)
 else
 ((((kX p2).bind fun v2 =>
 (if (!v2) = true then
 some true
 else
 ((kX p3).bind fun v3 =>
 (if (!v3) = true then
 some true
 else
 some (decide (p3 < p2)))))) : Option Bool).bind fun v4 =>
 (if v4 = true then
 some (([] : List gX),2)
 else
 ((cM (S := Int × List gX) (X := (List gX) ⊕ (List gX × Int)) (fun s8 =>
 (if s8.1 ≤ p3 then
 ((pP p0 p1 s8.1).bind fun v9 =>
 (chk ((s8.2.length + v9.length) * 4 * 64 ≤ 140737488355328) (
 (if 40 < ((s8.2 ++ v9).length : Int) then
 some (.inr (.inr (([] : List gX),5)))
 else
 some (.inl (w64 (s8.1 + 1),s8.2 ++ v9))))))
 else
 some (.inr (.inl s8.2)))) (p2,([] : List gX)) : Option ((List gX) ⊕ (List gX × Int))).bind fun v11x => orE v11x fun v11 =>
 some (v11,0))))))
def gL (p0 : aC) : Option aC :=
 (chk ((p0.Cam.length : Int) ≠ 0) (
 some (⟨p0.Cam,p0.Months,p0.Teeth,(w64 (p0.At + 1)).tmod (p0.Cam.length : Int),p0.Day,p0.Week,p0.Weekday⟩ : aC)))
def fU (p0 : aC) (p1 : Int) : Option aC :=
 (if p0.Teeth < (w64 (p0.Day + p1)) then
 ((gL (⟨p0.Cam,p0.Months,p0.Teeth,p0.At,w64 ((w64 (p0.Day + p1)) - p0.Teeth),p0.Week,p0.Weekday⟩ : aC)).bind fun v1 =>
 some v1)
 else
 some (⟨p0.Cam,p0.Months,p0.Teeth,p0.At,w64 (p0.Day + p1),p0.Week,p0.Weekday⟩ : aC))
def gB (p0 : aC) : Option aC :=
 (chk (p0.Week ≠ 0) (
 some (⟨p0.Cam,p0.Months,p0.Teeth,p0.At,p0.Day,p0.Week,w64 ((p0.Weekday.tmod p0.Week) + 1)⟩ : aC)))
def fV (p0 : aC) : Option aC :=
 ((gP p0).bind fun v1 =>
 ((fU p0 v1).bind fun v2 =>
 ((gB v2).bind fun v3 =>
 some v3)))
def pB (p0 : aA) (p1 : bQ) : Option bQ :=
 ((((gZ p0 p1.Year).bind fun v1 =>
 ((eB p0 v1 p1.Month).bind fun v2 =>
 (if v2 < (w64 (p1.Day + 1)) then
 some (⟨p1.Year,w64 (p1.Month + 1),1⟩ : bQ)
 else
 some (⟨p1.Year,p1.Month,w64 (p1.Day + 1)⟩ : bQ)))) : Option bQ).bind fun v3 =>
 ((((mC p0 v3.Month).bind fun v4 =>
 (if (!v4) = true then
 some (⟨w64 (v3.Year + 1),1,v3.Day⟩ : bQ)
 else
 some v3)) : Option bQ).bind fun v5 =>
 some v5))
def lO (p0 : aA) (p1 : aC) (p2 : bQ) (p3 : Int) : Option (Int × Int) :=
 ((((eT p0).bind fun v1 =>
 (if (!v1) = true then
 some true
 else
 ((gH p1).bind fun v2 =>
 some (!v2)))) : Option Bool).bind fun v3 =>
 (if v3 = true then
 some (0,1)
 else
 ((((jG p0 p2).bind fun v4 =>
 (if (!v4) = true then
 some true
 else
 ((cK p3 0 200000).bind fun v5 =>
 some (!v5)))) : Option Bool).bind fun v6 =>
 (if v6 = true then
 some (0,2)
 else
 ((pE p1 p2.Month p2.Day).bind fun v7 =>
 (if (!v7) = true then
 some (0,6)
 else
 ((cM (S := Int × aC × bQ) (X := Unit ⊕ (Int × Int)) (fun s13 =>
 (if s13.1 ≤ p3 then
 ((fV s13.2.1).bind fun v14 =>
 ((pB p0 s13.2.2).bind fun v15 =>
 ((kX v15.Year).bind fun v16 =>
 (if (!v16) = true then
 some (.inr (.inl ()))
 else
 ((pE v14 v15.Month v15.Day).bind fun v17 =>
 (if (!v17) = true then
 some (.inr (.inr (s13.1,0)))
 else
 some (.inl (w64 (s13.1 + 1),v14,v15))))))))
 else
 some (.inr (.inl ())))) (1,p1,p2) : Option (Unit ⊕ (Int × Int))).bind fun v18x => orE v18x fun v18 =>
 some (0,3))))))))
def vN (p0 : List Int) (p1 : List Int) : Option Bool :=
 ((xM p0 p1).bind fun v1 =>
 (if v1 = true then
 some true
 else
 ((wE p0).bind fun v2 =>
 ((rH p1).bind fun v3 =>
 ((cM (S := Int × dO) (X := dO ⊕ Bool) (fun s14 =>
 (if s14.1 < (v3.length : Int) then
 ((((atI v3 s14.1).bind fun v15 =>
 ((qP s14.2 v15).bind fun v16 =>
 (if v16.2.2 = 2 then
 some (.inl s14.2)
 else
 (((if v16.2.2 ≠ 0 then
 some true
 else
 ((sQ v16.1).bind fun v17 =>
 some (!v17))) : Option Bool).bind fun v18 =>
 (if v18 = true then
 some (.inr (.inr (.inr false)))
 else
 ((pZ v16.1).bind fun v19 =>
 (if v19.2 ≠ 0 then
 some (.inr (.inr (.inr (decide (v19.2 = 2)))))
 else
 ((nL v2.Movement.Calendar v2.Movement.Cam v2.Start.Year v19.1.Year).bind fun v20 =>
 (((if v20.2 = 0 then
 (if (v20.1.length : Int) = 0 then
 ((iF v16.1).bind fun v21 =>
 some (!v21))
 else
 some false)
 else
 some false) : Option Bool).bind fun v22 =>
 (if v22 = true then
 some (.inr (.inr (.inr false)))
 else
 some (.inl v16.1))))))))))) : Option (dO ⊕ ((Int × dO) ⊕ (dO ⊕ Bool)))).bind fun v23x => orE v23x fun v23 =>
 some (.inl (w64 (s14.1 + 1),v23)))
 else
 some (.inr (.inl s14.2)))) (0,v2) : Option (dO ⊕ Bool)).bind fun v24x => orE v24x fun v24 =>
 ((lO v2.Movement.Calendar v2.Dial v2.Start 3000).bind fun v25 =>
 (if v25.2 ≠ 0 then
 some (decide (v25.2 = 3))
 else
 (((if v25.1 < 1 then
 some true
 else
 some (decide (3000 < v25.1))) : Option Bool).bind fun v26 =>
 (if v26 = true then
 some false
 else
 ((cM (S := Int × dO) (X := dO ⊕ Bool) (fun s29 =>
 (if 0 < s29.1 then
 ((qP s29.2 (w64 (86400 * (min s29.1 30)))).bind fun v30 =>
 (if v30.2.2 ≠ 0 then
 some (.inr (.inr false))
 else
 some (.inl (w64 (s29.1 - (min s29.1 30)),v30.1))))
 else
 some (.inr (.inl s29.2)))) (v25.1,v2) : Option (dO ⊕ Bool)).bind fun v31x => orE v31x fun v31 =>
 ((iF v31).bind fun v32 =>
 some (!v32))))))))))))
end Go.Proofs.YtgcdbbidmfdonaaGreat
namespace Go.Proofs.YtgcdbbidmfdonaaGreat
open Go.RowKit
set_option linter.unusedVariables false
set_option maxRecDepth 100000
abbrev dI (x : Int) : AV := .d (.v (.int .i64 x))
abbrev z0 : AV := dI 0
abbrev dB (x : Bool) : AV := .d (.v (.bool x))
abbrev dS (x : ByteArray) : AV := .d (.v (.string x))
abbrev dL {α : Type} (c : α → List DV) (x : List α) : AV := .d (.sl (List.map c x))
abbrev zl : AV := .d (.v (.slice none 0 0))
abbrev ze : AV := .d (.v (.string (⟨#[]⟩ : ByteArray)))
section
variable {P : Program} {T : Tab} {L N : Nat} {ops : Array Oper} {E : Env} {K : List (Nat × Cls) → AS → Prop} {i : Nat} {is : List Nat} {t : Nat → AV} {h h' : eK} {d : Tmp} {dst : Option Tmp} {op : Op} {ty : TypeId} {pos : String} {aft : Array Edge} {g : Option (Nat × Bool)} {Q : sB → AS → Prop} {σ : AS} {c : Code} {x y : Operand}
theorem wa (k : Nat) (et : TypeId) (esz kb j : Nat) {bt : TypeId} {sz : Nat} {cells cells' : List AV} (H : AW L P N c Q ⟨t,upd (upd h k (.live [⟨et,esz, .data []⟩])) kb (.live [⟨bt,sz, .av [cells']⟩])⟩) (hk : h k = .no := by exact rfl) (hb : h kb = .live [⟨bt,sz, .av [cells]⟩] := by exact rfl) (hj : cells[j]? = some (.d (.v (.slice none 0 0))) := by exact rfl) (hs : Spl j [.own k 0 0] cells cells' := by repeat (first | exact Spl.z _ | apply Spl.t | apply Spl.d)) : AW L P N c Q ⟨t,h⟩ := cJ (qS k hk et esz hb hj hs) H
theorem fi (N : Nat) (hT : TOk P T) {f : FuncId} {fn : Func} {body : Code} {hin hout : List gF} {as : List AV} {r : AV} (hf : P.funcs[f]? = some fn) (hw : AW 3 P N body (aUo T N fn hin.length hout r) ⟨aQ2 as 0,lks hin⟩) (hb : fn.body = some body := by exact rfl) (hN : fn.ntmps = N := by exact rfl) (hc : aMh P f = true := by kernel_rfl) (hl : Nat.ble as.length N = true := by exact rfl) (hm : Nat.ble hin.length 3 = true := by exact rfl) : FnC P f hin as hout r := aPc hT hf hb hN hc hl hm hw
theorem bst (hT : TOk P T) {bt bt' : TypeId} {kk j sz : Nat} {c1 : AV} {cells cs cells' : List AV} {ti : TI} (k : RA L P N ops is Q ⟨t,upd h kk (.live [⟨bt',sz, .av [cells']⟩])⟩) (ho : ops[i]? = some ⟨none, .store bt x y,ty,pos,aft,none⟩ := by exact rfl) (hx : evA N ⟨t,h⟩ x = .ptr kk 0 1 0 j := by exact rfl) (hy : wD (evA N ⟨t,h⟩ y) = c1 :: cs := by exact rfl) (hk1 : okL (c1 :: cs) = true := by exact rfl) (h1 : T bt = some ti := by exact rfl)
  (hl : Nat.beq (c1 :: cs).length ti.size = true := by exact rfl) (hpos : Nat.blt 0 ti.size = true := by exact rfl) (hk : h kk = .live [⟨bt',sz, .av [cells]⟩] := by exact rfl) (hs : Spl j (c1 :: cs) cells cells' := by repeat (first | exact Spl.z _ | apply Spl.t | apply Spl.d)) : RA L P N ops (i :: is) Q ⟨t,h⟩ := rw0 ho w0 (fQ hT hx hy hk1 h1 hl hpos hk hs) k
theorem bs1 (hT : TOk P T) {bt bt' : TypeId} {kk j sz : Nat} {c1 : DV} {cells cells' : List AV} {ti : TI} (k : RA L P N ops is Q ⟨t,upd h kk (.live [⟨bt',sz, .av [cells']⟩])⟩) (ho : ops[i]? = some ⟨none, .store bt x y,ty,pos,aft,none⟩ := by exact rfl) (hx : evA N ⟨t,h⟩ x = .ptr kk 0 1 0 j := by exact rfl) (hy : wD (evA N ⟨t,h⟩ y) = [.d c1] := by exact rfl) (hk1 : okL [.d c1] = true := by exact rfl) (h1 : T bt = some ti := by exact rfl)
  (hl : Nat.beq [AV.d c1].length ti.size = true := by exact rfl) (hpos : Nat.blt 0 ti.size = true := by exact rfl) (hk : h kk = .live [⟨bt',sz, .av [cells]⟩] := by exact rfl) (hs : Spl j [.d c1] cells cells' := by repeat (first | exact Spl.z _ | apply Spl.t | apply Spl.d)) : RA L P N ops (i :: is) Q ⟨t,h⟩ := rw0 ho w0 (fQ hT hx hy hk1 h1 hl hpos hk hs) k
theorem al (k : Nat) (cs : List AV) (hT : TOk P T) {bt : TypeId} {ti : TI} (H : RA L P N ops is Q ⟨aE t d (.ptr k 0 1 0 0),upd h k (.live [⟨bt,cs.length, .av [cs]⟩])⟩) (ho : ops[i]? = some ⟨some d, .alloc bt,ty,pos,aft,none⟩ := by exact rfl) (hd : Nat.blt d N = true := by exact rfl) (h1 : T bt = some ti := by exact rfl) (hc : aBh ti.zero.cells.toList = cs := by exact rfl) (hk : h k = .no := by exact rfl) : RA L P N ops (i :: is) Q ⟨t,h⟩ := rs ho w0 hd (jJ k hT h1 hc hk) H
theorem bxx (k : Nat) {bt : TypeId} {c1 : AV} {cs : List AV} (H : RA L P N ops is Q ⟨aE t d (.ptr k 0 1 0 0),upd h k (.live [⟨bt,(c1 :: cs).length, .av [c1 :: cs]⟩])⟩) (ho : ops[i]? = some ⟨some d, .box bt x,ty,pos,aft,none⟩ := by exact rfl) (hd : Nat.blt d N = true := by exact rfl) (hc : wD (evA N ⟨t,h⟩ x) = c1 :: cs := by exact rfl) (hk1 : okL (c1 :: cs) = true := by exact rfl) (hk : h k = .no := by exact rfl) : RA L P N ops (i :: is) Q ⟨t,h⟩ := rs ho w0 hd (aTw k hc hk1 hk) H
theorem tfa (hT : TOk P T) {s bt : TypeId} {q kk e sz : Nat} {cells : List AV} {ti fj : TI} {fs : Array Field} {fld : Field} (H : RT P N ops is (fun l σ' => K ((i, .lk kk) :: l) σ') ⟨aE t d (.ptr kk 0 1 0 (e + fld.offset)),h⟩) (ho : ops[i]? = some ⟨some d, .fieldAddr s x q,ty,pos,aft,none⟩ := by exact rfl) (hd : Nat.blt d N = true := by exact rfl) (hx : evA N ⟨t,h⟩ x = .ptr kk 0 1 0 e := by exact rfl) (h1 : T s = some ti := by exact rfl) (h2 : ti.desc = .struct fs := by exact rfl) (h3 : fs[q]? = some fld := by exact rfl) (h4 : T fld.type = some fj := by exact rfl) (h5 : Nat.beq fj.size 0 = false := by exact rfl) (hk : h kk = .live [⟨bt,sz, .av [cells]⟩] := by exact rfl) : RT P N ops (i :: is) K ⟨t,h⟩ := bS ho w0 hd (uL hT hx h1 h2 h3 h4 h5 hk) rfl (by rw [hx]; rfl) (by simp only [Op.operands,List.all_cons,List.all_nil,hx]; simp [AV.key]) H
theorem tld (hT : TOk P T) {lt bt : TypeId} {kk e sz : Nat} {cells : List AV} {c0 : AV} {ti : TI} (H : RT P N ops is (fun l σ' => K ((i, .lk kk) :: l) σ') ⟨aE t d c0,h⟩) (ho : ops[i]? = some ⟨some d, .load lt x,ty,pos,aft,none⟩ := by exact rfl) (hd : Nat.blt d N = true := by exact rfl) (hx : evA N ⟨t,h⟩ x = .ptr kk 0 1 0 e := by exact rfl) (h1 : T lt = some ti := by exact rfl) (h2 : tD ti.desc = false := by exact rfl) (hk : h kk = .live [⟨bt,sz, .av [cells]⟩] := by exact rfl) (hc : cells[e]? = some c0 := by exact rfl) : RT P N ops (i :: is) K ⟨t,h⟩ := bS ho w0 hd (nG hT hx h1 h2 hk hc) rfl (by rw [hx]; rfl) (by simp only [Op.operands,List.all_cons,List.all_nil,hx]; simp [AV.key]) H
theorem r0t {fn : Func} (i : Nat) {as : List AV} {r : AV} (hrs : fn.results.toList = [.tmp i])
  (R : nP T N ⟨t,h⟩ [.tmp i] as := by repeat (first | exact nP.nil | apply nP.tmp (a := .d _) rfl | apply nP.tmp (a := .own _ _ _) rfl | apply nP.tmp (a := .agg _) rfl | apply nP.tmp (a := .ref _) rfl | apply nP.tmp (a := .ptr _ _ _ _ _) rfl | apply nP.cell1 rfl rfl rfl rfl (by first | rfl) (by first | rfl) rfl | apply nP.cellN rfl rfl rfl rfl (by first | rfl) (by first | rfl) (by repeat (first | exact Seg.z _ | apply Seg.t | apply Seg.d))))
  (hB : Abv h 300 := by repeat (first | exact jZ _ | exact kA rfl | refine kD ?_ rfl)) (e : aPz as = r := by rfl) (hf : r.free = true := by rfl) : aCw T N fn 0 [] r ⟨t,h⟩ := aV6 300 hrs R hB hf e
theorem rP {r : AV} (ho : (ops[i]?,Nat.blt d N) = (some ⟨some d,op,ty,pos,aft,none⟩,true)) (hp : fE P N ⟨some d,op,ty,pos,aft,none⟩ ⟨t,h⟩ r) (k : RA L P N ops is Q ⟨aE t d r,h⟩) : RA L P N ops (i :: is) Q ⟨t,h⟩ := rp (Prod.mk.inj ho).1 w0 (Prod.mk.inj ho).2 hp k
theorem rL {r : AV} (ho : (ops[i]?,Nat.blt d N) = (some ⟨some d,op,ty,pos,aft,none⟩,true)) (hp : lH P N ⟨some d,op,ty,pos,aft,none⟩ ⟨t,h⟩ r) (k : RA L P N ops is Q ⟨aE t d r,h⟩) : RA L P N ops (i :: is) Q ⟨t,h⟩ := rl (Prod.mk.inj ho).1 w0 (Prod.mk.inj ho).2 hp k
theorem rS {r : AV} (ho : (ops[i]?,Nat.blt d N) = (some ⟨some d,op,ty,pos,aft,none⟩,true)) (hp : dV P N ⟨some d,op,ty,pos,aft,none⟩ ⟨t,h⟩ r h' ∧ ∀ k,h k ≠ .no → h' k = h k) (k : RA L P N ops is Q ⟨aE t d r,h'⟩) : RA L P N ops (i :: is) Q ⟨t,h⟩ := rs (Prod.mk.inj ho).1 w0 (Prod.mk.inj ho).2 hp k
theorem tP {r : AV} (ho : (ops[i]?,Nat.blt d N) = (some ⟨some d,op,ty,pos,aft,none⟩,true)) (hp : fE P N ⟨some d,op,ty,pos,aft,none⟩ ⟨t,h⟩ r) (k : RT P N ops is (fun l σ' => K ((i, .pu) :: l) σ') ⟨aE t d r,h⟩) : RT P N ops (i :: is) K ⟨t,h⟩ := qJ (Prod.mk.inj ho).1 w0 (Prod.mk.inj ho).2 hp k
end
end Go.Proofs.YtgcdbbidmfdonaaGreat
namespace Go.Proofs.YtgcdbbidmfdonaaGreat
set_option linter.unusedVariables false
theorem qL {α : Type} {xs : List α} {i : Int} (h0 : 0 ≤ i) (h1 : i < xs.length) : ∃ e,atI xs i = some e ∧ e ∈ xs ∧ xs[i.toNat]? = some e := by
 have hl : i.toNat < xs.length := by omega
 refine ⟨xs[i.toNat],?_,List.getElem_mem hl,List.getElem?_eq_getElem hl⟩
 unfold atI; rw [if_pos h0]; exact List.getElem?_eq_getElem hl
theorem aLq {α : Type} {k : Option α} : chk True k = k := if_pos trivial
theorem aOl {X : Type} {n : Nat} {g : Nat → Bool} {d : X} {e : Nat → X} {step : Int → Option (Int ⊕ X)} (hS : ∀ i : Nat,i < n → step (i : Int) = some (if g i = true then .inl ((i : Int) + 1) else .inr (e i))) (hE : step (n : Int) = some (.inr d)) (hn : n ≤ 9223372036854775807) :
  ∃ x,cM step 0 = some x ∧ (((∀ j,j < n → g j = true) ∧ x = d) ∨ ∃ i,i < n ∧ g i = false ∧ (∀ j,j < i → g j = true) ∧ x = e i) := by
 refine uB (fun (s : Int) => 0 ≤ s ∧ s ≤ n ∧ ∀ j : Nat,(j : Int) < s → g j = true) (fun (s : Int) => ((n : Int) - s).toNat) _ (fun s hI => ?_) 0 ⟨by omega,by omega,fun j hj => by omega⟩ (by omega)
 obtain ⟨q0,q1,q2⟩ := hI
 obtain ⟨i,rfl⟩ : ∃ i : Nat,s = i := ⟨s.toNat,by omega⟩
 by_cases hs : i < n
 ·cases hg : g i
  ·right
   exact ⟨e i,by rw [hS i hs,hg]; rfl, .inr ⟨i,hs,hg,fun j hj => q2 j (by omega),rfl⟩⟩
  ·left
   refine ⟨(i : Int) + 1,by rw [hS i hs,hg]; rfl,⟨by omega,by omega,fun j hj => ?_⟩,by omega⟩
   rcases Nat.lt_or_ge j i with h | h
   ·exact q2 j (by omega)
   ·have : j = i := by omega
    rw [this]; exact hg
 ·right
  have : i = n := by omega
  subst this
  exact ⟨d,hE, .inl ⟨fun j hj => q2 j (by omega),rfl⟩⟩
theorem aKl {X : Type} {n : Nat} {g : Nat → Bool} {d e : X} {step : Int → Option (Int ⊕ X)} (hS : ∀ i : Nat,i < n → step (i : Int) = some (if g i = true then .inl ((i : Int) + 1) else .inr e)) (hE : step (n : Int) = some (.inr d)) (hn : n ≤ 9223372036854775807) :
  cM step 0 = some (if (List.range n).all g = true then d else e) := by
 obtain ⟨x,hx,⟨h,rfl⟩ | ⟨i,hi,hg,_,rfl⟩⟩ := aOl (e := fun _ => e) hS hE hn
 ·rw [hx,if_pos (by simpa using h)]
 ·rw [hx,if_neg (by simp only [List.all_eq_true,List.mem_range]; intro h; rw [h i hi] at hg; cases hg)]
theorem eD {α : Type} {xs : List α} {i : Nat} (h : i < xs.length) : atI xs (i : Int) = some xs[i] := by rw [aJu]; exact List.getElem?_eq_getElem h
theorem aD3 {α : Type} {xs : List α} {f : α → Bool} {g : Nat → Bool} (h : ∀ (i : Nat) (hi : i < xs.length),g i = f xs[i]) : (List.range xs.length).all g = xs.all f := by
 rw [Bool.eq_iff_iff,List.all_eq_true,List.all_eq_true]
 constructor
 ·intro q v hv
  obtain ⟨i,hi,rfl⟩ := List.getElem_of_mem hv
  rw [← h i hi]; exact q i (List.mem_range.2 hi)
 ·intro q i hi
  have hi := List.mem_range.1 hi
  rw [h i hi]; exact q _ (List.getElem_mem hi)
theorem aP8 {α X : Type} {xs : List α} {f : α → Bool} {d e : X} {step : Int → Option (Int ⊕ X)} (hS : ∀ (i : Nat) (hi : i < xs.length),step (i : Int) = some (if f xs[i] = true then .inl ((i : Int) + 1) else .inr e)) (hE : step (xs.length : Int) = some (.inr d)) (hn : xs.length ≤ 9223372036854775807) :
  cM step 0 = some (if xs.all f = true then d else e) := by
 rw [aKl (n := xs.length) (d := d) (e := e) (g := fun i => if hi : i < xs.length then f xs[i] else true) (fun i hi => by rw [hS i hi]; simp [hi]) hE hn,aD3 (f := f) fun i hi => by simp [hi]]
theorem aIe {α β : Type} {xs : List α} {f : α → List β} {c : Nat} {init : List β} {step : Int × List β → Option ((Int × List β) ⊕ List β)} (hc : ∀ v ∈ xs,(f v).length ≤ c) (hS : ∀ (i : Nat) (hi : i < xs.length) ys,ys.length ≤ init.length + c * i → step ((i : Int),ys) = some (.inl ((i : Int) + 1,ys ++ f xs[i]))) (hE : ∀ ys,step ((xs.length : Int),ys) = some (.inr ys)) (hn : xs.length ≤ 9223372036854775807) :
  cM step (0,init) = some (init ++ xs.flatMap f) := by
 refine aGz (fun (s : Int × List β) => 0 ≤ s.1 ∧ s.1 ≤ xs.length ∧ s.2 = init ++ (xs.take s.1.toNat).flatMap f ∧ s.2.length ≤ init.length + c * s.1.toNat) (fun (s : Int × List β) => ((xs.length : Int) - s.1).toNat) (fun s hI => ?_) (by simp) (by simp; omega)
 obtain ⟨i,ys⟩ := s
 obtain ⟨q0,q1,q2,q3⟩ := hI
 dsimp only at q0 q1 q2 q3 ⊢
 obtain ⟨j,rfl⟩ : ∃ j : Nat,i = j := ⟨i.toNat,by omega⟩
 have e2 : ((j : Int)).toNat = j := by omega
 rw [e2] at q2 q3
 by_cases hs : j < xs.length
 ·left
  have e : ((j : Int) + 1).toNat = j + 1 := by omega
  refine ⟨_,hS j hs ys q3,⟨by dsimp only; omega,by dsimp only; omega,?_,?_⟩,by dsimp only; omega⟩
  ·dsimp only
   rw [e,q2,List.take_succ_eq_append_getElem hs,List.flatMap_append, ← List.append_assoc]; simp
  ·dsimp only
   rw [e,List.length_append,Nat.mul_add]
   have := hc xs[j] (List.getElem_mem hs)
   omega
 ·right
  have : j = xs.length := by omega
  subst this
  rw [hE ys,q2,List.take_length]
end Go.Proofs.YtgcdbbidmfdonaaGreat
namespace Go.Proofs.YtgcdbbidmfdonaaGreat
set_option linter.unusedVariables false
def btw (x a b : Int) : Bool := decide (a ≤ x ∧ x ≤ b)
theorem eF (x a b : Int) : cK x a b = some (btw x a b) := by unfold cK btw; split <;> simp_all <;> omega
theorem dZ (x a b : Int) : cN x a b = some (btw x a b) := by unfold cN btw; split <;> simp_all <;> omega
structure aWq (r k n : Int) : Prop where
 p0 : 0 ≤ 2 * k * (n - 2 * k)
 p1 : 2 * k * (n - 2 * k) ≤ 64000000
 r0 : 0 ≤ r * 16 * (2 * k * (n - 2 * k))
 r1 : r * 16 * (2 * k * (n - 2 * k)) ≤ 102400000000000
 n0 : 1 ≤ 5 * n * n - 4 * (2 * k * (n - 2 * k))
 n1 : 5 * n * n ≤ 1280000000
end Go.Proofs.YtgcdbbidmfdonaaGreat
namespace Go.Proofs.YtgcdbbidmfdonaaGreat
set_option linter.unusedVariables false
def smB (c : Int) : Bool := decide (97 ≤ c ∧ c ≤ 122)
def dgB (c : Int) : Bool := decide (48 ≤ c ∧ c ≤ 57)
def okB (c : Int) : Bool := smB c || (dgB c || decide (c = 45))
theorem aDh (s : ByteArray) (i : Int) : aG2 s i = atI (eL s) i := by
 unfold aG2 atI eL
 split
 ·rename_i h
  rw [List.getElem?_map]
  congr 1
  rw [Array.getElem?_toList]
  by_cases hi : i.toNat < s.size
  ·rw [getElem?_pos s i.toNat hi,getElem?_pos s.data i.toNat hi]; rfl
  ·rw [getElem?_neg s i.toNat hi,getElem?_neg s.data i.toNat hi]
 ·rfl
def mH (s : ByteArray) : Bool := decide (1 ≤ s.size ∧ s.size ≤ 12) && ((eL s).take 1).all smB && (eL s).all okB
theorem aAd (c : Int) : mP c = some (smB c) := by unfold mP smB; split <;> simp_all <;> omega
theorem aFx (c : Int) : pJ c = some (dgB c) := by unfold pJ dgB; split <;> simp_all <;> omega
theorem aV7 {s : ByteArray} : s = ⟨#[]⟩ ↔ s.size = 0 := by
 constructor
 ·rintro rfl; rfl
 ·intro h
  cases s with | mk d =>
  have : d = #[] := Array.eq_empty_of_size_eq_zero h
  rw [this]
theorem rQ (s : ByteArray) : kZ s = some (mH s) := by
 have hl := aAt s
 unfold kZ mH
 by_cases h0 : s = ⟨#[]⟩
 ·have := aV7.1 h0
  simp [h0]
  intro h; exact absurd h (by decide)
 ·have h1 : s.size ≠ 0 := fun h => h0 (aV7.2 h)
  rw [if_neg h0]
  by_cases h2 : 12 < (s.size : Int)
  ·rw [if_pos h2]
   simp
   intro a b; omega
  ·rw [if_neg h2]
   obtain ⟨c,cs,hc⟩ : ∃ c cs,eL s = c :: cs := by
    cases hb : eL s with
    | nil => rw [hb] at hl; simp at hl; omega
    | cons c cs => exact ⟨c,cs,rfl⟩
   have e0 : aG2 s 0 = some c := by rw [aDh,hc]; rfl
   rw [e0]
   simp only [Option.bind_some,aAd]
   have ht : ((eL s).take 1).all smB = smB c := by rw [hc]; simp
   have hd : decide (1 ≤ s.size ∧ s.size ≤ 12) = true := decide_eq_true ⟨by omega,by omega⟩
   rw [ht,hd]
   cases hs : smB c
   ·simp
   ·simp only [Bool.not_true,Bool.false_eq_true,if_false,Bool.true_and]
    have hz : (s.size : Int) = ((eL s).length : Int) := by rw [hl]
    rw [hz,aP8 (xs := eL s) (f := okB) (d := .inl ()) (e := .inr false) (fun i hi => ?_) (by simp) (by omega)]
    ·cases (eL s).all okB <;> simp [orE]
    ·have hi' : (i : Int) < ((eL s).length : Int) := by omega
     have e1 : w64 ((i : Int) + 1) = i + 1 := aT (by omega) (by omega)
     rw [if_pos hi',aDh,eD hi]
     simp only [Option.bind_some,aAd,aFx,e1,okB]
     generalize (eL s)[i] = c
     rcases Bool.eq_false_or_eq_true (smB c) with g1 | g1 <;> rcases Bool.eq_false_or_eq_true (dgB c) with g2 | g2 <;> by_cases h45 : c = 45 <;> simp [g1,g2,h45]
theorem yR (s : ByteArray) : mK s = some (mH s) := by
 have hl := aAt s
 unfold mK mH
 by_cases h1 : (s.size : Int) < 1
 ·rw [if_pos h1]; simp
  intro a b; omega
 ·rw [if_neg h1]
  by_cases h2 : 12 < (s.size : Int)
  ·simp [h2]
   intro a b; omega
  ·have hd : decide (1 ≤ s.size ∧ s.size ≤ 12) = true := decide_eq_true ⟨by omega,by omega⟩
   simp only [h2,decide_false,Option.bind_some,Bool.false_eq_true,if_false,hd,Bool.true_and]
   rw [gA (by omega),aKl (n := (eL s).length) (d := .inl ()) (e := .inr false) (g := fun i => smB ((eL s).getD i 0) || (decide (i ≠ 0) && (dgB ((eL s).getD i 0) || decide ((eL s).getD i 0 = 45)))) (fun i hi => ?_) (by simp) (by omega)]
   ·obtain ⟨c,cs,hc⟩ : ∃ c cs,eL s = c :: cs := by
     cases hb : eL s with
     | nil => rw [hb] at hl; simp at hl; omega
     | cons c cs => exact ⟨c,cs,rfl⟩
    have key : (List.range (eL s).length).all (fun i => smB ((eL s).getD i 0) || (decide (i ≠ 0) && (dgB ((eL s).getD i 0) || decide ((eL s).getD i 0 = 45)))) = (((eL s).take 1).all smB && (eL s).all okB) := by
     rw [hc]
     simp only [List.length_cons,List.range_succ_eq_map,List.all_cons,List.all_map,List.take_succ_cons,List.take_zero,List.all_nil,Bool.and_true]
     have : (List.range cs.length).all ((fun i => smB ((c :: cs).getD i 0) || (decide (i ≠ 0) && (dgB ((c :: cs).getD i 0) || decide ((c :: cs).getD i 0 = 45)))) ∘ Nat.succ) = cs.all okB := aD3 (f := okB) fun i hi => by simp [okB,hi]
     rw [this]
     simp [okB]
     cases smB c <;> simp
    rw [key]
    cases ((eL s).take 1).all smB && (eL s).all okB <;> simp [orE]
   ·have hi' : (i : Int) < ((eL s).length : Int) := by omega
    have e1 : w64 ((i : Int) + 1) = i + 1 := aT (by omega) (by omega)
    have e2 : (eL s).getD i 0 = (eL s)[i] := by simp [hi]
    rw [if_pos hi',eD hi,e2]
    simp only [Option.bind_some,e1]
    generalize (eL s)[i] = c
    have A : (if 97 ≤ c then some (decide (c ≤ 122)) else some false) = some (smB c) := by unfold smB; split <;> simp_all <;> omega
    have B : (if 48 ≤ c then (if c ≤ 57 then some true else some (decide (c = 45))) else some (decide (c = 45))) = some (dgB c || decide (c = 45)) := by
     unfold dgB
     split
     ·split <;> simp_all <;> omega
     ·simp_all; omega
    rw [A,B]
    simp only [Option.bind_some]
    have hz : ((i : Int) = 0) ↔ i = 0 := by omega
    cases smB c <;> cases (dgB c || decide (c = 45)) <;> by_cases h0 : i = 0 <;> simp [h0]
end Go.Proofs.YtgcdbbidmfdonaaGreat
namespace Go.Proofs.YtgcdbbidmfdonaaGreat
set_option linter.unusedVariables false
def aIx {α : Type} (xs : List α) (f : Nat → α → Bool) : Bool := (List.range xs.length).all fun i => if hi : i < xs.length then f i xs[i] else true
theorem xL {α : Type} {xs : List α} {f : Nat → α → Bool} : aIx xs f = true ↔ ∀ (i : Nat) (hi : i < xs.length),f i xs[i] = true := by
 unfold aIx
 rw [List.all_eq_true]
 constructor
 ·intro h i hi
  have := h i (List.mem_range.2 hi)
  rwa [dif_pos hi] at this
 ·intro h i hi
  have hi := List.mem_range.1 hi
  rw [dif_pos hi]
  exact h i hi
theorem lZ {α : Type} {xs : List α} {f : α → Bool} : aIx xs (fun _ v => f v) = xs.all f := aD3 fun i hi => by simp [hi]
theorem uS {α X : Type} {xs : List α} {G : Int → Option (Int ⊕ X)} (f : Nat → α → Bool) {d e : X} (hl : xs.length ≤ 9223372036854775807) (hG : ∀ (i : Nat) (hi : i < xs.length),G i = some (if f i xs[i] = true then .inl (w64 ((i : Int) + 1)) else .inr e)) :
  cM (fun s => (if s < (xs.length : Int) then G s else some (.inr d))) 0 = some (if aIx xs f = true then d else e) := by
 refine aKl (n := xs.length) (g := fun i => if hi : i < xs.length then f i xs[i] else true) (fun i hi => ?_) (by simp) hl
 have hi' : (i : Int) < xs.length := by omega
 have e1 : w64 ((i : Int) + 1) = i + 1 := aT (by omega) (by omega)
 simp only [if_pos hi',hG i hi,hi,dite_true,e1]
theorem aTe {α X : Type} {xs : List α} {G : Int → Option (Int ⊕ X)} (k : Nat) (f : Nat → α → Bool) {d e : X} (hk : k ≤ xs.length) (hl : xs.length ≤ 9223372036854775807) (hG : ∀ (i : Nat) (hi : i < xs.length),i < k → G i = some (if f i xs[i] = true then .inl (w64 ((i : Int) + 1)) else .inr e)) :
  cM (fun s => (if s < (k : Int) then G s else some (.inr d))) 0 = some (if aIx (xs.take k) f = true then d else e) := by
 have hlen : (xs.take k).length = k := by rw [List.length_take]; omega
 have := uS (xs := xs.take k) (G := G) f (d := d) (e := e) (by omega) (fun i hi => by
  rw [List.getElem_take]; exact hG i (by omega) (by omega))
 rwa [hlen] at this
def aJw {α : Type} (xs : List α) (p : α → Bool) : Int := match xs.findIdx? p with
 | some i => i
 | none => -1
theorem aQm {α : Type} {xs : List α} {G : Int → Option (Int ⊕ (Unit ⊕ Int))} (p : α → Bool) (hl : xs.length ≤ 9223372036854775807) (hG : ∀ (i : Nat) (hi : i < xs.length),G i = (if p xs[i] = true then some (.inr (.inr (i : Int))) else some (.inl (w64 ((i : Int) + 1))))) :
  ((cM (fun s => (if s < (xs.length : Int) then G s else some (.inr (.inl ())))) 0 : Option (Unit ⊕ Int)).bind fun x => orE x fun v => some (-1)) = some (aJw xs p) := by
 obtain ⟨x,hx,h⟩ := aOl (X := Unit ⊕ Int) (n := xs.length) (step := fun s => (if s < (xs.length : Int) then G s else some (.inr (.inl ())))) (g := fun i => if hi : i < xs.length then !p xs[i] else true) (d := .inl ()) (e := fun i => .inr (i : Int)) (fun i hi => by
  have hi' : (i : Int) < xs.length := by omega
  have e1 : w64 ((i : Int) + 1) = i + 1 := aT (by omega) (by omega)
  simp only [if_pos hi',hG i hi,hi,dite_true,e1]
  cases p xs[i] <;> rfl) (by simp) hl
 rw [hx]
 unfold aJw
 rcases h with ⟨h,rfl⟩ | ⟨i,hi,hg,hj,rfl⟩
 ·have : xs.findIdx? p = none := by
   rw [List.findIdx?_eq_none_iff]
   intro v hv
   obtain ⟨i,hi,rfl⟩ := List.getElem_of_mem hv
   have := h i hi
   simpa [hi] using this
  rw [this]; rfl
 ·have : xs.findIdx? p = some i := by
   rw [List.findIdx?_eq_some_iff_getElem]
   refine ⟨hi,by simpa [hi] using hg,fun j hji => ?_⟩
   have := hj j hji
   have hjl : j < xs.length := by omega
   simpa [hjl] using this
  rw [this]; rfl
theorem aF9 {α : Type} {xs : List α} {p : α → Bool} : decide (0 ≤ aJw xs p) = xs.any p := by
 unfold aJw
 cases h : xs.findIdx? p with
 | none =>
  rw [List.findIdx?_eq_none_iff] at h
  have e : xs.any p = false := by
   rw [← Bool.not_eq_true,List.any_eq_true]
   rintro ⟨v,hv,hp⟩
   rw [h v hv] at hp; cases hp
  rw [e]; rfl
 | some i =>
  rw [List.findIdx?_eq_some_iff_getElem] at h
  obtain ⟨hi,hp,_⟩ := h
  rw [List.any_eq_true.2 ⟨_,List.getElem_mem hi,hp⟩]
  exact decide_eq_true (by show (0 : Int) ≤ (i : Int); omega)
theorem aMq {α : Type} {xs : List α} {p : α → Bool} {i : Nat} (hi : i < xs.length) (hp : p xs[i] = true) : decide (aJw xs p ≠ (i : Int)) = (xs.take i).any p := by
 unfold aJw
 cases h : xs.findIdx? p with
 | none =>
  rw [List.findIdx?_eq_none_iff] at h
  rw [h _ (List.getElem_mem hi)] at hp; cases hp
 | some j =>
  rw [List.findIdx?_eq_some_iff_getElem] at h
  obtain ⟨hj,hpj,hmin⟩ := h
  by_cases e : j = i
  ·subst e
   have e2 : (xs.take j).any p = false := by
    rw [← Bool.not_eq_true,List.any_eq_true]
    rintro ⟨v,hv,hq⟩
    obtain ⟨k,hk,rfl⟩ := List.getElem_of_mem hv
    rw [List.length_take] at hk
    rw [List.getElem_take] at hq
    exact hmin k (by omega) hq
   rw [e2]
   exact decide_eq_false (by simp)
  ·have hlt : j < i := by
    rcases Nat.lt_trichotomy j i with h | h | h
    ·exact h
    ·exact absurd h e
    ·exact absurd hp (hmin i h)
   have e2 : (xs.take i).any p = true := List.any_eq_true.2 ⟨xs[j],by
    rw [List.mem_iff_getElem]
    exact ⟨j,by rw [List.length_take]; omega,by rw [List.getElem_take]⟩,hpj⟩
   rw [e2]
   exact decide_eq_true (by show (j : Int) ≠ (i : Int); omega)
theorem aN0 {α : Type} {xs : List α} {i : Nat} : xS xs 0 (i : Int) = xs.take i := by simp [xS]
theorem aJ0 {α : Type} {xs : List α} {i : Nat} (h : i ≤ xs.length) : 0 ≤ (0 : Int) ∧ (0 : Int) ≤ (i : Int) ∧ (i : Int) ≤ (xs.length : Int) := by omega
def aM7 {α σ X : Type} (body : Nat → α → σ → Option (σ ⊕ X)) : List α → Nat → σ → Option (σ ⊕ X)
 | [],_,s => some (.inl s)
 | x :: xs,i,s => (body i x s).bind fun r => match r with
  | .inl s' => aM7 body xs (i + 1) s'
  | .inr y => some (.inr y)
theorem qV {S X : Type} (step : S → Option (S ⊕ X)) (n : Nat) (s : S) : tH step (n + 1) s = (step s).bind fun r => match r with
  | .inl s' => tH step n s'
  | .inr y => some y := by
 cases h : step s with
 | none => simp [tH,h]
 | some r => cases r <;> simp [tH,h]
theorem xB {α S σ X : Type} {xs : List α} {step : S → Option (S ⊕ X)} (mk : Int → σ → S) (body : Nat → α → σ → Option (σ ⊕ X)) (fin : σ → X) (hl : xs.length ≤ 9223372036854775807)
  (hS : ∀ (i : Nat) (hi : i < xs.length) s,step (mk i s) = (body i xs[i] s).map (Sum.map (mk ((i : Int) + 1)) id)) (hE : ∀ s,step (mk xs.length s) = some (.inr (fin s))) (s0 : σ) :
  cM step (mk 0 s0) = (aM7 body xs 0 s0).map (Sum.elim fin id) := by
 have key : ∀ (k : Nat) (ys : List α) (n : Nat) s,ys.length + k = xs.length → ys = xs.drop k → ys.length < n → tH step n (mk (k : Int) s) = (aM7 body ys k s).map (Sum.elim fin id) := by
  intro k ys
  induction ys generalizing k with
  | nil =>
   intro n s h1 h2 h3
   obtain ⟨n,rfl⟩ : ∃ m,n = m + 1 := ⟨n - 1,by simp at h3; omega⟩
   have : k = xs.length := by simpa using h1
   subst this
   rw [qV,hE]; rfl
  | cons y ys ih =>
   intro n s h1 h2 h3
   obtain ⟨n,rfl⟩ : ∃ m,n = m + 1 := ⟨n - 1,by simp at h3; omega⟩
   have hk : k < xs.length := by simp at h1; omega
   rw [List.drop_eq_getElem_cons hk] at h2
   injection h2 with h2 h4
   rw [qV,hS k hk, ← h2]
   show _ = ((body k y s).bind _).map _
   cases body k y s with
   | none => rfl
   | some r =>
    cases r with
    | inr z => rfl
    | inl s' => exact ih (k + 1) n s' (by simp at h1; omega) h4 (by simp at h3; omega)
 exact key 0 xs aB9 s0 (by simp) (by simp) (by unfold aB9; omega)
theorem zI {α S σ X : Type} {xs : List α} {step : S → Option (S ⊕ X)} (mk : Int → σ → S) (body : Nat → α → σ → Option (σ ⊕ X)) (fin : σ → X) (I : σ → Prop) (hl : xs.length ≤ 9223372036854775807)
  (hS : ∀ (i : Nat) (hi : i < xs.length) s,I s → step (mk i s) = (body i xs[i] s).map (Sum.map (mk ((i : Int) + 1)) id)) (hI : ∀ (i : Nat) (hi : i < xs.length) s s',I s → body i xs[i] s = some (.inl s') → I s') (hE : ∀ s,I s → step (mk xs.length s) = some (.inr (fin s))) (s0 : σ) (h0 : I s0) :
  cM step (mk 0 s0) = (aM7 body xs 0 s0).map (Sum.elim fin id) := by
 have key : ∀ (k : Nat) (ys : List α) (n : Nat) s,I s → ys.length + k = xs.length → ys = xs.drop k → ys.length < n → tH step n (mk (k : Int) s) = (aM7 body ys k s).map (Sum.elim fin id) := by
  intro k ys
  induction ys generalizing k with
  | nil =>
   intro n s hs h1 h2 h3
   obtain ⟨n,rfl⟩ : ∃ m,n = m + 1 := ⟨n - 1,by simp at h3; omega⟩
   have : k = xs.length := by simpa using h1
   subst this
   rw [qV,hE s hs]; rfl
  | cons y ys ih =>
   intro n s hs h1 h2 h3
   obtain ⟨n,rfl⟩ : ∃ m,n = m + 1 := ⟨n - 1,by simp at h3; omega⟩
   have hk : k < xs.length := by simp at h1; omega
   rw [List.drop_eq_getElem_cons hk] at h2
   injection h2 with h2 h4
   rw [qV,hS k hk s hs, ← h2]
   show _ = ((body k y s).bind _).map _
   cases hb : body k y s with
   | none => rfl
   | some r =>
    cases r with
    | inr z => rfl
    | inl s' => exact ih (k + 1) n s' (hI k hk s s' hs (by rw [← h2]; exact hb)) (by simp at h1; omega) h4 (by simp at h3; omega)
 exact key 0 xs aB9 s0 h0 (by simp) (by simp) (by unfold aB9; omega)
theorem rO {α σ X : Type} {body : Nat → α → σ → Option (σ ⊕ X)} (f : σ → α → σ) (h : ∀ i x s,body i x s = some (.inl (f s x))) : ∀ (xs : List α) (k : Nat) (s : σ),aM7 body xs k s = some (.inl (xs.foldl f s))
 | [],k,s => rfl
 | x :: xs,k,s => by
  show (body k x s).bind _ = _
  rw [h]
  exact rO f h xs (k + 1) (f s x)
theorem itA {a b : Bool} : (if a = true then some b else some false) = some (a && b) := by cases a <;> rfl
theorem itO {a b : Bool} : (if a = true then some true else some b) = some (a || b) := by cases a <;> rfl
theorem itF {a b : Bool} : (if a = true then some false else some b) = some (!a && b) := by cases a <;> rfl
theorem aVc {p : Prop} [Decidable p] {b : Bool} : (if p then some b else some false) = some (decide p && b) := by by_cases h : p <;> simp [h]
theorem aWc {p : Prop} [Decidable p] {b : Bool} : (if p then some true else some b) = some (decide p || b) := by by_cases h : p <;> simp [h]
theorem aLr {a b : Bool} {k : Option Bool} (h : k = some b) : (orE (if a = true then (.inl () : Unit ⊕ Bool) else .inr false) fun _ => k) = some (a && b) := by cases a <;> simp [orE,h]
theorem aPe {S σ X : Type} {step : S → Option (S ⊕ X)} (mk : Int → σ → S) (a : Int) (n : Nat) (f : Nat → σ → σ) (fin : σ → X) (I : Nat → σ → Prop) (hn : n ≤ 9223372036854775807)
  (hS : ∀ (i : Nat) s,i < n → I i s → step (mk (a + i) s) = some (.inl (mk (a + ((i + 1 : Nat) : Int)) (f i s)))) (hI : ∀ (i : Nat) s,i < n → I i s → I (i + 1) (f i s)) (hE : ∀ s,I n s → step (mk (a + n) s) = some (.inr (fin s))) (s0 : σ) (h0 : I 0 s0) :
  cM step (mk a s0) = some (fin ((List.range n).foldl (fun s i => f i s) s0)) := by
 have key : ∀ (j i m : Nat) s,i + j = n → I i s → j < m → tH step m (mk (a + i) s) = some (fin ((List.range' i j).foldl (fun s i => f i s) s)) := by
  intro j
  induction j with
  | zero =>
   intro i m s h1 h2 h3
   obtain ⟨m,rfl⟩ : ∃ q,m = q + 1 := ⟨m - 1,by omega⟩
   have : i = n := by omega
   subst this
   rw [qV,hE s h2]; rfl
  | succ j ih =>
   intro i m s h1 h2 h3
   obtain ⟨m,rfl⟩ : ∃ q,m = q + 1 := ⟨m - 1,by omega⟩
   rw [qV,hS i s (by omega) h2,Option.bind_some]
   exact ih (i + 1) m (f i s) (by omega) (hI i s (by omega) h2) (by omega)
 have := key n 0 aB9 s0 (by omega) h0 (by unfold aB9; omega)
 rw [List.range_eq_range']
 show tH step aB9 (mk a s0) = _
 simpa using this
end Go.Proofs.YtgcdbbidmfdonaaGreat
namespace Go.Proofs.YtgcdbbidmfdonaaGreat
set_option linter.unusedVariables false
def iN (t : Int) : Bool := btw t 6 240
theorem aBw (t : Int) : oQ t = some (iN t) := by unfold oQ; rw [eF]; rfl
theorem nH (t : Int) : iB t = some (iN t) := by unfold iB; rw [dZ]; rfl
def aE4 (a : cQ) : Bool := a.Wheels.all iN && (mH a.Name && decide (a.Wheels.length ≤ 5))
theorem aDp {a : cQ} (hl : a.Wheels.length ≤ 9223372036854775807) : lP a = some (aE4 a) := by
 unfold lP aE4
 rw [uS (fun _ v => iN v) hl fun i hi => by rw [eD hi,Option.bind_some,aBw,Option.bind_some]; cases iN a.Wheels[i] <;> rfl,lZ,Option.bind_some,yR]
 cases a.Wheels.all iN <;> cases mH a.Name <;> simp [orE]; omega
theorem aGs {a : cQ} (hl : a.Wheels.length ≤ 9223372036854775807) : pM a = some (aE4 a) := by
 unfold pM aE4
 rw [uS (fun _ v => iN v) hl fun i hi => by rw [eD hi,Option.bind_some,nH,Option.bind_some]; cases iN a.Wheels[i] <;> rfl,lZ,Option.bind_some,rQ]
 cases a.Wheels.all iN <;> cases mH a.Name <;> simp [orE]; omega
def whB (w : bJ) (a k : Int) : Bool := decide (0 ≤ a ∧ a < w.Arbors.length) && match w.Arbors[a.toNat]? with
 | some b => decide (0 ≤ k ∧ k < b.Wheels.length)
 | none => false
theorem uQ {α : Type} {l : List α} {a : Int} (hl : l.length ≤ 9223372036854775807) : btw a 0 (w64 ((l.length : Int) - 1)) = decide (0 ≤ a ∧ a < l.length) := by
 rw [aT (by omega) (by omega)]
 unfold btw
 rw [decide_eq_decide]; omega
theorem aE3 {w : bJ} {a k : Int} (hl : w.Arbors.length ≤ 9223372036854775807) (hw : ∀ b ∈ w.Arbors,b.Wheels.length ≤ 9223372036854775807) {f : cQ → Option Bool} (hf : ∀ b ∈ w.Arbors,f b = some (decide (0 ≤ k ∧ k < b.Wheels.length))) :
  (if decide (0 ≤ a ∧ a < w.Arbors.length) = true then ((atI w.Arbors a).bind f) else some false) = some (whB w a k) := by
 unfold whB
 by_cases h : 0 ≤ a ∧ a < w.Arbors.length
 ·obtain ⟨e,he,hm,hg⟩ := qL h.1 h.2
  rw [decide_eq_true h,if_pos rfl,he,Option.bind_some,hf e hm,hg]; rfl
 ·rw [decide_eq_false h]; rfl
theorem aGw {w : bJ} (hl : w.Arbors.length ≤ 9223372036854775807) (hw : ∀ b ∈ w.Arbors,b.Wheels.length ≤ 9223372036854775807) (a k : Int) : mM w a k = some (whB w a k) := by
 unfold mM
 rw [eF,Option.bind_some,uQ hl]
 exact aE3 hl hw fun b hb => by rw [eF,Option.bind_some,uQ (hw b hb)]
theorem aGv {w : bJ} (hl : w.Arbors.length ≤ 9223372036854775807) (hw : ∀ b ∈ w.Arbors,b.Wheels.length ≤ 9223372036854775807) (a k : Int) : mO w a k = some (whB w a k) := by
 unfold mO
 rw [dZ,Option.bind_some,uQ hl]
 exact aE3 hl hw fun b hb => by rw [dZ,Option.bind_some,uQ (hw b hb)]
def sE (w : bJ) (m : cH) : Bool := decide (m.A ≠ m.B) && (whB w m.A m.WheelA && whB w m.B m.WheelB)
theorem aM0 {w : bJ} (hl : w.Arbors.length ≤ 9223372036854775807) (hw : ∀ b ∈ w.Arbors,b.Wheels.length ≤ 9223372036854775807) (m : cH) : wU w m = some (sE w m) := by
 unfold wU sE
 simp only [aGw hl hw,Option.bind_some]
 by_cases h : m.A = m.B <;> cases whB w m.A m.WheelA <;> simp [h]
theorem aIp {w : bJ} (hl : w.Arbors.length ≤ 9223372036854775807) (hw : ∀ b ∈ w.Arbors,b.Wheels.length ≤ 9223372036854775807) (m : cH) : rB w m = some (sE w m) := by
 unfold rB sE
 simp only [aGv hl hw,Option.bind_some]
 by_cases h : m.A = m.B <;> cases whB w m.A m.WheelA <;> simp [h]
def rU (m n : cH) : Bool := decide (m = n ∨ m = ⟨n.B,n.WheelB,n.A,n.WheelA⟩)
theorem aMj (m n : cH) : rU m n = rU n m := by
 unfold rU
 rw [decide_eq_decide]
 obtain ⟨a,b,c,d⟩ := m
 obtain ⟨a',b',c',d'⟩ := n
 simp only [cH.mk.injEq]
 omega
theorem aGb (m n : cH) : pF m n = some (rU m n) := by
 unfold pF rU
 by_cases h : m = n
 ·simp [h]
 ·rw [if_neg h]; simp [h]
theorem aGk (m n : cH) : pQ m n = some (rU m n) := by
 unfold pQ rU
 by_cases h : m = n
 ·simp [h]
 ·rw [if_neg h]
  obtain ⟨a,b,c,d⟩ := m
  obtain ⟨a',b',c',d'⟩ := n
  have e : decide ((⟨a,b,c,d⟩ : cH) = ⟨a',b',c',d'⟩ ∨ (⟨a,b,c,d⟩ : cH) = ⟨c',d',a',b'⟩) = decide (a = c' ∧ b = d' ∧ c = a' ∧ d = b') := by
   rw [decide_eq_decide]
   simp only [h,false_or,cH.mk.injEq]
  dsimp only
  rw [e]
  by_cases h1 : a = c' <;> by_cases h2 : b = d' <;> by_cases h3 : c = a' <;> simp [h1,h2,h3]
def aAy (w : bJ) : Bool := decide (w.Arbors.length ≤ 16) && (decide (w.Meshes.length ≤ 24) && (aIx w.Arbors (fun i a => aE4 a && !((w.Arbors.take i).any fun b => decide (b.Name = a.Name))) && aIx w.Meshes (fun i m => sE w m && !((w.Meshes.take i).any fun n => rU m n))))
theorem aEx {xs : List cH} {m : cH} (hl : xs.length ≤ 9223372036854775807) : cF xs m = some (xs.any fun n => rU m n) := by
 unfold cF dF
 rw [aQm (fun n => rU m n) hl fun i hi => by rw [eD hi,Option.bind_some,lX,aGb,Option.bind_some,Option.bind_some],Option.bind_some,aF9]
theorem wM {w : bJ} (hl : w.Arbors.length ≤ 9223372036854775807) (hw : ∀ b ∈ w.Arbors,b.Wheels.length ≤ 9223372036854775807) (hm : w.Meshes.length ≤ 9223372036854775807) : jV w = some (aAy w) := by
 unfold jV aAy
 by_cases h1 : w.Arbors.length ≤ 16
 ·by_cases h2 : w.Meshes.length ≤ 24
  ·rw [if_neg (by omega),Option.bind_some,decide_eq_false (by omega),if_neg (by decide),decide_eq_true h1,decide_eq_true h2,
    uS (e := .inr false) (fun i a => aE4 a && !((w.Arbors.take i).any fun b => decide (b.Name = a.Name))) hl fun i hi => ?_,Option.bind_some,
    uS (e := .inr false) (fun i m => sE w m && !((w.Meshes.take i).any fun n => rU m n)) hm fun i hi => ?_,Option.bind_some]
   ·cases aIx w.Arbors (fun i a => aE4 a && !((w.Arbors.take i).any fun b => decide (b.Name = a.Name))) <;> cases aIx w.Meshes (fun i m => sE w m && !((w.Meshes.take i).any fun n => rU m n)) <;> rfl
   ·rw [eD hi,Option.bind_some,aM0 hl hw,Option.bind_some,gA (aJ0 (by omega)),aN0,aEx (by rw [List.length_take]; omega)]
    cases sE w w.Meshes[i] <;> cases ((w.Meshes.take i).any fun n => rU w.Meshes[i] n) <;> rfl
   ·rw [eD hi,Option.bind_some,aDp (hw _ (List.getElem_mem hi)),Option.bind_some,gA (aJ0 (by omega)),aN0,
     uS (fun _ b => !decide (b.Name = w.Arbors[i].Name)) (by rw [List.length_take]; omega) fun j hj => by
      rw [eD hj,Option.bind_some]
      by_cases q : w.Arbors[i].Name = (w.Arbors.take i)[j].Name
      ·rw [if_pos q,decide_eq_true q.symm]; rfl
      ·rw [if_neg q,decide_eq_false (Ne.symm q)]; rfl,lZ]
    have e : ((w.Arbors.take i).all fun b => !decide (b.Name = w.Arbors[i].Name)) = !((w.Arbors.take i).any fun b => decide (b.Name = w.Arbors[i].Name)) := by rw [Bool.eq_iff_iff]; simp
    rw [e]
    cases aE4 w.Arbors[i] <;> cases ((w.Arbors.take i).any fun b => decide (b.Name = w.Arbors[i].Name)) <;> rfl
  ·rw [if_neg (by omega),Option.bind_some,decide_eq_true (by omega),if_pos rfl,decide_eq_false h2,decide_eq_true h1]; rfl
 ·rw [if_pos (by omega),Option.bind_some,if_pos rfl,decide_eq_false h1]; rfl
theorem aIb {w : bJ} (hl : w.Arbors.length ≤ 9223372036854775807) (s : ByteArray) : qW w s = some (aJw w.Arbors fun a => decide (a.Name = s)) := by
 unfold qW
 rw [aQm (fun a => decide (a.Name = s)) hl fun i hi => by rw [eD hi,Option.bind_some]; by_cases q : w.Arbors[i].Name = s <;> simp [q]]
theorem aHa {w : bJ} (hm : w.Meshes.length ≤ 9223372036854775807) (m : cH) {k : Nat} (hk : k ≤ w.Meshes.length) : pW w m (k : Int) = some ((w.Meshes.take k).any fun n => rU m n) := by
 unfold pW
 rw [aTe k (fun _ n => !rU m n) hk hm fun i hi _ => by rw [eD hi,Option.bind_some,aGk,Option.bind_some,aMj]; cases rU m w.Meshes[i] <;> rfl,lZ,Option.bind_some]
 have e : ((w.Meshes.take k).all fun n => !rU m n) = !((w.Meshes.take k).any fun n => rU m n) := by rw [Bool.eq_iff_iff]; simp
 rw [e]
 cases ((w.Meshes.take k).any fun n => rU m n) <;> rfl
theorem aL4 {w : bJ} (hl : w.Arbors.length ≤ 9223372036854775807) (hw : ∀ b ∈ w.Arbors,b.Wheels.length ≤ 9223372036854775807) (hm : w.Meshes.length ≤ 9223372036854775807) : wS w = some (aAy w) := by
 unfold wS aAy
 rw [uS (e := .inr false) (fun i a => aE4 a && !((w.Arbors.take i).any fun b => decide (b.Name = a.Name))) hl fun i hi => ?_,Option.bind_some,
   uS (e := .inr false) (fun i m => sE w m && !((w.Meshes.take i).any fun n => rU m n)) hm fun i hi => ?_,Option.bind_some]
 ·have e1 : decide ((w.Meshes.length : Int) ≤ 24) = decide (w.Meshes.length ≤ 24) := by rw [decide_eq_decide]; omega
  have e2 : (if (w.Arbors.length : Int) ≤ 16 then some (decide ((w.Meshes.length : Int) ≤ 24)) else some false) = some (decide (w.Arbors.length ≤ 16) && decide (w.Meshes.length ≤ 24)) := by
   rw [e1]
   by_cases h1 : w.Arbors.length ≤ 16
   ·rw [if_pos (by omega),decide_eq_true h1,Bool.true_and]
   ·rw [if_neg (by omega),decide_eq_false h1]; rfl
  rw [e2]
  cases aIx w.Arbors (fun i a => aE4 a && !((w.Arbors.take i).any fun b => decide (b.Name = a.Name))) <;> cases aIx w.Meshes (fun i m => sE w m && !((w.Meshes.take i).any fun n => rU m n)) <;> cases decide (w.Arbors.length ≤ 16) <;> cases decide (w.Meshes.length ≤ 24) <;> rfl
 ·simp only [eD hi,Option.bind_some,aIp hl hw,aHa hm _ (Nat.le_of_lt hi)]
  cases sE w w.Meshes[i] <;> cases ((w.Meshes.take i).any fun n => rU w.Meshes[i] n) <;> rfl
 ·simp only [eD hi,Option.bind_some,aGs (hw _ (List.getElem_mem hi)),aIb hl,aMq (p := fun a => decide (a.Name = w.Arbors[i].Name)) hi (decide_eq_true rfl)]
  cases aE4 w.Arbors[i] <;> cases ((w.Arbors.take i).any fun b => decide (b.Name = w.Arbors[i].Name)) <;> rfl
end Go.Proofs.YtgcdbbidmfdonaaGreat
namespace Go.Proofs.YtgcdbbidmfdonaaGreat
set_option linter.unusedVariables false
def Ok {α : Type} (m : Option α) (P : α → Prop) : Prop := ∃ x,m = some x ∧ P x
theorem aP {α : Type} {x : α} {P : α → Prop} (h : P x) : Ok (some x) P := ⟨x,rfl,h⟩
theorem aW {α β : Type} {m : Option α} {f : α → Option β} {P : α → Prop} {Q : β → Prop} (h : Ok m P) (k : ∀ x,P x → Ok (f x) Q) : Ok (m.bind f) Q := by
 obtain ⟨x,rfl,hx⟩ := h
 exact k x hx
theorem cG {α : Type} {p : Prop} [Decidable p] {a b : Option α} {P : α → Prop} (h : p → Ok a P) (k : ¬ p → Ok b P) : Ok (if p then a else b) P := by
 split
 ·exact h ‹_›
 ·exact k ‹_›
theorem jN {α : Type} {p : Prop} [Decidable p] {a : Option α} {P : α → Prop} (hp : p) (h : Ok a P) : Ok (chk p a) P := by rw [gA hp]; exact h
theorem rW {α : Type} {xs : List α} {i : Int} (h0 : 0 ≤ i) (h1 : i < xs.length) : Ok (atI xs i) (fun e => e ∈ xs ∧ xs[i.toNat]? = some e) := by
 obtain ⟨e,h,hm,hg⟩ := qL h0 h1
 exact ⟨e,h,hm,hg⟩
theorem aSy {α : Type} {m : Option α} {P Q : α → Prop} (h : Ok m P) (k : ∀ x,P x → Q x) : Ok m Q := by
 obtain ⟨x,e,hx⟩ := h
 exact ⟨x,e,k x hx⟩
theorem fB {S X : Type} {step : S → Option (S ⊕ X)} {P : X → Prop} (I : S → Prop) (m : S → Nat) (hs : ∀ s,I s → Ok (step s) (fun y => (∃ s',y = .inl s' ∧ I s' ∧ m s' < m s) ∨ ∃ x,y = .inr x ∧ P x)) (s0 : S) (h0 : I s0) (hm : m s0 < 1180591620717411303424) : Ok (cM step s0) P :=
 uB I m P (fun s hI => by
  obtain ⟨y,e,⟨s',rfl,h1,h2⟩ | ⟨x,rfl,h1⟩⟩ := hs s hI
  ·exact .inl ⟨s',e,h1,h2⟩
  ·exact .inr ⟨x,e,h1⟩) s0 h0 hm
end Go.Proofs.YtgcdbbidmfdonaaGreat
namespace Go.Proofs.YtgcdbbidmfdonaaGreat
set_option linter.unusedVariables false
def lT (n : Int) (s : bN) : Prop := 0 ≤ s.at_ ∧ s.at_ ≤ n ∧ s.code.length ≤ 1000000 ∧ ∀ b ∈ s.code,0 ≤ b ∧ b ≤ 255
theorem aRv (x : Int) : 0 ≤ aS7 .u64 x 255 ∧ aS7 .u64 x 255 ≤ 255 := by
 unfold aS7
 have h : (BitVec.ofInt IntKind.u64.bits x &&& BitVec.ofInt IntKind.u64.bits 255).toNat ≤ 255 := by
  rw [BitVec.toNat_and]
  have : (BitVec.ofInt IntKind.u64.bits 255).toNat = 255 := by decide
  rw [this]
  exact Nat.and_le_right
 generalize (BitVec.ofInt IntKind.u64.bits x &&& BitVec.ofInt IntKind.u64.bits 255).toNat = v at h
 have e : IntKind.u64.wrap (v : Int) = v := by
  unfold IntKind.wrap
  simp [IntKind.bits,IntKind.signed]
  omega
 rw [e]; omega
theorem aN9 {c : List Int} (h1 : c.length ≤ 1000000) (h2 : ∀ b ∈ c,0 ≤ b ∧ b ≤ 255) : Ok (rG c) (lT 0) := aP ⟨by simp,by simp,h1,h2⟩
theorem aOz {n : Int} {s : bN} (h : lT n s) (hn : n ≤ 1000000000000) : Ok (iU s) (fun r => 0 ≤ r.1 ∧ r.1 ≤ 255 ∧ lT (n + 1) r.2) := by
 obtain ⟨h0,h1,h2,h3⟩ := h
 unfold iU
 refine aW (P := fun v => 0 ≤ v ∧ v ≤ 255) ?_ fun v hv => ?_
 ·refine cG (fun hc => ?_) fun _ => aP (by omega)
  refine aW (rW h0 hc) fun e he => aP ?_
  have := h3 e he.1
  rw [aT (by omega) (by omega)]; exact this
 ·have e1 : w64 (s.at_ + 1) = s.at_ + 1 := aT (by omega) (by omega)
  rw [e1]
  refine cG (fun _ => aP ⟨hv.1,hv.2,by dsimp only; omega,by dsimp only; omega,h2,h3⟩) fun _ => aP ⟨?_,?_,by dsimp only; omega,by dsimp only; omega,h2,h3⟩
  ·have := aRv (aTz .u64 (IntKind.u64.wrap ((IntKind.u64.wrap ((IntKind.u64.wrap (s.seed * 6364136223846793005)) + (IntKind.u64.wrap v))) + 1442695040888963407)) 40)
   dsimp only
   rw [aT (by omega) (by omega)]; omega
  ·have := aRv (aTz .u64 (IntKind.u64.wrap ((IntKind.u64.wrap ((IntKind.u64.wrap (s.seed * 6364136223846793005)) + (IntKind.u64.wrap v))) + 1442695040888963407)) 40)
   dsimp only
   rw [aT (by omega) (by omega)]; omega
theorem gD {n m : Int} {s : bN} (h : lT n s) (hm : n ≤ m) : lT m s := ⟨h.1,by have := h.2.1; omega,h.2.2⟩
theorem kM {n : Int} {s : bN} {k : Int} (h : lT n s) (hn : n ≤ 1000000000) : Ok (bR s k) (fun r => 0 ≤ r.1 ∧ (r.1 < k ∨ r.1 = 0) ∧ r.1 ≤ 65535 ∧ lT (n + 2) r.2) := by
 unfold bR
 refine cG (fun _ => aP ⟨by simp,by simp,by simp,gD h (by omega)⟩) fun hk => ?_
 refine aW (aOz h (by omega)) fun v hv => ?_
 refine aW (P := fun r => 0 ≤ r.1 ∧ r.1 ≤ 65535 ∧ lT (n + 2) r.2) ?_ fun r hr => ?_
 ·refine cG (fun _ => ?_) fun _ => aP ⟨hv.1,by have := hv.2.1; dsimp only; omega,gD hv.2.2 (by omega)⟩
  refine aW (aOz hv.2.2 (by omega)) fun u hu => aP ?_
  have a := hv.1; have b := hv.2.1; have c := hu.1; have d := hu.2.1
  dsimp only
  rw [aT (x := v.1 * 256) (by omega) (by omega),aT (by omega) (by omega)]
  exact ⟨by omega,by omega,by have := hu.2.2; rwa [Int.add_assoc] at this⟩
 ·refine jN (by omega) (aP ?_)
  have e : r.1.tmod k = r.1 % k := Int.tmod_eq_emod_of_nonneg hr.1
  have h1 := Int.emod_nonneg r.1 (show k ≠ 0 by omega)
  have h2 := Int.emod_lt_of_pos r.1 (show 0 < k by omega)
  have h3 : r.1 % k ≤ r.1 := by
   have := Int.mul_nonneg (show 0 ≤ k by omega) (Int.ediv_nonneg hr.1 (show 0 ≤ k by omega))
   rw [Int.emod_def]; omega
  dsimp only
  rw [e]
  exact ⟨h1, .inl h2,by have := hr.2.1; omega,hr.2.2⟩
theorem aFk {n : Int} {s : bN} {k : Int} (h : lT n s) (hn : n ≤ 1000000000) : Ok (fG s k) (fun r => lT (n + 2) r.2) :=
 aW (kM h hn) fun r hr => aP hr.2.2.2
theorem wZ {n : Int} {s : bN} {xs : List Int} (h : lT n s) (hn : n ≤ 1000000000) (hx : 0 < xs.length) : Ok (eR s xs) (fun r => r.1 ∈ xs ∧ lT (n + 2) r.2) := by
 refine aW (kM h hn) fun r hr => ?_
 refine aW (rW hr.1 ?_) fun e he => aP ⟨he.1,hr.2.2.2⟩
 rcases hr.2.1 with h1 | h1
 ·exact h1
 ·rw [h1]; omega
theorem aSb {n : Int} {s : bN} {xs : List ByteArray} (h : lT n s) (hn : n ≤ 1000000000) (hx : 0 < xs.length) : Ok (nQ s xs) (fun r => r.1 ∈ xs ∧ lT (n + 2) r.2) := by
 refine aW (kM h hn) fun r hr => ?_
 refine aW (rW hr.1 ?_) fun e he => aP ⟨he.1,hr.2.2.2⟩
 rcases hr.2.1 with h1 | h1
 ·exact h1
 ·rw [h1]; omega
end Go.Proofs.YtgcdbbidmfdonaaGreat
