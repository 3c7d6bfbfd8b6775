/- Texts of this claim, one behind the other (merged by a program of mine). -/
import Derived.Test.YtbliejnpjpnahaaGreatDoorGCz5
set_option linter.unusedSimpArgs false
set_option linter.unusedVariables false
namespace Go.Proofs.YtbliejnpjpnahaaGreatDoor
open Go.RowKit
set_option linter.unusedVariables false
set_option maxRecDepth 100000
set_option maxHeartbeats 2000000
structure eM where
 code:List Int
 at_:Int
 seed:Int
deriving DecidableEq
structure aS where
 Year:Int
 Month:Int
 Day:Int
deriving DecidableEq
structure aY where
 Name:ByteArray
 Days:Int
 Leap:Int
deriving DecidableEq
def aW (x:aY):List DV:=[.v (.string x.Name), .v (.int .i64 x.Days), .v (.int .i64 x.Leap)]
structure aL where
 Every:Int
 Rest:Int
 Leap:Bool
deriving DecidableEq
def aM (x:aL):List DV:=[.v (.int .i64 x.Every), .v (.int .i64 x.Rest), .v (.bool x.Leap)]
structure aC where
 Name:ByteArray
 Months:List aY
 Rules:List aL
 Week:Int
deriving DecidableEq
def kT (x:aC):List DV:=[.v (.string x.Name), .sl (List.map aW x.Months), .sl (List.map aM x.Rules), .v (.int .i64 x.Week)]
structure fT where
 Year:Int
 Month:Int
 Shown:Int
 Right:Int
deriving DecidableEq
def uN (x:fT):List DV:=[.v (.int .i64 x.Year), .v (.int .i64 x.Month), .v (.int .i64 x.Shown), .v (.int .i64 x.Right)]
structure aB where
 Num:Int
 Den:Int
deriving DecidableEq
def dR (x:aB):List DV:=[.v (.int .i64 x.Num), .v (.int .i64 x.Den)]
structure qX where
 LowDriver:Int
 HighDriver:Int
 LowDriven:Int
 HighDriven:Int
 Stages:Int
deriving DecidableEq
structure aGq where
 products:List Int
 lists:Int→List (List Int)
structure uJ where
 p:Int
 q:Int
 far:Int
deriving DecidableEq
def pK (x:uJ):List DV:=[.v (.int .i64 x.p), .v (.int .i64 x.q), .v (.int .i64 x.far)]
structure dU where
 Driver:Int
 Driven:Int
deriving DecidableEq
def eD (x:dU):List DV:=[.v (.int .i64 x.Driver), .v (.int .i64 x.Driven)]
structure aCb where
 Train:List dU
 Error:aB
deriving DecidableEq
structure cD where
 Name:ByteArray
 Wheels:List Int
deriving DecidableEq
def aF (x:cD):List DV:=[.v (.string x.Name), .sl (List.map cI x.Wheels)]
structure bM where
 A:Int
 WheelA:Int
 B:Int
 WheelB:Int
deriving DecidableEq
def bH (x:bM):List DV:=[.v (.int .i64 x.A), .v (.int .i64 x.WheelA), .v (.int .i64 x.B), .v (.int .i64 x.WheelB)]
structure aP where
 Arbors:List cD
 Meshes:List bM
deriving DecidableEq
def fP (x:aP):List DV:=[.sl (List.map aF x.Arbors), .sl (List.map bH x.Meshes)]
structure aG where
 Name:ByteArray
 Works:aP
 Minute:Int
 Hour:Int
 Escape:Int
 Teeth:Int
 Beats:Int
 Calendar:aC
 Cam:List Int
 Strike:Int
deriving DecidableEq
def hP (x:aG):List DV:=[.v (.string x.Name), .sl (List.map aF x.Works.Arbors), .sl (List.map bH x.Works.Meshes), .v (.int .i64 x.Minute), .v (.int .i64 x.Hour), .v (.int .i64 x.Escape), .v (.int .i64 x.Teeth), .v (.int .i64 x.Beats), .v (.string x.Calendar.Name), .sl (List.map aW x.Calendar.Months), .sl (List.map aM x.Calendar.Rules), .v (.int .i64 x.Calendar.Week), .sl (List.map cI x.Cam), .v (.int .i64 x.Strike)]
structure aD where
 Cam:List Int
 Months:Int
 Teeth:Int
 At:Int
 Day:Int
 Week:Int
 Weekday:Int
deriving DecidableEq
def uO (x:aD):List DV:=[.sl (List.map cI x.Cam), .v (.int .i64 x.Months), .v (.int .i64 x.Teeth), .v (.int .i64 x.At), .v (.int .i64 x.Day), .v (.int .i64 x.Week), .v (.int .i64 x.Weekday)]
structure cH where
 Movement:aG
 Start:aS
 First:Int
 Clock:Int
 Dial:aD
deriving DecidableEq
def bA0 (x:cH):List DV:=[.v (.string x.Movement.Name), .sl (List.map aF x.Movement.Works.Arbors), .sl (List.map bH x.Movement.Works.Meshes), .v (.int .i64 x.Movement.Minute), .v (.int .i64 x.Movement.Hour), .v (.int .i64 x.Movement.Escape), .v (.int .i64 x.Movement.Teeth), .v (.int .i64 x.Movement.Beats), .v (.string x.Movement.Calendar.Name), .sl (List.map aW x.Movement.Calendar.Months), .sl (List.map aM x.Movement.Calendar.Rules), .v (.int .i64 x.Movement.Calendar.Week), .sl (List.map cI x.Movement.Cam), .v (.int .i64 x.Movement.Strike), .v (.int .i64 x.Start.Year), .v (.int .i64 x.Start.Month), .v (.int .i64 x.Start.Day), .v (.int .i64 x.First), .v (.int .i64 x.Clock), .sl (List.map cI x.Dial.Cam), .v (.int .i64 x.Dial.Months), .v (.int .i64 x.Dial.Teeth), .v (.int .i64 x.Dial.At), .v (.int .i64 x.Dial.Day), .v (.int .i64 x.Dial.Week), .v (.int .i64 x.Dial.Weekday)]
structure jE where
 Sim:cH
deriving DecidableEq
structure fS where
 word:ByteArray
 numbers:List Int
 ratio:aB
 date:aS
 text:ByteArray
deriving DecidableEq
def sV (p0:List Int):Option Bool :=
 (if 3000<(p0.length:Int) then
 some true
 else
 some (decide (3000<((0:Nat):Int))))
def vQ (p0:List Int):Option eM :=
 some (⟨p0,0,0⟩:eM)
def iW (p0:eM):Option (Int × eM) :=
 (((if p0.at_<(p0.code.length:Int) then
 ((atI p0.code p0.at_).bind fun v1 =>
 some (w64 v1))
 else
 some 0):Option Int).bind fun v2 =>
 (if (w64 (p0.at_+1))≤(p0.code.length:Int) then
 some (v2,(⟨p0.code,w64 (p0.at_+1),IntKind.u64.wrap ((IntKind.u64.wrap ((IntKind.u64.wrap (p0.seed*6364136223846793005))+(IntKind.u64.wrap v2)))+1442695040888963407)⟩:eM))
 else
 some (w64 (bAm .u64 (aX7 .u64 (IntKind.u64.wrap ((IntKind.u64.wrap ((IntKind.u64.wrap (p0.seed*6364136223846793005))+(IntKind.u64.wrap v2)))+1442695040888963407)) 40) 255),(⟨p0.code,w64 (p0.at_+1),IntKind.u64.wrap ((IntKind.u64.wrap ((IntKind.u64.wrap (p0.seed*6364136223846793005))+(IntKind.u64.wrap v2)))+1442695040888963407)⟩:eM))))
def gT (p0:eM) (p1:Int):Option (Int × eM) :=
 (if p1≤1 then
 some (0,p0)
 else
 ((iW p0).bind fun v1 =>
 (((if 200<p1 then
 ((iW v1.2).bind fun v2 =>
 some (w64 ((w64 (v1.1*256))+v2.1),v2.2))
 else
 some (v1.1,v1.2)):Option (Int × eM)).bind fun v3 =>
 (chk (p1≠0) (
 some (v3.1.tmod p1,v3.2))))))
def dJ (p0:eM) (p1:List ByteArray):Option (ByteArray × eM) :=
 ((gT p0 (p1.length:Int)).bind fun v1 =>
 ((atI p1 v1.1).bind fun v2 =>
 some (v2,v1.2)))
def nR (p0:eM):Option (ByteArray × eM) :=
 ((gT p0 9).bind fun v1 =>
 (if v1.1=0 then
 ((dJ v1.2 [(⟨#[114,117,110,32,56,54,52,48,48]⟩:ByteArray),(⟨#[114,117,110,32,51,54,48,48]⟩:ByteArray),(⟨#[114,117,110,32,49]⟩:ByteArray),(⟨#[114,117,110,32,51,48,48,48,48,48,48]⟩:ByteArray),(⟨#[114,117,110,32,45,49]⟩:ByteArray),(⟨#[114,117,110,32,120]⟩:ByteArray),(⟨#[114,117,110,32,53,48,48,48,48]⟩:ByteArray)]).bind fun v2 =>
 some (v2.1,v2.2))
 else
 (if v1.1=1 then
 ((dJ v1.2 [(⟨#[100,101,115,105,103,110,32,49,56,48,48,48,32,49,53,32,106,117,108,105,97,110,32,52]⟩:ByteArray),(⟨#[100,101,115,105,103,110,32,51,54,48,48,32,51,48,32,102,105,120,101,100,32,49]⟩:ByteArray),(⟨#[100,101,115,105,103,110,32,51,57,54,49,32,51,48,32,106,117,108,105,97,110,32,49]⟩:ByteArray),(⟨#[100,101,115,105,103,110,32,55,50,48,48,32,49,53,32,110,111,110,101,32,49]⟩:ByteArray),(⟨#[100,101,115,105,103,110,32,120,32,49,53,32,106,117,108,105,97,110,32,49]⟩:ByteArray),(⟨#[100,101,115,105,103,110,32,51,54,48,48,32,51,48,32,101,103,121,112,116,105,97,110,32,48]⟩:ByteArray)]).bind fun v3 =>
 some (v3.1,v3.2))
 else
 (if v1.1=2 then
 ((dJ v1.2 [(⟨#[115,101,116,32,50,49,48,48,45,50,45,50,55,32,49]⟩:ByteArray),(⟨#[115,101,116,32,50,48,50,52,45,50,45,50,56,32,55]⟩:ByteArray),(⟨#[115,101,116,32,50,48,50,51,45,50,45,50,57,32,49]⟩:ByteArray),(⟨#[115,101,116,32,50,48,50,52,45,50,45,50,56,32,56]⟩:ByteArray),(⟨#[115,101,116,32,120,32,49]⟩:ByteArray),(⟨#[115,101,116,32,49,45,49,45,49,32,49]⟩:ByteArray)]).bind fun v4 =>
 some (v4.1,v4.2))
 else
 (if v1.1=3 then
 ((dJ v1.2 [(⟨#[112,117,115,104,32,49]⟩:ByteArray),(⟨#[112,117,115,104,32,50]⟩:ByteArray),(⟨#[112,117,115,104,32,51]⟩:ByteArray),(⟨#[112,117,115,104,32,52]⟩:ByteArray),(⟨#[99,111,114,114,101,99,116]⟩:ByteArray),(⟨#[99,111,114,114,101,99,116]⟩:ByteArray),(⟨#[114,105,103,104,116]⟩:ByteArray)]).bind fun v5 =>
 some (v5.1,v5.2))
 else
 (if v1.1=4 then
 ((dJ v1.2 [(⟨#[115,104,111,119]⟩:ByteArray),(⟨#[104,97,110,100,115]⟩:ByteArray),(⟨#[112,97,114,116,115]⟩:ByteArray),(⟨#[115,112,101,101,100,115]⟩:ByteArray),(⟨#[114,105,103,104,116]⟩:ByteArray)]).bind fun v6 =>
 some (v6.1,v6.2))
 else
 (if v1.1=5 then
 ((dJ v1.2 [(⟨#[102,97,117,108,116,115,32,49,56,57,48,32,49,57,49,48]⟩:ByteArray),(⟨#[102,97,117,108,116,115,32,48,32,51]⟩:ByteArray),(⟨#[102,97,117,108,116,115,32,53,32,49]⟩:ByteArray),(⟨#[102,97,117,108,116,115,32,48,32,57,57,57,57]⟩:ByteArray),(⟨#[119,114,111,110,103,32,51,48,48,48]⟩:ByteArray),(⟨#[119,114,111,110,103,32,52,48,48,48,48]⟩:ByteArray),(⟨#[119,114,111,110,103,32,45,49]⟩:ByteArray)]).bind fun v7 =>
 some (v7.1,v7.2))
 else
 (if v1.1=6 then
 ((dJ v1.2 [(⟨#[110,101,97,114,32,51,54,53,47,50,52,32,53]⟩:ByteArray),(⟨#[110,101,97,114,32,45,49,47,51,32,48]⟩:ByteArray),(⟨#[116,101,114,109,115,32,51,54,53,47,50,52]⟩:ByteArray),(⟨#[116,101,114,109,115,32,45,53,47,51]⟩:ByteArray),(⟨#[112,97,116,104,32,53,47,50]⟩:ByteArray),(⟨#[112,97,116,104,32,48]⟩:ByteArray),(⟨#[112,97,116,104,32,51,48,48]⟩:ByteArray),(⟨#[116,101,114,109,115,32,50,47,52]⟩:ByteArray),(⟨#[110,101,97,114,32,120,32,49]⟩:ByteArray)]).bind fun v8 =>
 some (v8.1,v8.2))
 else
 (if v1.1=7 then
 ((dJ v1.2 [(⟨#[116,114,97,105,110,32,49,50,32,51,48,32,51,54,32,56,32,49,50,32,50]⟩:ByteArray),(⟨#[116,114,97,105,110,32,50,57,47,49,50,32,50,48,32,52,48,32,56,32,49,50,32,49]⟩:ByteArray),(⟨#[116,114,97,105,110,32,49,32,53,32,54,32,55,32,56,32,49]⟩:ByteArray),(⟨#[116,114,97,105,110,32,48,32,51,48,32,51,54,32,56,32,49,50,32,49]⟩:ByteArray),(⟨#[116,114,97,105,110,32,120,32,49,32,50,32,51,32,52,32,53]⟩:ByteArray)]).bind fun v9 =>
 some (v9.1,v9.2))
 else
 ((dJ v1.2 [(⟨#[]⟩:ByteArray),(⟨#[102,111,111]⟩:ByteArray),(⟨#[115,104,111,119,32,49]⟩:ByteArray),(⟨#[114,117,110]⟩:ByteArray),(⟨#[116,114,97,105,110,32,49,50,32,51,48,32,51,54,32,56,32,49,50]⟩:ByteArray),(⟨#[115,101,116,32,50,48,48,48,45,49,45,49]⟩:ByteArray),(⟨#[110,101,97,114,32,49]⟩:ByteArray)]).bind fun v10 =>
 some (v10.1,v10.2)))))))))))
def rY (p0:List Int):Option (List ByteArray) :=
 ((vQ p0).bind fun v1 =>
 ((((gT v1 7).bind fun v2 =>
 bQ (S:=Int × eM × List ByteArray) (X:=List ByteArray) (fun s6 =>
 (if 0<s6.1 then
 ((nR s6.2.1).bind fun v7 =>
 (chk ((s6.2.2.length+[v7.1].length)*1*64≤140737488355328) (
 some (.inl (w64 (s6.1-1),v7.2,s6.2.2++[v7.1])))))
 else
 some (.inr s6.2.2))) (w64 (1+v2.1),v2.2,([]:List ByteArray))):Option (List ByteArray)).bind fun v9 =>
 some v9))
def mG (p0 p1:Int):Option ByteArray:=(chk (-9223372036854775808≤p0∧p0≤9223372036854775807∧p1=10) (some ⟨(Lib.itoa p0).toArray⟩))
def bC (p0:Int):Option ByteArray :=
 ((mG p0 10).bind fun v1 =>
 some v1)
def sU (p0:Int) (p1:Int):Option (List aY) :=
 ((bQ (S:=Int × List aY) (X:=List aY) (fun s5 =>
 (if s5.1≤p0 then
 ((bC s5.1).bind fun v6 =>
 (chk ((⟨#[109]⟩:ByteArray).size+v6.size≤9223372036854775807) (
 (chk ((s5.2.length+[(⟨(⟨#[109]⟩:ByteArray)++v6,p1,p1⟩:aY)].length)*3*64≤140737488355328) (
 some (.inl (w64 (s5.1+1),s5.2++[(⟨(⟨#[109]⟩:ByteArray)++v6,p1,p1⟩:aY)])))))))
 else
 some (.inr s5.2))) (1,([]:List aY)):Option (List aY)).bind fun v9 =>
 some v9)
def oI (p0:ByteArray):Option (aC × Int) :=
 (((if p0=(⟨#[101,103,121,112,116,105,97,110]⟩:ByteArray) then
 ((sU 12 30).bind fun v1 =>
 (chk ((v1.length+[(⟨(⟨#[109,49,51]⟩:ByteArray),5,5⟩:aY)].length)*3*64≤140737488355328) (
 some (.inr ((⟨p0,v1++[(⟨(⟨#[109,49,51]⟩:ByteArray),5,5⟩:aY)],([]:List aL),10⟩:aC),0)))))
 else
 (if p0=(⟨#[102,105,120,101,100]⟩:ByteArray) then
 ((sU 12 28).bind fun v3 =>
 (chk ((v3.length+[(⟨(⟨#[109,49,51]⟩:ByteArray),29,30⟩:aY)].length)*3*64≤140737488355328) (
 some (.inl (v3++[(⟨(⟨#[109,49,51]⟩:ByteArray),29,30⟩:aY)])))))
 else
 (((if p0=(⟨#[103,114,101,103,111,114,105,97,110]⟩:ByteArray) then
 some (decide (p0=(⟨#[103,114,101,103,111,114,105,97,110]⟩:ByteArray)))
 else
 some (decide (p0=(⟨#[106,117,108,105,97,110]⟩:ByteArray)))):Option Bool).bind fun v5 =>
 (if v5=true then
 ((bQ (S:=Int × List aY) (X:=List aY) (fun s10 =>
 (if s10.1<([(⟨#[106,97,110]⟩:ByteArray),(⟨#[102,101,98]⟩:ByteArray),(⟨#[109,97,114]⟩:ByteArray),(⟨#[97,112,114]⟩:ByteArray),(⟨#[109,97,121]⟩:ByteArray),(⟨#[106,117,110]⟩:ByteArray),(⟨#[106,117,108]⟩:ByteArray),(⟨#[97,117,103]⟩:ByteArray),(⟨#[115,101,112]⟩:ByteArray),(⟨#[111,99,116]⟩:ByteArray),(⟨#[110,111,118]⟩:ByteArray),(⟨#[100,101,99]⟩:ByteArray)].length:Int) then
 ((atI [(⟨#[106,97,110]⟩:ByteArray),(⟨#[102,101,98]⟩:ByteArray),(⟨#[109,97,114]⟩:ByteArray),(⟨#[97,112,114]⟩:ByteArray),(⟨#[109,97,121]⟩:ByteArray),(⟨#[106,117,110]⟩:ByteArray),(⟨#[106,117,108]⟩:ByteArray),(⟨#[97,117,103]⟩:ByteArray),(⟨#[115,101,112]⟩:ByteArray),(⟨#[111,99,116]⟩:ByteArray),(⟨#[110,111,118]⟩:ByteArray),(⟨#[100,101,99]⟩:ByteArray)] s10.1).bind fun v11 =>
 ((atI [31,28,31,30,31,30,31,31,30,31,30,31] s10.1).bind fun v12 =>
 (chk ((s10.2.length+[(⟨v11,v12,v12⟩:aY)].length)*3*64≤140737488355328) (
 some (.inl (w64 (s10.1+1),s10.2++[(⟨v11,v12,v12⟩:aY)]))))))
 else
 some (.inr s10.2))) (0,([]:List aY)):Option (List aY)).bind fun v14 =>
 ((atI v14 1).bind fun v15 =>
 some (.inl (List.set v14 (1:Int).toNat (⟨v15.Name,v15.Days,29⟩:aY)))))
 else
 some (.inr ((⟨(⟨#[]⟩:ByteArray),([]:List aY),([]:List aL),0⟩:aC),3)))))):Option ((List aY) ⊕ (aC × Int))).bind fun v16x=>orE v16x fun v16 =>
 (((if p0≠(⟨#[106,117,108,105,97,110]⟩:ByteArray) then
 (chk (([(⟨4,0,true⟩:aL)].length+[(⟨100,0,false⟩:aL),(⟨400,0,true⟩:aL)].length)*3*64≤140737488355328) (
 some ([(⟨4,0,true⟩:aL)]++[(⟨100,0,false⟩:aL),(⟨400,0,true⟩:aL)])))
 else
 some [(⟨4,0,true⟩:aL)]):Option (List aL)).bind fun v18 =>
 some ((⟨p0,v16,v18,7⟩:aC),0)))
def kW (p0:ByteArray):Option Bool :=
 (((if (p0.size:Int)<1 then
 some true
 else
 some (decide (12<(p0.size:Int)))):Option Bool).bind fun v1 =>
 (if v1=true then
 some false
 else
 (((chk (p0.size≤140737488355328) (
 bQ (S:=Int) (X:=Unit ⊕ Bool) (fun s8 =>
 (if s8<((dC p0).length:Int) then
 ((atI (dC p0) s8).bind fun v9 =>
 (((if 97≤v9 then
 some (decide (v9≤122))
 else
 some false):Option Bool).bind fun v10 =>
 (((if 48≤v9 then
 (if v9≤57 then
 some true
 else
 some (decide (v9=45)))
 else
 some (decide (v9=45))):Option Bool).bind fun v11 =>
 (((if (!v10)=true then
 (if s8=0 then
 some true
 else
 some (!v11))
 else
 some false):Option Bool).bind fun v12 =>
 (if v12=true then
 some (.inr (.inr false))
 else
 some (.inl (w64 (s8+1))))))))
 else
 some (.inr (.inl ())))) 0)):Option (Unit ⊕ Bool)).bind fun v13x=>orE v13x fun v13 =>
 some true)))
def bB (p0:Int) (p1:Int) (p2:Int):Option Bool :=
 (if p1≤p0 then
 some (decide (p0≤p2))
 else
 some false)
def jF (p0:aY) (p1:aY):Option Bool :=
 some (decide (p0.Name=p1.Name))
def bT (p0:List aY) (p1_0:aY):Option Int :=
 ((bQ (S:=Int) (X:=Unit ⊕ Int) (fun s4 =>
 (if s4<(p0.length:Int) then
 ((atI p0 s4).bind fun v5 =>
 ((jF v5 p1_0).bind fun v6 =>
 (if v6=true then
 some (.inr (.inr s4))
 else
 some (.inl (w64 (s4+1))))))
 else
 some (.inr (.inl ())))) 0:Option (Unit ⊕ Int)).bind fun v7x=>orE v7x fun v7 =>
 some (-1))
def aZ (p0:List aY) (p1_0:aY):Option Bool :=
 ((bT p0 p1_0).bind fun v1 =>
 some (decide (0≤v1)))
def vD (p0:Int) (p1:Int):Option Int :=
 ((bQ (S:=Int × Int) (X:=Int) (fun s3 =>
 (if s3.2≠0 then
 (chk (s3.2≠0) (
 some (.inl (s3.2,s3.1.tmod s3.2))))
 else
 some (.inr s3.1))) (p0,p1):Option Int).bind fun v5 =>
 (if v5<0 then
 some (w64 (-v5))
 else
 some v5))
def iF (p0:List aL):Option Int :=
 ((bQ (S:=Int × Int) (X:=Int) (fun s6 =>
 (if s6.2<(p0.length:Int) then
 ((((atI p0 s6.2).bind fun v7 =>
 (if s6.1≤2000 then
 ((vD s6.1 v7.Every).bind fun v8 =>
 (chk (v8≠0) (
 some (w64 ((w64 (s6.1.tdiv v8))*v7.Every)))))
 else
 some s6.1)):Option Int).bind fun v10 =>
 some (.inl (v10,w64 (s6.2+1))))
 else
 some (.inr s6.1))) (1,0):Option Int).bind fun v11 =>
 some v11)
def cY (p0:aC):Option Bool :=
 ((((kW p0.Name).bind fun v1 =>
 (if (!v1)=true then
 some true
 else
 (if (p0.Months.length:Int)<1 then
 some true
 else
 (if 20<(p0.Months.length:Int) then
 some true
 else
 (if 6<(p0.Rules.length:Int) then
 some true
 else
 ((bB p0.Week 1 12).bind fun v2 =>
 some (!v2))))))):Option Bool).bind fun v3 =>
 (if v3=true then
 some false
 else
 ((bQ (S:=Int) (X:=Unit ⊕ Bool) (fun s12 =>
 (if s12<(p0.Months.length:Int) then
 ((atI p0.Months s12).bind fun v13 =>
 ((((kW v13.Name).bind fun v14 =>
 (if (!v14)=true then
 some true
 else
 ((bB v13.Days 1 60).bind fun v15 =>
 (if (!v15)=true then
 some true
 else
 ((bB v13.Leap 1 60).bind fun v16 =>
 some (!v16)))))):Option Bool).bind fun v17 =>
 (if v17=true then
 some (.inr (.inr false))
 else
 (chk (0≤(0:Int)∧(0:Int)≤s12∧s12≤(p0.Months.length:Int)) (
 ((aZ (aFu p0.Months (0:Int) s12) v13).bind fun v19 =>
 (if v19=true then
 some (.inr (.inr false))
 else
 some (.inl (w64 (s12+1))))))))))
 else
 some (.inr (.inl ())))) 0:Option (Unit ⊕ Bool)).bind fun v20x=>orE v20x fun v20 =>
 ((bQ (S:=Int) (X:=Unit ⊕ Bool) (fun s26 =>
 (if s26<(p0.Rules.length:Int) then
 ((atI p0.Rules s26).bind fun v27 =>
 ((((bB v27.Every 1 1000).bind fun v28 =>
 (if (!v28)=true then
 some true
 else
 ((bB v27.Rest 0 (w64 (v27.Every-1))).bind fun v29 =>
 some (!v29)))):Option Bool).bind fun v30 =>
 (if v30=true then
 some (.inr (.inr false))
 else
 some (.inl (w64 (s26+1))))))
 else
 some (.inr (.inl ())))) 0:Option (Unit ⊕ Bool)).bind fun v31x=>orE v31x fun v31 =>
 ((iF p0.Rules).bind fun v32 =>
 some (decide (v32≤2000)))))))
def jH (p0:Int):Option Bool :=
 ((bB p0 6 240).bind fun v1 =>
 some v1)
def zI (p0:aC) (p1:Int):Option Bool :=
 (chk ((p0.Months.length:Int)≠0) (
 ((bB p1 1 (w64 ((260:Int).tdiv (p0.Months.length:Int)))).bind fun v2 =>
 some v2)))
def gJ (p0:aC) (p1:Int):Option Bool :=
 ((bQ (S:=Bool × Int) (X:=Bool) (fun s5 =>
 (if s5.2<(p0.Rules.length:Int) then
 ((((atI p0.Rules s5.2).bind fun v6 =>
 (chk (v6.Every≠0) (
 (if (p1.tmod v6.Every)=v6.Rest then
 some v6.Leap
 else
 some s5.1)))):Option Bool).bind fun v8 =>
 some (.inl (v8,w64 (s5.2+1))))
 else
 some (.inr s5.1))) (false,0):Option Bool).bind fun v9 =>
 some v9)
def iD (p0:aC) (p1:List Int):Option Int :=
 (chk ((p0.Months.length:Int)≠0) (
 (if ((p1.length:Int).tmod (p0.Months.length:Int))≠0 then
 some 0
 else
 (chk ((p0.Months.length:Int)≠0) (
 some (w64 ((p1.length:Int).tdiv (p0.Months.length:Int))))))))
def dH (p0:aC) (p1:Bool) (p2:Int):Option Int :=
 (if p1=true then
 ((atI p0.Months (w64 (p2-1))).bind fun v1 =>
 some v1.Leap)
 else
 ((atI p0.Months (w64 (p2-1))).bind fun v2 =>
 some v2.Days))
def mN (p0:aC) (p1:List Int) (p2:Int):Option (List fT) :=
 ((gJ p0 p2).bind fun v1 =>
 ((iD p0 p1).bind fun v2 =>
 (chk (v2≠0) (
 (chk (0≤(w64 ((p2.tmod v2)*(p0.Months.length:Int)))∧(w64 ((p2.tmod v2)*(p0.Months.length:Int)))≤(p1.length:Int)∧(p1.length:Int)≤(p1.length:Int)) (
 ((bQ (S:=Int × List fT) (X:=List fT) (fun s11 =>
 (if s11.1≤(p0.Months.length:Int) then
 ((((dH p0 v1 s11.1).bind fun v12 =>
 ((atI (aFu p1 (w64 ((p2.tmod v2)*(p0.Months.length:Int))) (p1.length:Int)) (w64 (s11.1-1))).bind fun v13 =>
 (if v13≠v12 then
 ((atI (aFu p1 (w64 ((p2.tmod v2)*(p0.Months.length:Int))) (p1.length:Int)) (w64 (s11.1-1))).bind fun v14 =>
 (chk ((s11.2.length+[(⟨p2,s11.1,v14,v12⟩:fT)].length)*4*64≤140737488355328) (
 some (s11.2++[(⟨p2,s11.1,v14,v12⟩:fT)]))))
 else
 some s11.2))):Option (List fT)).bind fun v16 =>
 some (.inl (w64 (s11.1+1),v16)))
 else
 some (.inr s11.2))) (1,([]:List fT)):Option (List fT)).bind fun v17 =>
 some v17)))))))
def tH (p0:aC) (p1:List Int):Option Int :=
 ((iD p0 p1).bind fun v1 =>
 ((iF p0.Rules).bind fun v2 =>
 ((vD v1 v2).bind fun v3 =>
 (chk (v3≠0) (
 ((bQ (S:=Int × Int) (X:=Int) (fun s7 =>
 (if s7.2<(w64 ((w64 (v1.tdiv v3))*v2)) then
 ((mN p0 p1 s7.2).bind fun v8 =>
 some (.inl (w64 (s7.1+(v8.length:Int)),w64 (s7.2+1))))
 else
 some (.inr s7.1))) (0,0):Option Int).bind fun v9 =>
 some v9))))))
def yZ (p0:aC) (p1:Int):Option (List Int × Int × Int) :=
 ((cY p0).bind fun v1 =>
 (if (!v1)=true then
 some (([]:List Int),0,1)
 else
 ((zI p0 p1).bind fun v2 =>
 (if (!v2)=true then
 some (([]:List Int),0,2)
 else
 ((iF p0.Rules).bind fun v3 =>
 ((vD p1 v3).bind fun v4 =>
 (chk (v4≠0) (
 (chk (0≤p1∧p1=p1∧p1.toNat*1*64≤281474976710656) (
 (chk (0≤p1∧p1=p1∧p1.toNat*1*64≤281474976710656) (
 ((bQ (S:=Int × List Int × List Int) (X:=List Int × List Int) (fun s17 =>
 (if s17.1<(w64 ((w64 (p1.tdiv v4))*v3)) then
 ((((gJ p0 s17.1).bind fun v18 =>
 (if v18=true then
 (chk (p1≠0) (
 ((atI s17.2.1 (s17.1.tmod p1)).bind fun v20 =>
 ((atI s17.2.1 (s17.1.tmod p1)).bind fun v21 =>
 some (List.set s17.2.1 (s17.1.tmod p1).toNat (w64 (v20+1)),s17.2.2)))))
 else
 (chk (p1≠0) (
 ((atI s17.2.2 (s17.1.tmod p1)).bind fun v23 =>
 ((atI s17.2.2 (s17.1.tmod p1)).bind fun v24 =>
 some (s17.2.1,List.set s17.2.2 (s17.1.tmod p1).toNat (w64 (v23+1))))))))):Option (List Int × List Int)).bind fun v25 =>
 some (.inl (w64 (s17.1+1),v25.1,v25.2)))
 else
 some (.inr (s17.2.1,s17.2.2)))) (0,List.replicate p1.toNat 0,List.replicate p1.toNat 0):Option (List Int × List Int)).bind fun v26 =>
 ((bQ (S:=Int × List Int) (X:=List Int) (fun s47 =>
 (if s47.1<(v26.1.length:Int) then
 ((bQ (S:=Int × List Int) (X:=List Int) (fun s57 =>
 (if s57.1<(p0.Months.length:Int) then
 ((atI p0.Months s57.1).bind fun v58 =>
 ((((((atI v26.1 s47.1).bind fun v59 =>
 ((atI v26.2 s47.1).bind fun v60 =>
 (if v60<v59 then
 some true
 else
 ((atI v26.1 s47.1).bind fun v61 =>
 ((atI v26.2 s47.1).bind fun v62 =>
 (if v61=v62 then
 some (decide (v58.Leap<v58.Days))
 else
 some false)))))):Option Bool).bind fun v63 =>
 (if v63=true then
 some v58.Leap
 else
 some v58.Days)):Option Int).bind fun v64 =>
 (chk ((s57.2.length+[v64].length)*1*64≤140737488355328) (
 some (.inl (w64 (s57.1+1),s57.2++[v64]))))))
 else
 some (.inr s57.2))) (0,s47.2):Option (List Int)).bind fun v66 =>
 some (.inl (w64 (s47.1+1),v66)))
 else
 some (.inr s47.2))) (0,([]:List Int)):Option (List Int)).bind fun v67 =>
 ((tH p0 v67).bind fun v68 =>
 some (v67,v68,0))))))))))))))))
def lC (p0:Int):Option Int :=
 (if p0<0 then
 some (IntKind.u64.wrap (-(IntKind.u64.wrap p0)))
 else
 some (IntKind.u64.wrap p0))
def rO (p0:Int) (p1:Int):Option (aB × Bool) :=
 ((lC p0).bind fun v1 =>
 ((lC p1).bind fun v2 =>
 ((bQ (S:=Int × Int) (X:=Int) (fun s5 =>
 (if s5.2≠0 then
 (chk (s5.2≠0) (
 some (.inl (s5.2,s5.1.tmod s5.2))))
 else
 some (.inr s5.1))) (v1,v2):Option Int).bind fun v7 =>
 (chk (v7≠0) (
 (chk (v7≠0) (
 (((if 1000000000<(IntKind.u64.wrap (v1.tdiv v7)) then
 some true
 else
 some (decide (1000000000<(IntKind.u64.wrap (v2.tdiv v7))))):Option Bool).bind fun v10 =>
 (if v10=true then
 some ((⟨0,0⟩:aB),false)
 else
 (((if ((decide (p0<0)) != (decide (p1<0)))=true then
 some (⟨w64 (-(w64 (IntKind.u64.wrap (v1.tdiv v7)))),w64 (IntKind.u64.wrap (v2.tdiv v7))⟩:aB)
 else
 some (⟨w64 (IntKind.u64.wrap (v1.tdiv v7)),w64 (IntKind.u64.wrap (v2.tdiv v7))⟩:aB)):Option aB).bind fun v11 =>
 some (v11,true)))))))))))
def fL (p0:Int) (p1:Int):Option (aB × Int) :=
 (if p1=0 then
 some ((⟨0,0⟩:aB),6)
 else
 ((rO p0 p1).bind fun v1 =>
 (if (!v1.2)=true then
 some ((⟨0,0⟩:aB),2)
 else
 some (v1.1,0))))
def bZ (p0:aB):Option Bool :=
 ((bB p0.Den 1 1000000000).bind fun v1 =>
 (if v1=true then
 ((bB p0.Num (-1000000000) 1000000000).bind fun v2 =>
 (if v2=true then
 ((vD p0.Num p0.Den).bind fun v3 =>
 some (decide (v3=1)))
 else
 some false))
 else
 some false))
def qP (p0:Int) (p1:Int):Option Bool :=
 (if 6≤p0 then
 (if p1≤120 then
 (if p0≤p1 then
 some (decide (p1≤(w64 (p0+30))))
 else
 some false)
 else
 some false)
 else
 some false)
def rH (p0:qX):Option Bool :=
 ((qP p0.LowDriver p0.HighDriver).bind fun v1 =>
 (if v1=true then
 ((qP p0.LowDriven p0.HighDriven).bind fun v2 =>
 (if v2=true then
 ((bB p0.Stages 1 3).bind fun v3 =>
 some v3)
 else
 some false))
 else
 some false))
def zF (p0:aB) (p1:qX):Option Int :=
 ((((bZ p0).bind fun v1 =>
 (if (!v1)=true then
 some true
 else
 ((rH p1).bind fun v2 =>
 some (!v2)))):Option Bool).bind fun v3 =>
 (if v3=true then
 some 1
 else
 (((if p0.Num≤0 then
 some true
 else
 (if 1000000<p0.Num then
 some true
 else
 some (decide (1000000<p0.Den)))):Option Bool).bind fun v4 =>
 (if v4=true then
 some 2
 else
 some 0))))
def aBw (p0 p1 p2:Int):Option aGq:=(chk (1≤p0∧p0≤p1∧p1≤120∧1≤p2∧p2≤3) (some ⟨oA (iY (bY p0 p1 p2.toNat)),aRn (bY p0 p1 p2.toNat)⟩))
def kU (p0:Int):Option Bool :=
 some (decide (p0≠p0))
def eN (p0:Int) (p1:Int):Option Int :=
 ((kU p0).bind fun v1 =>
 ((kU p1).bind fun v2 =>
 (if v1=true then
 (if v2=true then
 some 0
 else
 some (-1))
 else
 (if v2=true then
 some 1
 else
 (if p0<p1 then
 some (-1)
 else
 (if p1<p0 then
 some 1
 else
 some 0))))))
def nJ (p0:Int) (p1:Int) (p2:aB):Option Int :=
 ((eN (w64 (p0*p2.Num)) (w64 (p1*p2.Den))).bind fun v1 =>
 some v1)
def bX (p0:List Int) (p1:Int) (p2_0:aB):Option (Int × Bool) :=
 ((bQ (S:=Int × Int) (X:=Int) (fun s5 =>
 (if s5.1<s5.2 then
 ((atI p0 (w64 (aX7 .u64 (IntKind.u64.wrap (w64 (s5.1+s5.2))) 1))).bind fun v7 =>
 ((nJ v7 p1 p2_0).bind fun v8 =>
 (if v8<0 then
 some (.inl (w64 ((w64 (aX7 .u64 (IntKind.u64.wrap (w64 (s5.1+s5.2))) 1))+1),s5.2))
 else
 some (.inl (s5.1,w64 (aX7 .u64 (IntKind.u64.wrap (w64 (s5.1+s5.2))) 1))))))
 else
 some (.inr s5.1))) (0,(p0.length:Int)):Option Int).bind fun v9 =>
 (if v9<(p0.length:Int) then
 ((atI p0 v9).bind fun v10 =>
 ((nJ v10 p1 p2_0).bind fun v11 =>
 some (v9,decide (v11=0))))
 else
 some (v9,false)))
def wX (p0:Int):Option Int :=
 (if p0<0 then
 some (w64 (-p0))
 else
 some p0)
def aBu (p0:Int) (p1:Int) (p2:aB):Option uJ :=
 ((wX (w64 ((w64 (p0*p2.Den))-(w64 (p1*p2.Num))))).bind fun v1 =>
 some (⟨p0,p1,v1⟩:uJ))
def pA (p0:uJ) (p1:uJ):Option Int :=
 ((eN (w64 (p0.far*p1.q)) (w64 (p1.far*p0.q))).bind fun v1 =>
 some v1)
def bE (p0:List Int):Option (List Int) :=
 (chk ((([]:List Int).length+p0.length)*1*64≤140737488355328) (
 some (([]:List Int)++p0)))
def fI (p0:List Int):Option (List Int) :=
 bQ (S:=Int × Int × List Int) (X:=List Int) (fun s6 =>
 (if s6.1<s6.2.1 then
 ((atI s6.2.2 s6.2.1).bind fun v7 =>
 ((atI s6.2.2 s6.1).bind fun v8 =>
 ((atI s6.2.2 s6.1).bind fun v9 =>
 ((atI (List.set s6.2.2 s6.1.toNat v7) s6.2.1).bind fun v10 =>
 some (.inl (w64 (s6.1+1),w64 (s6.2.1-1),List.set (List.set s6.2.2 s6.1.toNat v7) s6.2.1.toNat v8))))))
 else
 some (.inr s6.2.2))) (0,w64 ((p0.length:Int)-1),p0)
def aBv (p0:List Int) (p1:List Int):Option (List dU) :=
 ((bQ (S:=Int × List dU) (X:=List dU) (fun s5 =>
 (if s5.1<(p0.length:Int) then
 ((atI p0 s5.1).bind fun v6 =>
 ((atI p1 s5.1).bind fun v7 =>
 (chk ((s5.2.length+[(⟨v6,v7⟩:dU)].length)*2*64≤140737488355328) (
 some (.inl (w64 (s5.1+1),s5.2++[(⟨v6,v7⟩:dU)]))))))
 else
 some (.inr s5.2))) (0,([]:List dU)):Option (List dU)).bind fun v9 =>
 some v9)
def vB (p0:List Int) (p1:List Int):Option (List dU) :=
 ((bE p0).bind fun v1 =>
 ((fI v1).bind fun v2 =>
 (chk (v2.length=v1.length) (
 ((aBv v2 p1).bind fun v4 =>
 some v4)))))
def vG (p0:List dU):Option Int :=
 ((bQ (S:=Int × Int) (X:=Int) (fun s3 =>
 (if s3.2<(p0.length:Int) then
 ((atI p0 s3.2).bind fun v4 =>
 some (.inl (w64 (s3.1+(w64 (v4.Driver+v4.Driven))),w64 (s3.2+1))))
 else
 some (.inr s3.1))) (0,0):Option Int).bind fun v5 =>
 some v5)
def wN (p0:List Int):Option Int :=
 ((bQ (S:=Int) (X:=Unit ⊕ Int) (fun s3 =>
 (if s3<(p0.length:Int) then
 ((atI p0 s3).bind fun v4 =>
 (if v4≠0 then
 some (.inr (.inr v4))
 else
 some (.inl (w64 (s3+1)))))
 else
 some (.inr (.inl ())))) 0:Option (Unit ⊕ Int)).bind fun v5x=>orE v5x fun v5 =>
 some 0)
def mC (p0:dU) (p1:dU):Option Int :=
 ((eN p0.Driver p1.Driver).bind fun v1 =>
 ((eN p0.Driven p1.Driven).bind fun v2 =>
 ((wN [v1,v2]).bind fun v3 =>
 some v3)))
def bW (p0:List dU) (p1:List dU):Option Int :=
 ((bQ (S:=Int) (X:=Unit ⊕ Int) (fun s5 =>
 (if s5<(p0.length:Int) then
 ((atI p0 s5).bind fun v6 =>
 (if (p1.length:Int)≤s5 then
 some (.inr (.inr 1))
 else
 ((atI p1 s5).bind fun v7 =>
 ((mC v6 v7).bind fun v8 =>
 (if v8≠0 then
 some (.inr (.inr v8))
 else
 some (.inl (w64 (s5+1))))))))
 else
 some (.inr (.inl ())))) 0:Option (Unit ⊕ Int)).bind fun v9x=>orE v9x fun v9 =>
 (if (p0.length:Int)<(p1.length:Int) then
 some (-1)
 else
 some 0))
def oO (p0:List dU) (p1:List dU):Option Int :=
 ((vG p0).bind fun v1 =>
 ((vG p1).bind fun v2 =>
 ((eN v1 v2).bind fun v3 =>
 (if v3≠0 then
 some v3
 else
 ((bW p0 p1).bind fun v4 =>
 some v4)))))
def vA (p0:aB) (p1:qX):Option (List dU) :=
 ((aBw p1.LowDriver p1.HighDriver p1.Stages).bind fun v1 =>
 ((aBw p1.LowDriven p1.HighDriven p1.Stages).bind fun v2 =>
 ((bQ (S:=Int × List uJ) (X:=List uJ) (fun s31 =>
 (if s31.1<(v1.products.length:Int) then
 ((((atI v1.products s31.1).bind fun v32 =>
 ((bX v2.products v32 p0).bind fun v33 =>
 bQ (S:=Int × List uJ) (X:=List uJ) (fun s47 =>
 (((if s47.1≤v33.1 then
 some (decide (s47.1<(v2.products.length:Int)))
 else
 some false):Option Bool).bind fun v48 =>
 (if v48=true then
 ((((atI v2.products s47.1).bind fun v49 =>
 ((aBu v32 v49 p0).bind fun v50 =>
 (((((if 0<(s47.2.length:Int) then
 ((atI s47.2 0).bind fun v51 =>
 ((pA v50 v51).bind fun v52 =>
 some (decide (v52<0))))
 else
 some false):Option Bool).bind fun v53 =>
 (if v53=true then
 some ([]:List uJ)
 else
 some s47.2)):Option (List uJ)).bind fun v54 =>
 (((if (v54.length:Int)=0 then
 some true
 else
 ((atI v54 0).bind fun v55 =>
 ((pA v50 v55).bind fun v56 =>
 some (decide (v56=0))))):Option Bool).bind fun v57 =>
 (if v57=true then
 (chk ((v54.length+[v50].length)*3*64≤140737488355328) (
 some (v54++[v50])))
 else
 some v54))))):Option (List uJ)).bind fun v59 =>
 some (.inl (w64 (s47.1+1),v59)))
 else
 some (.inr s47.2)))) (max (w64 (v33.1-1)) 0,s31.2))):Option (List uJ)).bind fun v60 =>
 some (.inl (w64 (s31.1+1),v60)))
 else
 some (.inr s31.2))) (0,([]:List uJ)):Option (List uJ)).bind fun v61 =>
 ((bQ (S:=List dU × Int) (X:=List dU) (fun s102 =>
 (if s102.2<(v61.length:Int) then
 ((((atI v61 s102.2).bind fun v103 =>
 (chk (-9223372036854775808≤v103.p∧v103.p≤9223372036854775807) (
 bQ (S:=List dU × Int) (X:=List dU) (fun s123 =>
 (if s123.2<((v1.lists v103.p).length:Int) then
 ((((atI (v1.lists v103.p) s123.2).bind fun v124 =>
 (chk (-9223372036854775808≤v103.q∧v103.q≤9223372036854775807) (
 bQ (S:=List dU × Int) (X:=List dU) (fun s133 =>
 (if s133.2<((v2.lists v103.q).length:Int) then
 ((((atI (v2.lists v103.q) s133.2).bind fun v134 =>
 ((vB v124 v134).bind fun v135 =>
 (((if s133.1=[] then
 some true
 else
 ((oO v135 s133.1).bind fun v136 =>
 some (decide (v136<0)))):Option Bool).bind fun v137 =>
 (if v137=true then
 (chk (v135≠[]) (
 some v135))
 else
 some s133.1)))):Option (List dU)).bind fun v139 =>
 some (.inl (v139,w64 (s133.2+1))))
 else
 some (.inr s133.1))) (s123.1,0)))):Option (List dU)).bind fun v140 =>
 some (.inl (v140,w64 (s123.2+1))))
 else
 some (.inr s123.1))) (s102.1,0)))):Option (List dU)).bind fun v141 =>
 some (.inl (v141,w64 (s102.2+1))))
 else
 some (.inr s102.1))) (([]:List dU),0):Option (List dU)).bind fun v142 =>
 some v142))))
def uZ (p0:dU):Option Bool :=
 ((jH p0.Driver).bind fun v1 =>
 (if v1=true then
 ((jH p0.Driven).bind fun v2 =>
 some v2)
 else
 some false))
def lN (p0:List dU):Option Bool :=
 ((bQ (S:=Int) (X:=Unit ⊕ Bool) (fun s4 =>
 (if s4<(p0.length:Int) then
 ((atI p0 s4).bind fun v5 =>
 ((uZ v5).bind fun v6 =>
 (if (!v6)=true then
 some (.inr (.inr false))
 else
 some (.inl (w64 (s4+1))))))
 else
 some (.inr (.inl ())))) 0:Option (Unit ⊕ Bool)).bind fun v7x=>orE v7x fun v7 =>
 some (decide ((p0.length:Int)≤5)))
def kK (p0:aB) (p1:aB):Option (aB × Int) :=
 ((((bZ p0).bind fun v1 =>
 (if (!v1)=true then
 some true
 else
 ((bZ p1).bind fun v2 =>
 some (!v2)))):Option Bool).bind fun v3 =>
 (if v3=true then
 some ((⟨0,0⟩:aB),1)
 else
 ((fL (w64 (p0.Num*p1.Num)) (w64 (p0.Den*p1.Den))).bind fun v4 =>
 some (v4.1,v4.2))))
def tK (p0:List dU):Option (aB × Int) :=
 ((bQ (S:=Int × aB) (X:=aB ⊕ (aB × Int)) (fun s5 =>
 (if s5.1<(p0.length:Int) then
 ((atI p0 s5.1).bind fun v6 =>
 ((fL (w64 (-v6.Driver)) v6.Driven).bind fun v7 =>
 ((kK s5.2 v7.1).bind fun v8 =>
 (if v8.2≠0 then
 some (.inr (.inr ((⟨0,0⟩:aB),v8.2)))
 else
 some (.inl (w64 (s5.1+1),v8.1))))))
 else
 some (.inr (.inl s5.2)))) (0,(⟨1,1⟩:aB)):Option (aB ⊕ (aB × Int))).bind fun v9x=>orE v9x fun v9 =>
 some (v9,0))
def mL (p0:aB) (p1:aB):Option (aB × Int) :=
 ((((bZ p0).bind fun v1 =>
 (if (!v1)=true then
 some true
 else
 ((bZ p1).bind fun v2 =>
 some (!v2)))):Option Bool).bind fun v3 =>
 (if v3=true then
 some ((⟨0,0⟩:aB),1)
 else
 ((fL (w64 ((w64 (p0.Num*p1.Den))-(w64 (p1.Num*p0.Den)))) (w64 (p0.Den*p1.Den))).bind fun v4 =>
 some (v4.1,v4.2))))
def qF (p0:List dU) (p1:aB):Option (aB × Int) :=
 ((tK p0).bind fun v1 =>
 (if v1.2≠0 then
 some ((⟨0,0⟩:aB),v1.2)
 else
 ((wX v1.1.Num).bind fun v2 =>
 ((mL (⟨v2,v1.1.Den⟩:aB) p1).bind fun v3 =>
 some (v3.1,v3.2)))))
def zA (p0:List dU) (p1:aB):Option (aB × Int) :=
 ((((lN p0).bind fun v1 =>
 (if (!v1)=true then
 some true
 else
 ((bZ p1).bind fun v2 =>
 some (!v2)))):Option Bool).bind fun v3 =>
 (if v3=true then
 some ((⟨0,0⟩:aB),1)
 else
 ((qF p0 p1).bind fun v4 =>
 ((wX v4.1.Num).bind fun v5 =>
 some ((⟨v5,v4.1.Den⟩:aB),v4.2)))))
def qN (p0:aB) (p1:qX):Option (aCb × Int) :=
 ((zF p0 p1).bind fun v1 =>
 (if v1≠0 then
 some ((⟨([]:List dU),(⟨0,0⟩:aB)⟩:aCb),v1)
 else
 ((vA p0 p1).bind fun v2 =>
 ((zA v2 p0).bind fun v3 =>
 (if v3.2≠0 then
 some ((⟨([]:List dU),(⟨0,0⟩:aB)⟩:aCb),v3.2)
 else
 some ((⟨v2,v3.1⟩:aCb),0))))))
def fO (p0:List bM):Option (List bM) :=
 (chk ((([]:List bM).length+p0.length)*4*64≤140737488355328) (
 some (([]:List bM)++p0)))
def nK (p0:aP):Option aP :=
 ((bQ (S:=Int × List cD) (X:=List cD) (fun s5 =>
 (if s5.1<(p0.Arbors.length:Int) then
 ((atI p0.Arbors s5.1).bind fun v6 =>
 ((bE v6.Wheels).bind fun v7 =>
 (chk ((s5.2.length+1)*2*64≤140737488355328) (
 some (.inl (w64 (s5.1+1),s5.2++[(⟨v6.Name,v7⟩:cD)]))))))
 else
 some (.inr s5.2))) (0,([]:List cD)):Option (List cD)).bind fun v9 =>
 ((fO p0.Meshes).bind fun v10 =>
 some (⟨v9,v10⟩:aP)))
def eX (p0:List aY):Option (List aY) :=
 (chk ((([]:List aY).length+p0.length)*3*64≤140737488355328) (
 some (([]:List aY)++p0)))
def dQ (p0:List aL):Option (List aL) :=
 (chk ((([]:List aL).length+p0.length)*3*64≤140737488355328) (
 some (([]:List aL)++p0)))
def fZ (p0:aG):Option aG :=
 ((nK p0.Works).bind fun v1 =>
 ((eX p0.Calendar.Months).bind fun v2 =>
 ((dQ p0.Calendar.Rules).bind fun v3 =>
 ((bE p0.Cam).bind fun v4 =>
 some (⟨p0.Name,v1,p0.Minute,p0.Hour,p0.Escape,p0.Teeth,p0.Beats,(⟨p0.Calendar.Name,v2,v3,p0.Calendar.Week⟩:aC),v4,p0.Strike⟩:aG)))))
def nD (p0:ByteArray) (p1:Int) (p2:Int) (p3:aC) (p4:Int):Option (aG × Int) :=
 ((cY p3).bind fun v1 =>
 (if (!v1)=true then
 some ((⟨(⟨#[]⟩:ByteArray),(⟨([]:List cD),([]:List bM)⟩:aP),0,0,0,0,0,(⟨(⟨#[]⟩:ByteArray),([]:List aY),([]:List aL),0⟩:aC),([]:List Int),0⟩:aG),1)
 else
 ((kW p0).bind fun v2 =>
 (if (!v2)=true then
 some ((⟨(⟨#[]⟩:ByteArray),(⟨([]:List cD),([]:List bM)⟩:aP),0,0,0,0,0,(⟨(⟨#[]⟩:ByteArray),([]:List aY),([]:List aL),0⟩:aC),([]:List Int),0⟩:aG),7)
 else
 ((((bB p1 1 36000).bind fun v3 =>
 (if (!v3)=true then
 some true
 else
 ((jH p2).bind fun v4 =>
 some (!v4)))):Option Bool).bind fun v5 =>
 (if v5=true then
 some ((⟨(⟨#[]⟩:ByteArray),(⟨([]:List cD),([]:List bM)⟩:aP),0,0,0,0,0,(⟨(⟨#[]⟩:ByteArray),([]:List aY),([]:List aL),0⟩:aC),([]:List Int),0⟩:aG),2)
 else
 ((yZ p3 p4).bind fun v6 =>
 (if v6.2.2≠0 then
 some ((⟨(⟨#[]⟩:ByteArray),(⟨([]:List cD),([]:List bM)⟩:aP),0,0,0,0,0,(⟨(⟨#[]⟩:ByteArray),([]:List aY),([]:List aL),0⟩:aC),([]:List Int),0⟩:aG),v6.2.2)
 else
 ((fL p1 (w64 (2*p2))).bind fun v7 =>
 (if v7.2≠0 then
 some ((⟨(⟨#[]⟩:ByteArray),(⟨([]:List cD),([]:List bM)⟩:aP),0,0,0,0,0,(⟨(⟨#[]⟩:ByteArray),([]:List aY),([]:List aL),0⟩:aC),([]:List Int),0⟩:aG),v7.2)
 else
 ((qN v7.1 (⟨60,84,7,10,2⟩:qX)).bind fun v8 =>
 (if v8.2≠0 then
 some ((⟨(⟨#[]⟩:ByteArray),(⟨([]:List cD),([]:List bM)⟩:aP),0,0,0,0,0,(⟨(⟨#[]⟩:ByteArray),([]:List aY),([]:List aL),0⟩:aC),([]:List Int),0⟩:aG),v8.2)
 else
 (if v8.1.Error.Num≠0 then
 some ((⟨(⟨#[]⟩:ByteArray),(⟨([]:List cD),([]:List bM)⟩:aP),0,0,0,0,0,(⟨(⟨#[]⟩:ByteArray),([]:List aY),([]:List aL),0⟩:aC),([]:List Int),0⟩:aG),3)
 else
 ((atI v8.1.Train 0).bind fun v9 =>
 ((atI v8.1.Train 1).bind fun v10 =>
 ((fZ (⟨p0,(⟨[(⟨(⟨#[99,101,110,116,101,114]⟩:ByteArray),[v9.Driver,12]⟩:cD),(⟨(⟨#[116,104,105,114,100]⟩:ByteArray),[v9.Driven,v10.Driver]⟩:cD),(⟨(⟨#[101,115,99,97,112,101]⟩:ByteArray),[v10.Driven]⟩:cD),(⟨(⟨#[109,105,110,117,116,101]⟩:ByteArray),[36,10]⟩:cD),(⟨(⟨#[104,111,117,114]⟩:ByteArray),[40]⟩:cD)],[(⟨0,0,1,0⟩:bM),(⟨1,1,2,0⟩:bM),(⟨0,1,3,0⟩:bM),(⟨3,1,4,0⟩:bM)]⟩:aP),0,4,2,p2,p1,p3,v6.1,2⟩:aG)).bind fun v11 =>
 some (v11,0)))))))))))))))))
def kP (p0:aP) (p1:Int):Option Bool :=
 ((bB p1 0 (w64 ((p0.Arbors.length:Int)-1))).bind fun v1 =>
 some v1)
def lT (p0:cD):Option Bool :=
 ((bQ (S:=Int) (X:=Unit ⊕ Bool) (fun s4 =>
 (if s4<(p0.Wheels.length:Int) then
 ((atI p0.Wheels s4).bind fun v5 =>
 ((jH v5).bind fun v6 =>
 (if (!v6)=true then
 some (.inr (.inr false))
 else
 some (.inl (w64 (s4+1))))))
 else
 some (.inr (.inl ())))) 0:Option (Unit ⊕ Bool)).bind fun v7x=>orE v7x fun v7 =>
 ((kW p0.Name).bind fun v8 =>
 (if v8=true then
 some (decide ((p0.Wheels.length:Int)≤5))
 else
 some false)))
def mO (p0:aP) (p1:Int) (p2:Int):Option Bool :=
 ((bB p1 0 (w64 ((p0.Arbors.length:Int)-1))).bind fun v1 =>
 (if v1=true then
 ((atI p0.Arbors p1).bind fun v2 =>
 ((bB p2 0 (w64 ((v2.Wheels.length:Int)-1))).bind fun v3 =>
 some v3))
 else
 some false))
def xD (p0:aP) (p1:bM):Option Bool :=
 (if p1.A≠p1.B then
 ((mO p0 p1.A p1.WheelA).bind fun v1 =>
 (if v1=true then
 ((mO p0 p1.B p1.WheelB).bind fun v2 =>
 some v2)
 else
 some false))
 else
 some false)
def pP (p0:bM) (p1:bM):Option Bool :=
 (if p0=p1 then
 some true
 else
 some (decide (p0=(⟨p1.B,p1.WheelB,p1.A,p1.WheelA⟩:bM))))
def lX (p0:bM) (p1:bM):Option Bool :=
 ((pP p1 p0).bind fun v1 =>
 some v1)
def cA (p0:List bM) (p1_0:bM):Option Int :=
 ((bQ (S:=Int) (X:=Unit ⊕ Int) (fun s4 =>
 (if s4<(p0.length:Int) then
 ((atI p0 s4).bind fun v5 =>
 ((lX v5 p1_0).bind fun v6 =>
 (if v6=true then
 some (.inr (.inr s4))
 else
 some (.inl (w64 (s4+1))))))
 else
 some (.inr (.inl ())))) 0:Option (Unit ⊕ Int)).bind fun v7x=>orE v7x fun v7 =>
 some (-1))
def bF (p0:List bM) (p1_0:bM):Option Bool :=
 ((cA p0 p1_0).bind fun v1 =>
 some (decide (0≤v1)))
def jS (p0:aP):Option Bool :=
 (((if 16<(p0.Arbors.length:Int) then
 some true
 else
 some (decide (24<(p0.Meshes.length:Int)))):Option Bool).bind fun v1 =>
 (if v1=true then
 some false
 else
 ((bQ (S:=Int) (X:=Unit ⊕ Bool) (fun s11 =>
 (if s11<(p0.Arbors.length:Int) then
 ((((atI p0.Arbors s11).bind fun v12 =>
 ((lT v12).bind fun v13 =>
 (if (!v13)=true then
 some (.inr (.inr (.inr false)))
 else
 (chk (0≤(0:Int)∧(0:Int)≤s11∧s11≤(p0.Arbors.length:Int)) (
 bQ (S:=Int) (X:=Unit ⊕ (Int ⊕ (Unit ⊕ Bool))) (fun s17 =>
 (if s17<((aFu p0.Arbors (0:Int) s11).length:Int) then
 ((atI (aFu p0.Arbors (0:Int) s11) s17).bind fun v18 =>
 (if v12.Name=v18.Name then
 some (.inr (.inr (.inr (.inr false))))
 else
 some (.inl (w64 (s17+1)))))
 else
 some (.inr (.inl ())))) 0))))):Option (Unit ⊕ (Int ⊕ (Unit ⊕ Bool)))).bind fun v19x=>orE v19x fun v19 =>
 some (.inl (w64 (s11+1))))
 else
 some (.inr (.inl ())))) 0:Option (Unit ⊕ Bool)).bind fun v20x=>orE v20x fun v20 =>
 ((bQ (S:=Int) (X:=Unit ⊕ Bool) (fun s27 =>
 (if s27<(p0.Meshes.length:Int) then
 ((atI p0.Meshes s27).bind fun v28 =>
 ((((xD p0 v28).bind fun v29 =>
 (if (!v29)=true then
 some true
 else
 (chk (0≤(0:Int)∧(0:Int)≤s27∧s27≤(p0.Meshes.length:Int)) (
 ((bF (aFu p0.Meshes (0:Int) s27) v28).bind fun v31 =>
 some v31))))):Option Bool).bind fun v32 =>
 (if v32=true then
 some (.inr (.inr false))
 else
 some (.inl (w64 (s27+1))))))
 else
 some (.inr (.inl ())))) 0:Option (Unit ⊕ Bool)).bind fun v33x=>orE v33x fun v33 =>
 some true))))
def jC (p0:List Int):Option Bool :=
 ((bQ (S:=Int) (X:=Unit ⊕ Bool) (fun s4 =>
 (if s4<(p0.length:Int) then
 ((atI p0 s4).bind fun v5 =>
 ((bB v5 1 60).bind fun v6 =>
 (if (!v6)=true then
 some (.inr (.inr false))
 else
 some (.inl (w64 (s4+1))))))
 else
 some (.inr (.inl ())))) 0:Option (Unit ⊕ Bool)).bind fun v7x=>orE v7x fun v7 =>
 (if 1≤(p0.length:Int) then
 some (decide ((p0.length:Int)≤260))
 else
 some false))
def eB (p0:aG):Option Bool :=
 ((((kP p0.Works p0.Minute).bind fun v1 =>
 (if v1=true then
 ((kP p0.Works p0.Hour).bind fun v2 =>
 (if v2=true then
 ((kP p0.Works p0.Escape).bind fun v3 =>
 some v3)
 else
 some false))
 else
 some false)):Option Bool).bind fun v4 =>
 ((((jH p0.Teeth).bind fun v5 =>
 (if v5=true then
 ((bB p0.Beats 1 36000).bind fun v6 =>
 (if v6=true then
 ((bB p0.Strike 0 2).bind fun v7 =>
 some v7)
 else
 some false))
 else
 some false)):Option Bool).bind fun v8 =>
 (if v4=true then
 (if v8=true then
 ((kW p0.Name).bind fun v9 =>
 (if v9=true then
 ((jS p0.Works).bind fun v10 =>
 (if v10=true then
 ((cY p0.Calendar).bind fun v11 =>
 (if v11=true then
 ((jC p0.Cam).bind fun v12 =>
 some v12)
 else
 some false))
 else
 some false))
 else
 some false))
 else
 some false)
 else
 some false)))
def mR (p0:aP) (p1:bM):Option dU :=
 ((atI p0.Arbors p1.A).bind fun v1 =>
 ((atI v1.Wheels p1.WheelA).bind fun v2 =>
 ((atI p0.Arbors p1.B).bind fun v3 =>
 ((atI v3.Wheels p1.WheelB).bind fun v4 =>
 some (⟨v2,v4⟩:dU)))))
def mQ (p0:aB) (p1:Int) (p2:Int):Option (aB × Int) :=
 ((fL (w64 (-p1)) p2).bind fun v1 =>
 ((kK p0 v1.1).bind fun v2 =>
 some (v2.1,v2.2)))
def lS (p0:aP) (p1:Int):Option (List aB × Int) :=
 (chk (0≤(p0.Arbors.length:Int)∧(p0.Arbors.length:Int)=(p0.Arbors.length:Int)∧(p0.Arbors.length:Int).toNat*2*64≤281474976710656) (
 ((atI (List.replicate (p0.Arbors.length:Int).toNat (⟨0,0⟩:aB)) p1).bind fun v2 =>
 ((bQ (S:=Bool × List aB) (X:=(List aB) ⊕ (List aB × Int)) (fun s28 =>
 (if s28.1=true then
 bQ (S:=Bool × Int × List aB) (X:=(Bool × List aB) ⊕ ((List aB) ⊕ (List aB × Int))) (fun s41 =>
 (if s41.2.1<(p0.Meshes.length:Int) then
 ((((atI p0.Meshes s41.2.1).bind fun v42 =>
 ((mR p0 v42).bind fun v43 =>
 ((((atI s41.2.2 v42.A).bind fun v44 =>
 (if v44.Den=0 then
 some (v42.B,v42.A,(⟨v43.Driven,v43.Driver⟩:dU))
 else
 some (v42.A,v42.B,v43))):Option (Int × Int × dU)).bind fun v45 =>
 ((((atI s41.2.2 v45.1).bind fun v46 =>
 (if v46.Den=0 then
 some true
 else
 ((atI s41.2.2 v45.2.1).bind fun v47 =>
 some (decide (v47.Den≠0))))):Option Bool).bind fun v48 =>
 (if v48=true then
 some (.inl (s41.1,s41.2.2))
 else
 ((atI s41.2.2 v45.1).bind fun v49 =>
 ((mQ v49 v45.2.2.Driver v45.2.2.Driven).bind fun v50 =>
 (if v50.2≠0 then
 some (.inr (.inr (.inr (.inr (([]:List aB),v50.2)))))
 else
 ((atI s41.2.2 v45.2.1).bind fun v51 =>
 some (.inl (true,List.set s41.2.2 v45.2.1.toNat v50.1))))))))))):Option ((Bool × List aB) ⊕ ((Bool × Int × List aB) ⊕ ((Bool × List aB) ⊕ ((List aB) ⊕ (List aB × Int)))))).bind fun v52x=>orE v52x fun v52 =>
 some (.inl (v52.1,w64 (s41.2.1+1),v52.2)))
 else
 some (.inr (.inl (s41.1,s41.2.2))))) (false,0,s28.2)
 else
 some (.inr (.inl s28.2)))) (true,List.set (List.replicate (p0.Arbors.length:Int).toNat (⟨0,0⟩:aB)) p1.toNat (⟨1,1⟩:aB)):Option ((List aB) ⊕ (List aB × Int))).bind fun v53x=>orE v53x fun v53 =>
 some (v53,0)))))
def oZ (p0:aB):Option Bool :=
 some (decide (p0.Den=0))
def cC (p0:List aB):Option Int :=
 ((bQ (S:=Int) (X:=Unit ⊕ Int) (fun s4 =>
 (if s4<(p0.length:Int) then
 ((atI p0 s4).bind fun v5 =>
 ((oZ v5).bind fun v6 =>
 (if v6=true then
 some (.inr (.inr s4))
 else
 some (.inl (w64 (s4+1))))))
 else
 some (.inr (.inl ())))) 0:Option (Unit ⊕ Int)).bind fun v7x=>orE v7x fun v7 =>
 some (-1))
def bG (p0:List aB):Option Bool :=
 ((cC p0).bind fun v1 =>
 some (decide (0≤v1)))
def mK (p0:aP) (p1:Int):Option (List aB × Int) :=
 ((jS p0).bind fun v1 =>
 (if (!v1)=true then
 some (([]:List aB),1)
 else
 ((bB p1 0 (w64 ((p0.Arbors.length:Int)-1))).bind fun v2 =>
 (if (!v2)=true then
 some (([]:List aB),2)
 else
 ((lS p0 p1).bind fun v3 =>
 (if v3.2≠0 then
 some (([]:List aB),v3.2)
 else
 ((bG v3.1).bind fun v4 =>
 (if v4=true then
 some (([]:List aB),6)
 else
 ((bQ (S:=Int) (X:=Unit ⊕ (List aB × Int)) (fun s12 =>
 (if s12<(p0.Meshes.length:Int) then
 ((atI p0.Meshes s12).bind fun v13 =>
 ((mR p0 v13).bind fun v14 =>
 ((atI v3.1 v13.A).bind fun v15 =>
 ((mQ v15 v14.Driver v14.Driven).bind fun v16 =>
 (((if v16.2≠0 then
 some true
 else
 ((atI v3.1 v13.B).bind fun v17 =>
 some (decide (v16.1≠v17)))):Option Bool).bind fun v18 =>
 (if v18=true then
 some (.inr (.inr (([]:List aB),10)))
 else
 some (.inl (w64 (s12+1)))))))))
 else
 some (.inr (.inl ())))) 0:Option (Unit ⊕ (List aB × Int))).bind fun v19x=>orE v19x fun v19 =>
 some (v3.1,0))))))))))
def iB (p0:aG):Option (List ByteArray) :=
 ((eB p0).bind fun v1 =>
 (if (!v1)=true then
 some [(⟨#[109,111,118,101,109,101,110,116]⟩:ByteArray)]
 else
 ((mK p0.Works p0.Minute).bind fun v2 =>
 (((if v2.2≠0 then
 (chk ([(⟨#[119,111,114,107,115]⟩:ByteArray)].length*1*64≤140737488355328) (
 some [(⟨#[119,111,114,107,115]⟩:ByteArray)]))
 else
 ((((atI v2.1 p0.Hour).bind fun v4 =>
 (if v4≠(⟨1,12⟩:aB) then
 (chk ([(⟨#[104,111,117,114]⟩:ByteArray)].length*1*64≤140737488355328) (
 some [(⟨#[104,111,117,114]⟩:ByteArray)]))
 else
 some ([]:List ByteArray))):Option (List ByteArray)).bind fun v6 =>
 ((atI v2.1 p0.Escape).bind fun v7 =>
 ((wX v7.Num).bind fun v8 =>
 (if (w64 ((w64 (2*p0.Teeth))*v8))≠(w64 (p0.Beats*v7.Den)) then
 (chk ((v6.length+[(⟨#[98,101,97,116,115]⟩:ByteArray)].length)*1*64≤140737488355328) (
 some (v6++[(⟨#[98,101,97,116,115]⟩:ByteArray)])))
 else
 some v6))))):Option (List ByteArray)).bind fun v10 =>
 ((((iD p0.Calendar p0.Cam).bind fun v11 =>
 (if v11=0 then
 (chk ((v10.length+[(⟨#[99,97,109]⟩:ByteArray)].length)*1*64≤140737488355328) (
 some (v10++[(⟨#[99,97,109]⟩:ByteArray)])))
 else
 some v10)):Option (List ByteArray)).bind fun v13 =>
 some v13)))))
def mM (p0:aC) (p1:List Int):Option Int :=
 ((((cY p0).bind fun v1 =>
 (if (!v1)=true then
 some true
 else
 ((jC p1).bind fun v2 =>
 some (!v2)))):Option Bool).bind fun v3 =>
 (if v3=true then
 some 1
 else
 ((iD p0 p1).bind fun v4 =>
 (if v4=0 then
 some 6
 else
 some 0))))
def gL (p0:Int):Option Bool :=
 ((bB p0 0 9999).bind fun v1 =>
 some v1)
def mE (p0:aC) (p1:Int):Option Bool :=
 ((bB p1 1 (p0.Months.length:Int)).bind fun v1 =>
 some v1)
def jG (p0:aC) (p1:aS):Option Bool :=
 ((cY p0).bind fun v1 =>
 (if v1=true then
 ((gL p1.Year).bind fun v2 =>
 (if v2=true then
 ((mE p0 p1.Month).bind fun v3 =>
 (if v3=true then
 ((gJ p0 p1.Year).bind fun v4 =>
 ((dH p0 v4 p1.Month).bind fun v5 =>
 ((bB p1.Day 1 v5).bind fun v6 =>
 some v6)))
 else
 some false))
 else
 some false))
 else
 some false))
def dM (p0:List Int):Option Int :=
 (((if (p0.length:Int)<1 then
 none
 else
 some ()):Option Unit).bind fun v1 =>
 ((atI p0 0).bind fun v2 =>
 ((bQ (S:=Int × Int) (X:=Int) (fun s5 =>
 (if s5.2<(p0.length:Int) then
 ((atI p0 s5.2).bind fun v6 =>
 some (.inl (max s5.1 v6,w64 (s5.2+1))))
 else
 some (.inr s5.1))) (v2,1):Option Int).bind fun v7 =>
 some v7)))
def fY (p0:aC) (p1:List Int) (p2:aS) (p3:Int):Option (aD × Int) :=
 ((mM p0 p1).bind fun v1 =>
 (if v1≠0 then
 some ((⟨([]:List Int),0,0,0,0,0,0⟩:aD),v1)
 else
 ((((jG p0 p2).bind fun v2 =>
 (if (!v2)=true then
 some true
 else
 ((bB p3 1 p0.Week).bind fun v3 =>
 some (!v3)))):Option Bool).bind fun v4 =>
 (if v4=true then
 some ((⟨([]:List Int),0,0,0,0,0,0⟩:aD),2)
 else
 ((dM p1).bind fun v5 =>
 ((bQ (S:=Int × Int) (X:=Int) (fun s8 =>
 (if s8.2<(p0.Months.length:Int) then
 ((atI p0.Months s8.2).bind fun v9 =>
 some (.inl (max (max s8.1 v9.Days) v9.Leap,w64 (s8.2+1))))
 else
 some (.inr s8.1))) (v5,0):Option Int).bind fun v10 =>
 ((bE p1).bind fun v11 =>
 ((iD p0 p1).bind fun v12 =>
 (chk (v12≠0) (
 some ((⟨v11,(p0.Months.length:Int),v10,w64 ((w64 ((w64 ((p2.Year.tmod v12)*(p0.Months.length:Int)))+p2.Month))-1),p2.Day,p0.Week,p3⟩:aD),0)))))))))))
def mJ (p0:aG) (p1:aS) (p2:Int):Option (cH × Int) :=
 ((eB p0).bind fun v1 =>
 (if (!v1)=true then
 some ((⟨(⟨(⟨#[]⟩:ByteArray),(⟨([]:List cD),([]:List bM)⟩:aP),0,0,0,0,0,(⟨(⟨#[]⟩:ByteArray),([]:List aY),([]:List aL),0⟩:aC),([]:List Int),0⟩:aG),(⟨0,0,0⟩:aS),0,0,(⟨([]:List Int),0,0,0,0,0,0⟩:aD)⟩:cH),1)
 else
 ((iB p0).bind fun v2 =>
 (if 0<(v2.length:Int) then
 some ((⟨(⟨(⟨#[]⟩:ByteArray),(⟨([]:List cD),([]:List bM)⟩:aP),0,0,0,0,0,(⟨(⟨#[]⟩:ByteArray),([]:List aY),([]:List aL),0⟩:aC),([]:List Int),0⟩:aG),(⟨0,0,0⟩:aS),0,0,(⟨([]:List Int),0,0,0,0,0,0⟩:aD)⟩:cH),6)
 else
 ((fY p0.Calendar p0.Cam p1 p2).bind fun v3 =>
 (if v3.2≠0 then
 some ((⟨(⟨(⟨#[]⟩:ByteArray),(⟨([]:List cD),([]:List bM)⟩:aP),0,0,0,0,0,(⟨(⟨#[]⟩:ByteArray),([]:List aY),([]:List aL),0⟩:aC),([]:List Int),0⟩:aG),(⟨0,0,0⟩:aS),0,0,(⟨([]:List Int),0,0,0,0,0,0⟩:aD)⟩:cH),v3.2)
 else
 ((fZ p0).bind fun v4 =>
 some ((⟨v4,p1,p2,0,v3.1⟩:cH),0))))))))
def oN (p0:Int) (p1:Int) (p2:ByteArray) (p3:Int) (p4:Int):Option (cH × Int) :=
 ((oI p2).bind fun v1 =>
 (if v1.2≠0 then
 some ((⟨(⟨(⟨#[]⟩:ByteArray),(⟨([]:List cD),([]:List bM)⟩:aP),0,0,0,0,0,(⟨(⟨#[]⟩:ByteArray),([]:List aY),([]:List aL),0⟩:aC),([]:List Int),0⟩:aG),(⟨0,0,0⟩:aS),0,0,(⟨([]:List Int),0,0,0,0,0,0⟩:aD)⟩:cH),v1.2)
 else
 ((nD (⟨#[99,108,111,99,107]⟩:ByteArray) p0 p1 v1.1 p3).bind fun v2 =>
 (if v2.2≠0 then
 some ((⟨(⟨(⟨#[]⟩:ByteArray),(⟨([]:List cD),([]:List bM)⟩:aP),0,0,0,0,0,(⟨(⟨#[]⟩:ByteArray),([]:List aY),([]:List aL),0⟩:aC),([]:List Int),0⟩:aG),(⟨0,0,0⟩:aS),0,0,(⟨([]:List Int),0,0,0,0,0,0⟩:aD)⟩:cH),v2.2)
 else
 ((mJ v2.1 (⟨2000,1,1⟩:aS) p4).bind fun v3 =>
 some (v3.1,v3.2))))))
def kL  : Option jE :=
 ((oN 3600 30 (⟨#[103,114,101,103,111,114,105,97,110]⟩:ByteArray) 4 6).bind fun v1 =>
 some (⟨v1.1⟩:jE))
def eT (p0:aD):Option Bool :=
 ((((jC p0.Cam).bind fun v1 =>
 (if (!v1)=true then
 some true
 else
 (if p0.Months<1 then
 some true
 else
 (chk (p0.Months≠0) (
 some (decide (((p0.Cam.length:Int).tmod p0.Months)≠0))))))):Option Bool).bind fun v3 =>
 (if v3=true then
 some false
 else
 (((if 60<p0.Teeth then
 some true
 else
 ((dM p0.Cam).bind fun v4 =>
 some (decide (p0.Teeth<v4)))):Option Bool).bind fun v5 =>
 (if v5=true then
 some false
 else
 ((bB p0.At 0 (w64 ((p0.Cam.length:Int)-1))).bind fun v6 =>
 (if v6=true then
 ((bB p0.Day 1 p0.Teeth).bind fun v7 =>
 (if v7=true then
 ((bB p0.Week 1 12).bind fun v8 =>
 (if v8=true then
 ((bB p0.Weekday 1 p0.Week).bind fun v9 =>
 some v9)
 else
 some false))
 else
 some false))
 else
 some false))))))
def dZ (p0:List Int) (p1:List Int):Option Bool :=
 (if (p0.length:Int)≠(p1.length:Int) then
 some false
 else
 ((bQ (S:=Int) (X:=Unit ⊕ Bool) (fun s4 =>
 (if s4<(p0.length:Int) then
 ((atI p0 s4).bind fun v5 =>
 ((atI p1 s4).bind fun v6 =>
 (if v5≠v6 then
 some (.inr (.inr false))
 else
 some (.inl (w64 (s4+1))))))
 else
 some (.inr (.inl ())))) 0:Option (Unit ⊕ Bool)).bind fun v7x=>orE v7x fun v7 =>
 some true))
def eQ (p0:cH):Option Bool :=
 ((mJ p0.Movement p0.Start p0.First).bind fun v1 =>
 (((if v1.2≠0 then
 some true
 else
 ((bB p0.Clock 0 1000000000).bind fun v2 =>
 (if (!v2)=true then
 some true
 else
 ((eT p0.Dial).bind fun v3 =>
 some (!v3))))):Option Bool).bind fun v4 =>
 (if v4=true then
 some false
 else
 ((dZ p0.Dial.Cam v1.1.Dial.Cam).bind fun v5 =>
 (if v5=true then
 (if p0.Dial.Months=v1.1.Dial.Months then
 (if p0.Dial.Teeth=v1.1.Dial.Teeth then
 some (decide (p0.Dial.Week=v1.1.Dial.Week))
 else
 some false)
 else
 some false)
 else
 some false)))))
def kZ (p0:jE):Option Bool :=
 ((eQ p0.Sim).bind fun v1 =>
 some v1)
def nV (p0 p1:ByteArray):Option Int:=(chk (p1.size=1) (some (Lib.countByte p0.data.toList (p1.data.toList.headD 0))))
def eR (p0 p1:ByteArray):Option Int:=(chk (p1.size=1) (some (Lib.indexByte p0.data.toList (p1.data.toList.headD 0))))
def iZ (p0:ByteArray) (p1:ByteArray):Option Int :=
 ((eR p0 p1).bind fun v1 =>
 some v1)
def kC (p0:ByteArray) (p1:ByteArray) (p2:Int) (p3:Int):Option (List ByteArray) :=
 (if p3=0 then
 some ([]:List ByteArray)
 else
 (if p1=(⟨#[]⟩:ByteArray) then
 none
 else
 (((if p3<0 then
 ((nV p0 p1).bind fun v1 =>
 some (w64 (v1+1)))
 else
 some p3):Option Int).bind fun v2 =>
 (chk (0≤(min v2 (w64 ((p0.size:Int)+1)))∧(min v2 (w64 ((p0.size:Int)+1)))=(min v2 (w64 ((p0.size:Int)+1)))∧(min v2 (w64 ((p0.size:Int)+1))).toNat*1*64≤281474976710656) (
 ((bQ (S:=ByteArray × Int × List ByteArray) (X:=ByteArray × Int × List ByteArray) (fun s9 =>
 (if s9.2.1<(w64 ((min v2 (w64 ((p0.size:Int)+1)))-1)) then
 ((iZ s9.1 p1).bind fun v10 =>
 (if v10<0 then
 some (.inr (s9.1,s9.2.1,s9.2.2))
 else
 (chk (0≤(0:Int)∧(0:Int)≤(w64 (v10+p2))∧(w64 (v10+p2))≤(s9.1.size:Int)) (
 ((atI s9.2.2 s9.2.1).bind fun v12 =>
 (chk (0≤(w64 (v10+(p1.size:Int)))∧(w64 (v10+(p1.size:Int)))≤(s9.1.size:Int)∧(s9.1.size:Int)≤(s9.1.size:Int)) (
 some (.inl (s9.1.extract (w64 (v10+(p1.size:Int))).toNat (s9.1.size:Int).toNat,w64 (s9.2.1+1),List.set s9.2.2 s9.2.1.toNat (s9.1.extract (0:Int).toNat (w64 (v10+p2)).toNat))))))))))
 else
 some (.inr (s9.1,s9.2.1,s9.2.2)))) (p0,0,List.replicate (min v2 (w64 ((p0.size:Int)+1))).toNat (⟨#[]⟩:ByteArray)):Option (ByteArray × Int × List ByteArray)).bind fun v14 =>
 ((atI v14.2.2 v14.2.1).bind fun v15 =>
 (chk (0≤(w64 (v14.2.1+1))∧(w64 (v14.2.1+1))≤((List.set v14.2.2 v14.2.1.toNat v14.1).length:Int)) (
 some (List.take (w64 (v14.2.1+1)).toNat (List.set v14.2.2 v14.2.1.toNat v14.1)))))))))))
def fQ (p0:ByteArray) (p1:ByteArray):Option (List ByteArray) :=
 ((kC p0 p1 0 (-1)).bind fun v1 =>
 some v1)
def rR (p0:ByteArray):Option (List ByteArray) :=
 ((fQ p0 (⟨#[32]⟩:ByteArray)).bind fun v1 =>
 some v1)
def qO  : Option (List ByteArray) :=
 some [(⟨#[99,111,114,114,101,99,116]⟩:ByteArray),(⟨#[100,101,115,105,103,110]⟩:ByteArray),(⟨#[102,97,117,108,116,115]⟩:ByteArray),(⟨#[104,97,110,100,115]⟩:ByteArray),(⟨#[110,101,97,114]⟩:ByteArray),(⟨#[112,97,114,116,115]⟩:ByteArray),(⟨#[112,97,116,104]⟩:ByteArray),(⟨#[112,117,115,104]⟩:ByteArray),(⟨#[114,105,103,104,116]⟩:ByteArray),(⟨#[114,117,110]⟩:ByteArray),(⟨#[115,101,116]⟩:ByteArray),(⟨#[115,104,111,119]⟩:ByteArray),(⟨#[115,112,101,101,100,115]⟩:ByteArray),(⟨#[116,101,114,109,115]⟩:ByteArray),(⟨#[116,114,97,105,110]⟩:ByteArray),(⟨#[119,114,111,110,103]⟩:ByteArray)]
def gA (p0:List ByteArray) (p1:ByteArray):Option Int :=
 ((bQ (S:=Int) (X:=Unit ⊕ Int) (fun s3 =>
 (if s3<(p0.length:Int) then
 ((atI p0 s3).bind fun v4 =>
 (if p1=v4 then
 some (.inr (.inr s3))
 else
 some (.inl (w64 (s3+1)))))
 else
 some (.inr (.inl ())))) 0:Option (Unit ⊕ Int)).bind fun v5x=>orE v5x fun v5 =>
 some (-1))
def aE (p0:List ByteArray) (p1:ByteArray):Option Bool :=
 ((gA p0 p1).bind fun v1 =>
 some (decide (0≤v1)))
def rM (p0:ByteArray):Option ByteArray :=
 (if p0=(⟨#[100,101,115,105,103,110]⟩:ByteArray) then
 some (⟨#[110,110,119,110]⟩:ByteArray)
 else
 (if p0=(⟨#[102,97,117,108,116,115]⟩:ByteArray) then
 some (⟨#[110,110]⟩:ByteArray)
 else
 (if p0=(⟨#[110,101,97,114]⟩:ByteArray) then
 some (⟨#[114,110]⟩:ByteArray)
 else
 (((if p0=(⟨#[112,97,116,104]⟩:ByteArray) then
 some (decide (p0=(⟨#[112,97,116,104]⟩:ByteArray)))
 else
 some (decide (p0=(⟨#[116,101,114,109,115]⟩:ByteArray)))):Option Bool).bind fun v1 =>
 (if v1=true then
 some (⟨#[114]⟩:ByteArray)
 else
 (((if p0=(⟨#[112,117,115,104]⟩:ByteArray) then
 some (decide (p0=(⟨#[112,117,115,104]⟩:ByteArray)))
 else
 (if p0=(⟨#[114,117,110]⟩:ByteArray) then
 some (decide (p0=(⟨#[114,117,110]⟩:ByteArray)))
 else
 some (decide (p0=(⟨#[119,114,111,110,103]⟩:ByteArray))))):Option Bool).bind fun v2 =>
 (if v2=true then
 some (⟨#[110]⟩:ByteArray)
 else
 (if p0=(⟨#[115,101,116]⟩:ByteArray) then
 some (⟨#[100,110]⟩:ByteArray)
 else
 (if p0=(⟨#[116,114,97,105,110]⟩:ByteArray) then
 some (⟨#[114,110,110,110,110,110]⟩:ByteArray)
 else
 some (⟨#[]⟩:ByteArray))))))))))
def kM (p0:ByteArray):Option (Int × Bool):=(chk (p0.size≤281474976710656) (some (aNi p0)))
def gY (p0:ByteArray) (p1:ByteArray):Option (ByteArray × ByteArray × Bool) :=
 ((eR p0 p1).bind fun v1 =>
 (if 0≤v1 then
 (chk (0≤(0:Int)∧(0:Int)≤v1∧v1≤(p0.size:Int)) (
 (chk (0≤(w64 (v1+(p1.size:Int)))∧(w64 (v1+(p1.size:Int)))≤(p0.size:Int)∧(p0.size:Int)≤(p0.size:Int)) (
 some (p0.extract (0:Int).toNat v1.toNat,p0.extract (w64 (v1+(p1.size:Int))).toNat (p0.size:Int).toNat,true)))))
 else
 some (p0,(⟨#[]⟩:ByteArray),false)))
def vU (p0:ByteArray) (p1:ByteArray):Option (ByteArray × ByteArray × Bool) :=
 ((gY p0 p1).bind fun v1 =>
 some (v1.1,v1.2.1,v1.2.2))
def fM (p0:aB):Option ByteArray :=
 ((bZ p0).bind fun v1 =>
 (if (!v1)=true then
 some (⟨#[]⟩:ByteArray)
 else
 (if p0.Den=1 then
 ((bC p0.Num).bind fun v2 =>
 some v2)
 else
 ((bC p0.Num).bind fun v3 =>
 (chk (v3.size+(⟨#[47]⟩:ByteArray).size≤9223372036854775807) (
 ((bC p0.Den).bind fun v5 =>
 (chk ((v3++(⟨#[47]⟩:ByteArray)).size+v5.size≤9223372036854775807) (
 some ((v3++(⟨#[47]⟩:ByteArray))++v5))))))))))
def uV (p0:ByteArray):Option (aB × Bool) :=
 ((vU p0 (⟨#[47]⟩:ByteArray)).bind fun v1 =>
 ((kM v1.1).bind fun v2 =>
 (((if v1.2.2=true then
 ((kM v1.2.1).bind fun v3 =>
 (if v2.2=true then
 some (v3.2,v3.1)
 else
 some (false,v3.1)))
 else
 some (v2.2,1)):Option (Bool × Int)).bind fun v4 =>
 (((if (!v4.1)=true then
 some true
 else
 ((fM (⟨v2.1,v4.2⟩:aB)).bind fun v5 =>
 some (decide (v5≠p0)))):Option Bool).bind fun v6 =>
 (if v6=true then
 some ((⟨0,0⟩:aB),false)
 else
 some ((⟨v2.1,v4.2⟩:aB),true))))))
def kJ (p0:aS):Option ByteArray :=
 ((((gL p0.Year).bind fun v1 =>
 (if (!v1)=true then
 some true
 else
 ((gL p0.Month).bind fun v2 =>
 (if (!v2)=true then
 some true
 else
 ((gL p0.Day).bind fun v3 =>
 some (!v3)))))):Option Bool).bind fun v4 =>
 (if v4=true then
 some (⟨#[]⟩:ByteArray)
 else
 ((bC p0.Year).bind fun v5 =>
 (chk (v5.size+(⟨#[45]⟩:ByteArray).size≤9223372036854775807) (
 ((bC p0.Month).bind fun v7 =>
 (chk ((v5++(⟨#[45]⟩:ByteArray)).size+v7.size≤9223372036854775807) (
 (chk (((v5++(⟨#[45]⟩:ByteArray))++v7).size+(⟨#[45]⟩:ByteArray).size≤9223372036854775807) (
 ((bC p0.Day).bind fun v10 =>
 (chk ((((v5++(⟨#[45]⟩:ByteArray))++v7)++(⟨#[45]⟩:ByteArray)).size+v10.size≤9223372036854775807) (
 some ((((v5++(⟨#[45]⟩:ByteArray))++v7)++(⟨#[45]⟩:ByteArray))++v10))))))))))))))
def wV (p0:ByteArray):Option (aS × Bool) :=
 ((fQ p0 (⟨#[45]⟩:ByteArray)).bind fun v1 =>
 (if (v1.length:Int)≠3 then
 some ((⟨0,0,0⟩:aS),false)
 else
 ((bQ (S:=Int × (Int × Int × Int)) (X:=Int × Int × Int) (fun s6 =>
 (if s6.1<(v1.length:Int) then
 ((atI v1 s6.1).bind fun v7 =>
 ((kM v7).bind fun v8 =>
 (chk (0≤s6.1∧s6.1<((3:Nat):Int)) (
 some (.inl (w64 (s6.1+1),bDs s6.1.toNat v8.1 s6.2))))))
 else
 some (.inr s6.2))) (0,((0,0,0):Int × Int × Int)):Option (Int × Int × Int)).bind fun v11 =>
 ((kJ (⟨v11.1,v11.2.1,v11.2.2⟩:aS)).bind fun v15 =>
 (if v15≠p0 then
 some ((⟨0,0,0⟩:aS),false)
 else
 some ((⟨v11.1,v11.2.1,v11.2.2⟩:aS),true))))))
def iU (p0:List ByteArray):Option (fS × Bool) :=
 ((atI p0 0).bind fun v1 =>
 ((((atI p0 0).bind fun v2 =>
 ((rM v2).bind fun v3 =>
 (chk (v3.size≤140737488355328) (
 bQ (S:=Int × aB × aS × ByteArray × List Int) (X:=(aB × aS × ByteArray × List Int) ⊕ (fS × Bool)) (fun s13 =>
 (if s13.1<((dC v3).length:Int) then
 ((atI (dC v3) s13.1).bind fun v14 =>
 ((atI p0 (w64 (s13.1+1))).bind fun v15 =>
 (((if v14=110 then
 ((kM v15).bind fun v16 =>
 (chk ((s13.2.2.2.2.length+[v16.1].length)*1*64≤140737488355328) (
 some (v16.2,s13.2.1,s13.2.2.1,s13.2.2.2.1,s13.2.2.2.2++[v16.1]))))
 else
 (if v14=114 then
 ((uV v15).bind fun v18 =>
 some (v18.2,v18.1,s13.2.2.1,s13.2.2.2.1,s13.2.2.2.2))
 else
 (if v14=100 then
 ((wV v15).bind fun v19 =>
 some (v19.2,s13.2.1,v19.1,s13.2.2.2.1,s13.2.2.2.2))
 else
 some (true,s13.2.1,s13.2.2.1,v15,s13.2.2.2.2)))):Option (Bool × aB × aS × ByteArray × List Int)).bind fun v20 =>
 (if (!v20.1)=true then
 some (.inr (.inr ((⟨(⟨#[]⟩:ByteArray),([]:List Int),(⟨0,0⟩:aB),(⟨0,0,0⟩:aS),(⟨#[]⟩:ByteArray)⟩:fS),false)))
 else
 some (.inl (w64 (s13.1+1),v20.2.1,v20.2.2.1,v20.2.2.2.1,v20.2.2.2.2))))))
 else
 some (.inr (.inl (s13.2.1,s13.2.2.1,s13.2.2.2.1,s13.2.2.2.2))))) (0,(⟨0,0⟩:aB),(⟨0,0,0⟩:aS),(⟨#[]⟩:ByteArray),([]:List Int)))))):Option ((aB × aS × ByteArray × List Int) ⊕ (fS × Bool))).bind fun v21x=>orE v21x fun v21 =>
 some ((⟨v1,v21.2.2.2,v21.1,v21.2.1,v21.2.2.1⟩:fS),true)))
def mX (p0:aD):Option aD :=
 ((bE p0.Cam).bind fun v1 =>
 some (⟨v1,p0.Months,p0.Teeth,p0.At,p0.Day,p0.Week,p0.Weekday⟩:aD))
def iE (p0:cH):Option cH :=
 ((fZ p0.Movement).bind fun v1 =>
 ((mX p0.Dial).bind fun v2 =>
 some (⟨v1,p0.Start,p0.First,p0.Clock,v2⟩:cH)))
def gM (p0:aD):Option Int :=
 ((atI p0.Cam p0.At).bind fun v1 =>
 (if p0.Day=v1 then
 some (w64 ((w64 (p0.Teeth+1))-p0.Day))
 else
 some 1))
def cW (p0:cH):Option cH :=
 (chk ((p0.Dial.Cam.length:Int)≠0) (
 some (⟨p0.Movement,p0.Start,p0.First,p0.Clock,(⟨p0.Dial.Cam,p0.Dial.Months,p0.Dial.Teeth,(w64 (p0.Dial.At+1)).tmod (p0.Dial.Cam.length:Int),p0.Dial.Day,p0.Dial.Week,p0.Dial.Weekday⟩:aD)⟩:cH)))
def dF (p0:cH) (p1:Int):Option cH :=
 (if p0.Dial.Teeth<(w64 (p0.Dial.Day+p1)) then
 ((cW (⟨p0.Movement,p0.Start,p0.First,p0.Clock,(⟨p0.Dial.Cam,p0.Dial.Months,p0.Dial.Teeth,p0.Dial.At,w64 ((w64 (p0.Dial.Day+p1))-p0.Dial.Teeth),p0.Dial.Week,p0.Dial.Weekday⟩:aD)⟩:cH)).bind fun v1 =>
 some v1)
 else
 some (⟨p0.Movement,p0.Start,p0.First,p0.Clock,(⟨p0.Dial.Cam,p0.Dial.Months,p0.Dial.Teeth,p0.Dial.At,w64 (p0.Dial.Day+p1),p0.Dial.Week,p0.Dial.Weekday⟩:aD)⟩:cH))
def cR (p0:cH):Option cH :=
 (chk (p0.Dial.Week≠0) (
 some (⟨p0.Movement,p0.Start,p0.First,p0.Clock,(⟨p0.Dial.Cam,p0.Dial.Months,p0.Dial.Teeth,p0.Dial.At,p0.Dial.Day,p0.Dial.Week,w64 ((p0.Dial.Weekday.tmod p0.Dial.Week)+1)⟩:aD)⟩:cH)))
def cM (p0:cH):Option cH :=
 ((gM p0.Dial).bind fun v1 =>
 ((dF p0 v1).bind fun v2 =>
 ((cR v2).bind fun v3 =>
 some v3)))
def lO (p0:Int):Option Int :=
 some (w64 ((w64 ((w64 (p0.tdiv 12))*78))+(w64 ((w64 ((p0.tmod 12)*(w64 ((p0.tmod 12)+1)))).tdiv 2))))
def hU (p0:Int) (p1:Int) (p2:Int):Option (Int × Int) :=
 ((((bB p0 0 2).bind fun v1 =>
 (if (!v1)=true then
 some true
 else
 ((bB p1 0 p2).bind fun v2 =>
 (if (!v2)=true then
 some true
 else
 some (decide (1000000000<p2)))))):Option Bool).bind fun v3 =>
 (if v3=true then
 some (0,2)
 else
 (if p0=0 then
 some (0,0)
 else
 ((lO (w64 (p2.tdiv 3600))).bind fun v5 =>
 ((lO (w64 (p1.tdiv 3600))).bind fun v7 =>
 some (w64 (v5-v7),0))))))
def tU (p0:cH) (p1:Int):Option (cH × Int × Int) :=
 ((eQ p0).bind fun v1 =>
 (if (!v1)=true then
 some ((⟨(⟨(⟨#[]⟩:ByteArray),(⟨([]:List cD),([]:List bM)⟩:aP),0,0,0,0,0,(⟨(⟨#[]⟩:ByteArray),([]:List aY),([]:List aL),0⟩:aC),([]:List Int),0⟩:aG),(⟨0,0,0⟩:aS),0,0,(⟨([]:List Int),0,0,0,0,0,0⟩:aD)⟩:cH),0,1)
 else
 ((((bB p1 0 3000000).bind fun v2 =>
 (if (!v2)=true then
 some true
 else
 some (decide (1000000000<(w64 (p0.Clock+p1)))))):Option Bool).bind fun v3 =>
 (if v3=true then
 some ((⟨(⟨(⟨#[]⟩:ByteArray),(⟨([]:List cD),([]:List bM)⟩:aP),0,0,0,0,0,(⟨(⟨#[]⟩:ByteArray),([]:List aY),([]:List aL),0⟩:aC),([]:List Int),0⟩:aG),(⟨0,0,0⟩:aS),0,0,(⟨([]:List Int),0,0,0,0,0,0⟩:aD)⟩:cH),0,2)
 else
 ((iE p0).bind fun v4 =>
 ((bQ (S:=Int × ByteArray × Int × Int × Int × Int × Int × ByteArray × Int × Int × aS × Int × Int × Int × Int × Int × Int × Int × Int × List cD × List bM × List aY × List aL × List Int × List Int) (X:=ByteArray × Int × Int × Int × Int × Int × ByteArray × Int × Int × aS × Int × Int × Int × Int × Int × Int × Int × Int × List cD × List bM × List aY × List aL × List Int × List Int) (fun s9 =>
 (if 0<s9.1 then
 ((cM (⟨(⟨s9.2.1,(⟨s9.2.2.2.2.2.2.2.2.2.2.2.2.2.2.2.2.2.2.2.1,s9.2.2.2.2.2.2.2.2.2.2.2.2.2.2.2.2.2.2.2.2.1⟩:aP),s9.2.2.1,s9.2.2.2.1,s9.2.2.2.2.1,s9.2.2.2.2.2.1,s9.2.2.2.2.2.2.1,(⟨s9.2.2.2.2.2.2.2.1,s9.2.2.2.2.2.2.2.2.2.2.2.2.2.2.2.2.2.2.2.2.2.1,s9.2.2.2.2.2.2.2.2.2.2.2.2.2.2.2.2.2.2.2.2.2.2.1,s9.2.2.2.2.2.2.2.2.1⟩:aC),s9.2.2.2.2.2.2.2.2.2.2.2.2.2.2.2.2.2.2.2.2.2.2.2.1,s9.2.2.2.2.2.2.2.2.2.1⟩:aG),s9.2.2.2.2.2.2.2.2.2.2.1,s9.2.2.2.2.2.2.2.2.2.2.2.1,s9.2.2.2.2.2.2.2.2.2.2.2.2.1,(⟨s9.2.2.2.2.2.2.2.2.2.2.2.2.2.2.2.2.2.2.2.2.2.2.2.2,s9.2.2.2.2.2.2.2.2.2.2.2.2.2.1,s9.2.2.2.2.2.2.2.2.2.2.2.2.2.2.1,s9.2.2.2.2.2.2.2.2.2.2.2.2.2.2.2.1,s9.2.2.2.2.2.2.2.2.2.2.2.2.2.2.2.2.1,s9.2.2.2.2.2.2.2.2.2.2.2.2.2.2.2.2.2.1,s9.2.2.2.2.2.2.2.2.2.2.2.2.2.2.2.2.2.2.1⟩:aD)⟩:cH)).bind fun v10 =>
 some (.inl (w64 (s9.1-1),v10.Movement.Name,v10.Movement.Minute,v10.Movement.Hour,v10.Movement.Escape,v10.Movement.Teeth,v10.Movement.Beats,v10.Movement.Calendar.Name,v10.Movement.Calendar.Week,v10.Movement.Strike,v10.Start,v10.First,v10.Clock,v10.Dial.Months,v10.Dial.Teeth,v10.Dial.At,v10.Dial.Day,v10.Dial.Week,v10.Dial.Weekday,v10.Movement.Works.Arbors,v10.Movement.Works.Meshes,v10.Movement.Calendar.Months,v10.Movement.Calendar.Rules,v10.Movement.Cam,v10.Dial.Cam)))
 else
 some (.inr (s9.2.1,s9.2.2.1,s9.2.2.2.1,s9.2.2.2.2.1,s9.2.2.2.2.2.1,s9.2.2.2.2.2.2.1,s9.2.2.2.2.2.2.2.1,s9.2.2.2.2.2.2.2.2.1,s9.2.2.2.2.2.2.2.2.2.1,s9.2.2.2.2.2.2.2.2.2.2.1,s9.2.2.2.2.2.2.2.2.2.2.2.1,s9.2.2.2.2.2.2.2.2.2.2.2.2.1,s9.2.2.2.2.2.2.2.2.2.2.2.2.2.1,s9.2.2.2.2.2.2.2.2.2.2.2.2.2.2.1,s9.2.2.2.2.2.2.2.2.2.2.2.2.2.2.2.1,s9.2.2.2.2.2.2.2.2.2.2.2.2.2.2.2.2.1,s9.2.2.2.2.2.2.2.2.2.2.2.2.2.2.2.2.2.1,s9.2.2.2.2.2.2.2.2.2.2.2.2.2.2.2.2.2.2.1,s9.2.2.2.2.2.2.2.2.2.2.2.2.2.2.2.2.2.2.2.1,s9.2.2.2.2.2.2.2.2.2.2.2.2.2.2.2.2.2.2.2.2.1,s9.2.2.2.2.2.2.2.2.2.2.2.2.2.2.2.2.2.2.2.2.2.1,s9.2.2.2.2.2.2.2.2.2.2.2.2.2.2.2.2.2.2.2.2.2.2.1,s9.2.2.2.2.2.2.2.2.2.2.2.2.2.2.2.2.2.2.2.2.2.2.2.1,s9.2.2.2.2.2.2.2.2.2.2.2.2.2.2.2.2.2.2.2.2.2.2.2.2)))) (w64 ((w64 ((w64 (v4.Clock+p1)).tdiv 86400))-(w64 (p0.Clock.tdiv 86400))),v4.Movement.Name,v4.Movement.Minute,v4.Movement.Hour,v4.Movement.Escape,v4.Movement.Teeth,v4.Movement.Beats,v4.Movement.Calendar.Name,v4.Movement.Calendar.Week,v4.Movement.Strike,v4.Start,v4.First,w64 (v4.Clock+p1),v4.Dial.Months,v4.Dial.Teeth,v4.Dial.At,v4.Dial.Day,v4.Dial.Week,v4.Dial.Weekday,v4.Movement.Works.Arbors,v4.Movement.Works.Meshes,v4.Movement.Calendar.Months,v4.Movement.Calendar.Rules,v4.Movement.Cam,v4.Dial.Cam):Option (ByteArray × Int × Int × Int × Int × Int × ByteArray × Int × Int × aS × Int × Int × Int × Int × Int × Int × Int × Int × List cD × List bM × List aY × List aL × List Int × List Int)).bind fun v11 =>
 ((hU v11.2.2.2.2.2.2.2.2.1 p0.Clock v11.2.2.2.2.2.2.2.2.2.2.2.1).bind fun v12 =>
 some ((⟨(⟨v11.1,(⟨v11.2.2.2.2.2.2.2.2.2.2.2.2.2.2.2.2.2.2.1,v11.2.2.2.2.2.2.2.2.2.2.2.2.2.2.2.2.2.2.2.1⟩:aP),v11.2.1,v11.2.2.1,v11.2.2.2.1,v11.2.2.2.2.1,v11.2.2.2.2.2.1,(⟨v11.2.2.2.2.2.2.1,v11.2.2.2.2.2.2.2.2.2.2.2.2.2.2.2.2.2.2.2.2.1,v11.2.2.2.2.2.2.2.2.2.2.2.2.2.2.2.2.2.2.2.2.2.1,v11.2.2.2.2.2.2.2.1⟩:aC),v11.2.2.2.2.2.2.2.2.2.2.2.2.2.2.2.2.2.2.2.2.2.2.1,v11.2.2.2.2.2.2.2.2.1⟩:aG),v11.2.2.2.2.2.2.2.2.2.1,v11.2.2.2.2.2.2.2.2.2.2.1,v11.2.2.2.2.2.2.2.2.2.2.2.1,(⟨v11.2.2.2.2.2.2.2.2.2.2.2.2.2.2.2.2.2.2.2.2.2.2.2,v11.2.2.2.2.2.2.2.2.2.2.2.2.1,v11.2.2.2.2.2.2.2.2.2.2.2.2.2.1,v11.2.2.2.2.2.2.2.2.2.2.2.2.2.2.1,v11.2.2.2.2.2.2.2.2.2.2.2.2.2.2.2.1,v11.2.2.2.2.2.2.2.2.2.2.2.2.2.2.2.2.1,v11.2.2.2.2.2.2.2.2.2.2.2.2.2.2.2.2.2.1⟩:aD)⟩:cH),v12.1,0))))))))
def oK (p0:cH) (p1:Int):Option (cH × Int) :=
 ((eQ p0).bind fun v1 =>
 (if (!v1)=true then
 some ((⟨(⟨(⟨#[]⟩:ByteArray),(⟨([]:List cD),([]:List bM)⟩:aP),0,0,0,0,0,(⟨(⟨#[]⟩:ByteArray),([]:List aY),([]:List aL),0⟩:aC),([]:List Int),0⟩:aG),(⟨0,0,0⟩:aS),0,0,(⟨([]:List Int),0,0,0,0,0,0⟩:aD)⟩:cH),1)
 else
 ((iE p0).bind fun v2 =>
 (((if p1=1 then
 ((dF v2 1).bind fun v3 =>
 some (.inl (v3.Movement.Name,v3.Movement.Minute,v3.Movement.Hour,v3.Movement.Escape,v3.Movement.Teeth,v3.Movement.Beats,v3.Movement.Calendar.Name,v3.Movement.Calendar.Week,v3.Movement.Strike,v3.Start,v3.First,v3.Clock,v3.Dial.Months,v3.Dial.Teeth,v3.Dial.At,v3.Dial.Day,v3.Dial.Week,v3.Dial.Weekday,v3.Movement.Works.Arbors,v3.Movement.Works.Meshes,v3.Movement.Calendar.Months,v3.Movement.Calendar.Rules,v3.Movement.Cam,v3.Dial.Cam)))
 else
 (if p1=2 then
 ((cW v2).bind fun v4 =>
 some (.inl (v4.Movement.Name,v4.Movement.Minute,v4.Movement.Hour,v4.Movement.Escape,v4.Movement.Teeth,v4.Movement.Beats,v4.Movement.Calendar.Name,v4.Movement.Calendar.Week,v4.Movement.Strike,v4.Start,v4.First,v4.Clock,v4.Dial.Months,v4.Dial.Teeth,v4.Dial.At,v4.Dial.Day,v4.Dial.Week,v4.Dial.Weekday,v4.Movement.Works.Arbors,v4.Movement.Works.Meshes,v4.Movement.Calendar.Months,v4.Movement.Calendar.Rules,v4.Movement.Cam,v4.Dial.Cam)))
 else
 (if p1=3 then
 ((cR v2).bind fun v5 =>
 some (.inl (v5.Movement.Name,v5.Movement.Minute,v5.Movement.Hour,v5.Movement.Escape,v5.Movement.Teeth,v5.Movement.Beats,v5.Movement.Calendar.Name,v5.Movement.Calendar.Week,v5.Movement.Strike,v5.Start,v5.First,v5.Clock,v5.Dial.Months,v5.Dial.Teeth,v5.Dial.At,v5.Dial.Day,v5.Dial.Week,v5.Dial.Weekday,v5.Movement.Works.Arbors,v5.Movement.Works.Meshes,v5.Movement.Calendar.Months,v5.Movement.Calendar.Rules,v5.Movement.Cam,v5.Dial.Cam)))
 else
 some (.inr ((⟨(⟨(⟨#[]⟩:ByteArray),(⟨([]:List cD),([]:List bM)⟩:aP),0,0,0,0,0,(⟨(⟨#[]⟩:ByteArray),([]:List aY),([]:List aL),0⟩:aC),([]:List Int),0⟩:aG),(⟨0,0,0⟩:aS),0,0,(⟨([]:List Int),0,0,0,0,0,0⟩:aD)⟩:cH),2))))):Option ((ByteArray × Int × Int × Int × Int × Int × ByteArray × Int × Int × aS × Int × Int × Int × Int × Int × Int × Int × Int × List cD × List bM × List aY × List aL × List Int × List Int) ⊕ (cH × Int))).bind fun v6x=>orE v6x fun v6 =>
 some ((⟨(⟨v6.1,(⟨v6.2.2.2.2.2.2.2.2.2.2.2.2.2.2.2.2.2.2.1,v6.2.2.2.2.2.2.2.2.2.2.2.2.2.2.2.2.2.2.2.1⟩:aP),v6.2.1,v6.2.2.1,v6.2.2.2.1,v6.2.2.2.2.1,v6.2.2.2.2.2.1,(⟨v6.2.2.2.2.2.2.1,v6.2.2.2.2.2.2.2.2.2.2.2.2.2.2.2.2.2.2.2.2.1,v6.2.2.2.2.2.2.2.2.2.2.2.2.2.2.2.2.2.2.2.2.2.1,v6.2.2.2.2.2.2.2.1⟩:aC),v6.2.2.2.2.2.2.2.2.2.2.2.2.2.2.2.2.2.2.2.2.2.2.1,v6.2.2.2.2.2.2.2.2.1⟩:aG),v6.2.2.2.2.2.2.2.2.2.1,v6.2.2.2.2.2.2.2.2.2.2.1,v6.2.2.2.2.2.2.2.2.2.2.2.1,(⟨v6.2.2.2.2.2.2.2.2.2.2.2.2.2.2.2.2.2.2.2.2.2.2.2,v6.2.2.2.2.2.2.2.2.2.2.2.2.1,v6.2.2.2.2.2.2.2.2.2.2.2.2.2.1,v6.2.2.2.2.2.2.2.2.2.2.2.2.2.2.1,v6.2.2.2.2.2.2.2.2.2.2.2.2.2.2.2.1,v6.2.2.2.2.2.2.2.2.2.2.2.2.2.2.2.2.1,v6.2.2.2.2.2.2.2.2.2.2.2.2.2.2.2.2.2.1⟩:aD)⟩:cH),0)))))
def iV (p0:aC):Option (Int × Int) :=
 ((bQ (S:=Int × Int × Int) (X:=Int × Int) (fun s3 =>
 (if s3.2.2<(p0.Months.length:Int) then
 ((atI p0.Months s3.2.2).bind fun v4 =>
 some (.inl (w64 (s3.1+v4.Days),w64 (s3.2.1+v4.Leap),w64 (s3.2.2+1))))
 else
 some (.inr (s3.1,s3.2.1)))) (0,0,0):Option (Int × Int)).bind fun v5 =>
 some (v5.1,v5.2))
def jT (p0:aC) (p1:Int):Option Int :=
 ((iV p0).bind fun v1 =>
 ((bQ (S:=Int × Int) (X:=Int) (fun s5 =>
 (if s5.2<p1 then
 ((((gJ p0 s5.2).bind fun v6 =>
 (if v6=true then
 some (w64 (s5.1+v1.2))
 else
 some (w64 (s5.1+v1.1)))):Option Int).bind fun v7 =>
 some (.inl (v7,w64 (s5.2+1))))
 else
 some (.inr s5.1))) (0,0):Option Int).bind fun v8 =>
 some v8))
def xA (p0:aC) (p1:aS):Option Int :=
 ((jT p0 p1.Year).bind fun v1 =>
 ((gJ p0 p1.Year).bind fun v2 =>
 ((bQ (S:=Int × Int) (X:=Int) (fun s5 =>
 (if s5.2<p1.Month then
 ((dH p0 v2 s5.2).bind fun v6 =>
 some (.inl (w64 (s5.1+v6),w64 (s5.2+1))))
 else
 some (.inr s5.1))) (w64 ((w64 (v1+p1.Day))-1),1):Option Int).bind fun v7 =>
 some v7)))
def aAh (p0:aC) (p1:aS):Option (Int × Int) :=
 ((cY p0).bind fun v1 =>
 (if (!v1)=true then
 some (0,1)
 else
 ((jG p0 p1).bind fun v2 =>
 (if (!v2)=true then
 some (0,2)
 else
 ((xA p0 p1).bind fun v3 =>
 some (v3,0))))))
def rN (p0:aC):Option Int :=
 ((jT p0 10000).bind fun v1 =>
 some (w64 (v1-1)))
def tW (p0:aC) (p1:Int):Option aS :=
 ((iV p0).bind fun v1 =>
 ((bQ (S:=Int × aS) (X:=Int × aS) (fun s5 =>
 ((((gJ p0 s5.2.Year).bind fun v6 =>
 (if v6=true then
 some v1.2
 else
 some v1.1)):Option Int).bind fun v7 =>
 (if s5.1<v7 then
 some (.inr (s5.1,s5.2))
 else
 some (.inl (w64 (s5.1-v7),(⟨w64 (s5.2.Year+1),s5.2.Month,s5.2.Day⟩:aS)))))) (p1,(⟨0,1,0⟩:aS)):Option (Int × aS)).bind fun v8 =>
 ((((gJ p0 v8.2.Year).bind fun v9 =>
 bQ (S:=Int × aS) (X:=Int × aS) (fun s13 =>
 ((dH p0 v9 s13.2.Month).bind fun v14 =>
 (if v14≤s13.1 then
 ((dH p0 v9 s13.2.Month).bind fun v15 =>
 some (.inl (w64 (s13.1-v15),(⟨s13.2.Year,w64 (s13.2.Month+1),s13.2.Day⟩:aS))))
 else
 some (.inr (s13.1,s13.2))))) (v8.1,v8.2)):Option (Int × aS)).bind fun v16 =>
 some (⟨v16.2.Year,v16.2.Month,w64 (v16.1+1)⟩:aS))))
def vF (p0:aC) (p1:Int) (p2:Int):Option (aS × Int) :=
 ((rN p0).bind fun v1 =>
 ((bB p2 (w64 (-p1)) (w64 (v1-p1))).bind fun v2 =>
 (if (!v2)=true then
 some ((⟨0,0,0⟩:aS),2)
 else
 ((tW p0 (w64 (p1+p2))).bind fun v3 =>
 some (v3,0)))))
def uS (p0:aC) (p1:aS) (p2:Int):Option (aS × Int) :=
 ((aAh p0 p1).bind fun v1 =>
 (if v1.2≠0 then
 some ((⟨0,0,0⟩:aS),v1.2)
 else
 ((vF p0 v1.1 p2).bind fun v2 =>
 some (v2.1,v2.2))))
def jD (p0:cH):Option (aS × Int × Int) :=
 ((uS p0.Movement.Calendar p0.Start (w64 (p0.Clock.tdiv 86400))).bind fun v2 =>
 (if v2.2≠0 then
 some ((⟨0,0,0⟩:aS),0,v2.2)
 else
 (chk (p0.Movement.Calendar.Week≠0) (
 some (v2.1,w64 (((w64 ((w64 (p0.First-1))+(w64 (p0.Clock.tdiv 86400)))).tmod p0.Movement.Calendar.Week)+1),0)))))
def lK (p0:cH):Option (cH × Int) :=
 ((eQ p0).bind fun v1 =>
 (if (!v1)=true then
 some ((⟨(⟨(⟨#[]⟩:ByteArray),(⟨([]:List cD),([]:List bM)⟩:aP),0,0,0,0,0,(⟨(⟨#[]⟩:ByteArray),([]:List aY),([]:List aL),0⟩:aC),([]:List Int),0⟩:aG),(⟨0,0,0⟩:aS),0,0,(⟨([]:List Int),0,0,0,0,0,0⟩:aD)⟩:cH),1)
 else
 ((jD p0).bind fun v2 =>
 (if v2.2.2≠0 then
 some ((⟨(⟨(⟨#[]⟩:ByteArray),(⟨([]:List cD),([]:List bM)⟩:aP),0,0,0,0,0,(⟨(⟨#[]⟩:ByteArray),([]:List aY),([]:List aL),0⟩:aC),([]:List Int),0⟩:aG),(⟨0,0,0⟩:aS),0,0,(⟨([]:List Int),0,0,0,0,0,0⟩:aD)⟩:cH),v2.2.2)
 else
 ((fY p0.Movement.Calendar p0.Movement.Cam v2.1 v2.2.1).bind fun v3 =>
 (if v3.2≠0 then
 some ((⟨(⟨(⟨#[]⟩:ByteArray),(⟨([]:List cD),([]:List bM)⟩:aP),0,0,0,0,0,(⟨(⟨#[]⟩:ByteArray),([]:List aY),([]:List aL),0⟩:aC),([]:List Int),0⟩:aG),(⟨0,0,0⟩:aS),0,0,(⟨([]:List Int),0,0,0,0,0,0⟩:aD)⟩:cH),v3.2)
 else
 ((iE p0).bind fun v4 =>
 some ((⟨v4.Movement,v4.Start,v4.First,v4.Clock,v3.1⟩:cH),0))))))))
def iR (p0:cH) (p1:fS):Option (cH × ByteArray × Int) :=
 (if p1.word=(⟨#[100,101,115,105,103,110]⟩:ByteArray) then
 ((atI p1.numbers 0).bind fun v1 =>
 ((atI p1.numbers 1).bind fun v2 =>
 ((atI p1.numbers 2).bind fun v3 =>
 ((oN v1 v2 p1.text v3 1).bind fun v4 =>
 some (v4.1,(⟨#[111,107]⟩:ByteArray),v4.2)))))
 else
 (if p1.word=(⟨#[115,101,116]⟩:ByteArray) then
 ((atI p1.numbers 0).bind fun v5 =>
 ((mJ p0.Movement p1.date v5).bind fun v6 =>
 some (v6.1,(⟨#[111,107]⟩:ByteArray),v6.2)))
 else
 (if p1.word=(⟨#[114,117,110]⟩:ByteArray) then
 ((atI p1.numbers 0).bind fun v7 =>
 ((tU p0 v7).bind fun v8 =>
 ((bC v8.2.1).bind fun v9 =>
 (chk ((⟨#[98,108,111,119,115,32]⟩:ByteArray).size+v9.size≤9223372036854775807) (
 some (v8.1,(⟨#[98,108,111,119,115,32]⟩:ByteArray)++v9,v8.2.2))))))
 else
 (if p1.word=(⟨#[112,117,115,104]⟩:ByteArray) then
 ((atI p1.numbers 0).bind fun v11 =>
 ((oK p0 v11).bind fun v12 =>
 some (v12.1,(⟨#[111,107]⟩:ByteArray),v12.2)))
 else
 ((lK p0).bind fun v13 =>
 some (v13.1,(⟨#[111,107]⟩:ByteArray),v13.2))))))
def gG (p0:List Int):Option (List Int) :=
 some p0
def oD (p0:List Int):Option (List Int):=(chk (p0.length≤1048576) (some p0))
def kB (p0:List Int):Option (List Int):=(chk (p0.length≤140737488355328) (some (oA p0)))
def cK (p0_0:List Int):Option (List Int) :=
 ((oD p0_0).bind fun v1 =>
 ((kB v1).bind fun v2 =>
 (chk (v2.length=v1.length) (
 some v2))))
def jW (p0:List ByteArray) (p1:ByteArray):Option ByteArray:=(chk (p0.length≤140737488355328∧(aIf p0 p1).size≤140737488355328) (some (aIf p0 p1)))
def uT (p0:List Int):Option (List Int × Int) :=
 ((jC p0).bind fun v1=>(chk (p0.length≤1048576∧(v1=true→p0≠[])) (some (if v1=true then zL p0 else [],if v1=true then 0 else 1))))
def oJ (p0:aG):Option (List ByteArray × Int) :=
 ((eB p0).bind fun v1 =>
 (if (!v1)=true then
 some (([]:List ByteArray),1)
 else
 ((bQ (S:=Int × List ByteArray) (X:=List ByteArray) (fun s18 =>
 (if s18.1<(p0.Works.Arbors.length:Int) then
 ((((atI p0.Works.Arbors s18.1).bind fun v19 =>
 ((((gG v19.Wheels).bind fun v20 =>
 ((cK v20).bind fun v21 =>
 bQ (S:=Int × List ByteArray) (X:=List ByteArray) (fun s26 =>
 (if s26.1<(v21.length:Int) then
 ((atI v21 s26.1).bind fun v27 =>
 ((bC v27).bind fun v28 =>
 (chk ((s26.2.length+[v28].length)*1*64≤140737488355328) (
 some (.inl (w64 (s26.1+1),s26.2++[v28]))))))
 else
 some (.inr s26.2))) (0,[(⟨#[97,114,98,111,114]⟩:ByteArray),v19.Name]))):Option (List ByteArray)).bind fun v30 =>
 ((jW v30 (⟨#[32]⟩:ByteArray)).bind fun v31 =>
 (chk ((s18.2.length+[v31].length)*1*64≤140737488355328) (
 some (s18.2++[v31])))))):Option (List ByteArray)).bind fun v33 =>
 some (.inl (w64 (s18.1+1),v33)))
 else
 some (.inr s18.2))) (0,([]:List ByteArray)):Option (List ByteArray)).bind fun v34 =>
 ((uT p0.Cam).bind fun v35 =>
 ((bC p0.Teeth).bind fun v36 =>
 (chk ((⟨#[101,115,99,97,112,101,45,119,104,101,101,108,32]⟩:ByteArray).size+v36.size≤9223372036854775807) (
 (chk ((v34.length+[(⟨#[101,115,99,97,112,101,45,119,104,101,101,108,32]⟩:ByteArray)++v36].length)*1*64≤140737488355328) (
 ((bC (p0.Cam.length:Int)).bind fun v39 =>
 (chk ((⟨#[99,97,109,32]⟩:ByteArray).size+v39.size≤9223372036854775807) (
 (chk (((⟨#[99,97,109,32]⟩:ByteArray)++v39).size+(⟨#[32]⟩:ByteArray).size≤9223372036854775807) (
 ((bC (v35.1.length:Int)).bind fun v42 =>
 (chk ((((⟨#[99,97,109,32]⟩:ByteArray)++v39)++(⟨#[32]⟩:ByteArray)).size+v42.size≤9223372036854775807) (
 (chk (((v34++[(⟨#[101,115,99,97,112,101,45,119,104,101,101,108,32]⟩:ByteArray)++v36]).length+[(((⟨#[99,97,109,32]⟩:ByteArray)++v39)++(⟨#[32]⟩:ByteArray))++v42].length)*1*64≤140737488355328) (
 some ((v34++[(⟨#[101,115,99,97,112,101,45,119,104,101,101,108,32]⟩:ByteArray)++v36])++[(((⟨#[99,97,109,32]⟩:ByteArray)++v39)++(⟨#[32]⟩:ByteArray))++v42],0))))))))))))))))))))
def oM (p0:aG) (p1:Int):Option (aB × Int) :=
 ((eB p0).bind fun v1 =>
 (if (!v1)=true then
 some ((⟨0,0⟩:aB),1)
 else
 ((mK p0.Works p0.Minute).bind fun v2 =>
 (if v2.2≠0 then
 some ((⟨0,0⟩:aB),6)
 else
 ((kP p0.Works p1).bind fun v3 =>
 (if (!v3)=true then
 some ((⟨0,0⟩:aB),2)
 else
 ((atI v2.1 p1).bind fun v4 =>
 some (v4,0))))))))
def jU (p0:aG):Option (List ByteArray × Int) :=
 ((bQ (S:=Int × List ByteArray) (X:=(List ByteArray) ⊕ (List ByteArray × Int)) (fun s8 =>
 (if s8.1<(p0.Works.Arbors.length:Int) then
 ((atI p0.Works.Arbors s8.1).bind fun v9 =>
 ((oM p0 s8.1).bind fun v10 =>
 (if v10.2≠0 then
 some (.inr (.inr (([]:List ByteArray),v10.2)))
 else
 (chk (v9.Name.size+(⟨#[32]⟩:ByteArray).size≤9223372036854775807) (
 ((fM v10.1).bind fun v12 =>
 (chk ((v9.Name++(⟨#[32]⟩:ByteArray)).size+v12.size≤9223372036854775807) (
 (chk ((s8.2.length+[(v9.Name++(⟨#[32]⟩:ByteArray))++v12].length)*1*64≤140737488355328) (
 some (.inl (w64 (s8.1+1),s8.2++[(v9.Name++(⟨#[32]⟩:ByteArray))++v12]))))))))))))
 else
 some (.inr (.inl s8.2)))) (0,([]:List ByteArray)):Option ((List ByteArray) ⊕ (List ByteArray × Int))).bind fun v15x=>orE v15x fun v15 =>
 some (v15,0))
def nC (p0:aC) (p1:List Int) (p2:Int) (p3:Int):Option (List fT × Int) :=
 ((mM p0 p1).bind fun v1 =>
 (if v1≠0 then
 some (([]:List fT),v1)
 else
 ((((gL p2).bind fun v2 =>
 (if (!v2)=true then
 some true
 else
 ((gL p3).bind fun v3 =>
 (if (!v3)=true then
 some true
 else
 some (decide (p3<p2)))))):Option Bool).bind fun v4 =>
 (if v4=true then
 some (([]:List fT),2)
 else
 ((bQ (S:=Int × List fT) (X:=(List fT) ⊕ (List fT × Int)) (fun s8 =>
 (if s8.1≤p3 then
 ((mN p0 p1 s8.1).bind fun v9 =>
 (chk ((s8.2.length+v9.length)*4*64≤140737488355328) (
 (if 40<((s8.2++v9).length:Int) then
 some (.inr (.inr (([]:List fT),5)))
 else
 some (.inl (w64 (s8.1+1),s8.2++v9))))))
 else
 some (.inr (.inl s8.2)))) (p2,([]:List fT)):Option ((List fT) ⊕ (List fT × Int))).bind fun v11x=>orE v11x fun v11 =>
 some (v11,0))))))
def nF (p0:fT):Option ByteArray :=
 ((bC p0.Year).bind fun v1 =>
 (chk (v1.size+(⟨#[32]⟩:ByteArray).size≤9223372036854775807) (
 ((bC p0.Month).bind fun v3 =>
 (chk ((v1++(⟨#[32]⟩:ByteArray)).size+v3.size≤9223372036854775807) (
 (chk (((v1++(⟨#[32]⟩:ByteArray))++v3).size+(⟨#[32]⟩:ByteArray).size≤9223372036854775807) (
 ((bC p0.Shown).bind fun v6 =>
 (chk ((((v1++(⟨#[32]⟩:ByteArray))++v3)++(⟨#[32]⟩:ByteArray)).size+v6.size≤9223372036854775807) (
 (chk (((((v1++(⟨#[32]⟩:ByteArray))++v3)++(⟨#[32]⟩:ByteArray))++v6).size+(⟨#[32]⟩:ByteArray).size≤9223372036854775807) (
 ((bC p0.Right).bind fun v9 =>
 (chk ((((((v1++(⟨#[32]⟩:ByteArray))++v3)++(⟨#[32]⟩:ByteArray))++v6)++(⟨#[32]⟩:ByteArray)).size+v9.size≤9223372036854775807) (
 some ((((((v1++(⟨#[32]⟩:ByteArray))++v3)++(⟨#[32]⟩:ByteArray))++v6)++(⟨#[32]⟩:ByteArray))++v9)))))))))))))))))
def lQ (p0:aG) (p1:Int) (p2:Int):Option (List ByteArray × Int) :=
 ((nC p0.Calendar p0.Cam p1 p2).bind fun v1 =>
 ((bQ (S:=Int × List ByteArray) (X:=List ByteArray) (fun s6 =>
 (if s6.1<(v1.1.length:Int) then
 ((atI v1.1 s6.1).bind fun v7 =>
 ((nF v7).bind fun v8 =>
 (chk ((s6.2.length+[v8].length)*1*64≤140737488355328) (
 some (.inl (w64 (s6.1+1),s6.2++[v8]))))))
 else
 some (.inr s6.2))) (0,([]:List ByteArray)):Option (List ByteArray)).bind fun v10 =>
 some (v10,v1.2)))
def pN (p0:List ByteArray):Option (List ByteArray) :=
 ((bC (p0.length:Int)).bind fun v1 =>
 (chk ((⟨#[111,107,32]⟩:ByteArray).size+v1.size≤9223372036854775807) (
 (chk ((p0.length+[(⟨#[111,107,32]⟩:ByteArray)++v1].length)*1*64≤140737488355328) (
 some (p0++[(⟨#[111,107,32]⟩:ByteArray)++v1]))))))
def lY (p0:cH) (p1:fS):Option (Bool × List ByteArray × Int) :=
 (((if p1.word=(⟨#[112,97,114,116,115]⟩:ByteArray) then
 ((oJ p0.Movement).bind fun v1 =>
 some (.inl (v1.2,v1.1)))
 else
 (if p1.word=(⟨#[115,112,101,101,100,115]⟩:ByteArray) then
 ((jU p0.Movement).bind fun v2 =>
 some (.inl (v2.2,v2.1)))
 else
 (if p1.word=(⟨#[102,97,117,108,116,115]⟩:ByteArray) then
 ((atI p1.numbers 0).bind fun v3 =>
 ((atI p1.numbers 1).bind fun v4 =>
 ((lQ p0.Movement v3 v4).bind fun v5 =>
 some (.inl (v5.2,v5.1)))))
 else
 some (.inr (false,([]:List ByteArray),0))))):Option ((Int × List ByteArray) ⊕ (Bool × List ByteArray × Int))).bind fun v6x=>orE v6x fun v6 =>
 ((pN v6.2).bind fun v7 =>
 some (true,v7,v6.1)))
def jM (p0:aG):Option ByteArray :=
 ((eB p0).bind fun v1 =>
 (if (!v1)=true then
 some (⟨#[]⟩:ByteArray)
 else
 ((atI p0.Works.Arbors p0.Minute).bind fun v2 =>
 ((atI p0.Works.Arbors p0.Hour).bind fun v3 =>
 ((atI p0.Works.Arbors p0.Escape).bind fun v4 =>
 ((bC p0.Beats).bind fun v5 =>
 ((bC p0.Teeth).bind fun v6 =>
 ((jW [p0.Name,v5,v6,v2.Name,v3.Name,v4.Name] (⟨#[32]⟩:ByteArray)).bind fun v7 =>
 some v7))))))))
def jI (p0:Int):Option ByteArray :=
 ((bC (w64 (p0.tdiv 10))).bind fun v2 =>
 ((bC (p0.tmod 10)).bind fun v4 =>
 (chk (v2.size+v4.size≤9223372036854775807) (
 some (v2++v4)))))
def kV (p0:Int):Option ByteArray :=
 ((bB p0 0 1000000000).bind fun v1 =>
 (if (!v1)=true then
 some (⟨#[]⟩:ByteArray)
 else
 ((jI (w64 ((p0.tmod 86400).tdiv 3600))).bind fun v4 =>
 (chk (v4.size+(⟨#[58]⟩:ByteArray).size≤9223372036854775807) (
 ((jI ((w64 ((p0.tmod 86400).tdiv 60)).tmod 60)).bind fun v8 =>
 (chk ((v4++(⟨#[58]⟩:ByteArray)).size+v8.size≤9223372036854775807) (
 (chk (((v4++(⟨#[58]⟩:ByteArray))++v8).size+(⟨#[58]⟩:ByteArray).size≤9223372036854775807) (
 ((jI ((p0.tmod 86400).tmod 60)).bind fun v12 =>
 (chk ((((v4++(⟨#[58]⟩:ByteArray))++v8)++(⟨#[58]⟩:ByteArray)).size+v12.size≤9223372036854775807) (
 some ((((v4++(⟨#[58]⟩:ByteArray))++v8)++(⟨#[58]⟩:ByteArray))++v12))))))))))))))
def iG (p0:aD):Option Int :=
 (chk (p0.Months≠0) (
 some (w64 ((p0.At.tmod p0.Months)+1))))
def iP (p0:aD):Option ByteArray :=
 ((eT p0).bind fun v1 =>
 (if (!v1)=true then
 some (⟨#[]⟩:ByteArray)
 else
 ((iG p0).bind fun v2 =>
 ((bC v2).bind fun v3 =>
 (chk (v3.size+(⟨#[32]⟩:ByteArray).size≤9223372036854775807) (
 ((bC p0.Day).bind fun v5 =>
 (chk ((v3++(⟨#[32]⟩:ByteArray)).size+v5.size≤9223372036854775807) (
 (chk (((v3++(⟨#[32]⟩:ByteArray))++v5).size+(⟨#[32]⟩:ByteArray).size≤9223372036854775807) (
 ((bC p0.Weekday).bind fun v8 =>
 (chk ((((v3++(⟨#[32]⟩:ByteArray))++v5)++(⟨#[32]⟩:ByteArray)).size+v8.size≤9223372036854775807) (
 (chk (((((v3++(⟨#[32]⟩:ByteArray))++v5)++(⟨#[32]⟩:ByteArray))++v8).size+(⟨#[32]⟩:ByteArray).size≤9223372036854775807) (
 ((bC p0.At).bind fun v11 =>
 (chk ((((((v3++(⟨#[32]⟩:ByteArray))++v5)++(⟨#[32]⟩:ByteArray))++v8)++(⟨#[32]⟩:ByteArray)).size+v11.size≤9223372036854775807) (
 some ((((((v3++(⟨#[32]⟩:ByteArray))++v5)++(⟨#[32]⟩:ByteArray))++v8)++(⟨#[32]⟩:ByteArray))++v11))))))))))))))))))))
def rG (p0:cH):Option ByteArray :=
 ((eQ p0).bind fun v1 =>
 (if (!v1)=true then
 some (⟨#[]⟩:ByteArray)
 else
 ((((jD p0).bind fun v2 =>
 (if v2.2.2=0 then
 ((kJ v2.1).bind fun v3 =>
 some v3)
 else
 some (⟨#[45]⟩:ByteArray))):Option ByteArray).bind fun v4 =>
 (chk (v4.size+(⟨#[32]⟩:ByteArray).size≤9223372036854775807) (
 ((kV p0.Clock).bind fun v6 =>
 (chk ((v4++(⟨#[32]⟩:ByteArray)).size+v6.size≤9223372036854775807) (
 (chk (((v4++(⟨#[32]⟩:ByteArray))++v6).size+(⟨#[32]⟩:ByteArray).size≤9223372036854775807) (
 ((iP p0.Dial).bind fun v9 =>
 (chk ((((v4++(⟨#[32]⟩:ByteArray))++v6)++(⟨#[32]⟩:ByteArray)).size+v9.size≤9223372036854775807) (
 some ((((v4++(⟨#[32]⟩:ByteArray))++v6)++(⟨#[32]⟩:ByteArray))++v9))))))))))))))
def mI (p0:jE):Option ByteArray :=
 ((kZ p0).bind fun v1 =>
 (if (!v1)=true then
 some (⟨#[]⟩:ByteArray)
 else
 ((jM p0.Sim.Movement).bind fun v2 =>
 (chk (v2.size+(⟨#[32]⟩:ByteArray).size≤9223372036854775807) (
 ((rG p0.Sim).bind fun v4 =>
 (chk ((v2++(⟨#[32]⟩:ByteArray)).size+v4.size≤9223372036854775807) (
 some ((v2++(⟨#[32]⟩:ByteArray))++v4)))))))))
def pQ (p0:aD) (p1:Int) (p2:Int):Option Bool :=
 (if p0.Day=p2 then
 ((iG p0).bind fun v1 =>
 some (decide (v1=p1)))
 else
 some false)
def nE (p0:cH):Option Bool :=
 ((eQ p0).bind fun v1 =>
 (if (!v1)=true then
 some false
 else
 ((jD p0).bind fun v2 =>
 (if v2.2.2=0 then
 ((pQ p0.Dial v2.1.Month v2.1.Day).bind fun v3 =>
 (if v3=true then
 some (decide (p0.Dial.Weekday=v2.2.1))
 else
 some false))
 else
 some false))))
def kO (p0:Int) (p1:Int):Option Int :=
 (chk (p1≠0) (
 (((chk (p1≠0) (
 (if (p0.tmod p1)<0 then
 some (w64 ((w64 (p0.tdiv p1))-1))
 else
 some (w64 (p0.tdiv p1))))):Option Int).bind fun v3 =>
 some v3)))
def lM (p0:aB):Option Int :=
 ((bZ p0).bind fun v1 =>
 (if (!v1)=true then
 some 0
 else
 ((kO p0.Num p0.Den).bind fun v2 =>
 some v2)))
def oH (p0:aG) (p1:Int) (p2:Int):Option (aB × Int) :=
 ((oM p0 p1).bind fun v1 =>
 (if v1.2≠0 then
 some ((⟨0,0⟩:aB),v1.2)
 else
 ((bB p2 0 1000000000).bind fun v2 =>
 (if (!v2)=true then
 some ((⟨0,0⟩:aB),2)
 else
 ((fL p2 3600).bind fun v3 =>
 (if v3.2≠0 then
 some ((⟨0,0⟩:aB),v3.2)
 else
 ((kK v1.1 v3.1).bind fun v4 =>
 (if v4.2≠0 then
 some ((⟨0,0⟩:aB),v4.2)
 else
 ((lM v4.1).bind fun v5 =>
 ((mL v4.1 (⟨v5,1⟩:aB)).bind fun v6 =>
 some (v6.1,v6.2)))))))))))
def rE (p0:cH):Option (aB × aB × Int) :=
 ((eQ p0).bind fun v1 =>
 (if (!v1)=true then
 some ((⟨0,0⟩:aB),(⟨0,0⟩:aB),1)
 else
 ((oH p0.Movement p0.Movement.Minute p0.Clock).bind fun v2 =>
 (if v2.2≠0 then
 some ((⟨0,0⟩:aB),(⟨0,0⟩:aB),v2.2)
 else
 ((oH p0.Movement p0.Movement.Hour p0.Clock).bind fun v3 =>
 (if v3.2≠0 then
 some ((⟨0,0⟩:aB),(⟨0,0⟩:aB),v3.2)
 else
 some (v2.1,v3.1,0)))))))
def gE (p0:aD):Option aD :=
 (chk ((p0.Cam.length:Int)≠0) (
 some (⟨p0.Cam,p0.Months,p0.Teeth,(w64 (p0.At+1)).tmod (p0.Cam.length:Int),p0.Day,p0.Week,p0.Weekday⟩:aD)))
def fE (p0:aD) (p1:Int):Option aD :=
 (if p0.Teeth<(w64 (p0.Day+p1)) then
 ((gE (⟨p0.Cam,p0.Months,p0.Teeth,p0.At,w64 ((w64 (p0.Day+p1))-p0.Teeth),p0.Week,p0.Weekday⟩:aD)).bind fun v1 =>
 some v1)
 else
 some (⟨p0.Cam,p0.Months,p0.Teeth,p0.At,w64 (p0.Day+p1),p0.Week,p0.Weekday⟩:aD))
def fK (p0:aD):Option aD :=
 (chk (p0.Week≠0) (
 some (⟨p0.Cam,p0.Months,p0.Teeth,p0.At,p0.Day,p0.Week,w64 ((p0.Weekday.tmod p0.Week)+1)⟩:aD)))
def fD (p0:aD):Option aD :=
 ((gM p0).bind fun v1 =>
 ((fE p0 v1).bind fun v2 =>
 ((fK v2).bind fun v3 =>
 some v3)))
def pO (p0:aC) (p1:aS):Option aS :=
 ((((gJ p0 p1.Year).bind fun v1 =>
 ((dH p0 v1 p1.Month).bind fun v2 =>
 (if v2<(w64 (p1.Day+1)) then
 some (⟨p1.Year,w64 (p1.Month+1),1⟩:aS)
 else
 some (⟨p1.Year,p1.Month,w64 (p1.Day+1)⟩:aS)))):Option aS).bind fun v3 =>
 ((((mE p0 v3.Month).bind fun v4 =>
 (if (!v4)=true then
 some (⟨w64 (v3.Year+1),1,v3.Day⟩:aS)
 else
 some v3)):Option aS).bind fun v5 =>
 some v5))
def lL (p0:aC) (p1:aD) (p2:aS) (p3:Int):Option (Int × Int) :=
 ((((cY p0).bind fun v1 =>
 (if (!v1)=true then
 some true
 else
 ((eT p1).bind fun v2 =>
 some (!v2)))):Option Bool).bind fun v3 =>
 (if v3=true then
 some (0,1)
 else
 ((((jG p0 p2).bind fun v4 =>
 (if (!v4)=true then
 some true
 else
 ((bB p3 0 200000).bind fun v5 =>
 some (!v5)))):Option Bool).bind fun v6 =>
 (if v6=true then
 some (0,2)
 else
 ((pQ p1 p2.Month p2.Day).bind fun v7 =>
 (if (!v7)=true then
 some (0,6)
 else
 ((bQ (S:=Int × aD × aS) (X:=Unit ⊕ (Int × Int)) (fun s13 =>
 (if s13.1≤p3 then
 ((fD s13.2.1).bind fun v14 =>
 ((pO p0 s13.2.2).bind fun v15 =>
 ((gL v15.Year).bind fun v16 =>
 (if (!v16)=true then
 some (.inr (.inl ()))
 else
 ((pQ v14 v15.Month v15.Day).bind fun v17 =>
 (if (!v17)=true then
 some (.inr (.inr (s13.1,0)))
 else
 some (.inl (w64 (s13.1+1),v14,v15))))))))
 else
 some (.inr (.inl ())))) (1,p1,p2):Option (Unit ⊕ (Int × Int))).bind fun v18x=>orE v18x fun v18 =>
 some (0,3))))))))
def lR (p0:cH) (p1:Int):Option (ByteArray × Int) :=
 ((fY p0.Movement.Calendar p0.Movement.Cam p0.Start p0.First).bind fun v1 =>
 (if v1.2≠0 then
 some ((⟨#[]⟩:ByteArray),v1.2)
 else
 ((lL p0.Movement.Calendar v1.1 p0.Start p1).bind fun v2 =>
 ((bC v2.1).bind fun v3 =>
 some (v3,v2.2)))))
def tJ (p0:aB) (p1:Int):Option (aB × aB) :=
 ((kO p0.Num p0.Den).bind fun v1 =>
 ((bQ (S:=aB × aB) (X:=aB × aB) (fun s7 =>
 (if (w64 (s7.1.Den+s7.2.Den))≤p1 then
 (if (w64 ((w64 (p0.Den*s7.2.Num))-(w64 ((w64 (p0.Num-(w64 (v1*p0.Den))))*s7.2.Den))))<(w64 ((w64 ((w64 (p0.Num-(w64 (v1*p0.Den))))*s7.1.Den))-(w64 (p0.Den*s7.1.Num)))) then
 (chk ((w64 ((w64 (p0.Den*s7.2.Num))-(w64 ((w64 (p0.Num-(w64 (v1*p0.Den))))*s7.2.Den))))≠0) (
 (chk (s7.2.Den≠0) (
 some (.inl ((⟨w64 (s7.1.Num+(w64 ((min (w64 ((w64 ((w64 ((w64 ((w64 (p0.Num-(w64 (v1*p0.Den))))*s7.1.Den))-(w64 (p0.Den*s7.1.Num))))-1)).tdiv (w64 ((w64 (p0.Den*s7.2.Num))-(w64 ((w64 (p0.Num-(w64 (v1*p0.Den))))*s7.2.Den)))))) (w64 ((w64 (p1-s7.1.Den)).tdiv s7.2.Den)))*s7.2.Num))),w64 (s7.1.Den+(w64 ((min (w64 ((w64 ((w64 ((w64 ((w64 (p0.Num-(w64 (v1*p0.Den))))*s7.1.Den))-(w64 (p0.Den*s7.1.Num))))-1)).tdiv (w64 ((w64 (p0.Den*s7.2.Num))-(w64 ((w64 (p0.Num-(w64 (v1*p0.Den))))*s7.2.Den)))))) (w64 ((w64 (p1-s7.1.Den)).tdiv s7.2.Den)))*s7.2.Den)))⟩:aB),s7.2))))))
 else
 (chk ((w64 ((w64 ((w64 (p0.Num-(w64 (v1*p0.Den))))*s7.1.Den))-(w64 (p0.Den*s7.1.Num))))≠0) (
 (chk (s7.1.Den≠0) (
 some (.inl (s7.1,(⟨w64 (s7.2.Num+(w64 ((min (w64 ((w64 ((w64 ((w64 (p0.Den*s7.2.Num))-(w64 ((w64 (p0.Num-(w64 (v1*p0.Den))))*s7.2.Den))))-1)).tdiv (w64 ((w64 ((w64 (p0.Num-(w64 (v1*p0.Den))))*s7.1.Den))-(w64 (p0.Den*s7.1.Num)))))) (w64 ((w64 (p1-s7.2.Den)).tdiv s7.1.Den)))*s7.1.Num))),w64 (s7.2.Den+(w64 ((min (w64 ((w64 ((w64 ((w64 (p0.Den*s7.2.Num))-(w64 ((w64 (p0.Num-(w64 (v1*p0.Den))))*s7.2.Den))))-1)).tdiv (w64 ((w64 ((w64 (p0.Num-(w64 (v1*p0.Den))))*s7.1.Den))-(w64 (p0.Den*s7.1.Num)))))) (w64 ((w64 (p1-s7.2.Den)).tdiv s7.1.Den)))*s7.1.Den)))⟩:aB))))))))
 else
 some (.inr (s7.1,s7.2)))) ((⟨0,1⟩:aB),(⟨1,1⟩:aB)):Option (aB × aB)).bind fun v12 =>
 some ((⟨w64 (v12.1.Num+(w64 (v1*v12.1.Den))),v12.1.Den⟩:aB),(⟨w64 (v12.2.Num+(w64 (v1*v12.2.Den))),v12.2.Den⟩:aB))))
def qC (p0:aB) (p1:Int):Option (aB × aB × Int) :=
 ((bZ p0).bind fun v1 =>
 (if (!v1)=true then
 some ((⟨0,0⟩:aB),(⟨0,0⟩:aB),1)
 else
 ((bB p1 1 1000000000).bind fun v2 =>
 (if (!v2)=true then
 some ((⟨0,0⟩:aB),(⟨0,0⟩:aB),2)
 else
 (if p0.Den≤p1 then
 some (p0,p0,0)
 else
 ((tJ p0 p1).bind fun v3 =>
 ((((bZ v3.1).bind fun v4 =>
 (if (!v4)=true then
 some true
 else
 ((bZ v3.2).bind fun v5 =>
 some (!v5)))):Option Bool).bind fun v6 =>
 (if v6=true then
 some ((⟨0,0⟩:aB),(⟨0,0⟩:aB),2)
 else
 some (v3.1,v3.2,0)))))))))
def tD (p0:aB) (p1:Int):Option (aB × Int) :=
 ((qC p0 p1).bind fun v1 =>
 (if v1.2.2≠0 then
 some ((⟨0,0⟩:aB),v1.2.2)
 else
 (((if (w64 ((w64 ((w64 (p0.Num*v1.1.Den))-(w64 (v1.1.Num*p0.Den))))*v1.2.1.Den))<(w64 ((w64 ((w64 (v1.2.1.Num*p0.Den))-(w64 (p0.Num*v1.2.1.Den))))*v1.1.Den)) then
 some true
 else
 (if (w64 ((w64 ((w64 (p0.Num*v1.1.Den))-(w64 (v1.1.Num*p0.Den))))*v1.2.1.Den))=(w64 ((w64 ((w64 (v1.2.1.Num*p0.Den))-(w64 (p0.Num*v1.2.1.Den))))*v1.1.Den)) then
 some (decide (v1.1.Den≤v1.2.1.Den))
 else
 some false)):Option Bool).bind fun v2 =>
 (if v2=true then
 some (v1.1,0)
 else
 some (v1.2.1,0)))))
def vH (p0:aB):Option (List Int) :=
 ((bQ (S:=Int × Int × List Int) (X:=List Int) (fun s4 =>
 (if s4.2.1≠0 then
 ((kO s4.1 s4.2.1).bind fun v5 =>
 (chk ((s4.2.2.length+[v5].length)*1*64≤140737488355328) (
 some (.inl (s4.2.1,w64 (s4.1-(w64 (v5*s4.2.1))),s4.2.2++[v5])))))
 else
 some (.inr s4.2.2))) (p0.Num,p0.Den,([]:List Int)):Option (List Int)).bind fun v7 =>
 some v7)
def zD (p0:aB):Option (List Int × Int) :=
 ((bZ p0).bind fun v1 =>
 (if (!v1)=true then
 some (([]:List Int),1)
 else
 ((vH p0).bind fun v2 =>
 some (v2,0))))
def wC (p0:ByteArray) (p1:Int):Option ByteArray:=(chk (0<p0.size∧0≤p1∧p1≤140737488355328∧p0.size*p1.toNat≤140737488355328) (some ⟨(Lib.repeatL p0.data.toList p1.toNat).toArray⟩))
def aBr (p0:aB):Option (ByteArray × Int) :=
 ((bZ p0).bind fun v1 =>
 (if (!v1)=true then
 some ((⟨#[]⟩:ByteArray),1)
 else
 (if p0.Num≤0 then
 some ((⟨#[]⟩:ByteArray),2)
 else
 ((vH p0).bind fun v2 =>
 ((atI v2 (w64 ((v2.length:Int)-1))).bind fun v3 =>
 ((atI v2 (w64 ((v2.length:Int)-1))).bind fun v4 =>
 ((bQ (S:=Int × Int) (X:=Int) (fun s7 =>
 (if s7.2<((List.set v2 (w64 ((v2.length:Int)-1)).toNat (w64 (v3-1))).length:Int) then
 ((atI (List.set v2 (w64 ((v2.length:Int)-1)).toNat (w64 (v3-1))) s7.2).bind fun v8 =>
 some (.inl (w64 (s7.1+v8),w64 (s7.2+1))))
 else
 some (.inr s7.1))) (0,0):Option Int).bind fun v9 =>
 (if 200<v9 then
 some ((⟨#[]⟩:ByteArray),5)
 else
 ((bQ (S:=Int × ByteArray) (X:=ByteArray) (fun s16 =>
 (if s16.1<((List.set v2 (w64 ((v2.length:Int)-1)).toNat (w64 (v3-1))).length:Int) then
 ((atI (List.set v2 (w64 ((v2.length:Int)-1)).toNat (w64 (v3-1))) s16.1).bind fun v17 =>
 ((atI [(⟨#[82]⟩:ByteArray),(⟨#[76]⟩:ByteArray)] (s16.1.tmod 2)).bind fun v19 =>
 ((wC v19 v17).bind fun v20 =>
 (chk (v20.size≠0∧s16.2.size+v20.size≤140737488355328) (
 some (.inl (w64 (s16.1+1),s16.2++v20)))))))
 else
 some (.inr s16.2))) (0,(⟨#[]⟩:ByteArray)):Option ByteArray).bind fun v22 =>
 some (v22,0))))))))))
def uW (p0:List dU):Option ByteArray :=
 ((lN p0).bind fun v1 =>
 (if (!v1)=true then
 some (⟨#[]⟩:ByteArray)
 else
 (if (p0.length:Int)=0 then
 some (⟨#[45]⟩:ByteArray)
 else
 ((bQ (S:=Int × List ByteArray) (X:=List ByteArray) (fun s9 =>
 (if s9.1<(p0.length:Int) then
 ((atI p0 s9.1).bind fun v10 =>
 ((bC v10.Driver).bind fun v11 =>
 (chk (v11.size+(⟨#[58]⟩:ByteArray).size≤9223372036854775807) (
 ((bC v10.Driven).bind fun v13 =>
 (chk ((v11++(⟨#[58]⟩:ByteArray)).size+v13.size≤9223372036854775807) (
 (chk ((s9.2.length+[(v11++(⟨#[58]⟩:ByteArray))++v13].length)*1*64≤140737488355328) (
 some (.inl (w64 (s9.1+1),s9.2++[(v11++(⟨#[58]⟩:ByteArray))++v13])))))))))))
 else
 some (.inr s9.2))) (0,([]:List ByteArray)):Option (List ByteArray)).bind fun v16 =>
 ((jW v16 (⟨#[32]⟩:ByteArray)).bind fun v17 =>
 some v17)))))
def uU (p0:aCb):Option ByteArray :=
 ((((lN p0.Train).bind fun v1 =>
 (if (!v1)=true then
 some true
 else
 ((bZ p0.Error).bind fun v2 =>
 some (!v2)))):Option Bool).bind fun v3 =>
 (if v3=true then
 some (⟨#[]⟩:ByteArray)
 else
 ((uW p0.Train).bind fun v4 =>
 (chk (v4.size+(⟨#[32]⟩:ByteArray).size≤9223372036854775807) (
 ((fM p0.Error).bind fun v6 =>
 (chk ((v4++(⟨#[32]⟩:ByteArray)).size+v6.size≤9223372036854775807) (
 some ((v4++(⟨#[32]⟩:ByteArray))++v6)))))))))
def lD (p0:jE) (p1:fS):Option (ByteArray × Int) :=
 (((if p1.word=(⟨#[115,104,111,119]⟩:ByteArray) then
 ((mI p0).bind fun v1 =>
 some (.inr (v1,0)))
 else
 (if p1.word=(⟨#[114,105,103,104,116]⟩:ByteArray) then
 ((nE p0.Sim).bind fun v2 =>
 (if v2=true then
 some (.inr ((⟨#[121,101,115]⟩:ByteArray),0))
 else
 some (.inr ((⟨#[110,111]⟩:ByteArray),0))))
 else
 (if p1.word=(⟨#[104,97,110,100,115]⟩:ByteArray) then
 ((rE p0.Sim).bind fun v3 =>
 ((fM v3.1).bind fun v4 =>
 (chk (v4.size+(⟨#[32]⟩:ByteArray).size≤9223372036854775807) (
 ((fM v3.2.1).bind fun v6 =>
 (chk ((v4++(⟨#[32]⟩:ByteArray)).size+v6.size≤9223372036854775807) (
 some (.inr ((v4++(⟨#[32]⟩:ByteArray))++v6,v3.2.2)))))))))
 else
 (if p1.word=(⟨#[119,114,111,110,103]⟩:ByteArray) then
 ((atI p1.numbers 0).bind fun v8 =>
 ((lR p0.Sim v8).bind fun v9 =>
 some (.inr (v9.1,v9.2))))
 else
 (if p1.word=(⟨#[110,101,97,114]⟩:ByteArray) then
 ((atI p1.numbers 0).bind fun v10 =>
 ((tD p1.ratio v10).bind fun v11 =>
 ((fM v11.1).bind fun v12 =>
 some (.inr (v12,v11.2)))))
 else
 (if p1.word=(⟨#[116,101,114,109,115]⟩:ByteArray) then
 ((zD p1.ratio).bind fun v13 =>
 ((bQ (S:=Int × List ByteArray) (X:=List ByteArray) (fun s18 =>
 (if s18.1<(v13.1.length:Int) then
 ((atI v13.1 s18.1).bind fun v19 =>
 ((bC v19).bind fun v20 =>
 (chk ((s18.2.length+[v20].length)*1*64≤140737488355328) (
 some (.inl (w64 (s18.1+1),s18.2++[v20]))))))
 else
 some (.inr s18.2))) (0,([]:List ByteArray)):Option (List ByteArray)).bind fun v22 =>
 ((jW v22 (⟨#[32]⟩:ByteArray)).bind fun v23 =>
 some (.inr (v23,v13.2)))))
 else
 (if p1.word=(⟨#[112,97,116,104]⟩:ByteArray) then
 ((aBr p1.ratio).bind fun v24 =>
 some (.inr (v24.1,v24.2)))
 else
 some (.inl ())))))))):Option (Unit ⊕ (ByteArray × Int))).bind fun v25x=>orE v25x fun v25 =>
 ((atI p1.numbers 0).bind fun v26 =>
 ((atI p1.numbers 1).bind fun v27 =>
 ((atI p1.numbers 2).bind fun v28 =>
 ((atI p1.numbers 3).bind fun v29 =>
 ((atI p1.numbers 4).bind fun v30 =>
 ((qN p1.ratio (⟨v26,v27,v28,v29,v30⟩:qX)).bind fun v31 =>
 ((uU v31.1).bind fun v32 =>
 some (v32,v31.2)))))))))
def rK (p0:jE) (p1:List ByteArray):Option (jE × Bool × List ByteArray × Int) :=
 ((iU p1).bind fun v1 =>
 (if (!v1.2)=true then
 some ((⟨(⟨(⟨(⟨#[]⟩:ByteArray),(⟨([]:List cD),([]:List bM)⟩:aP),0,0,0,0,0,(⟨(⟨#[]⟩:ByteArray),([]:List aY),([]:List aL),0⟩:aC),([]:List Int),0⟩:aG),(⟨0,0,0⟩:aS),0,0,(⟨([]:List Int),0,0,0,0,0,0⟩:aD)⟩:cH)⟩:jE),false,([]:List ByteArray),7)
 else
 ((aE [(⟨#[99,111,114,114,101,99,116]⟩:ByteArray),(⟨#[100,101,115,105,103,110]⟩:ByteArray),(⟨#[112,117,115,104]⟩:ByteArray),(⟨#[114,117,110]⟩:ByteArray),(⟨#[115,101,116]⟩:ByteArray)] v1.1.word).bind fun v2 =>
 (if v2=true then
 ((iR p0.Sim v1.1).bind fun v3 =>
 some ((⟨v3.1⟩:jE),true,[v3.2.1],v3.2.2))
 else
 ((lY p0.Sim v1.1).bind fun v4 =>
 (if v4.1=true then
 some ((⟨(⟨(⟨(⟨#[]⟩:ByteArray),(⟨([]:List cD),([]:List bM)⟩:aP),0,0,0,0,0,(⟨(⟨#[]⟩:ByteArray),([]:List aY),([]:List aL),0⟩:aC),([]:List Int),0⟩:aG),(⟨0,0,0⟩:aS),0,0,(⟨([]:List Int),0,0,0,0,0,0⟩:aD)⟩:cH)⟩:jE),false,v4.2.1,v4.2.2)
 else
 ((lD p0 v1.1).bind fun v5 =>
 some ((⟨(⟨(⟨(⟨#[]⟩:ByteArray),(⟨([]:List cD),([]:List bM)⟩:aP),0,0,0,0,0,(⟨(⟨#[]⟩:ByteArray),([]:List aY),([]:List aL),0⟩:aC),([]:List Int),0⟩:aG),(⟨0,0,0⟩:aS),0,0,(⟨([]:List Int),0,0,0,0,0,0⟩:aD)⟩:cH)⟩:jE),false,[v5.1],v5.2))))))))
def pL (p0:Int):Option ByteArray :=
 (((if p0<0 then
 some true
 else
 some (decide (([(⟨#[111,107]⟩:ByteArray),(⟨#[105,110,118,97,108,105,100]⟩:ByteArray),(⟨#[114,97,110,103,101]⟩:ByteArray),(⟨#[110,111,116,45,102,111,117,110,100]⟩:ByteArray),(⟨#[101,120,105,115,116,115]⟩:ByteArray),(⟨#[102,117,108,108]⟩:ByteArray),(⟨#[115,116,97,116,101]⟩:ByteArray),(⟨#[115,121,110,116,97,120]⟩:ByteArray),(⟨#[102,111,114,109,97,116]⟩:ByteArray),(⟨#[108,111,111,112]⟩:ByteArray),(⟨#[98,114,111,107,101,110]⟩:ByteArray)].length:Int)≤p0))):Option Bool).bind fun v1 =>
 (if v1=true then
 some (⟨#[]⟩:ByteArray)
 else
 ((atI [(⟨#[111,107]⟩:ByteArray),(⟨#[105,110,118,97,108,105,100]⟩:ByteArray),(⟨#[114,97,110,103,101]⟩:ByteArray),(⟨#[110,111,116,45,102,111,117,110,100]⟩:ByteArray),(⟨#[101,120,105,115,116,115]⟩:ByteArray),(⟨#[102,117,108,108]⟩:ByteArray),(⟨#[115,116,97,116,101]⟩:ByteArray),(⟨#[115,121,110,116,97,120]⟩:ByteArray),(⟨#[102,111,114,109,97,116]⟩:ByteArray),(⟨#[108,111,111,112]⟩:ByteArray),(⟨#[98,114,111,107,101,110]⟩:ByteArray)] p0).bind fun v2 =>
 some v2)))
def dX (p0:jE) (p1:ByteArray):Option (jE × List ByteArray × Int) :=
 ((kZ p0).bind fun v1 =>
 (if (!v1)=true then
 some ((⟨(⟨(⟨(⟨#[]⟩:ByteArray),(⟨([]:List cD),([]:List bM)⟩:aP),0,0,0,0,0,(⟨(⟨#[]⟩:ByteArray),([]:List aY),([]:List aL),0⟩:aC),([]:List Int),0⟩:aG),(⟨0,0,0⟩:aS),0,0,(⟨([]:List Int),0,0,0,0,0,0⟩:aD)⟩:cH)⟩:jE),([]:List ByteArray),1)
 else
 ((rR p1).bind fun v2 =>
 ((((atI v2 0).bind fun v3 =>
 ((qO).bind fun v4 =>
 ((aE v4 v3).bind fun v5 =>
 (if (!v5)=true then
 some true
 else
 ((atI v2 0).bind fun v6 =>
 ((rM v6).bind fun v7 =>
 some (decide ((v2.length:Int)≠(w64 (1+(v7.size:Int))))))))))):Option Bool).bind fun v8 =>
 (if v8=true then
 some ((⟨(⟨(⟨(⟨#[]⟩:ByteArray),(⟨([]:List cD),([]:List bM)⟩:aP),0,0,0,0,0,(⟨(⟨#[]⟩:ByteArray),([]:List aY),([]:List aL),0⟩:aC),([]:List Int),0⟩:aG),(⟨0,0,0⟩:aS),0,0,(⟨([]:List Int),0,0,0,0,0,0⟩:aD)⟩:cH)⟩:jE),([]:List ByteArray),7)
 else
 ((rK p0 v2).bind fun v9 =>
 (if v9.2.2.2≠0 then
 ((iE p0.Sim).bind fun v10 =>
 ((pL v9.2.2.2).bind fun v11 =>
 (chk ((⟨#[101,114,114,111,114,32]⟩:ByteArray).size+v11.size≤9223372036854775807) (
 some ((⟨v10⟩:jE),[(⟨#[101,114,114,111,114,32]⟩:ByteArray)++v11],0)))))
 else
 (((if (!v9.2.1)=true then
 ((iE p0.Sim).bind fun v13 =>
 some (v13.Movement.Name,v13.Movement.Minute,v13.Movement.Hour,v13.Movement.Escape,v13.Movement.Teeth,v13.Movement.Beats,v13.Movement.Calendar.Name,v13.Movement.Calendar.Week,v13.Movement.Strike,v13.Start,v13.First,v13.Clock,v13.Dial.Months,v13.Dial.Teeth,v13.Dial.At,v13.Dial.Day,v13.Dial.Week,v13.Dial.Weekday,v13.Movement.Works.Arbors,v13.Movement.Works.Meshes,v13.Movement.Calendar.Months,v13.Movement.Calendar.Rules,v13.Movement.Cam,v13.Dial.Cam))
 else
 some (v9.1.Sim.Movement.Name,v9.1.Sim.Movement.Minute,v9.1.Sim.Movement.Hour,v9.1.Sim.Movement.Escape,v9.1.Sim.Movement.Teeth,v9.1.Sim.Movement.Beats,v9.1.Sim.Movement.Calendar.Name,v9.1.Sim.Movement.Calendar.Week,v9.1.Sim.Movement.Strike,v9.1.Sim.Start,v9.1.Sim.First,v9.1.Sim.Clock,v9.1.Sim.Dial.Months,v9.1.Sim.Dial.Teeth,v9.1.Sim.Dial.At,v9.1.Sim.Dial.Day,v9.1.Sim.Dial.Week,v9.1.Sim.Dial.Weekday,v9.1.Sim.Movement.Works.Arbors,v9.1.Sim.Movement.Works.Meshes,v9.1.Sim.Movement.Calendar.Months,v9.1.Sim.Movement.Calendar.Rules,v9.1.Sim.Movement.Cam,v9.1.Sim.Dial.Cam)):Option (ByteArray × Int × Int × Int × Int × Int × ByteArray × Int × Int × aS × Int × Int × Int × Int × Int × Int × Int × Int × List cD × List bM × List aY × List aL × List Int × List Int)).bind fun v14 =>
 some ((⟨(⟨(⟨v14.1,(⟨v14.2.2.2.2.2.2.2.2.2.2.2.2.2.2.2.2.2.2.1,v14.2.2.2.2.2.2.2.2.2.2.2.2.2.2.2.2.2.2.2.1⟩:aP),v14.2.1,v14.2.2.1,v14.2.2.2.1,v14.2.2.2.2.1,v14.2.2.2.2.2.1,(⟨v14.2.2.2.2.2.2.1,v14.2.2.2.2.2.2.2.2.2.2.2.2.2.2.2.2.2.2.2.2.1,v14.2.2.2.2.2.2.2.2.2.2.2.2.2.2.2.2.2.2.2.2.2.1,v14.2.2.2.2.2.2.2.1⟩:aC),v14.2.2.2.2.2.2.2.2.2.2.2.2.2.2.2.2.2.2.2.2.2.2.1,v14.2.2.2.2.2.2.2.2.1⟩:aG),v14.2.2.2.2.2.2.2.2.2.1,v14.2.2.2.2.2.2.2.2.2.2.1,v14.2.2.2.2.2.2.2.2.2.2.2.1,(⟨v14.2.2.2.2.2.2.2.2.2.2.2.2.2.2.2.2.2.2.2.2.2.2.2,v14.2.2.2.2.2.2.2.2.2.2.2.2.1,v14.2.2.2.2.2.2.2.2.2.2.2.2.2.1,v14.2.2.2.2.2.2.2.2.2.2.2.2.2.2.1,v14.2.2.2.2.2.2.2.2.2.2.2.2.2.2.2.1,v14.2.2.2.2.2.2.2.2.2.2.2.2.2.2.2.2.1,v14.2.2.2.2.2.2.2.2.2.2.2.2.2.2.2.2.2.1⟩:aD)⟩:cH)⟩:jE),v9.2.2.1,0)))))))))
def mU (p0:Int):Option Bool :=
 (if 97≤p0 then
 some (decide (p0≤122))
 else
 some false)
def pV (p0:Int):Option Bool :=
 (if 48≤p0 then
 some (decide (p0≤57))
 else
 some false)
def mT (p0:ByteArray):Option Bool :=
 (((if p0=(⟨#[]⟩:ByteArray) then
 some true
 else
 (if 12<(p0.size:Int) then
 some true
 else
 ((aJf p0 0).bind fun v1 =>
 ((mU v1).bind fun v2 =>
 some (!v2))))):Option Bool).bind fun v3 =>
 (if v3=true then
 some false
 else
 ((bQ (S:=Int) (X:=Unit ⊕ Bool) (fun s11 =>
 (if s11<(p0.size:Int) then
 ((((aJf p0 s11).bind fun v12 =>
 ((mU v12).bind fun v13 =>
 (if (!v13)=true then
 ((aJf p0 s11).bind fun v14 =>
 ((pV v14).bind fun v15 =>
 (if (!v15)=true then
 ((aJf p0 s11).bind fun v16 =>
 some (decide (v16≠45)))
 else
 some false)))
 else
 some false))):Option Bool).bind fun v17 =>
 (if v17=true then
 some (.inr (.inr false))
 else
 some (.inl (w64 (s11+1)))))
 else
 some (.inr (.inl ())))) 0:Option (Unit ⊕ Bool)).bind fun v18x=>orE v18x fun v18 =>
 some true)))
def cV (p0:Int) (p1:Int) (p2:Int):Option Bool :=
 (if p1≤p0 then
 some (decide (p0≤p2))
 else
 some false)
def mV (p0:Int):Option Bool :=
 ((cV p0 6 240).bind fun v1 =>
 some v1)
def pW (p0:cD):Option Bool :=
 ((bQ (S:=Int) (X:=Unit ⊕ Bool) (fun s4 =>
 (if s4<(p0.Wheels.length:Int) then
 ((atI p0.Wheels s4).bind fun v5 =>
 ((mV v5).bind fun v6 =>
 (if (!v6)=true then
 some (.inr (.inr false))
 else
 some (.inl (w64 (s4+1))))))
 else
 some (.inr (.inl ())))) 0:Option (Unit ⊕ Bool)).bind fun v7x=>orE v7x fun v7 =>
 ((mT p0.Name).bind fun v8 =>
 (if v8=true then
 some (decide ((p0.Wheels.length:Int)≤5))
 else
 some false)))
def sB (p0:aP) (p1:ByteArray):Option Int :=
 ((bQ (S:=Int) (X:=Unit ⊕ Int) (fun s3 =>
 (if s3<(p0.Arbors.length:Int) then
 ((atI p0.Arbors s3).bind fun v4 =>
 (if v4.Name=p1 then
 some (.inr (.inr s3))
 else
 some (.inl (w64 (s3+1)))))
 else
 some (.inr (.inl ())))) 0:Option (Unit ⊕ Int)).bind fun v5x=>orE v5x fun v5 =>
 some (-1))
def mW (p0:aP) (p1:Int) (p2:Int):Option Bool :=
 ((cV p1 0 (w64 ((p0.Arbors.length:Int)-1))).bind fun v1 =>
 (if v1=true then
 ((atI p0.Arbors p1).bind fun v2 =>
 ((cV p2 0 (w64 ((v2.Wheels.length:Int)-1))).bind fun v3 =>
 some v3))
 else
 some false))
def sD (p0:aP) (p1:bM):Option Bool :=
 (if p1.A≠p1.B then
 ((mW p0 p1.A p1.WheelA).bind fun v1 =>
 (if v1=true then
 ((mW p0 p1.B p1.WheelB).bind fun v2 =>
 some v2)
 else
 some false))
 else
 some false)
def pX (p0:bM) (p1:bM):Option Bool :=
 (if p0=p1 then
 some true
 else
 (if p0.A=p1.B then
 (if p0.WheelA=p1.WheelB then
 (if p0.B=p1.A then
 some (decide (p0.WheelB=p1.WheelA))
 else
 some false)
 else
 some false)
 else
 some false))
def pY (p0:aP) (p1:bM) (p2:Int):Option Bool :=
 ((bQ (S:=Int) (X:=Unit ⊕ Bool) (fun s4 =>
 (if s4<p2 then
 ((atI p0.Meshes s4).bind fun v5 =>
 ((pX v5 p1).bind fun v6 =>
 (if v6=true then
 some (.inr (.inr true))
 else
 some (.inl (w64 (s4+1))))))
 else
 some (.inr (.inl ())))) 0:Option (Unit ⊕ Bool)).bind fun v7x=>orE v7x fun v7 =>
 some false)
def xM (p0:aP):Option Bool :=
 ((bQ (S:=Int) (X:=Unit ⊕ Bool) (fun s7 =>
 (if s7<(p0.Arbors.length:Int) then
 ((((atI p0.Arbors s7).bind fun v8 =>
 ((pW v8).bind fun v9 =>
 (if (!v9)=true then
 some true
 else
 ((atI p0.Arbors s7).bind fun v10 =>
 ((sB p0 v10.Name).bind fun v11 =>
 some (decide (v11≠s7))))))):Option Bool).bind fun v12 =>
 (if v12=true then
 some (.inr (.inr false))
 else
 some (.inl (w64 (s7+1)))))
 else
 some (.inr (.inl ())))) 0:Option (Unit ⊕ Bool)).bind fun v13x=>orE v13x fun v13 =>
 ((bQ (S:=Int) (X:=Unit ⊕ Bool) (fun s20 =>
 (if s20<(p0.Meshes.length:Int) then
 ((((atI p0.Meshes s20).bind fun v21 =>
 ((sD p0 v21).bind fun v22 =>
 (if (!v22)=true then
 some true
 else
 ((atI p0.Meshes s20).bind fun v23 =>
 ((pY p0 v23 s20).bind fun v24 =>
 some v24))))):Option Bool).bind fun v25 =>
 (if v25=true then
 some (.inr (.inr false))
 else
 some (.inl (w64 (s20+1)))))
 else
 some (.inr (.inl ())))) 0:Option (Unit ⊕ Bool)).bind fun v26x=>orE v26x fun v26 =>
 (if (p0.Arbors.length:Int)≤16 then
 some (decide ((p0.Meshes.length:Int)≤24))
 else
 some false)))
def kQ (p0:aP) (p1:Int):Option Bool :=
 ((cV p1 0 (w64 ((p0.Arbors.length:Int)-1))).bind fun v1 =>
 some v1)
def uD (p0:Int) (p1:Int):Option Int :=
 ((bQ (S:=Int × Int) (X:=Int) (fun s3 =>
 (if 0<s3.2 then
 (chk (s3.2≠0) (
 some (.inl (s3.2,s3.1.tmod s3.2))))
 else
 some (.inr s3.1))) (p0,p1):Option Int).bind fun v5 =>
 some v5)
def pZ (p0:List aL):Option (Int × Bool) :=
 ((bQ (S:=Int × Int) (X:=Int ⊕ (Int × Bool)) (fun s12 =>
 (if s12.2<(p0.length:Int) then
 ((((atI p0 s12.2).bind fun v13 =>
 ((cV v13.Every 1 1000).bind fun v14 =>
 (if (!v14)=true then
 some true
 else
 ((atI p0 s12.2).bind fun v15 =>
 ((atI p0 s12.2).bind fun v16 =>
 ((cV v15.Rest 0 (w64 (v16.Every-1))).bind fun v17 =>
 some (!v17))))))):Option Bool).bind fun v18 =>
 (if v18=true then
 some (.inr (.inr (0,false)))
 else
 ((atI p0 s12.2).bind fun v19 =>
 ((atI p0 s12.2).bind fun v20 =>
 ((uD s12.1 v19.Every).bind fun v21 =>
 (chk (v21≠0) (
 (if 2000<(w64 ((w64 (s12.1.tdiv v21))*v20.Every)) then
 some (.inr (.inr (0,false)))
 else
 some (.inl (w64 ((w64 (s12.1.tdiv v21))*v20.Every),w64 (s12.2+1)))))))))))
 else
 some (.inr (.inl s12.1)))) (1,0):Option (Int ⊕ (Int × Bool))).bind fun v23x=>orE v23x fun v23 =>
 some (v23,decide ((p0.length:Int)≤6)))
def nP (p0:List aY):Option Bool :=
 ((bQ (S:=Int) (X:=Unit ⊕ Bool) (fun s16 =>
 (if s16<(p0.length:Int) then
 ((((((atI p0 s16).bind fun v17 =>
 ((mT v17.Name).bind fun v18 =>
 (if (!v18)=true then
 some true
 else
 ((atI p0 s16).bind fun v19 =>
 ((cV v19.Days 1 60).bind fun v20 =>
 (if (!v20)=true then
 some true
 else
 ((atI p0 s16).bind fun v21 =>
 ((cV v21.Leap 1 60).bind fun v22 =>
 some (!v22))))))))):Option Bool).bind fun v23 =>
 (if v23=true then
 some (.inr (.inr (.inr false)))
 else
 bQ (S:=Int) (X:=Unit ⊕ (Int ⊕ (Unit ⊕ Bool))) (fun s27 =>
 (if s27<s16 then
 ((atI p0 s27).bind fun v28 =>
 ((atI p0 s16).bind fun v29 =>
 (if v28.Name=v29.Name then
 some (.inr (.inr (.inr (.inr false))))
 else
 some (.inl (w64 (s27+1))))))
 else
 some (.inr (.inl ())))) 0)):Option (Unit ⊕ (Int ⊕ (Unit ⊕ Bool)))).bind fun v30x=>orE v30x fun v30 =>
 some (.inl (w64 (s16+1))))
 else
 some (.inr (.inl ())))) 0:Option (Unit ⊕ Bool)).bind fun v31x=>orE v31x fun v31 =>
 ((cV (p0.length:Int) 1 20).bind fun v32 =>
 some v32))
def uE (p0:aC):Option Bool :=
 ((pZ p0.Rules).bind fun v1 =>
 (if v1.2=true then
 ((mT p0.Name).bind fun v2 =>
 (if v2=true then
 ((nP p0.Months).bind fun v3 =>
 (if v3=true then
 ((cV p0.Week 1 12).bind fun v4 =>
 some v4)
 else
 some false))
 else
 some false))
 else
 some false))
def sG (p0:List Int):Option Bool :=
 ((bQ (S:=Int) (X:=Unit ⊕ Bool) (fun s4 =>
 (if s4<(p0.length:Int) then
 ((atI p0 s4).bind fun v5 =>
 ((cV v5 1 60).bind fun v6 =>
 (if (!v6)=true then
 some (.inr (.inr false))
 else
 some (.inl (w64 (s4+1))))))
 else
 some (.inr (.inl ())))) 0:Option (Unit ⊕ Bool)).bind fun v7x=>orE v7x fun v7 =>
 ((cV (p0.length:Int) 1 260).bind fun v8 =>
 some v8))
def xQ (p0:aG):Option Bool :=
 ((((mT p0.Name).bind fun v1 =>
 (if (!v1)=true then
 some true
 else
 ((xM p0.Works).bind fun v2 =>
 (if (!v2)=true then
 some true
 else
 ((kQ p0.Works p0.Minute).bind fun v3 =>
 (if (!v3)=true then
 some true
 else
 ((kQ p0.Works p0.Hour).bind fun v4 =>
 (if (!v4)=true then
 some true
 else
 ((kQ p0.Works p0.Escape).bind fun v5 =>
 some (!v5)))))))))):Option Bool).bind fun v6 =>
 (if v6=true then
 some false
 else
 ((mV p0.Teeth).bind fun v7 =>
 (if v7=true then
 ((cV p0.Beats 1 36000).bind fun v8 =>
 (if v8=true then
 ((uE p0.Calendar).bind fun v9 =>
 (if v9=true then
 ((sG p0.Cam).bind fun v10 =>
 (if v10=true then
 ((cV p0.Strike 0 2).bind fun v11 =>
 some v11)
 else
 some false))
 else
 some false))
 else
 some false))
 else
 some false))))
def sY (p0:Int):Option aB :=
 some (⟨p0,1⟩:aB)
def oS (p0:aP) (p1:bM):Option dU :=
 ((atI p0.Arbors p1.A).bind fun v1 =>
 ((atI v1.Wheels p1.WheelA).bind fun v2 =>
 ((atI p0.Arbors p1.B).bind fun v3 =>
 ((atI v3.Wheels p1.WheelB).bind fun v4 =>
 some (⟨v2,v4⟩:dU)))))
def oR (p0:Int):Option Int :=
 (if p0<0 then
 some (IntKind.u64.wrap (-(IntKind.u64.wrap p0)))
 else
 some (IntKind.u64.wrap p0))
def mF (p0:Int) (p1:Int):Option (aB × Bool) :=
 ((oR p0).bind fun v1 =>
 ((oR p1).bind fun v2 =>
 ((bQ (S:=Int × Int) (X:=Int) (fun s5 =>
 (if 0<s5.2 then
 (chk (s5.2≠0) (
 some (.inl (s5.2,s5.1.tmod s5.2))))
 else
 some (.inr s5.1))) (v1,v2):Option Int).bind fun v7 =>
 (chk (v7≠0) (
 (chk (v7≠0) (
 (((if 1000000000<(IntKind.u64.wrap (v1.tdiv v7)) then
 some true
 else
 some (decide (1000000000<(IntKind.u64.wrap (v2.tdiv v7))))):Option Bool).bind fun v10 =>
 (if v10=true then
 some ((⟨0,0⟩:aB),false)
 else
 (((if ((decide (p0<0)) != (decide (p1<0)))=true then
 some (⟨w64 (-(w64 (IntKind.u64.wrap (v1.tdiv v7)))),w64 (IntKind.u64.wrap (v2.tdiv v7))⟩:aB)
 else
 some (⟨w64 (IntKind.u64.wrap (v1.tdiv v7)),w64 (IntKind.u64.wrap (v2.tdiv v7))⟩:aB)):Option aB).bind fun v11 =>
 some (v11,true)))))))))))
def qV (p0:aB) (p1:aB):Option (aB × Bool) :=
 ((mF (w64 (p0.Num*p1.Num)) (w64 (p0.Den*p1.Den))).bind fun v1 =>
 some (v1.1,v1.2))
def hZ (p0:aP) (p1:List Bool) (p2:List aB):Option (Bool × Bool × List Bool × List aB) :=
 ((bQ (S:=Bool × Int × List Bool × List aB) (X:=(Bool × List Bool × List aB) ⊕ (Bool × Bool × List Bool × List aB)) (fun s14 =>
 (if s14.2.1<(p0.Meshes.length:Int) then
 ((((atI p0.Meshes s14.2.1).bind fun v15 =>
 ((oS p0 v15).bind fun v16 =>
 ((atI s14.2.2.1 v15.A).bind fun v17 =>
 ((atI s14.2.2.1 v15.B).bind fun v18 =>
 (if (v17 == v18)=true then
 some (.inl (s14.1,s14.2.2.1,s14.2.2.2))
 else
 ((((atI s14.2.2.1 v15.B).bind fun v19 =>
 (if v19=true then
 some ((⟨v15.B,0,v15.A,0⟩:bM),(⟨v16.Driven,v16.Driver⟩:dU))
 else
 some (v15,v16))):Option (bM × dU)).bind fun v20 =>
 ((mF (w64 (-v20.2.Driver)) v20.2.Driven).bind fun v21 =>
 ((atI s14.2.2.2 v20.1.A).bind fun v22 =>
 ((qV v22 v21.1).bind fun v23 =>
 (if (!v23.2)=true then
 some (.inr (.inr (.inr (false,false,s14.2.2.1,s14.2.2.2))))
 else
 ((atI s14.2.2.2 v20.1.B).bind fun v24 =>
 ((atI s14.2.2.1 v20.1.B).bind fun v25 =>
 some (.inl (true,List.set s14.2.2.1 v20.1.B.toNat true,List.set s14.2.2.2 v20.1.B.toNat v23.1)))))))))))))):Option ((Bool × List Bool × List aB) ⊕ ((Bool × Int × List Bool × List aB) ⊕ ((Bool × List Bool × List aB) ⊕ (Bool × Bool × List Bool × List aB))))).bind fun v26x=>orE v26x fun v26 =>
 some (.inl (v26.1,w64 (s14.2.1+1),v26.2.1,v26.2.2)))
 else
 some (.inr (.inl (s14.1,s14.2.2.1,s14.2.2.2))))) (false,0,p1,p2):Option ((Bool × List Bool × List aB) ⊕ (Bool × Bool × List Bool × List aB))).bind fun v27x=>orE v27x fun v27 =>
 some (v27.1,true,v27.2.1,v27.2.2))
def sC (p0:aP) (p1:bM) (p2:List aB):Option Bool :=
 ((oS p0 p1).bind fun v1 =>
 ((mF (w64 (-v1.Driver)) v1.Driven).bind fun v2 =>
 ((atI p2 p1.A).bind fun v3 =>
 ((qV v3 v2.1).bind fun v4 =>
 (if v4.2=true then
 ((atI p2 p1.B).bind fun v5 =>
 some (decide (v4.1=v5)))
 else
 some false)))))
def nO (p0:aP) (p1:Int):Option (List aB × Int) :=
 ((kQ p0 p1).bind fun v1 =>
 (if (!v1)=true then
 some (([]:List aB),2)
 else
 (chk (0≤(p0.Arbors.length:Int)∧(p0.Arbors.length:Int)=(p0.Arbors.length:Int)∧(p0.Arbors.length:Int).toNat*1*64≤281474976710656) (
 (chk (0≤(p0.Arbors.length:Int)∧(p0.Arbors.length:Int)=(p0.Arbors.length:Int)∧(p0.Arbors.length:Int).toNat*2*64≤281474976710656) (
 ((atI (List.replicate (p0.Arbors.length:Int).toNat false) p1).bind fun v4 =>
 ((sY 1).bind fun v5 =>
 ((atI (List.replicate (p0.Arbors.length:Int).toNat (⟨0,0⟩:aB)) p1).bind fun v6 =>
 ((bQ (S:=Bool × List Bool × List aB) (X:=(List Bool × List aB) ⊕ (List aB × Int)) (fun s11 =>
 (if s11.1=true then
 ((hZ p0 s11.2.1 s11.2.2).bind fun v12 =>
 (chk (v12.2.2.1.length=s11.2.1.length) (
 (chk (v12.2.2.2.length=s11.2.2.length) (
 (if (!v12.2.1)=true then
 some (.inr (.inr (([]:List aB),2)))
 else
 some (.inl (v12.1,v12.2.2.1,v12.2.2.2))))))))
 else
 some (.inr (.inl (s11.2.1,s11.2.2))))) (true,List.set (List.replicate (p0.Arbors.length:Int).toNat false) p1.toNat true,List.set (List.replicate (p0.Arbors.length:Int).toNat (⟨0,0⟩:aB)) p1.toNat v5):Option ((List Bool × List aB) ⊕ (List aB × Int))).bind fun v15x=>orE v15x fun v15 =>
 ((bQ (S:=Int) (X:=Unit ⊕ (List aB × Int)) (fun s18 =>
 (if s18<(v15.1.length:Int) then
 ((atI v15.1 s18).bind fun v19 =>
 (if (!v19)=true then
 some (.inr (.inr (([]:List aB),6)))
 else
 some (.inl (w64 (s18+1)))))
 else
 some (.inr (.inl ())))) 0:Option (Unit ⊕ (List aB × Int))).bind fun v20x=>orE v20x fun v20 =>
 ((bQ (S:=Int) (X:=Unit ⊕ (List aB × Int)) (fun s24 =>
 (if s24<(p0.Meshes.length:Int) then
 ((atI p0.Meshes s24).bind fun v25 =>
 ((sC p0 v25 v15.2).bind fun v26 =>
 (if (!v26)=true then
 some (.inr (.inr (([]:List aB),10)))
 else
 some (.inl (w64 (s24+1))))))
 else
 some (.inr (.inl ())))) 0:Option (Unit ⊕ (List aB × Int))).bind fun v27x=>orE v27x fun v27 =>
 some (v15.2,0)))))))))))))
def sA (p0:Int):Option Int :=
 (if p0<0 then
 some (w64 (-p0))
 else
 some p0)
def sZ (p0:aG) (p1:aB):Option Bool :=
 ((sA p1.Num).bind fun v1 =>
 some (decide ((w64 ((w64 (2*p0.Teeth))*v1))=(w64 (p0.Beats*p1.Den)))))
def oT (p0:aC) (p1:List Int):Option Int :=
 ((((uE p0).bind fun v1 =>
 (if (!v1)=true then
 some true
 else
 ((sG p1).bind fun v2 =>
 some (!v2)))):Option Bool).bind fun v3 =>
 (if v3=true then
 some 1
 else
 (chk ((p0.Months.length:Int)≠0) (
 (if ((p1.length:Int).tmod (p0.Months.length:Int))≠0 then
 some 6
 else
 some 0)))))
def nQ (p0:aG):Option (List ByteArray) :=
 ((nO p0.Works p0.Minute).bind fun v1 =>
 (((if v1.2≠0 then
 (chk ((([]:List ByteArray).length+[(⟨#[119,111,114,107,115]⟩:ByteArray)].length)*1*64≤140737488355328) (
 some (([]:List ByteArray)++[(⟨#[119,111,114,107,115]⟩:ByteArray)])))
 else
 ((((atI v1.1 p0.Hour).bind fun v3 =>
 (if v3≠(⟨1,12⟩:aB) then
 (chk ((([]:List ByteArray).length+[(⟨#[104,111,117,114]⟩:ByteArray)].length)*1*64≤140737488355328) (
 some (([]:List ByteArray)++[(⟨#[104,111,117,114]⟩:ByteArray)])))
 else
 some ([]:List ByteArray))):Option (List ByteArray)).bind fun v5 =>
 ((atI v1.1 p0.Escape).bind fun v6 =>
 ((sZ p0 v6).bind fun v7 =>
 (if (!v7)=true then
 (chk ((v5.length+[(⟨#[98,101,97,116,115]⟩:ByteArray)].length)*1*64≤140737488355328) (
 some (v5++[(⟨#[98,101,97,116,115]⟩:ByteArray)])))
 else
 some v5))))):Option (List ByteArray)).bind fun v9 =>
 ((((oT p0.Calendar p0.Cam).bind fun v10 =>
 (if v10≠0 then
 (chk ((v9.length+[(⟨#[99,97,109]⟩:ByteArray)].length)*1*64≤140737488355328) (
 some (v9++[(⟨#[99,97,109]⟩:ByteArray)])))
 else
 some v9)):Option (List ByteArray)).bind fun v12 =>
 some v12)))
def xO (p0:aD):Option Bool :=
 ((((sG p0.Cam).bind fun v1 =>
 (if (!v1)=true then
 some true
 else
 (if p0.Months<1 then
 some true
 else
 (chk (p0.Months≠0) (
 (if ((p0.Cam.length:Int).tmod p0.Months)≠0 then
 some true
 else
 ((cV p0.Teeth 1 60).bind fun v3 =>
 some (!v3)))))))):Option Bool).bind fun v4 =>
 (if v4=true then
 some false
 else
 ((bQ (S:=Int) (X:=Unit ⊕ Bool) (fun s7 =>
 (if s7<(p0.Cam.length:Int) then
 ((atI p0.Cam s7).bind fun v8 =>
 (if p0.Teeth<v8 then
 some (.inr (.inr false))
 else
 some (.inl (w64 (s7+1)))))
 else
 some (.inr (.inl ())))) 0:Option (Unit ⊕ Bool)).bind fun v9x=>orE v9x fun v9 =>
 ((cV p0.At 0 (w64 ((p0.Cam.length:Int)-1))).bind fun v10 =>
 (if v10=true then
 ((cV p0.Day 1 p0.Teeth).bind fun v11 =>
 (if v11=true then
 ((cV p0.Week 1 12).bind fun v12 =>
 (if v12=true then
 ((cV p0.Weekday 1 p0.Week).bind fun v13 =>
 some v13)
 else
 some false))
 else
 some false))
 else
 some false)))))
def vS (p0:Int):Option Bool :=
 ((cV p0 0 9999).bind fun v1 =>
 some v1)
def sF (p0:aC) (p1:Int):Option Bool :=
 ((bQ (S:=Bool × Int) (X:=Bool) (fun s7 =>
 (if s7.2<(p0.Rules.length:Int) then
 ((((atI p0.Rules s7.2).bind fun v8 =>
 (chk (v8.Every≠0) (
 ((atI p0.Rules s7.2).bind fun v10 =>
 (if (p1.tmod v8.Every)=v10.Rest then
 ((atI p0.Rules s7.2).bind fun v11 =>
 some v11.Leap)
 else
 some s7.1))))):Option Bool).bind fun v12 =>
 some (.inl (v12,w64 (s7.2+1))))
 else
 some (.inr s7.1))) (false,0):Option Bool).bind fun v13 =>
 some v13)
def sE (p0:aC) (p1:Int) (p2:Int):Option Int :=
 ((sF p0 p1).bind fun v1 =>
 (if v1=true then
 ((atI p0.Months p2).bind fun v2 =>
 some v2.Leap)
 else
 ((atI p0.Months p2).bind fun v3 =>
 some v3.Days)))
def xN (p0:aC) (p1:aS):Option Bool :=
 ((((vS p1.Year).bind fun v1 =>
 (if (!v1)=true then
 some true
 else
 ((cV p1.Month 1 (p0.Months.length:Int)).bind fun v2 =>
 some (!v2)))):Option Bool).bind fun v3 =>
 (if v3=true then
 some false
 else
 ((sE p0 p1.Year (w64 (p1.Month-1))).bind fun v4 =>
 ((cV p1.Day 1 v4).bind fun v5 =>
 some v5))))
def uC (p0:List Int):Option (List Int) :=
 (chk ((([]:List Int).length+p0.length)*1*64≤140737488355328) (
 some (([]:List Int)++p0)))
def jV (p0:Int) (p1:Int):Option Int :=
 (if p1<p0 then
 some p0
 else
 some p1)
def jO (p0:aC) (p1:List Int) (p2:aS) (p3:Int):Option (aD × Int) :=
 ((oT p0 p1).bind fun v1 =>
 (if v1≠0 then
 some ((⟨([]:List Int),0,0,0,0,0,0⟩:aD),v1)
 else
 ((((xN p0 p2).bind fun v2 =>
 (if (!v2)=true then
 some true
 else
 ((cV p3 1 p0.Week).bind fun v3 =>
 some (!v3)))):Option Bool).bind fun v4 =>
 (if v4=true then
 some ((⟨([]:List Int),0,0,0,0,0,0⟩:aD),2)
 else
 ((uC p1).bind fun v5 =>
 (chk ((p0.Months.length:Int)≠0) (
 (chk ((w64 ((p1.length:Int).tdiv (p0.Months.length:Int)))≠0) (
 ((bQ (S:=Int × Int) (X:=Int) (fun s11 =>
 (if s11.1<(p1.length:Int) then
 ((atI p1 s11.1).bind fun v12 =>
 ((jV s11.2 v12).bind fun v13 =>
 some (.inl (w64 (s11.1+1),v13))))
 else
 some (.inr s11.2))) (0,0):Option Int).bind fun v14 =>
 ((bQ (S:=Int × Int) (X:=Int) (fun s20 =>
 (if s20.1<(p0.Months.length:Int) then
 ((atI p0.Months s20.1).bind fun v21 =>
 ((atI p0.Months s20.1).bind fun v22 =>
 ((jV v21.Days v22.Leap).bind fun v23 =>
 ((jV s20.2 v23).bind fun v24 =>
 some (.inl (w64 (s20.1+1),v24))))))
 else
 some (.inr s20.2))) (0,v14):Option Int).bind fun v25 =>
 some ((⟨v5,(p0.Months.length:Int),v25,w64 ((w64 ((w64 ((p2.Year.tmod (w64 ((p1.length:Int).tdiv (p0.Months.length:Int))))*(p0.Months.length:Int)))+p2.Month))-1),p2.Day,p0.Week,p3⟩:aD),0))))))))))))
def vT (p0:aG) (p1:aS) (p2:Int):Option (aD × Int) :=
 ((jO p0.Calendar p0.Cam p1 p2).bind fun v1 =>
 some (v1.1,v1.2))
def rZ (p0:List Int) (p1:List Int):Option Bool :=
 (if (p0.length:Int)≠(p1.length:Int) then
 some false
 else
 ((bQ (S:=Int) (X:=Unit ⊕ Bool) (fun s4 =>
 (if s4<(p0.length:Int) then
 ((atI p0 s4).bind fun v5 =>
 ((atI p1 s4).bind fun v6 =>
 (if v5≠v6 then
 some (.inr (.inr false))
 else
 some (.inl (w64 (s4+1))))))
 else
 some (.inr (.inl ())))) 0:Option (Unit ⊕ Bool)).bind fun v7x=>orE v7x fun v7 =>
 some true))
def xR (p0:cH):Option Bool :=
 ((((xQ p0.Movement).bind fun v1 =>
 (if (!v1)=true then
 some true
 else
 ((nQ p0.Movement).bind fun v2 =>
 (if 0<(v2.length:Int) then
 some true
 else
 ((cV p0.Clock 0 1000000000).bind fun v3 =>
 (if (!v3)=true then
 some true
 else
 ((xO p0.Dial).bind fun v4 =>
 some (!v4)))))))):Option Bool).bind fun v5 =>
 (if v5=true then
 some false
 else
 ((vT p0.Movement p0.Start p0.First).bind fun v6 =>
 (if v6.2=0 then
 ((rZ p0.Dial.Cam p0.Movement.Cam).bind fun v7 =>
 (if v7=true then
 (if p0.Dial.Months=v6.1.Months then
 (if p0.Dial.Week=v6.1.Week then
 some (decide (p0.Dial.Teeth=v6.1.Teeth))
 else
 some false)
 else
 some false)
 else
 some false))
 else
 some false))))
def qQ (p0:jE):Option Bool :=
 ((xR p0.Sim).bind fun v1 =>
 some v1)
def dT (p0:ByteArray) (p1:ByteArray):Option Bool :=
 (if (p1.size:Int)≤(p0.size:Int) then
 (chk (0≤(w64 ((p0.size:Int)-(p1.size:Int)))∧(w64 ((p0.size:Int)-(p1.size:Int)))≤(p0.size:Int)∧(p0.size:Int)≤(p0.size:Int)) (
 some (decide ((p0.extract (w64 ((p0.size:Int)-(p1.size:Int))).toNat (p0.size:Int).toNat)=p1))))
 else
 some false)
def dO (p0:ByteArray) (p1:ByteArray):Option ByteArray :=
 ((dT p0 p1).bind fun v1 =>
 (if v1=true then
 (chk (0≤(0:Int)∧(0:Int)≤(w64 ((p0.size:Int)-(p1.size:Int)))∧(w64 ((p0.size:Int)-(p1.size:Int)))≤(p0.size:Int)) (
 some (p0.extract (0:Int).toNat (w64 ((p0.size:Int)-(p1.size:Int))).toNat)))
 else
 some p0))
def eF (p0:ByteArray) (p1:ByteArray):Option ByteArray :=
 ((dO p0 p1).bind fun v1 =>
 some v1)
def rF (p0:ByteArray):Option ByteArray :=
 (if p0=(⟨#[]⟩:ByteArray) then
 some (⟨#[]⟩:ByteArray)
 else
 ((kL).bind fun v1 =>
 ((((eF p0 (⟨#[10]⟩:ByteArray)).bind fun v2 =>
 ((fQ v2 (⟨#[10]⟩:ByteArray)).bind fun v3 =>
 bQ (S:=Int × ByteArray × ByteArray × Int × Int × Int × Int × Int × ByteArray × Int × Int × aS × Int × Int × Int × Int × Int × Int × Int × Int × List cD × List bM × List aY × List aL × List Int × List Int) (X:=ByteArray) (fun s18 =>
 (if s18.1<(v3.length:Int) then
 ((((atI v3 s18.1).bind fun v19 =>
 (if s18.1=60 then
 (chk ((⟨#[101,114,114,111,114,32,102,117,108,108,10]⟩:ByteArray).size≠0∧s18.2.1.size+(⟨#[101,114,114,111,114,32,102,117,108,108,10]⟩:ByteArray).size≤140737488355328) (
 some (.inr (.inr (s18.2.1++(⟨#[101,114,114,111,114,32,102,117,108,108,10]⟩:ByteArray))))))
 else
 ((dX (⟨(⟨(⟨s18.2.2.1,(⟨s18.2.2.2.2.2.2.2.2.2.2.2.2.2.2.2.2.2.2.2.2.1,s18.2.2.2.2.2.2.2.2.2.2.2.2.2.2.2.2.2.2.2.2.2.1⟩:aP),s18.2.2.2.1,s18.2.2.2.2.1,s18.2.2.2.2.2.1,s18.2.2.2.2.2.2.1,s18.2.2.2.2.2.2.2.1,(⟨s18.2.2.2.2.2.2.2.2.1,s18.2.2.2.2.2.2.2.2.2.2.2.2.2.2.2.2.2.2.2.2.2.2.1,s18.2.2.2.2.2.2.2.2.2.2.2.2.2.2.2.2.2.2.2.2.2.2.2.1,s18.2.2.2.2.2.2.2.2.2.1⟩:aC),s18.2.2.2.2.2.2.2.2.2.2.2.2.2.2.2.2.2.2.2.2.2.2.2.2.1,s18.2.2.2.2.2.2.2.2.2.2.1⟩:aG),s18.2.2.2.2.2.2.2.2.2.2.2.1,s18.2.2.2.2.2.2.2.2.2.2.2.2.1,s18.2.2.2.2.2.2.2.2.2.2.2.2.2.1,(⟨s18.2.2.2.2.2.2.2.2.2.2.2.2.2.2.2.2.2.2.2.2.2.2.2.2.2,s18.2.2.2.2.2.2.2.2.2.2.2.2.2.2.1,s18.2.2.2.2.2.2.2.2.2.2.2.2.2.2.2.1,s18.2.2.2.2.2.2.2.2.2.2.2.2.2.2.2.2.1,s18.2.2.2.2.2.2.2.2.2.2.2.2.2.2.2.2.2.1,s18.2.2.2.2.2.2.2.2.2.2.2.2.2.2.2.2.2.2.1,s18.2.2.2.2.2.2.2.2.2.2.2.2.2.2.2.2.2.2.2.1⟩:aD)⟩:cH)⟩:jE) v19).bind fun v21 =>
 (if v21.2.2≠0 then
 (chk ((⟨#[63,10]⟩:ByteArray).size≠0∧s18.2.1.size+(⟨#[63,10]⟩:ByteArray).size≤140737488355328) (
 some (.inl (s18.2.1++(⟨#[63,10]⟩:ByteArray),s18.2.2.1,s18.2.2.2.1,s18.2.2.2.2.1,s18.2.2.2.2.2.1,s18.2.2.2.2.2.2.1,s18.2.2.2.2.2.2.2.1,s18.2.2.2.2.2.2.2.2.1,s18.2.2.2.2.2.2.2.2.2.1,s18.2.2.2.2.2.2.2.2.2.2.1,s18.2.2.2.2.2.2.2.2.2.2.2.1,s18.2.2.2.2.2.2.2.2.2.2.2.2.1,s18.2.2.2.2.2.2.2.2.2.2.2.2.2.1,s18.2.2.2.2.2.2.2.2.2.2.2.2.2.2.1,s18.2.2.2.2.2.2.2.2.2.2.2.2.2.2.2.1,s18.2.2.2.2.2.2.2.2.2.2.2.2.2.2.2.2.1,s18.2.2.2.2.2.2.2.2.2.2.2.2.2.2.2.2.2.1,s18.2.2.2.2.2.2.2.2.2.2.2.2.2.2.2.2.2.2.1,s18.2.2.2.2.2.2.2.2.2.2.2.2.2.2.2.2.2.2.2.1,s18.2.2.2.2.2.2.2.2.2.2.2.2.2.2.2.2.2.2.2.2.1,s18.2.2.2.2.2.2.2.2.2.2.2.2.2.2.2.2.2.2.2.2.2.1,s18.2.2.2.2.2.2.2.2.2.2.2.2.2.2.2.2.2.2.2.2.2.2.1,s18.2.2.2.2.2.2.2.2.2.2.2.2.2.2.2.2.2.2.2.2.2.2.2.1,s18.2.2.2.2.2.2.2.2.2.2.2.2.2.2.2.2.2.2.2.2.2.2.2.2.1,s18.2.2.2.2.2.2.2.2.2.2.2.2.2.2.2.2.2.2.2.2.2.2.2.2.2))))
 else
 bQ (S:=Int × ByteArray) (X:=(ByteArray × ByteArray × Int × Int × Int × Int × Int × ByteArray × Int × Int × aS × Int × Int × Int × Int × Int × Int × Int × Int × List cD × List bM × List aY × List aL × List Int × List Int) ⊕ ((Int × ByteArray × ByteArray × Int × Int × Int × Int × Int × ByteArray × Int × Int × aS × Int × Int × Int × Int × Int × Int × Int × Int × List cD × List bM × List aY × List aL × List Int × List Int) ⊕ ByteArray)) (fun s27 =>
 (if s27.1<(v21.2.1.length:Int) then
 ((atI v21.2.1 s27.1).bind fun v28 =>
 (chk (v28.size+(⟨#[10]⟩:ByteArray).size≤9223372036854775807) (
 (chk ((v28++(⟨#[10]⟩:ByteArray)).size≠0∧s27.2.size+(v28++(⟨#[10]⟩:ByteArray)).size≤140737488355328) (
 some (.inl (w64 (s27.1+1),s27.2++(v28++(⟨#[10]⟩:ByteArray)))))))))
 else
 some (.inr (.inl (s27.2,v21.1.Sim.Movement.Name,v21.1.Sim.Movement.Minute,v21.1.Sim.Movement.Hour,v21.1.Sim.Movement.Escape,v21.1.Sim.Movement.Teeth,v21.1.Sim.Movement.Beats,v21.1.Sim.Movement.Calendar.Name,v21.1.Sim.Movement.Calendar.Week,v21.1.Sim.Movement.Strike,v21.1.Sim.Start,v21.1.Sim.First,v21.1.Sim.Clock,v21.1.Sim.Dial.Months,v21.1.Sim.Dial.Teeth,v21.1.Sim.Dial.At,v21.1.Sim.Dial.Day,v21.1.Sim.Dial.Week,v21.1.Sim.Dial.Weekday,v21.1.Sim.Movement.Works.Arbors,v21.1.Sim.Movement.Works.Meshes,v21.1.Sim.Movement.Calendar.Months,v21.1.Sim.Movement.Calendar.Rules,v21.1.Sim.Movement.Cam,v21.1.Sim.Dial.Cam))))) (0,s18.2.1))))):Option ((ByteArray × ByteArray × Int × Int × Int × Int × Int × ByteArray × Int × Int × aS × Int × Int × Int × Int × Int × Int × Int × Int × List cD × List bM × List aY × List aL × List Int × List Int) ⊕ ((Int × ByteArray × ByteArray × Int × Int × Int × Int × Int × ByteArray × Int × Int × aS × Int × Int × Int × Int × Int × Int × Int × Int × List cD × List bM × List aY × List aL × List Int × List Int) ⊕ ByteArray))).bind fun v31x=>orE v31x fun v31 =>
 some (.inl (w64 (s18.1+1),v31.1,v31.2.1,v31.2.2.1,v31.2.2.2.1,v31.2.2.2.2.1,v31.2.2.2.2.2.1,v31.2.2.2.2.2.2.1,v31.2.2.2.2.2.2.2.1,v31.2.2.2.2.2.2.2.2.1,v31.2.2.2.2.2.2.2.2.2.1,v31.2.2.2.2.2.2.2.2.2.2.1,v31.2.2.2.2.2.2.2.2.2.2.2.1,v31.2.2.2.2.2.2.2.2.2.2.2.2.1,v31.2.2.2.2.2.2.2.2.2.2.2.2.2.1,v31.2.2.2.2.2.2.2.2.2.2.2.2.2.2.1,v31.2.2.2.2.2.2.2.2.2.2.2.2.2.2.2.1,v31.2.2.2.2.2.2.2.2.2.2.2.2.2.2.2.2.1,v31.2.2.2.2.2.2.2.2.2.2.2.2.2.2.2.2.2.1,v31.2.2.2.2.2.2.2.2.2.2.2.2.2.2.2.2.2.2.1,v31.2.2.2.2.2.2.2.2.2.2.2.2.2.2.2.2.2.2.2.1,v31.2.2.2.2.2.2.2.2.2.2.2.2.2.2.2.2.2.2.2.2.1,v31.2.2.2.2.2.2.2.2.2.2.2.2.2.2.2.2.2.2.2.2.2.1,v31.2.2.2.2.2.2.2.2.2.2.2.2.2.2.2.2.2.2.2.2.2.2.1,v31.2.2.2.2.2.2.2.2.2.2.2.2.2.2.2.2.2.2.2.2.2.2.2.1,v31.2.2.2.2.2.2.2.2.2.2.2.2.2.2.2.2.2.2.2.2.2.2.2.2)))
 else
 some (.inr s18.2.1))) (0,(⟨#[]⟩:ByteArray),v1.Sim.Movement.Name,v1.Sim.Movement.Minute,v1.Sim.Movement.Hour,v1.Sim.Movement.Escape,v1.Sim.Movement.Teeth,v1.Sim.Movement.Beats,v1.Sim.Movement.Calendar.Name,v1.Sim.Movement.Calendar.Week,v1.Sim.Movement.Strike,v1.Sim.Start,v1.Sim.First,v1.Sim.Clock,v1.Sim.Dial.Months,v1.Sim.Dial.Teeth,v1.Sim.Dial.At,v1.Sim.Dial.Day,v1.Sim.Dial.Week,v1.Sim.Dial.Weekday,v1.Sim.Movement.Works.Arbors,v1.Sim.Movement.Works.Meshes,v1.Sim.Movement.Calendar.Months,v1.Sim.Movement.Calendar.Rules,v1.Sim.Movement.Cam,v1.Sim.Dial.Cam))):Option ByteArray).bind fun v32 =>
 some v32)))
def nM (p0:List Int):Option Bool :=
 ((sV p0).bind fun v1 =>
 (if v1=true then
 some true
 else
 ((rY p0).bind fun v2 =>
 ((kL).bind fun v3 =>
 ((bQ (S:=ByteArray × ByteArray × Int × ByteArray × Int × Int × Int × Int × Int × ByteArray × Int × Int × aS × Int × Int × Int × Int × Int × Int × Int × Int × List cD × List bM × List aY × List aL × List Int × List Int) (X:=(ByteArray × ByteArray) ⊕ Bool) (fun s24 =>
 (if s24.2.2.1<(v2.length:Int) then
 ((((atI v2 s24.2.2.1).bind fun v25 =>
 (chk (v25.size+(⟨#[10]⟩:ByteArray).size≤9223372036854775807) (
 (chk (s24.1.size+(v25++(⟨#[10]⟩:ByteArray)).size≤9223372036854775807) (
 ((atI v2 s24.2.2.1).bind fun v28 =>
 ((dX (⟨(⟨(⟨s24.2.2.2.1,(⟨s24.2.2.2.2.2.2.2.2.2.2.2.2.2.2.2.2.2.2.2.2.2.1,s24.2.2.2.2.2.2.2.2.2.2.2.2.2.2.2.2.2.2.2.2.2.2.1⟩:aP),s24.2.2.2.2.1,s24.2.2.2.2.2.1,s24.2.2.2.2.2.2.1,s24.2.2.2.2.2.2.2.1,s24.2.2.2.2.2.2.2.2.1,(⟨s24.2.2.2.2.2.2.2.2.2.1,s24.2.2.2.2.2.2.2.2.2.2.2.2.2.2.2.2.2.2.2.2.2.2.2.1,s24.2.2.2.2.2.2.2.2.2.2.2.2.2.2.2.2.2.2.2.2.2.2.2.2.1,s24.2.2.2.2.2.2.2.2.2.2.1⟩:aC),s24.2.2.2.2.2.2.2.2.2.2.2.2.2.2.2.2.2.2.2.2.2.2.2.2.2.1,s24.2.2.2.2.2.2.2.2.2.2.2.1⟩:aG),s24.2.2.2.2.2.2.2.2.2.2.2.2.1,s24.2.2.2.2.2.2.2.2.2.2.2.2.2.1,s24.2.2.2.2.2.2.2.2.2.2.2.2.2.2.1,(⟨s24.2.2.2.2.2.2.2.2.2.2.2.2.2.2.2.2.2.2.2.2.2.2.2.2.2.2,s24.2.2.2.2.2.2.2.2.2.2.2.2.2.2.2.1,s24.2.2.2.2.2.2.2.2.2.2.2.2.2.2.2.2.1,s24.2.2.2.2.2.2.2.2.2.2.2.2.2.2.2.2.2.1,s24.2.2.2.2.2.2.2.2.2.2.2.2.2.2.2.2.2.2.1,s24.2.2.2.2.2.2.2.2.2.2.2.2.2.2.2.2.2.2.2.1,s24.2.2.2.2.2.2.2.2.2.2.2.2.2.2.2.2.2.2.2.2.1⟩:aD)⟩:cH)⟩:jE) v28).bind fun v29 =>
 (if v29.2.2=7 then
 (chk (s24.2.1.size+(⟨#[63,10]⟩:ByteArray).size≤9223372036854775807) (
 some (.inl (s24.1++(v25++(⟨#[10]⟩:ByteArray)),s24.2.1++(⟨#[63,10]⟩:ByteArray),s24.2.2.2.1,s24.2.2.2.2.1,s24.2.2.2.2.2.1,s24.2.2.2.2.2.2.1,s24.2.2.2.2.2.2.2.1,s24.2.2.2.2.2.2.2.2.1,s24.2.2.2.2.2.2.2.2.2.1,s24.2.2.2.2.2.2.2.2.2.2.1,s24.2.2.2.2.2.2.2.2.2.2.2.1,s24.2.2.2.2.2.2.2.2.2.2.2.2.1,s24.2.2.2.2.2.2.2.2.2.2.2.2.2.1,s24.2.2.2.2.2.2.2.2.2.2.2.2.2.2.1,s24.2.2.2.2.2.2.2.2.2.2.2.2.2.2.2.1,s24.2.2.2.2.2.2.2.2.2.2.2.2.2.2.2.2.1,s24.2.2.2.2.2.2.2.2.2.2.2.2.2.2.2.2.2.1,s24.2.2.2.2.2.2.2.2.2.2.2.2.2.2.2.2.2.2.1,s24.2.2.2.2.2.2.2.2.2.2.2.2.2.2.2.2.2.2.2.1,s24.2.2.2.2.2.2.2.2.2.2.2.2.2.2.2.2.2.2.2.2.1,s24.2.2.2.2.2.2.2.2.2.2.2.2.2.2.2.2.2.2.2.2.2.1,s24.2.2.2.2.2.2.2.2.2.2.2.2.2.2.2.2.2.2.2.2.2.2.1,s24.2.2.2.2.2.2.2.2.2.2.2.2.2.2.2.2.2.2.2.2.2.2.2.1,s24.2.2.2.2.2.2.2.2.2.2.2.2.2.2.2.2.2.2.2.2.2.2.2.2.1,s24.2.2.2.2.2.2.2.2.2.2.2.2.2.2.2.2.2.2.2.2.2.2.2.2.2.1,s24.2.2.2.2.2.2.2.2.2.2.2.2.2.2.2.2.2.2.2.2.2.2.2.2.2.2))))
 else
 (((if v29.2.2≠0 then
 some true
 else
 ((qQ v29.1).bind fun v31 =>
 (if (!v31)=true then
 some true
 else
 (if (v29.2.1.length:Int)<1 then
 some true
 else
 ((mI v29.1).bind fun v32 =>
 some (decide (v32=(⟨#[]⟩:ByteArray)))))))):Option Bool).bind fun v33 =>
 (if v33=true then
 some (.inr (.inr (.inr false)))
 else
 ((bQ (S:=ByteArray × Int) (X:=ByteArray) (fun s38 =>
 (if s38.2<(v29.2.1.length:Int) then
 ((atI v29.2.1 s38.2).bind fun v39 =>
 (chk (v39.size+(⟨#[10]⟩:ByteArray).size≤9223372036854775807) (
 (chk (s38.1.size+(v39++(⟨#[10]⟩:ByteArray)).size≤9223372036854775807) (
 some (.inl (s38.1++(v39++(⟨#[10]⟩:ByteArray)),w64 (s38.2+1))))))))
 else
 some (.inr s38.1))) (s24.2.1,0):Option ByteArray).bind fun v42 =>
 some (.inl (s24.1++(v25++(⟨#[10]⟩:ByteArray)),v42,v29.1.Sim.Movement.Name,v29.1.Sim.Movement.Minute,v29.1.Sim.Movement.Hour,v29.1.Sim.Movement.Escape,v29.1.Sim.Movement.Teeth,v29.1.Sim.Movement.Beats,v29.1.Sim.Movement.Calendar.Name,v29.1.Sim.Movement.Calendar.Week,v29.1.Sim.Movement.Strike,v29.1.Sim.Start,v29.1.Sim.First,v29.1.Sim.Clock,v29.1.Sim.Dial.Months,v29.1.Sim.Dial.Teeth,v29.1.Sim.Dial.At,v29.1.Sim.Dial.Day,v29.1.Sim.Dial.Week,v29.1.Sim.Dial.Weekday,v29.1.Sim.Movement.Works.Arbors,v29.1.Sim.Movement.Works.Meshes,v29.1.Sim.Movement.Calendar.Months,v29.1.Sim.Movement.Calendar.Rules,v29.1.Sim.Movement.Cam,v29.1.Sim.Dial.Cam))))))))))))):Option ((ByteArray × ByteArray × ByteArray × Int × Int × Int × Int × Int × ByteArray × Int × Int × aS × Int × Int × Int × Int × Int × Int × Int × Int × List cD × List bM × List aY × List aL × List Int × List Int) ⊕ ((ByteArray × ByteArray × Int × ByteArray × Int × Int × Int × Int × Int × ByteArray × Int × Int × aS × Int × Int × Int × Int × Int × Int × Int × Int × List cD × List bM × List aY × List aL × List Int × List Int) ⊕ ((ByteArray × ByteArray) ⊕ Bool)))).bind fun v43x=>orE v43x fun v43 =>
 some (.inl (v43.1,v43.2.1,w64 (s24.2.2.1+1),v43.2.2.1,v43.2.2.2.1,v43.2.2.2.2.1,v43.2.2.2.2.2.1,v43.2.2.2.2.2.2.1,v43.2.2.2.2.2.2.2.1,v43.2.2.2.2.2.2.2.2.1,v43.2.2.2.2.2.2.2.2.2.1,v43.2.2.2.2.2.2.2.2.2.2.1,v43.2.2.2.2.2.2.2.2.2.2.2.1,v43.2.2.2.2.2.2.2.2.2.2.2.2.1,v43.2.2.2.2.2.2.2.2.2.2.2.2.2.1,v43.2.2.2.2.2.2.2.2.2.2.2.2.2.2.1,v43.2.2.2.2.2.2.2.2.2.2.2.2.2.2.2.1,v43.2.2.2.2.2.2.2.2.2.2.2.2.2.2.2.2.1,v43.2.2.2.2.2.2.2.2.2.2.2.2.2.2.2.2.2.1,v43.2.2.2.2.2.2.2.2.2.2.2.2.2.2.2.2.2.2.1,v43.2.2.2.2.2.2.2.2.2.2.2.2.2.2.2.2.2.2.2.1,v43.2.2.2.2.2.2.2.2.2.2.2.2.2.2.2.2.2.2.2.2.1,v43.2.2.2.2.2.2.2.2.2.2.2.2.2.2.2.2.2.2.2.2.2.1,v43.2.2.2.2.2.2.2.2.2.2.2.2.2.2.2.2.2.2.2.2.2.2.1,v43.2.2.2.2.2.2.2.2.2.2.2.2.2.2.2.2.2.2.2.2.2.2.2.1,v43.2.2.2.2.2.2.2.2.2.2.2.2.2.2.2.2.2.2.2.2.2.2.2.2.1,v43.2.2.2.2.2.2.2.2.2.2.2.2.2.2.2.2.2.2.2.2.2.2.2.2.2)))
 else
 some (.inr (.inl (s24.1,s24.2.1))))) ((⟨#[]⟩:ByteArray),(⟨#[]⟩:ByteArray),0,v3.Sim.Movement.Name,v3.Sim.Movement.Minute,v3.Sim.Movement.Hour,v3.Sim.Movement.Escape,v3.Sim.Movement.Teeth,v3.Sim.Movement.Beats,v3.Sim.Movement.Calendar.Name,v3.Sim.Movement.Calendar.Week,v3.Sim.Movement.Strike,v3.Sim.Start,v3.Sim.First,v3.Sim.Clock,v3.Sim.Dial.Months,v3.Sim.Dial.Teeth,v3.Sim.Dial.At,v3.Sim.Dial.Day,v3.Sim.Dial.Week,v3.Sim.Dial.Weekday,v3.Sim.Movement.Works.Arbors,v3.Sim.Movement.Works.Meshes,v3.Sim.Movement.Calendar.Months,v3.Sim.Movement.Calendar.Rules,v3.Sim.Movement.Cam,v3.Sim.Dial.Cam):Option ((ByteArray × ByteArray) ⊕ Bool)).bind fun v44x=>orE v44x fun v44 =>
 ((rF v44.1).bind fun v45 =>
 some (decide (v45=v44.2))))))))
end Go.Proofs.YtbliejnpjpnahaaGreatDoor
