/- Texts of this claim, one behind the other (merged by a program of mine). -/
import Derived.KernelRfl
import Derived.MapKept
import Derived.Maps.OwnOps
import Derived.Maps.AppendAt
import Derived.Maps.Views
import Derived.Below
import Derived.Test.YtceknlcbfomdhaaGreatDoorGN2
set_option linter.unusedSimpArgs false
set_option linter.unusedVariables false
namespace Go.Proofs.YtceknlcbfomdhaaGreatDoor
open Go.RowKit
set_option linter.unusedVariables false
set_option maxRecDepth 100000
set_option maxHeartbeats 2000000
structure gY where
 Year:Int
 Month:Int
 Day:Int
deriving DecidableEq
structure bE where
 Name:ByteArray
 Days:Int
 Leap:Int
deriving DecidableEq
def aT (x:bE):List DV:=[.v (.string x.Name), .v (.int .i64 x.Days), .v (.int .i64 x.Leap)]
structure aO where
 Every:Int
 Rest:Int
 Leap:Bool
deriving DecidableEq
def aK (x:aO):List DV:=[.v (.int .i64 x.Every), .v (.int .i64 x.Rest), .v (.bool x.Leap)]
structure aF where
 Name:ByteArray
 Months:List bE
 Rules:List aO
 Week:Int
deriving DecidableEq
def dW (x:aF):List DV:=[.v (.string x.Name), .sl (List.map aT x.Months), .sl (List.map aK x.Rules), .v (.int .i64 x.Week)]
structure rT where
 Year:Int
 Month:Int
 Shown:Int
 Right:Int
deriving DecidableEq
def aDu (x:rT):List DV:=[.v (.int .i64 x.Year), .v (.int .i64 x.Month), .v (.int .i64 x.Shown), .v (.int .i64 x.Right)]
structure aD where
 Num:Int
 Den:Int
deriving DecidableEq
def eF (x:aD):List DV:=[.v (.int .i64 x.Num), .v (.int .i64 x.Den)]
structure iN where
 LowDriver:Int
 HighDriver:Int
 LowDriven:Int
 HighDriven:Int
 Stages:Int
deriving DecidableEq
def aC3 (x:iN):List DV:=[.v (.int .i64 x.LowDriver), .v (.int .i64 x.HighDriver), .v (.int .i64 x.LowDriven), .v (.int .i64 x.HighDriven), .v (.int .i64 x.Stages)]
structure aV where
 value:Int
 teeth:List Int
deriving DecidableEq
def aU (x:aV):List DV:=[.v (.int .i64 x.value), .sl (List.map cI x.teeth)]
structure bQ where
 Driver:Int
 Driven:Int
deriving DecidableEq
def cM (x:bQ):List DV:=[.v (.int .i64 x.Driver), .v (.int .i64 x.Driven)]
structure eR where
 driver:Int
 driven:Int
 off:Int
 train:List bQ
deriving DecidableEq
structure uE where
 Train:List bQ
 Error:aD
deriving DecidableEq
structure bR where
 A:Int
 WheelA:Int
 B:Int
 WheelB:Int
deriving DecidableEq
def bV (x:bR):List DV:=[.v (.int .i64 x.A), .v (.int .i64 x.WheelA), .v (.int .i64 x.B), .v (.int .i64 x.WheelB)]
structure bO where
 Name:ByteArray
 Wheels:List Int
deriving DecidableEq
def aS (x:bO):List DV:=[.v (.string x.Name), .sl (List.map cI x.Wheels)]
structure bG where
 Arbors:List bO
 Meshes:List bR
deriving DecidableEq
def fJ (x:bG):List DV:=[.sl (List.map aS x.Arbors), .sl (List.map bV x.Meshes)]
structure aW where
 Name:ByteArray
 Works:bG
 Minute:Int
 Hour:Int
 Escape:Int
 Teeth:Int
 Beats:Int
 Calendar:aF
 Cam:List Int
 Strike:Int
deriving DecidableEq
def nE (x:aW):List DV:=[.v (.string x.Name), .sl (List.map aS x.Works.Arbors), .sl (List.map bV x.Works.Meshes), .v (.int .i64 x.Minute), .v (.int .i64 x.Hour), .v (.int .i64 x.Escape), .v (.int .i64 x.Teeth), .v (.int .i64 x.Beats), .v (.string x.Calendar.Name), .sl (List.map aT x.Calendar.Months), .sl (List.map aK x.Calendar.Rules), .v (.int .i64 x.Calendar.Week), .sl (List.map cI x.Cam), .v (.int .i64 x.Strike)]
structure bX where
 Cam:List Int
 Months:Int
 Teeth:Int
 At:Int
 Day:Int
 Week:Int
 Weekday:Int
deriving DecidableEq
structure wN where
 Movement:aW
 Start:gY
 First:Int
 Clock:Int
 Dial:bX
deriving DecidableEq
structure rR where
 Sim:wN
deriving DecidableEq
structure aF7 where
 products:List Int
 lists:Int→List (List Int)
structure kZ where
 p:Int
 q:Int
 far:Int
deriving DecidableEq
def qF (x:kZ):List DV:=[.v (.int .i64 x.p), .v (.int .i64 x.q), .v (.int .i64 x.far)]
def aBq (p0:Int):Option ByteArray :=
 ((cD (S:=Int × List Int) (X:=List Int) (fun s6 =>
 (if s6.1≠0 then
 (((if (s6.1.tmod 10)<0 then
 some (w64 (-(s6.1.tmod 10)))
 else
 some (s6.1.tmod 10)):Option Int).bind fun v8 =>
 (chk (([IntKind.u8.wrap (w64 (48+v8))].length+s6.2.length)*1*64≤140737488355328) (
 some (.inl (w64 (s6.1.tdiv 10),[IntKind.u8.wrap (w64 (48+v8))]++s6.2)))))
 else
 some (.inr s6.2))) (p0,([]:List Int)):Option (List Int)).bind fun v11 =>
 (if (v11.length:Int)=0 then
 some (⟨#[48]⟩:ByteArray)
 else
 (if p0<0 then
 (chk ((⟨#[45]⟩:ByteArray).size+(strOfNums v11).size≤9223372036854775807) (
 some ((⟨#[45]⟩:ByteArray)++(strOfNums v11))))
 else
 some (strOfNums v11))))
def tO (p0:Int) (p1:Int):Option (List bE) :=
 ((cD (S:=Int × List bE) (X:=List bE) (fun s5 =>
 (if s5.1≤p0 then
 ((aBq s5.1).bind fun v6 =>
 (chk ((⟨#[109]⟩:ByteArray).size+v6.size≤9223372036854775807) (
 (chk ((s5.2.length+[(⟨(⟨#[109]⟩:ByteArray)++v6,p1,p1⟩:bE)].length)*3*64≤140737488355328) (
 some (.inl (w64 (s5.1+1),s5.2++[(⟨(⟨#[109]⟩:ByteArray)++v6,p1,p1⟩:bE)])))))))
 else
 some (.inr s5.2))) (1,([]:List bE)):Option (List bE)).bind fun v9 =>
 some v9)
def mV  : Option (List aO) :=
 some [(⟨4,0,true⟩:aO),(⟨100,0,false⟩:aO),(⟨400,0,true⟩:aO)]
def tQ  : Option (List bE) :=
 ((cD (S:=Int × List bE) (X:=List bE) (fun s6 =>
 (if s6.1<12 then
 ((atI [(⟨#[106,97,110]⟩:ByteArray),(⟨#[102,101,98]⟩:ByteArray),(⟨#[109,97,114]⟩:ByteArray),(⟨#[97,112,114]⟩:ByteArray),(⟨#[109,97,121]⟩:ByteArray),(⟨#[106,117,110]⟩:ByteArray),(⟨#[106,117,108]⟩:ByteArray),(⟨#[97,117,103]⟩:ByteArray),(⟨#[115,101,112]⟩:ByteArray),(⟨#[111,99,116]⟩:ByteArray),(⟨#[110,111,118]⟩:ByteArray),(⟨#[100,101,99]⟩:ByteArray)] s6.1).bind fun v7 =>
 ((atI [31,28,31,30,31,30,31,31,30,31,30,31] s6.1).bind fun v8 =>
 ((atI [31,28,31,30,31,30,31,31,30,31,30,31] s6.1).bind fun v9 =>
 (chk ((s6.2.length+[(⟨v7,v8,v9⟩:bE)].length)*3*64≤140737488355328) (
 some (.inl (w64 (s6.1+1),s6.2++[(⟨v7,v8,v9⟩:bE)])))))))
 else
 some (.inr s6.2))) (0,([]:List bE)):Option (List bE)).bind fun v11 =>
 ((atI v11 1).bind fun v12 =>
 some (List.set v11 (1:Int).toNat (⟨v12.Name,v12.Days,29⟩:bE))))
def lW (p0:ByteArray):Option (aF × Int) :=
 (if p0=(⟨#[101,103,121,112,116,105,97,110]⟩:ByteArray) then
 ((tO 12 30).bind fun v1 =>
 (chk ((v1.length+[(⟨(⟨#[109,49,51]⟩:ByteArray),5,5⟩:bE)].length)*3*64≤140737488355328) (
 some ((⟨p0,v1++[(⟨(⟨#[109,49,51]⟩:ByteArray),5,5⟩:bE)],([]:List aO),10⟩:aF),0))))
 else
 (if p0=(⟨#[102,105,120,101,100]⟩:ByteArray) then
 ((tO 12 28).bind fun v3 =>
 (chk ((v3.length+[(⟨(⟨#[109,49,51]⟩:ByteArray),29,30⟩:bE)].length)*3*64≤140737488355328) (
 ((mV).bind fun v5 =>
 some ((⟨p0,v3++[(⟨(⟨#[109,49,51]⟩:ByteArray),29,30⟩:bE)],v5,7⟩:aF),0)))))
 else
 (if p0=(⟨#[103,114,101,103,111,114,105,97,110]⟩:ByteArray) then
 ((tQ).bind fun v6 =>
 ((mV).bind fun v7 =>
 some ((⟨p0,v6,v7,7⟩:aF),0)))
 else
 (if p0=(⟨#[106,117,108,105,97,110]⟩:ByteArray) then
 ((tQ).bind fun v8 =>
 some ((⟨p0,v8,[(⟨4,0,true⟩:aO)],7⟩:aF),0))
 else
 some ((⟨(⟨#[]⟩:ByteArray),([]:List bE),([]:List aO),0⟩:aF),3)))))
def dO (p0:Int) (p1:Int) (p2:Int):Option Bool :=
 (if p1≤p0 then
 some (decide (p0≤p2))
 else
 some false)
def pI (p0:Int) (p1:Int):Option Int :=
 ((cD (S:=Int × Int) (X:=Int) (fun s3 =>
 (if 0<s3.2 then
 (chk (s3.2≠0) (
 some (.inl (s3.2,s3.1.tmod s3.2))))
 else
 some (.inr s3.1))) (p0,p1):Option Int).bind fun v5 =>
 some v5)
def nU (p0:List aO):Option (Int × Bool) :=
 ((cD (S:=Int × Int) (X:=Int ⊕ (Int × Bool)) (fun s12 =>
 (if s12.2<(p0.length:Int) then
 ((((atI p0 s12.2).bind fun v13 =>
 ((dO v13.Every 1 1000).bind fun v14 =>
 (if (!v14)=true then
 some true
 else
 ((atI p0 s12.2).bind fun v15 =>
 ((atI p0 s12.2).bind fun v16 =>
 ((dO v15.Rest 0 (w64 (v16.Every-1))).bind fun v17 =>
 some (!v17))))))):Option Bool).bind fun v18 =>
 (if v18=true then
 some (.inr (.inr (0,false)))
 else
 ((atI p0 s12.2).bind fun v19 =>
 ((atI p0 s12.2).bind fun v20 =>
 ((pI s12.1 v19.Every).bind fun v21 =>
 (chk (v21≠0) (
 (if 2000<(w64 ((w64 (s12.1.tdiv v21))*v20.Every)) then
 some (.inr (.inr (0,false)))
 else
 some (.inl (w64 ((w64 (s12.1.tdiv v21))*v20.Every),w64 (s12.2+1)))))))))))
 else
 some (.inr (.inl s12.1)))) (1,0):Option (Int ⊕ (Int × Bool))).bind fun v23x=>orE v23x fun v23 =>
 some (v23,decide ((p0.length:Int)≤6)))
def nQ (p0:Int):Option Bool :=
 (if 97≤p0 then
 some (decide (p0≤122))
 else
 some false)
def qO (p0:Int):Option Bool :=
 (if 48≤p0 then
 some (decide (p0≤57))
 else
 some false)
def lX (p0:ByteArray):Option Bool :=
 (((if p0=(⟨#[]⟩:ByteArray) then
 some true
 else
 (if 12<(p0.size:Int) then
 some true
 else
 ((aIu p0 0).bind fun v1 =>
 ((nQ v1).bind fun v2 =>
 some (!v2))))):Option Bool).bind fun v3 =>
 (if v3=true then
 some false
 else
 ((cD (S:=Int) (X:=Unit ⊕ Bool) (fun s11 =>
 (if s11<(p0.size:Int) then
 ((((aIu p0 s11).bind fun v12 =>
 ((nQ v12).bind fun v13 =>
 (if (!v13)=true then
 ((aIu p0 s11).bind fun v14 =>
 ((qO v14).bind fun v15 =>
 (if (!v15)=true then
 ((aIu p0 s11).bind fun v16 =>
 some (decide (v16≠45)))
 else
 some false)))
 else
 some false))):Option Bool).bind fun v17 =>
 (if v17=true then
 some (.inr (.inr false))
 else
 some (.inl (w64 (s11+1)))))
 else
 some (.inr (.inl ())))) 0:Option (Unit ⊕ Bool)).bind fun v18x=>orE v18x fun v18 =>
 some true)))
def oR (p0:List bE):Option Bool :=
 ((cD (S:=Int) (X:=Unit ⊕ Bool) (fun s16 =>
 (if s16<(p0.length:Int) then
 ((((((atI p0 s16).bind fun v17 =>
 ((lX v17.Name).bind fun v18 =>
 (if (!v18)=true then
 some true
 else
 ((atI p0 s16).bind fun v19 =>
 ((dO v19.Days 1 60).bind fun v20 =>
 (if (!v20)=true then
 some true
 else
 ((atI p0 s16).bind fun v21 =>
 ((dO v21.Leap 1 60).bind fun v22 =>
 some (!v22))))))))):Option Bool).bind fun v23 =>
 (if v23=true then
 some (.inr (.inr (.inr false)))
 else
 cD (S:=Int) (X:=Unit ⊕ (Int ⊕ (Unit ⊕ Bool))) (fun s27 =>
 (if s27<s16 then
 ((atI p0 s27).bind fun v28 =>
 ((atI p0 s16).bind fun v29 =>
 (if v28.Name=v29.Name then
 some (.inr (.inr (.inr (.inr false))))
 else
 some (.inl (w64 (s27+1))))))
 else
 some (.inr (.inl ())))) 0)):Option (Unit ⊕ (Int ⊕ (Unit ⊕ Bool)))).bind fun v30x=>orE v30x fun v30 =>
 some (.inl (w64 (s16+1))))
 else
 some (.inr (.inl ())))) 0:Option (Unit ⊕ Bool)).bind fun v31x=>orE v31x fun v31 =>
 ((dO (p0.length:Int) 1 20).bind fun v32 =>
 some v32))
def qX (p0:aF):Option Bool :=
 ((nU p0.Rules).bind fun v1 =>
 (if v1.2=true then
 ((lX p0.Name).bind fun v2 =>
 (if v2=true then
 ((oR p0.Months).bind fun v3 =>
 (if v3=true then
 ((dO p0.Week 1 12).bind fun v4 =>
 some v4)
 else
 some false))
 else
 some false))
 else
 some false))
def iL (p0:Int):Option Bool :=
 ((dO p0 6 240).bind fun v1 =>
 some v1)
def qZ (p0:aF) (p1:Int):Option Bool :=
 ((dO p1 1 260).bind fun v1 =>
 (if v1=true then
 some (decide ((w64 (p1*(p0.Months.length:Int)))≤260))
 else
 some false))
def jZ (p0:aF) (p1:Int):Option Int :=
 ((nU p0.Rules).bind fun v1 =>
 ((pI v1.1 p1).bind fun v2 =>
 (chk (v2≠0) (
 some (w64 ((w64 (v1.1.tdiv v2))*p1))))))
def pR (p0:aF) (p1:Int):Option Bool :=
 ((cD (S:=Bool × Int) (X:=Bool) (fun s7 =>
 (if s7.2<(p0.Rules.length:Int) then
 ((((atI p0.Rules s7.2).bind fun v8 =>
 (chk (v8.Every≠0) (
 ((atI p0.Rules s7.2).bind fun v10 =>
 (if (p1.tmod v8.Every)=v10.Rest then
 ((atI p0.Rules s7.2).bind fun v11 =>
 some v11.Leap)
 else
 some s7.1))))):Option Bool).bind fun v12 =>
 some (.inl (v12,w64 (s7.2+1))))
 else
 some (.inr s7.1))) (false,0):Option Bool).bind fun v13 =>
 some v13)
def uS (p0:Int) (p1:Int):Option Int :=
 (if p0<p1 then
 some p0
 else
 some p1)
def gH (p0:aF) (p1:Int) (p2:Int) (p3:Int) (p4:Int):Option Int :=
 ((cD (S:=Int × Int × Int) (X:=Int × Int) (fun s4 =>
 (if s4.2.2<p3 then
 ((((pR p0 s4.2.2).bind fun v5 =>
 (if v5=true then
 some (w64 (s4.1+1))
 else
 some s4.1)):Option Int).bind fun v6 =>
 some (.inl (v6,w64 (s4.2.1+1),w64 (s4.2.2+p2))))
 else
 some (.inr (s4.1,s4.2.1)))) (0,0,p1):Option (Int × Int)).bind fun v7 =>
 ((atI p0.Months p4).bind fun v8 =>
 (if v7.2<(w64 (2*v7.1)) then
 some v8.Leap
 else
 (if (w64 (2*v7.1))<v7.2 then
 some v8.Days
 else
 ((uS v8.Leap v8.Days).bind fun v9 =>
 some v9)))))
def pO (p0:aF) (p1:Int) (p2:Int):Option Int :=
 ((pR p0 p1).bind fun v1 =>
 (if v1=true then
 ((atI p0.Months p2).bind fun v2 =>
 some v2.Leap)
 else
 ((atI p0.Months p2).bind fun v3 =>
 some v3.Days)))
def qY (p0:aF) (p1:List Int) (p2:Int) (p3:Int):Option (rT × Bool) :=
 (chk ((p0.Months.length:Int)≠0) (
 ((pO p0 p2 p3).bind fun v2 =>
 (chk ((w64 ((p1.length:Int).tdiv (p0.Months.length:Int)))≠0) (
 ((atI p1 (w64 ((w64 ((p2.tmod (w64 ((p1.length:Int).tdiv (p0.Months.length:Int))))*(p0.Months.length:Int)))+p3))).bind fun v4 =>
 some ((⟨p2,w64 (p3+1),v4,v2⟩:rT),decide (v4≠v2))))))))
def nV (p0:aF) (p1:List Int) (p2:Int):Option Int :=
 ((cD (S:=Int × Int) (X:=Int) (fun s9 =>
 (if s9.2<p2 then
 ((cD (S:=Int × Int) (X:=Int) (fun s13 =>
 (if s13.2<(p0.Months.length:Int) then
 ((((qY p0 p1 s9.2 s13.2).bind fun v14 =>
 (if v14.2=true then
 some (w64 (s13.1+1))
 else
 some s13.1)):Option Int).bind fun v15 =>
 some (.inl (v15,w64 (s13.2+1))))
 else
 some (.inr s13.1))) (s9.1,0):Option Int).bind fun v16 =>
 some (.inl (v16,w64 (s9.2+1))))
 else
 some (.inr s9.1))) (0,0):Option Int).bind fun v17 =>
 some v17)
def nB (p0:aF) (p1:Int):Option (List Int × Int × Int) :=
 ((qX p0).bind fun v1 =>
 (if (!v1)=true then
 some (([]:List Int),0,1)
 else
 ((qZ p0 p1).bind fun v2 =>
 (if (!v2)=true then
 some (([]:List Int),0,2)
 else
 ((jZ p0 p1).bind fun v3 =>
 ((cD (S:=Int × List Int) (X:=List Int) (fun s12 =>
 (if s12.1<p1 then
 ((cD (S:=Int × List Int) (X:=List Int) (fun s16 =>
 (if s16.1<(p0.Months.length:Int) then
 ((gH p0 s12.1 p1 v3 s16.1).bind fun v17 =>
 (chk ((s16.2.length+[v17].length)*1*64≤140737488355328) (
 some (.inl (w64 (s16.1+1),s16.2++[v17])))))
 else
 some (.inr s16.2))) (0,s12.2):Option (List Int)).bind fun v19 =>
 some (.inl (w64 (s12.1+1),v19)))
 else
 some (.inr s12.2))) (0,([]:List Int)):Option (List Int)).bind fun v20 =>
 ((nV p0 v20 v3).bind fun v21 =>
 some (v20,v21,0))))))))
def pK (p0:Int):Option Int :=
 (if p0<0 then
 some (IntKind.u64.wrap (-(IntKind.u64.wrap p0)))
 else
 some (IntKind.u64.wrap p0))
def fN (p0:Int) (p1:Int):Option (aD × Bool) :=
 ((pK p0).bind fun v1 =>
 ((pK p1).bind fun v2 =>
 ((cD (S:=Int × Int) (X:=Int) (fun s5 =>
 (if 0<s5.2 then
 (chk (s5.2≠0) (
 some (.inl (s5.2,s5.1.tmod s5.2))))
 else
 some (.inr s5.1))) (v1,v2):Option Int).bind fun v7 =>
 (chk (v7≠0) (
 (chk (v7≠0) (
 (((if 1000000000<(IntKind.u64.wrap (v1.tdiv v7)) then
 some true
 else
 some (decide (1000000000<(IntKind.u64.wrap (v2.tdiv v7))))):Option Bool).bind fun v10 =>
 (if v10=true then
 some ((⟨0,0⟩:aD),false)
 else
 (((if ((decide (p0<0)) != (decide (p1<0)))=true then
 some (⟨w64 (-(w64 (IntKind.u64.wrap (v1.tdiv v7)))),w64 (IntKind.u64.wrap (v2.tdiv v7))⟩:aD)
 else
 some (⟨w64 (IntKind.u64.wrap (v1.tdiv v7)),w64 (IntKind.u64.wrap (v2.tdiv v7))⟩:aD)):Option aD).bind fun v11 =>
 some (v11,true)))))))))))
def rK  : Option iN :=
 some (⟨60,84,7,10,2⟩:iN)
def jX (p0:Int):Option Int :=
 (if p0<0 then
 some (w64 (-p0))
 else
 some p0)
def uU (p0:aD):Option Bool :=
 ((dO p0.Den 1 1000000000).bind fun v1 =>
 (if v1=true then
 ((dO p0.Num (-1000000000) 1000000000).bind fun v2 =>
 (if v2=true then
 ((jX p0.Num).bind fun v3 =>
 ((pI v3 p0.Den).bind fun v4 =>
 some (decide (v4=1))))
 else
 some false))
 else
 some false))
def tN (p0:Int) (p1:Int):Option Bool :=
 (if 6≤p0 then
 (if p1≤120 then
 ((dO p1 p0 (w64 (p0+30))).bind fun v1 =>
 some v1)
 else
 some false)
 else
 some false)
def aAx (p0:iN):Option Bool :=
 ((tN p0.LowDriver p0.HighDriver).bind fun v1 =>
 (if v1=true then
 ((tN p0.LowDriven p0.HighDriven).bind fun v2 =>
 (if v2=true then
 ((dO p0.Stages 1 3).bind fun v3 =>
 some v3)
 else
 some false))
 else
 some false))
def yJ (p0:aD):Option Bool :=
 ((dO p0.Num 1 1000000).bind fun v1 =>
 (if v1=true then
 some (decide (p0.Den≤1000000))
 else
 some false))
def lY (p0:List Int):Option (List Int) :=
 (chk ((([]:List Int).length+p0.length)*1*64≤140737488355328) (
 some (([]:List Int)++p0)))
def jL (p0:Int) (p1:Int) (p2:Int):Option (List aV) :=
 ((cD (S:=List aV × Int) (X:=List aV) (fun s38 =>
 (if s38.2<p2 then
 ((((cD (S:=Int × List aV) (X:=List aV) (fun s56 =>
 (if s56.1<(s38.1.length:Int) then
 (((((if 0<s38.2 then
 ((atI s38.1 s56.1).bind fun v57 =>
 ((atI v57.teeth (w64 (s38.2-1))).bind fun v58 =>
 some v58))
 else
 some p0):Option Int).bind fun v59 =>
 cD (S:=Int × List aV) (X:=List aV) (fun s66 =>
 (if s66.1≤p1 then
 ((atI s38.1 s56.1).bind fun v67 =>
 ((atI s38.1 s56.1).bind fun v68 =>
 ((lY v68.teeth).bind fun v69 =>
 (chk ((v69.length+[s66.1].length)*1*64≤140737488355328) (
 (chk ((s66.2.length+[(⟨w64 (v67.value*s66.1),v69++[s66.1]⟩:aV)].length)*2*64≤140737488355328) (
 some (.inl (w64 (s66.1+1),s66.2++[(⟨w64 (v67.value*s66.1),v69++[s66.1]⟩:aV)])))))))))
 else
 some (.inr s66.2))) (v59,s56.2)):Option (List aV)).bind fun v72 =>
 some (.inl (w64 (s56.1+1),v72)))
 else
 some (.inr s56.2))) (0,([]:List aV)):Option (List aV)).bind fun v73 =>
 some v73):Option (List aV)).bind fun v74 =>
 some (.inl (v74,w64 (s38.2+1))))
 else
 some (.inr s38.1))) ([(⟨1,[]⟩:aV)],0):Option (List aV)).bind fun v75 =>
 some v75)
def qS (p0:List aV) (p1:List aV):Option (List aV) :=
 ((cD (S:=Int × Int × List aV) (X:=Int × List aV) (fun s18 =>
 (if s18.2.1<(p1.length:Int) then
 ((((cD (S:=Int × List aV) (X:=Int × List aV) (fun s25 =>
 (((if s25.1<(p0.length:Int) then
 ((atI p0 s25.1).bind fun v26 =>
 ((atI p1 s18.2.1).bind fun v27 =>
 some (decide (v26.value≤v27.value))))
 else
 some false):Option Bool).bind fun v28 =>
 (if v28=true then
 ((atI p0 s25.1).bind fun v29 =>
 (chk ((s25.2.length+[v29].length)*2*64≤140737488355328) (
 some (.inl (w64 (s25.1+1),s25.2++[v29])))))
 else
 some (.inr (s25.1,s25.2))))) (s18.1,s18.2.2):Option (Int × List aV)).bind fun v31 =>
 ((atI p1 s18.2.1).bind fun v32 =>
 (chk ((v31.2.length+[v32].length)*2*64≤140737488355328) (
 some (v31.1,v31.2++[v32]))))):Option (Int × List aV)).bind fun v34 =>
 some (.inl (v34.1,w64 (s18.2.1+1),v34.2)))
 else
 some (.inr (s18.1,s18.2.2)))) (0,0,([]:List aV)):Option (Int × List aV)).bind fun v35 =>
 (chk (0≤v35.1∧v35.1≤(p0.length:Int)∧(p0.length:Int)≤(p0.length:Int)) (
 (chk ((v35.2.length+(zS p0 v35.1 (p0.length:Int)).length)*2*64≤140737488355328) (
 some (v35.2++(zS p0 v35.1 (p0.length:Int))))))))
def jY:Nat→(List aV)→Option (List aV)
 | 0,_=>none
 | n'+1,p0 =>
 (if (p0.length:Int)<2 then
 some p0
 else
 (chk (0≤(0:Int)∧(0:Int)≤(w64 ((p0.length:Int).tdiv 2))∧(w64 ((p0.length:Int).tdiv 2))≤(p0.length:Int)) (
 (chk (0≤(w64 ((p0.length:Int).tdiv 2))∧(w64 ((p0.length:Int).tdiv 2))≤(p0.length:Int)∧(p0.length:Int)≤(p0.length:Int)) (
 ((jY n' (zS p0 (0:Int) (w64 ((p0.length:Int).tdiv 2)))).bind fun v4 =>
 ((jY n' (zS p0 (w64 ((p0.length:Int).tdiv 2)) (p0.length:Int))).bind fun v5 =>
 ((qS v4 v5).bind fun v6 =>
 some v6))))))))
def qR (p0:List aV) (p1:Int):Option Int :=
 ((cD (S:=Int × Int) (X:=Int) (fun s4 =>
 (if s4.1<s4.2 then
 ((atI p0 (w64 ((w64 (s4.1+s4.2)).tdiv 2))).bind fun v6 =>
 (if v6.value<p1 then
 some (.inl (w64 ((w64 ((w64 (s4.1+s4.2)).tdiv 2))+1),s4.2))
 else
 some (.inl (s4.1,w64 ((w64 (s4.1+s4.2)).tdiv 2)))))
 else
 some (.inr s4.1))) (0,(p0.length:Int)):Option Int).bind fun v7 =>
 some v7)
def pL (p0:List Int):Option (List Int) :=
 ((cD (S:=Int × List Int) (X:=List Int) (fun s18 =>
 (if s18.1<(p0.length:Int) then
 ((((cD (S:=Int) (X:=Int) (fun s23 =>
 (((if 0<s23 then
 ((atI s18.2 (w64 (s23-1))).bind fun v24 =>
 ((atI p0 s18.1).bind fun v25 =>
 some (decide (v25<v24))))
 else
 some false):Option Bool).bind fun v26 =>
 (if v26=true then
 some (.inl (w64 (s23-1)))
 else
 some (.inr s23)))) (s18.2.length:Int):Option Int).bind fun v27 =>
 (chk (0≤(0:Int)∧(0:Int)≤v27∧v27≤(s18.2.length:Int)) (
 ((atI p0 s18.1).bind fun v29 =>
 ((lY (zS s18.2 (0:Int) v27)).bind fun v30 =>
 (chk ((v30.length+[v29].length)*1*64≤140737488355328) (
 (chk (0≤v27∧v27≤(s18.2.length:Int)∧(s18.2.length:Int)≤(s18.2.length:Int)) (
 (chk (((v30++[v29]).length+(zS s18.2 v27 (s18.2.length:Int)).length)*1*64≤140737488355328) (
 some ((v30++[v29])++(zS s18.2 v27 (s18.2.length:Int)))))))))))))):Option (List Int)).bind fun v34 =>
 some (.inl (w64 (s18.1+1),v34)))
 else
 some (.inr s18.2))) (0,([]:List Int)):Option (List Int)).bind fun v35 =>
 some v35)
def nR (p0:List Int) (p1:List Int):Option (List bQ) :=
 ((pL p0).bind fun v1 =>
 ((pL p1).bind fun v2 =>
 ((cD (S:=Int × List bQ) (X:=List bQ) (fun s7 =>
 (if s7.1<(v2.length:Int) then
 ((atI v1 (w64 ((w64 ((v1.length:Int)-1))-s7.1))).bind fun v8 =>
 ((atI v2 s7.1).bind fun v9 =>
 (chk ((s7.2.length+[(⟨v8,v9⟩:bQ)].length)*2*64≤140737488355328) (
 some (.inl (w64 (s7.1+1),s7.2++[(⟨v8,v9⟩:bQ)]))))))
 else
 some (.inr s7.2))) (0,([]:List bQ)):Option (List bQ)).bind fun v11 =>
 some v11)))
def pM (p0:List bQ):Option Int :=
 ((cD (S:=Int × Int) (X:=Int) (fun s4 =>
 (if s4.2<(p0.length:Int) then
 ((atI p0 s4.2).bind fun v5 =>
 ((atI p0 s4.2).bind fun v6 =>
 some (.inl (w64 (s4.1+(w64 (v5.Driver+v6.Driven))),w64 (s4.2+1)))))
 else
 some (.inr s4.1))) (0,0):Option Int).bind fun v7 =>
 some v7)
def jP (p0:Int):Option aD :=
 some (⟨p0,1⟩:aD)
def uB (p0:aD) (p1:aD):Option Int :=
 (if (w64 (p0.Num*p1.Den))<(w64 (p1.Num*p0.Den)) then
 some (-1)
 else
 (if (w64 (p1.Num*p0.Den))<(w64 (p0.Num*p1.Den)) then
 some 1
 else
 some 0))
def mR (p0:List bQ) (p1:List bQ):Option Int :=
 ((pM p0).bind fun v1 =>
 ((pM p1).bind fun v2 =>
 ((cD (S:=Int × List Int) (X:=List Int) (fun s7 =>
 (if s7.1<(p0.length:Int) then
 ((atI p0 s7.1).bind fun v8 =>
 ((atI p0 s7.1).bind fun v9 =>
 (chk ((s7.2.length+[v8.Driver,v9.Driven].length)*1*64≤140737488355328) (
 some (.inl (w64 (s7.1+1),s7.2++[v8.Driver,v9.Driven]))))))
 else
 some (.inr s7.2))) (0,[v1]):Option (List Int)).bind fun v11 =>
 ((cD (S:=Int × List Int) (X:=List Int) (fun s16 =>
 (if s16.1<(p1.length:Int) then
 ((atI p1 s16.1).bind fun v17 =>
 ((atI p1 s16.1).bind fun v18 =>
 (chk ((s16.2.length+[v17.Driver,v18.Driven].length)*1*64≤140737488355328) (
 some (.inl (w64 (s16.1+1),s16.2++[v17.Driver,v18.Driven]))))))
 else
 some (.inr s16.2))) (0,[v2]):Option (List Int)).bind fun v20 =>
 ((cD (S:=Int) (X:=Unit ⊕ Int) (fun s27 =>
 (((if s27<(v11.length:Int) then
 some (decide (s27<(v20.length:Int)))
 else
 some false):Option Bool).bind fun v28 =>
 (if v28=true then
 ((atI v11 s27).bind fun v29 =>
 ((atI v20 s27).bind fun v30 =>
 (if v29<v30 then
 some (.inr (.inr (-1)))
 else
 ((atI v11 s27).bind fun v31 =>
 ((atI v20 s27).bind fun v32 =>
 (if v32<v31 then
 some (.inr (.inr 1))
 else
 some (.inl (w64 (s27+1)))))))))
 else
 some (.inr (.inl ()))))) 0:Option (Unit ⊕ Int)).bind fun v33x=>orE v33x fun v33 =>
 ((jP (v11.length:Int)).bind fun v34 =>
 ((jP (v20.length:Int)).bind fun v35 =>
 ((uB v34 v35).bind fun v36 =>
 some v36))))))))
def hZ (p0:eR) (p1:aD) (p2:aV) (p3:aV):Option eR :=
 ((jX (w64 ((w64 (p2.value*p1.Den))-(w64 (p3.value*p1.Num))))).bind fun v1 =>
 (((if 0<(p0.train.length:Int) then
 some (decide ((w64 (p0.off*p3.value))<(w64 (v1*p0.driven))))
 else
 some false):Option Bool).bind fun v2 =>
 (if v2=true then
 some p0
 else
 ((nR p2.teeth p3.teeth).bind fun v3 =>
 (((if (p0.train.length:Int)=0 then
 some true
 else
 (if (w64 (v1*p0.driven))<(w64 (p0.off*p3.value)) then
 some true
 else
 ((mR v3 p0.train).bind fun v4 =>
 some (decide (v4<0))))):Option Bool).bind fun v5 =>
 (if v5=true then
 some (⟨p2.value,p3.value,v1,v3⟩:eR)
 else
 some p0))))))
def lZ (p0:aD) (p1:iN):Option (List bQ) :=
 ((jL p1.LowDriver p1.HighDriver p1.Stages).bind fun v1 =>
 ((jL p1.LowDriven p1.HighDriven p1.Stages).bind fun v2 =>
 ((jY aPf v2).bind fun v3 =>
 ((cD (S:=Int × eR) (X:=eR) (fun s37 =>
 (if s37.1<(v1.length:Int) then
 ((((atI v1 s37.1).bind fun v38 =>
 (chk (p0.Num≠0) (
 ((qR v3 (w64 ((w64 ((w64 (v38.value*p0.Den)).tdiv p0.Num))+1))).bind fun v40 =>
 (((if 0<v40 then
 ((atI v3 (w64 (v40-1))).bind fun v41 =>
 cD (S:=Int × eR) (X:=eR) (fun s48 =>
 (((if 0≤s48.1 then
 ((atI v3 s48.1).bind fun v49 =>
 some (decide (v49.value=v41.value)))
 else
 some false):Option Bool).bind fun v50 =>
 (if v50=true then
 ((atI v1 s37.1).bind fun v51 =>
 ((atI v3 s48.1).bind fun v52 =>
 ((hZ s48.2 p0 v51 v52).bind fun v53 =>
 some (.inl (w64 (s48.1-1),v53)))))
 else
 some (.inr s48.2)))) (w64 (v40-1),s37.2))
 else
 some s37.2):Option eR).bind fun v54 =>
 cD (S:=Int × eR) (X:=eR) (fun s62 =>
 (((if s62.1<(v3.length:Int) then
 ((atI v3 s62.1).bind fun v63 =>
 ((atI v3 v40).bind fun v64 =>
 some (decide (v63.value=v64.value))))
 else
 some false):Option Bool).bind fun v65 =>
 (if v65=true then
 ((atI v1 s37.1).bind fun v66 =>
 ((atI v3 s62.1).bind fun v67 =>
 ((hZ s62.2 p0 v66 v67).bind fun v68 =>
 some (.inl (w64 (s62.1+1),v68)))))
 else
 some (.inr s62.2)))) (v40,v54)))))):Option eR).bind fun v69 =>
 some (.inl (w64 (s37.1+1),v69)))
 else
 some (.inr s37.2))) (0,(⟨0,0,0,([]:List bQ)⟩:eR)):Option eR).bind fun v70 =>
 some v70.train))))
def vV (p0:bQ):Option Bool :=
 ((iL p0.Driver).bind fun v1 =>
 (if v1=true then
 ((iL p0.Driven).bind fun v2 =>
 some v2)
 else
 some false))
def xI (p0:List bQ):Option Bool :=
 ((cD (S:=Int) (X:=Unit ⊕ Bool) (fun s4 =>
 (if s4<(p0.length:Int) then
 ((atI p0 s4).bind fun v5 =>
 ((vV v5).bind fun v6 =>
 (if (!v6)=true then
 some (.inr (.inr false))
 else
 some (.inl (w64 (s4+1))))))
 else
 some (.inr (.inl ())))) 0:Option (Unit ⊕ Bool)).bind fun v7x=>orE v7x fun v7 =>
 some (decide ((p0.length:Int)≤5)))
def kT (p0:aD) (p1:aD):Option (aD × Bool) :=
 ((fN (w64 (p0.Num*p1.Num)) (w64 (p0.Den*p1.Den))).bind fun v1 =>
 some (v1.1,v1.2))
def nS (p0:List bQ):Option (aD × Bool) :=
 ((jP 1).bind fun v1 =>
 ((cD (S:=Int × aD) (X:=aD ⊕ (aD × Bool)) (fun s7 =>
 (if s7.1<(p0.length:Int) then
 ((atI p0 s7.1).bind fun v8 =>
 ((atI p0 s7.1).bind fun v9 =>
 ((fN (w64 (-v8.Driver)) v9.Driven).bind fun v10 =>
 ((kT s7.2 v10.1).bind fun v11 =>
 (if (!v11.2)=true then
 some (.inr (.inr ((⟨0,0⟩:aD),false)))
 else
 some (.inl (w64 (s7.1+1),v11.1)))))))
 else
 some (.inr (.inl s7.2)))) (0,v1):Option (aD ⊕ (aD × Bool))).bind fun v12x=>orE v12x fun v12 =>
 some (v12,true)))
def yI (p0:aD):Option aD :=
 some (⟨w64 (-p0.Num),p0.Den⟩:aD)
def yH (p0:aD) (p1:aD):Option (aD × Bool) :=
 ((fN (w64 ((w64 (p0.Num*p1.Den))+(w64 (p1.Num*p0.Den)))) (w64 (p0.Den*p1.Den))).bind fun v1 =>
 some (v1.1,v1.2))
def vW (p0:List bQ) (p1:aD):Option (aD × Bool) :=
 ((nS p0).bind fun v1 =>
 (if (!v1.2)=true then
 some ((⟨0,0⟩:aD),false)
 else
 ((jX v1.1.Num).bind fun v2 =>
 ((yI p1).bind fun v3 =>
 ((yH (⟨v2,v1.1.Den⟩:aD) v3).bind fun v4 =>
 some (v4.1,v4.2))))))
def sM (p0:List bQ) (p1:aD):Option (aD × Int) :=
 ((((xI p0).bind fun v1 =>
 (if (!v1)=true then
 some true
 else
 ((uU p1).bind fun v2 =>
 some (!v2)))):Option Bool).bind fun v3 =>
 (if v3=true then
 some ((⟨0,0⟩:aD),1)
 else
 ((vW p0 p1).bind fun v4 =>
 (if (!v4.2)=true then
 some ((⟨0,0⟩:aD),2)
 else
 ((jX v4.1.Num).bind fun v5 =>
 some ((⟨v5,v4.1.Den⟩:aD),0))))))
def vX (p0:aD) (p1:iN):Option (uE × Int) :=
 ((lZ p0 p1).bind fun v1 =>
 ((sM v1 p0).bind fun v2 =>
 (if v2.2≠0 then
 some ((⟨([]:List bQ),(⟨0,0⟩:aD)⟩:uE),v2.2)
 else
 some ((⟨v1,v2.1⟩:uE),0))))
def oO (p0:aD) (p1:iN):Option (uE × Int) :=
 ((((uU p0).bind fun v1 =>
 (if (!v1)=true then
 some true
 else
 ((aAx p1).bind fun v2 =>
 some (!v2)))):Option Bool).bind fun v3 =>
 (if v3=true then
 some ((⟨([]:List bQ),(⟨0,0⟩:aD)⟩:uE),1)
 else
 ((yJ p0).bind fun v4 =>
 (if (!v4)=true then
 some ((⟨([]:List bQ),(⟨0,0⟩:aD)⟩:uE),2)
 else
 ((vX p0 p1).bind fun v5 =>
 some (v5.1,v5.2))))))
def tT (p0:List bQ):Option bG :=
 ((atI p0 0).bind fun v1 =>
 ((atI p0 0).bind fun v2 =>
 ((atI p0 1).bind fun v3 =>
 ((atI p0 1).bind fun v4 =>
 some (⟨[(⟨(⟨#[99,101,110,116,101,114]⟩:ByteArray),[v1.Driver,12]⟩:bO),(⟨(⟨#[116,104,105,114,100]⟩:ByteArray),[v2.Driven,v3.Driver]⟩:bO),(⟨(⟨#[101,115,99,97,112,101]⟩:ByteArray),[v4.Driven]⟩:bO),(⟨(⟨#[109,105,110,117,116,101]⟩:ByteArray),[36,10]⟩:bO),(⟨(⟨#[104,111,117,114]⟩:ByteArray),[40]⟩:bO)],[(⟨0,0,1,0⟩:bR),(⟨1,1,2,0⟩:bR),(⟨0,1,3,0⟩:bR),(⟨3,1,4,0⟩:bR)]⟩:bG)))))
def pS (p0:aF):Option aF :=
 (chk ((([]:List bE).length+p0.Months.length)*3*64≤140737488355328) (
 (chk ((([]:List aO).length+p0.Rules.length)*3*64≤140737488355328) (
 some (⟨p0.Name,([]:List bE)++p0.Months,([]:List aO)++p0.Rules,p0.Week⟩:aF)))))
def iK (p0:ByteArray) (p1:Int) (p2:Int) (p3:aF) (p4:Int):Option (aW × Int) :=
 ((qX p3).bind fun v1 =>
 (if (!v1)=true then
 some ((⟨(⟨#[]⟩:ByteArray),(⟨([]:List bO),([]:List bR)⟩:bG),0,0,0,0,0,(⟨(⟨#[]⟩:ByteArray),([]:List bE),([]:List aO),0⟩:aF),([]:List Int),0⟩:aW),1)
 else
 ((lX p0).bind fun v2 =>
 (if (!v2)=true then
 some ((⟨(⟨#[]⟩:ByteArray),(⟨([]:List bO),([]:List bR)⟩:bG),0,0,0,0,0,(⟨(⟨#[]⟩:ByteArray),([]:List bE),([]:List aO),0⟩:aF),([]:List Int),0⟩:aW),7)
 else
 ((((dO p1 1 36000).bind fun v3 =>
 (if (!v3)=true then
 some true
 else
 ((iL p2).bind fun v4 =>
 some (!v4)))):Option Bool).bind fun v5 =>
 (if v5=true then
 some ((⟨(⟨#[]⟩:ByteArray),(⟨([]:List bO),([]:List bR)⟩:bG),0,0,0,0,0,(⟨(⟨#[]⟩:ByteArray),([]:List bE),([]:List aO),0⟩:aF),([]:List Int),0⟩:aW),2)
 else
 ((nB p3 p4).bind fun v6 =>
 (if v6.2.2≠0 then
 some ((⟨(⟨#[]⟩:ByteArray),(⟨([]:List bO),([]:List bR)⟩:bG),0,0,0,0,0,(⟨(⟨#[]⟩:ByteArray),([]:List bE),([]:List aO),0⟩:aF),([]:List Int),0⟩:aW),v6.2.2)
 else
 ((fN p1 (w64 (2*p2))).bind fun v7 =>
 ((rK).bind fun v8 =>
 ((oO v7.1 v8).bind fun v9 =>
 (((if v9.2≠0 then
 some true
 else
 some (decide (v9.1.Error.Num≠0))):Option Bool).bind fun v10 =>
 (if v10=true then
 some ((⟨(⟨#[]⟩:ByteArray),(⟨([]:List bO),([]:List bR)⟩:bG),0,0,0,0,0,(⟨(⟨#[]⟩:ByteArray),([]:List bE),([]:List aO),0⟩:aF),([]:List Int),0⟩:aW),3)
 else
 ((tT v9.1.Train).bind fun v11 =>
 ((pS p3).bind fun v12 =>
 some ((⟨p0,v11,0,4,2,p2,p1,v12,v6.1,2⟩:aW),0))))))))))))))))
def qU (p0:bO):Option Bool :=
 ((cD (S:=Int) (X:=Unit ⊕ Bool) (fun s4 =>
 (if s4<(p0.Wheels.length:Int) then
 ((atI p0.Wheels s4).bind fun v5 =>
 ((iL v5).bind fun v6 =>
 (if (!v6)=true then
 some (.inr (.inr false))
 else
 some (.inl (w64 (s4+1))))))
 else
 some (.inr (.inl ())))) 0:Option (Unit ⊕ Bool)).bind fun v7x=>orE v7x fun v7 =>
 ((lX p0.Name).bind fun v8 =>
 (if v8=true then
 some (decide ((p0.Wheels.length:Int)≤5))
 else
 some false)))
def sR (p0:bG) (p1:ByteArray):Option Int :=
 ((cD (S:=Int) (X:=Unit ⊕ Int) (fun s3 =>
 (if s3<(p0.Arbors.length:Int) then
 ((atI p0.Arbors s3).bind fun v4 =>
 (if v4.Name=p1 then
 some (.inr (.inr s3))
 else
 some (.inl (w64 (s3+1)))))
 else
 some (.inr (.inl ())))) 0:Option (Unit ⊕ Int)).bind fun v5x=>orE v5x fun v5 =>
 some (-1))
def nT (p0:bG) (p1:Int) (p2:Int):Option Bool :=
 ((dO p1 0 (w64 ((p0.Arbors.length:Int)-1))).bind fun v1 =>
 (if v1=true then
 ((atI p0.Arbors p1).bind fun v2 =>
 ((dO p2 0 (w64 ((v2.Wheels.length:Int)-1))).bind fun v3 =>
 some v3))
 else
 some false))
def sT (p0:bG) (p1:bR):Option Bool :=
 (if p1.A≠p1.B then
 ((nT p0 p1.A p1.WheelA).bind fun v1 =>
 (if v1=true then
 ((nT p0 p1.B p1.WheelB).bind fun v2 =>
 some v2)
 else
 some false))
 else
 some false)
def qV (p0:bR) (p1:bR):Option Bool :=
 (if p0=p1 then
 some true
 else
 (if p0.A=p1.B then
 (if p0.WheelA=p1.WheelB then
 (if p0.B=p1.A then
 some (decide (p0.WheelB=p1.WheelA))
 else
 some false)
 else
 some false)
 else
 some false))
def qW (p0:bG) (p1:bR) (p2:Int):Option Bool :=
 ((cD (S:=Int) (X:=Unit ⊕ Bool) (fun s4 =>
 (if s4<p2 then
 ((atI p0.Meshes s4).bind fun v5 =>
 ((qV v5 p1).bind fun v6 =>
 (if v6=true then
 some (.inr (.inr true))
 else
 some (.inl (w64 (s4+1))))))
 else
 some (.inr (.inl ())))) 0:Option (Unit ⊕ Bool)).bind fun v7x=>orE v7x fun v7 =>
 some false)
def xK (p0:bG):Option Bool :=
 ((cD (S:=Int) (X:=Unit ⊕ Bool) (fun s7 =>
 (if s7<(p0.Arbors.length:Int) then
 ((((atI p0.Arbors s7).bind fun v8 =>
 ((qU v8).bind fun v9 =>
 (if (!v9)=true then
 some true
 else
 ((atI p0.Arbors s7).bind fun v10 =>
 ((sR p0 v10.Name).bind fun v11 =>
 some (decide (v11≠s7))))))):Option Bool).bind fun v12 =>
 (if v12=true then
 some (.inr (.inr false))
 else
 some (.inl (w64 (s7+1)))))
 else
 some (.inr (.inl ())))) 0:Option (Unit ⊕ Bool)).bind fun v13x=>orE v13x fun v13 =>
 ((cD (S:=Int) (X:=Unit ⊕ Bool) (fun s20 =>
 (if s20<(p0.Meshes.length:Int) then
 ((((atI p0.Meshes s20).bind fun v21 =>
 ((sT p0 v21).bind fun v22 =>
 (if (!v22)=true then
 some true
 else
 ((atI p0.Meshes s20).bind fun v23 =>
 ((qW p0 v23 s20).bind fun v24 =>
 some v24))))):Option Bool).bind fun v25 =>
 (if v25=true then
 some (.inr (.inr false))
 else
 some (.inl (w64 (s20+1)))))
 else
 some (.inr (.inl ())))) 0:Option (Unit ⊕ Bool)).bind fun v26x=>orE v26x fun v26 =>
 (if (p0.Arbors.length:Int)≤16 then
 some (decide ((p0.Meshes.length:Int)≤24))
 else
 some false)))
def lL (p0:bG) (p1:Int):Option Bool :=
 ((dO p1 0 (w64 ((p0.Arbors.length:Int)-1))).bind fun v1 =>
 some v1)
def uX (p0:List Int):Option Bool :=
 ((cD (S:=Int) (X:=Unit ⊕ Bool) (fun s4 =>
 (if s4<(p0.length:Int) then
 ((atI p0 s4).bind fun v5 =>
 ((dO v5 1 60).bind fun v6 =>
 (if (!v6)=true then
 some (.inr (.inr false))
 else
 some (.inl (w64 (s4+1))))))
 else
 some (.inr (.inl ())))) 0:Option (Unit ⊕ Bool)).bind fun v7x=>orE v7x fun v7 =>
 ((dO (p0.length:Int) 1 260).bind fun v8 =>
 some v8))
def xN (p0:aW):Option Bool :=
 ((((lX p0.Name).bind fun v1 =>
 (if (!v1)=true then
 some true
 else
 ((xK p0.Works).bind fun v2 =>
 (if (!v2)=true then
 some true
 else
 ((lL p0.Works p0.Minute).bind fun v3 =>
 (if (!v3)=true then
 some true
 else
 ((lL p0.Works p0.Hour).bind fun v4 =>
 (if (!v4)=true then
 some true
 else
 ((lL p0.Works p0.Escape).bind fun v5 =>
 some (!v5)))))))))):Option Bool).bind fun v6 =>
 (if v6=true then
 some false
 else
 ((iL p0.Teeth).bind fun v7 =>
 (if v7=true then
 ((dO p0.Beats 1 36000).bind fun v8 =>
 (if v8=true then
 ((qX p0.Calendar).bind fun v9 =>
 (if v9=true then
 ((uX p0.Cam).bind fun v10 =>
 (if v10=true then
 ((dO p0.Strike 0 2).bind fun v11 =>
 some v11)
 else
 some false))
 else
 some false))
 else
 some false))
 else
 some false))))
def pN (p0:bG) (p1:bR):Option bQ :=
 ((atI p0.Arbors p1.A).bind fun v1 =>
 ((atI v1.Wheels p1.WheelA).bind fun v2 =>
 ((atI p0.Arbors p1.B).bind fun v3 =>
 ((atI v3.Wheels p1.WheelB).bind fun v4 =>
 some (⟨v2,v4⟩:bQ)))))
def iB (p0:bG) (p1:List Bool) (p2:List aD):Option (Bool × Bool × List Bool × List aD) :=
 ((cD (S:=Bool × Int × List Bool × List aD) (X:=(Bool × List Bool × List aD) ⊕ (Bool × Bool × List Bool × List aD)) (fun s14 =>
 (if s14.2.1<(p0.Meshes.length:Int) then
 ((((atI p0.Meshes s14.2.1).bind fun v15 =>
 ((pN p0 v15).bind fun v16 =>
 ((atI s14.2.2.1 v15.A).bind fun v17 =>
 ((atI s14.2.2.1 v15.B).bind fun v18 =>
 (if (v17 == v18)=true then
 some (.inl (s14.1,s14.2.2.1,s14.2.2.2))
 else
 ((((atI s14.2.2.1 v15.B).bind fun v19 =>
 (if v19=true then
 some ((⟨v15.B,0,v15.A,0⟩:bR),(⟨v16.Driven,v16.Driver⟩:bQ))
 else
 some (v15,v16))):Option (bR × bQ)).bind fun v20 =>
 ((fN (w64 (-v20.2.Driver)) v20.2.Driven).bind fun v21 =>
 ((atI s14.2.2.2 v20.1.A).bind fun v22 =>
 ((kT v22 v21.1).bind fun v23 =>
 (if (!v23.2)=true then
 some (.inr (.inr (.inr (false,false,s14.2.2.1,s14.2.2.2))))
 else
 ((atI s14.2.2.2 v20.1.B).bind fun v24 =>
 ((atI s14.2.2.1 v20.1.B).bind fun v25 =>
 some (.inl (true,List.set s14.2.2.1 v20.1.B.toNat true,List.set s14.2.2.2 v20.1.B.toNat v23.1)))))))))))))):Option ((Bool × List Bool × List aD) ⊕ ((Bool × Int × List Bool × List aD) ⊕ ((Bool × List Bool × List aD) ⊕ (Bool × Bool × List Bool × List aD))))).bind fun v26x=>orE v26x fun v26 =>
 some (.inl (v26.1,w64 (s14.2.1+1),v26.2.1,v26.2.2)))
 else
 some (.inr (.inl (s14.1,s14.2.2.1,s14.2.2.2))))) (false,0,p1,p2):Option ((Bool × List Bool × List aD) ⊕ (Bool × Bool × List Bool × List aD))).bind fun v27x=>orE v27x fun v27 =>
 some (v27.1,true,v27.2.1,v27.2.2))
def sS (p0:bG) (p1:bR) (p2:List aD):Option Bool :=
 ((pN p0 p1).bind fun v1 =>
 ((fN (w64 (-v1.Driver)) v1.Driven).bind fun v2 =>
 ((atI p2 p1.A).bind fun v3 =>
 ((kT v3 v2.1).bind fun v4 =>
 (if v4.2=true then
 ((atI p2 p1.B).bind fun v5 =>
 some (decide (v4.1=v5)))
 else
 some false)))))
def oQ (p0:bG) (p1:Int):Option (List aD × Int) :=
 ((lL p0 p1).bind fun v1 =>
 (if (!v1)=true then
 some (([]:List aD),2)
 else
 (chk (0≤(p0.Arbors.length:Int)∧(p0.Arbors.length:Int)=(p0.Arbors.length:Int)∧(p0.Arbors.length:Int).toNat*1*64≤281474976710656) (
 (chk (0≤(p0.Arbors.length:Int)∧(p0.Arbors.length:Int)=(p0.Arbors.length:Int)∧(p0.Arbors.length:Int).toNat*2*64≤281474976710656) (
 ((atI (List.replicate (p0.Arbors.length:Int).toNat false) p1).bind fun v4 =>
 ((jP 1).bind fun v5 =>
 ((atI (List.replicate (p0.Arbors.length:Int).toNat (⟨0,0⟩:aD)) p1).bind fun v6 =>
 ((cD (S:=Bool × List Bool × List aD) (X:=(List Bool × List aD) ⊕ (List aD × Int)) (fun s11 =>
 (if s11.1=true then
 ((iB p0 s11.2.1 s11.2.2).bind fun v12 =>
 (chk (v12.2.2.1.length=s11.2.1.length) (
 (chk (v12.2.2.2.length=s11.2.2.length) (
 (if (!v12.2.1)=true then
 some (.inr (.inr (([]:List aD),2)))
 else
 some (.inl (v12.1,v12.2.2.1,v12.2.2.2))))))))
 else
 some (.inr (.inl (s11.2.1,s11.2.2))))) (true,List.set (List.replicate (p0.Arbors.length:Int).toNat false) p1.toNat true,List.set (List.replicate (p0.Arbors.length:Int).toNat (⟨0,0⟩:aD)) p1.toNat v5):Option ((List Bool × List aD) ⊕ (List aD × Int))).bind fun v15x=>orE v15x fun v15 =>
 ((cD (S:=Int) (X:=Unit ⊕ (List aD × Int)) (fun s18 =>
 (if s18<(v15.1.length:Int) then
 ((atI v15.1 s18).bind fun v19 =>
 (if (!v19)=true then
 some (.inr (.inr (([]:List aD),6)))
 else
 some (.inl (w64 (s18+1)))))
 else
 some (.inr (.inl ())))) 0:Option (Unit ⊕ (List aD × Int))).bind fun v20x=>orE v20x fun v20 =>
 ((cD (S:=Int) (X:=Unit ⊕ (List aD × Int)) (fun s24 =>
 (if s24<(p0.Meshes.length:Int) then
 ((atI p0.Meshes s24).bind fun v25 =>
 ((sS p0 v25 v15.2).bind fun v26 =>
 (if (!v26)=true then
 some (.inr (.inr (([]:List aD),10)))
 else
 some (.inl (w64 (s24+1))))))
 else
 some (.inr (.inl ())))) 0:Option (Unit ⊕ (List aD × Int))).bind fun v27x=>orE v27x fun v27 =>
 some (v15.2,0)))))))))))))
def tR (p0:aW) (p1:aD):Option Bool :=
 ((jX p1.Num).bind fun v1 =>
 some (decide ((w64 ((w64 (2*p0.Teeth))*v1))=(w64 (p0.Beats*p1.Den)))))
def pU (p0:aF) (p1:List Int):Option Int :=
 ((((qX p0).bind fun v1 =>
 (if (!v1)=true then
 some true
 else
 ((uX p1).bind fun v2 =>
 some (!v2)))):Option Bool).bind fun v3 =>
 (if v3=true then
 some 1
 else
 (chk ((p0.Months.length:Int)≠0) (
 (if ((p1.length:Int).tmod (p0.Months.length:Int))≠0 then
 some 6
 else
 some 0)))))
def oS (p0:aW):Option (List ByteArray) :=
 ((oQ p0.Works p0.Minute).bind fun v1 =>
 (((if v1.2≠0 then
 (chk ((([]:List ByteArray).length+[(⟨#[119,111,114,107,115]⟩:ByteArray)].length)*1*64≤140737488355328) (
 some (([]:List ByteArray)++[(⟨#[119,111,114,107,115]⟩:ByteArray)])))
 else
 ((((atI v1.1 p0.Hour).bind fun v3 =>
 (if v3≠(⟨1,12⟩:aD) then
 (chk ((([]:List ByteArray).length+[(⟨#[104,111,117,114]⟩:ByteArray)].length)*1*64≤140737488355328) (
 some (([]:List ByteArray)++[(⟨#[104,111,117,114]⟩:ByteArray)])))
 else
 some ([]:List ByteArray))):Option (List ByteArray)).bind fun v5 =>
 ((atI v1.1 p0.Escape).bind fun v6 =>
 ((tR p0 v6).bind fun v7 =>
 (if (!v7)=true then
 (chk ((v5.length+[(⟨#[98,101,97,116,115]⟩:ByteArray)].length)*1*64≤140737488355328) (
 some (v5++[(⟨#[98,101,97,116,115]⟩:ByteArray)])))
 else
 some v5))))):Option (List ByteArray)).bind fun v9 =>
 ((((pU p0.Calendar p0.Cam).bind fun v10 =>
 (if v10≠0 then
 (chk ((v9.length+[(⟨#[99,97,109]⟩:ByteArray)].length)*1*64≤140737488355328) (
 some (v9++[(⟨#[99,97,109]⟩:ByteArray)])))
 else
 some v9)):Option (List ByteArray)).bind fun v12 =>
 some v12)))
def vZ (p0:Int):Option Bool :=
 ((dO p0 0 9999).bind fun v1 =>
 some v1)
def xM (p0:aF) (p1:gY):Option Bool :=
 ((((vZ p1.Year).bind fun v1 =>
 (if (!v1)=true then
 some true
 else
 ((dO p1.Month 1 (p0.Months.length:Int)).bind fun v2 =>
 some (!v2)))):Option Bool).bind fun v3 =>
 (if v3=true then
 some false
 else
 ((pO p0 p1.Year (w64 (p1.Month-1))).bind fun v4 =>
 ((dO p1.Day 1 v4).bind fun v5 =>
 some v5))))
def kS (p0:Int) (p1:Int):Option Int :=
 (if p1<p0 then
 some p0
 else
 some p1)
def kL (p0:aF) (p1:List Int) (p2:gY) (p3:Int):Option (bX × Int) :=
 ((pU p0 p1).bind fun v1 =>
 (if v1≠0 then
 some ((⟨([]:List Int),0,0,0,0,0,0⟩:bX),v1)
 else
 ((((xM p0 p2).bind fun v2 =>
 (if (!v2)=true then
 some true
 else
 ((dO p3 1 p0.Week).bind fun v3 =>
 some (!v3)))):Option Bool).bind fun v4 =>
 (if v4=true then
 some ((⟨([]:List Int),0,0,0,0,0,0⟩:bX),2)
 else
 ((lY p1).bind fun v5 =>
 (chk ((p0.Months.length:Int)≠0) (
 (chk ((w64 ((p1.length:Int).tdiv (p0.Months.length:Int)))≠0) (
 ((cD (S:=Int × Int) (X:=Int) (fun s11 =>
 (if s11.1<(p1.length:Int) then
 ((atI p1 s11.1).bind fun v12 =>
 ((kS s11.2 v12).bind fun v13 =>
 some (.inl (w64 (s11.1+1),v13))))
 else
 some (.inr s11.2))) (0,0):Option Int).bind fun v14 =>
 ((cD (S:=Int × Int) (X:=Int) (fun s20 =>
 (if s20.1<(p0.Months.length:Int) then
 ((atI p0.Months s20.1).bind fun v21 =>
 ((atI p0.Months s20.1).bind fun v22 =>
 ((kS v21.Days v22.Leap).bind fun v23 =>
 ((kS s20.2 v23).bind fun v24 =>
 some (.inl (w64 (s20.1+1),v24))))))
 else
 some (.inr s20.2))) (0,v14):Option Int).bind fun v25 =>
 some ((⟨v5,(p0.Months.length:Int),v25,w64 ((w64 ((w64 ((p2.Year.tmod (w64 ((p1.length:Int).tdiv (p0.Months.length:Int))))*(p0.Months.length:Int)))+p2.Month))-1),p2.Day,p0.Week,p3⟩:bX),0))))))))))))
def wC (p0:aW) (p1:gY) (p2:Int):Option (bX × Int) :=
 ((kL p0.Calendar p0.Cam p1 p2).bind fun v1 =>
 some (v1.1,v1.2))
def uV (p0:bG):Option bG :=
 (chk ((([]:List bR).length+p0.Meshes.length)*4*64≤140737488355328) (
 ((cD (S:=Int × List bO) (X:=List bO) (fun s7 =>
 (if s7.1<(p0.Arbors.length:Int) then
 ((atI p0.Arbors s7.1).bind fun v8 =>
 ((atI p0.Arbors s7.1).bind fun v9 =>
 ((lY v9.Wheels).bind fun v10 =>
 (chk ((s7.2.length+1)*2*64≤140737488355328) (
 some (.inl (w64 (s7.1+1),s7.2++[(⟨v8.Name,v10⟩:bO)])))))))
 else
 some (.inr s7.2))) (0,([]:List bO)):Option (List bO)).bind fun v12 =>
 some (⟨v12,([]:List bR)++p0.Meshes⟩:bG))))
def uY (p0:aW):Option aW :=
 ((uV p0.Works).bind fun v1 =>
 ((pS p0.Calendar).bind fun v2 =>
 ((lY p0.Cam).bind fun v3 =>
 some (⟨p0.Name,v1,p0.Minute,p0.Hour,p0.Escape,p0.Teeth,p0.Beats,v2,v3,p0.Strike⟩:aW))))
def uR (p0:aW) (p1:gY) (p2:Int):Option (wN × Int) :=
 ((xN p0).bind fun v1 =>
 (if (!v1)=true then
 some ((⟨(⟨(⟨#[]⟩:ByteArray),(⟨([]:List bO),([]:List bR)⟩:bG),0,0,0,0,0,(⟨(⟨#[]⟩:ByteArray),([]:List bE),([]:List aO),0⟩:aF),([]:List Int),0⟩:aW),(⟨0,0,0⟩:gY),0,0,(⟨([]:List Int),0,0,0,0,0,0⟩:bX)⟩:wN),1)
 else
 ((oS p0).bind fun v2 =>
 (if 0<(v2.length:Int) then
 some ((⟨(⟨(⟨#[]⟩:ByteArray),(⟨([]:List bO),([]:List bR)⟩:bG),0,0,0,0,0,(⟨(⟨#[]⟩:ByteArray),([]:List bE),([]:List aO),0⟩:aF),([]:List Int),0⟩:aW),(⟨0,0,0⟩:gY),0,0,(⟨([]:List Int),0,0,0,0,0,0⟩:bX)⟩:wN),6)
 else
 ((wC p0 p1 p2).bind fun v3 =>
 (if v3.2≠0 then
 some ((⟨(⟨(⟨#[]⟩:ByteArray),(⟨([]:List bO),([]:List bR)⟩:bG),0,0,0,0,0,(⟨(⟨#[]⟩:ByteArray),([]:List bE),([]:List aO),0⟩:aF),([]:List Int),0⟩:aW),(⟨0,0,0⟩:gY),0,0,(⟨([]:List Int),0,0,0,0,0,0⟩:bX)⟩:wN),v3.2)
 else
 ((uY p0).bind fun v4 =>
 some ((⟨v4,p1,p2,0,v3.1⟩:wN),0))))))))
def yL (p0:Int) (p1:Int) (p2:aF) (p3:Int) (p4:Int):Option (wN × Int) :=
 ((iK (⟨#[99,108,111,99,107]⟩:ByteArray) p0 p1 p2 p3).bind fun v1 =>
 (if v1.2≠0 then
 some ((⟨(⟨(⟨#[]⟩:ByteArray),(⟨([]:List bO),([]:List bR)⟩:bG),0,0,0,0,0,(⟨(⟨#[]⟩:ByteArray),([]:List bE),([]:List aO),0⟩:aF),([]:List Int),0⟩:aW),(⟨0,0,0⟩:gY),0,0,(⟨([]:List Int),0,0,0,0,0,0⟩:bX)⟩:wN),v1.2)
 else
 ((uR v1.1 (⟨2000,1,1⟩:gY) p4).bind fun v2 =>
 some (v2.1,v2.2))))
def yK  : Option rR :=
 ((lW (⟨#[103,114,101,103,111,114,105,97,110]⟩:ByteArray)).bind fun v1 =>
 ((yL 3600 30 v1.1 4 6).bind fun v2 =>
 some (⟨v2.1⟩:rR)))
def sO  : Option rR :=
 ((yK).bind fun v1 =>
 some v1)
def sW (p0 p1:Int):Option ByteArray:=(chk (-9223372036854775808≤p0∧p0≤9223372036854775807∧p1=10) (some ⟨(Lib.itoa p0).toArray⟩))
def zE (p0:Int):Option ByteArray :=
 ((sW p0 10).bind fun v1 =>
 some v1)
def tD (p0:Int) (p1:Int):Option (List bE) :=
 ((cD (S:=Int × List bE) (X:=List bE) (fun s5 =>
 (if s5.1≤p0 then
 ((zE s5.1).bind fun v6 =>
 (chk ((⟨#[109]⟩:ByteArray).size+v6.size≤9223372036854775807) (
 (chk ((s5.2.length+[(⟨(⟨#[109]⟩:ByteArray)++v6,p1,p1⟩:bE)].length)*3*64≤140737488355328) (
 some (.inl (w64 (s5.1+1),s5.2++[(⟨(⟨#[109]⟩:ByteArray)++v6,p1,p1⟩:bE)])))))))
 else
 some (.inr s5.2))) (1,([]:List bE)):Option (List bE)).bind fun v9 =>
 some v9)
def lN (p0:ByteArray):Option (aF × Int) :=
 (((if p0=(⟨#[101,103,121,112,116,105,97,110]⟩:ByteArray) then
 ((tD 12 30).bind fun v1 =>
 (chk ((v1.length+[(⟨(⟨#[109,49,51]⟩:ByteArray),5,5⟩:bE)].length)*3*64≤140737488355328) (
 some (.inr ((⟨p0,v1++[(⟨(⟨#[109,49,51]⟩:ByteArray),5,5⟩:bE)],([]:List aO),10⟩:aF),0)))))
 else
 (if p0=(⟨#[102,105,120,101,100]⟩:ByteArray) then
 ((tD 12 28).bind fun v3 =>
 (chk ((v3.length+[(⟨(⟨#[109,49,51]⟩:ByteArray),29,30⟩:bE)].length)*3*64≤140737488355328) (
 some (.inl (v3++[(⟨(⟨#[109,49,51]⟩:ByteArray),29,30⟩:bE)])))))
 else
 (((if p0=(⟨#[103,114,101,103,111,114,105,97,110]⟩:ByteArray) then
 some (decide (p0=(⟨#[103,114,101,103,111,114,105,97,110]⟩:ByteArray)))
 else
 some (decide (p0=(⟨#[106,117,108,105,97,110]⟩:ByteArray)))):Option Bool).bind fun v5 =>
 (if v5=true then
 ((cD (S:=Int × List bE) (X:=List bE) (fun s10 =>
 (if s10.1<([(⟨#[106,97,110]⟩:ByteArray),(⟨#[102,101,98]⟩:ByteArray),(⟨#[109,97,114]⟩:ByteArray),(⟨#[97,112,114]⟩:ByteArray),(⟨#[109,97,121]⟩:ByteArray),(⟨#[106,117,110]⟩:ByteArray),(⟨#[106,117,108]⟩:ByteArray),(⟨#[97,117,103]⟩:ByteArray),(⟨#[115,101,112]⟩:ByteArray),(⟨#[111,99,116]⟩:ByteArray),(⟨#[110,111,118]⟩:ByteArray),(⟨#[100,101,99]⟩:ByteArray)].length:Int) then
 ((atI [(⟨#[106,97,110]⟩:ByteArray),(⟨#[102,101,98]⟩:ByteArray),(⟨#[109,97,114]⟩:ByteArray),(⟨#[97,112,114]⟩:ByteArray),(⟨#[109,97,121]⟩:ByteArray),(⟨#[106,117,110]⟩:ByteArray),(⟨#[106,117,108]⟩:ByteArray),(⟨#[97,117,103]⟩:ByteArray),(⟨#[115,101,112]⟩:ByteArray),(⟨#[111,99,116]⟩:ByteArray),(⟨#[110,111,118]⟩:ByteArray),(⟨#[100,101,99]⟩:ByteArray)] s10.1).bind fun v11 =>
 ((atI [31,28,31,30,31,30,31,31,30,31,30,31] s10.1).bind fun v12 =>
 (chk ((s10.2.length+[(⟨v11,v12,v12⟩:bE)].length)*3*64≤140737488355328) (
 some (.inl (w64 (s10.1+1),s10.2++[(⟨v11,v12,v12⟩:bE)]))))))
 else
 some (.inr s10.2))) (0,([]:List bE)):Option (List bE)).bind fun v14 =>
 ((atI v14 1).bind fun v15 =>
 some (.inl (List.set v14 (1:Int).toNat (⟨v15.Name,v15.Days,29⟩:bE)))))
 else
 some (.inr ((⟨(⟨#[]⟩:ByteArray),([]:List bE),([]:List aO),0⟩:aF),3)))))):Option ((List bE) ⊕ (aF × Int))).bind fun v16x=>orE v16x fun v16 =>
 (((if p0≠(⟨#[106,117,108,105,97,110]⟩:ByteArray) then
 (chk (([(⟨4,0,true⟩:aO)].length+[(⟨100,0,false⟩:aO),(⟨400,0,true⟩:aO)].length)*3*64≤140737488355328) (
 some ([(⟨4,0,true⟩:aO)]++[(⟨100,0,false⟩:aO),(⟨400,0,true⟩:aO)])))
 else
 some [(⟨4,0,true⟩:aO)]):Option (List aO)).bind fun v18 =>
 some ((⟨p0,v16,v18,7⟩:aF),0)))
def lO (p0:ByteArray):Option Bool :=
 (((if (p0.size:Int)<1 then
 some true
 else
 some (decide (12<(p0.size:Int)))):Option Bool).bind fun v1 =>
 (if v1=true then
 some false
 else
 (((chk (p0.size≤140737488355328) (
 cD (S:=Int) (X:=Unit ⊕ Bool) (fun s8 =>
 (if s8<((eG p0).length:Int) then
 ((atI (eG p0) s8).bind fun v9 =>
 (((if 97≤v9 then
 some (decide (v9≤122))
 else
 some false):Option Bool).bind fun v10 =>
 (((if 48≤v9 then
 (if v9≤57 then
 some true
 else
 some (decide (v9=45)))
 else
 some (decide (v9=45))):Option Bool).bind fun v11 =>
 (((if (!v10)=true then
 (if s8=0 then
 some true
 else
 some (!v11))
 else
 some false):Option Bool).bind fun v12 =>
 (if v12=true then
 some (.inr (.inr false))
 else
 some (.inl (w64 (s8+1))))))))
 else
 some (.inr (.inl ())))) 0)):Option (Unit ⊕ Bool)).bind fun v13x=>orE v13x fun v13 =>
 some true)))
def dJ (p0:Int) (p1:Int) (p2:Int):Option Bool :=
 (if p1≤p0 then
 some (decide (p0≤p2))
 else
 some false)
def jR (p0:bE) (p1:bE):Option Bool :=
 some (decide (p0.Name=p1.Name))
def cY (p0:List bE) (p1_0:bE):Option Int :=
 ((cD (S:=Int) (X:=Unit ⊕ Int) (fun s4 =>
 (if s4<(p0.length:Int) then
 ((atI p0 s4).bind fun v5 =>
 ((jR v5 p1_0).bind fun v6 =>
 (if v6=true then
 some (.inr (.inr s4))
 else
 some (.inl (w64 (s4+1))))))
 else
 some (.inr (.inl ())))) 0:Option (Unit ⊕ Int)).bind fun v7x=>orE v7x fun v7 =>
 some (-1))
def bY (p0:List bE) (p1_0:bE):Option Bool :=
 ((cY p0 p1_0).bind fun v1 =>
 some (decide (0≤v1)))
def vL (p0:Int) (p1:Int):Option Int :=
 ((cD (S:=Int × Int) (X:=Int) (fun s3 =>
 (if s3.2≠0 then
 (chk (s3.2≠0) (
 some (.inl (s3.2,s3.1.tmod s3.2))))
 else
 some (.inr s3.1))) (p0,p1):Option Int).bind fun v5 =>
 (if v5<0 then
 some (w64 (-v5))
 else
 some v5))
def iP (p0:List aO):Option Int :=
 ((cD (S:=Int × Int) (X:=Int) (fun s6 =>
 (if s6.2<(p0.length:Int) then
 ((((atI p0 s6.2).bind fun v7 =>
 (if s6.1≤2000 then
 ((vL s6.1 v7.Every).bind fun v8 =>
 (chk (v8≠0) (
 some (w64 ((w64 (s6.1.tdiv v8))*v7.Every)))))
 else
 some s6.1)):Option Int).bind fun v10 =>
 some (.inl (v10,w64 (s6.2+1))))
 else
 some (.inr s6.1))) (1,0):Option Int).bind fun v11 =>
 some v11)
def eJ (p0:aF):Option Bool :=
 ((((lO p0.Name).bind fun v1 =>
 (if (!v1)=true then
 some true
 else
 (if (p0.Months.length:Int)<1 then
 some true
 else
 (if 20<(p0.Months.length:Int) then
 some true
 else
 (if 6<(p0.Rules.length:Int) then
 some true
 else
 ((dJ p0.Week 1 12).bind fun v2 =>
 some (!v2))))))):Option Bool).bind fun v3 =>
 (if v3=true then
 some false
 else
 ((cD (S:=Int) (X:=Unit ⊕ Bool) (fun s12 =>
 (if s12<(p0.Months.length:Int) then
 ((atI p0.Months s12).bind fun v13 =>
 ((((lO v13.Name).bind fun v14 =>
 (if (!v14)=true then
 some true
 else
 ((dJ v13.Days 1 60).bind fun v15 =>
 (if (!v15)=true then
 some true
 else
 ((dJ v13.Leap 1 60).bind fun v16 =>
 some (!v16)))))):Option Bool).bind fun v17 =>
 (if v17=true then
 some (.inr (.inr false))
 else
 (chk (0≤(0:Int)∧(0:Int)≤s12∧s12≤(p0.Months.length:Int)) (
 ((bY (zS p0.Months (0:Int) s12) v13).bind fun v19 =>
 (if v19=true then
 some (.inr (.inr false))
 else
 some (.inl (w64 (s12+1))))))))))
 else
 some (.inr (.inl ())))) 0:Option (Unit ⊕ Bool)).bind fun v20x=>orE v20x fun v20 =>
 ((cD (S:=Int) (X:=Unit ⊕ Bool) (fun s26 =>
 (if s26<(p0.Rules.length:Int) then
 ((atI p0.Rules s26).bind fun v27 =>
 ((((dJ v27.Every 1 1000).bind fun v28 =>
 (if (!v28)=true then
 some true
 else
 ((dJ v27.Rest 0 (w64 (v27.Every-1))).bind fun v29 =>
 some (!v29)))):Option Bool).bind fun v30 =>
 (if v30=true then
 some (.inr (.inr false))
 else
 some (.inl (w64 (s26+1))))))
 else
 some (.inr (.inl ())))) 0:Option (Unit ⊕ Bool)).bind fun v31x=>orE v31x fun v31 =>
 ((iP p0.Rules).bind fun v32 =>
 some (decide (v32≤2000)))))))
def iQ (p0:Int):Option Bool :=
 ((dJ p0 6 240).bind fun v1 =>
 some v1)
def vN (p0:aF) (p1:Int):Option Bool :=
 (chk ((p0.Months.length:Int)≠0) (
 ((dJ p1 1 (w64 ((260:Int).tdiv (p0.Months.length:Int)))).bind fun v2 =>
 some v2)))
def lS (p0:aF) (p1:Int):Option Bool :=
 ((cD (S:=Bool × Int) (X:=Bool) (fun s5 =>
 (if s5.2<(p0.Rules.length:Int) then
 ((((atI p0.Rules s5.2).bind fun v6 =>
 (chk (v6.Every≠0) (
 (if (p1.tmod v6.Every)=v6.Rest then
 some v6.Leap
 else
 some s5.1)))):Option Bool).bind fun v8 =>
 some (.inl (v8,w64 (s5.2+1))))
 else
 some (.inr s5.1))) (false,0):Option Bool).bind fun v9 =>
 some v9)
def iO (p0:aF) (p1:List Int):Option Int :=
 (chk ((p0.Months.length:Int)≠0) (
 (if ((p1.length:Int).tmod (p0.Months.length:Int))≠0 then
 some 0
 else
 (chk ((p0.Months.length:Int)≠0) (
 some (w64 ((p1.length:Int).tdiv (p0.Months.length:Int))))))))
def jF (p0:aF) (p1:Bool) (p2:Int):Option Int :=
 (if p1=true then
 ((atI p0.Months (w64 (p2-1))).bind fun v1 =>
 some v1.Leap)
 else
 ((atI p0.Months (w64 (p2-1))).bind fun v2 =>
 some v2.Days))
def qK (p0:aF) (p1:List Int) (p2:Int):Option (List rT) :=
 ((lS p0 p2).bind fun v1 =>
 ((iO p0 p1).bind fun v2 =>
 (chk (v2≠0) (
 (chk (0≤(w64 ((p2.tmod v2)*(p0.Months.length:Int)))∧(w64 ((p2.tmod v2)*(p0.Months.length:Int)))≤(p1.length:Int)∧(p1.length:Int)≤(p1.length:Int)) (
 ((cD (S:=Int × List rT) (X:=List rT) (fun s11 =>
 (if s11.1≤(p0.Months.length:Int) then
 ((((jF p0 v1 s11.1).bind fun v12 =>
 ((atI (zS p1 (w64 ((p2.tmod v2)*(p0.Months.length:Int))) (p1.length:Int)) (w64 (s11.1-1))).bind fun v13 =>
 (if v13≠v12 then
 ((atI (zS p1 (w64 ((p2.tmod v2)*(p0.Months.length:Int))) (p1.length:Int)) (w64 (s11.1-1))).bind fun v14 =>
 (chk ((s11.2.length+[(⟨p2,s11.1,v14,v12⟩:rT)].length)*4*64≤140737488355328) (
 some (s11.2++[(⟨p2,s11.1,v14,v12⟩:rT)]))))
 else
 some s11.2))):Option (List rT)).bind fun v16 =>
 some (.inl (w64 (s11.1+1),v16)))
 else
 some (.inr s11.2))) (1,([]:List rT)):Option (List rT)).bind fun v17 =>
 some v17)))))))
def mI (p0:aF) (p1:List Int):Option Int :=
 ((iO p0 p1).bind fun v1 =>
 ((iP p0.Rules).bind fun v2 =>
 ((vL v1 v2).bind fun v3 =>
 (chk (v3≠0) (
 ((cD (S:=Int × Int) (X:=Int) (fun s7 =>
 (if s7.2<(w64 ((w64 (v1.tdiv v3))*v2)) then
 ((qK p0 p1 s7.2).bind fun v8 =>
 some (.inl (w64 (s7.1+(v8.length:Int)),w64 (s7.2+1))))
 else
 some (.inr s7.1))) (0,0):Option Int).bind fun v9 =>
 some v9))))))
def rX (p0:aF) (p1:Int):Option (List Int × Int × Int) :=
 ((eJ p0).bind fun v1 =>
 (if (!v1)=true then
 some (([]:List Int),0,1)
 else
 ((vN p0 p1).bind fun v2 =>
 (if (!v2)=true then
 some (([]:List Int),0,2)
 else
 ((iP p0.Rules).bind fun v3 =>
 ((vL p1 v3).bind fun v4 =>
 (chk (v4≠0) (
 (chk (0≤p1∧p1=p1∧p1.toNat*1*64≤281474976710656) (
 (chk (0≤p1∧p1=p1∧p1.toNat*1*64≤281474976710656) (
 ((cD (S:=Int × List Int × List Int) (X:=List Int × List Int) (fun s17 =>
 (if s17.1<(w64 ((w64 (p1.tdiv v4))*v3)) then
 ((((lS p0 s17.1).bind fun v18 =>
 (if v18=true then
 (chk (p1≠0) (
 ((atI s17.2.1 (s17.1.tmod p1)).bind fun v20 =>
 ((atI s17.2.1 (s17.1.tmod p1)).bind fun v21 =>
 some (List.set s17.2.1 (s17.1.tmod p1).toNat (w64 (v20+1)),s17.2.2)))))
 else
 (chk (p1≠0) (
 ((atI s17.2.2 (s17.1.tmod p1)).bind fun v23 =>
 ((atI s17.2.2 (s17.1.tmod p1)).bind fun v24 =>
 some (s17.2.1,List.set s17.2.2 (s17.1.tmod p1).toNat (w64 (v23+1))))))))):Option (List Int × List Int)).bind fun v25 =>
 some (.inl (w64 (s17.1+1),v25.1,v25.2)))
 else
 some (.inr (s17.2.1,s17.2.2)))) (0,List.replicate p1.toNat 0,List.replicate p1.toNat 0):Option (List Int × List Int)).bind fun v26 =>
 ((cD (S:=Int × List Int) (X:=List Int) (fun s47 =>
 (if s47.1<(v26.1.length:Int) then
 ((cD (S:=Int × List Int) (X:=List Int) (fun s57 =>
 (if s57.1<(p0.Months.length:Int) then
 ((atI p0.Months s57.1).bind fun v58 =>
 ((((((atI v26.1 s47.1).bind fun v59 =>
 ((atI v26.2 s47.1).bind fun v60 =>
 (if v60<v59 then
 some true
 else
 ((atI v26.1 s47.1).bind fun v61 =>
 ((atI v26.2 s47.1).bind fun v62 =>
 (if v61=v62 then
 some (decide (v58.Leap<v58.Days))
 else
 some false)))))):Option Bool).bind fun v63 =>
 (if v63=true then
 some v58.Leap
 else
 some v58.Days)):Option Int).bind fun v64 =>
 (chk ((s57.2.length+[v64].length)*1*64≤140737488355328) (
 some (.inl (w64 (s57.1+1),s57.2++[v64]))))))
 else
 some (.inr s57.2))) (0,s47.2):Option (List Int)).bind fun v66 =>
 some (.inl (w64 (s47.1+1),v66)))
 else
 some (.inr s47.2))) (0,([]:List Int)):Option (List Int)).bind fun v67 =>
 ((mI p0 v67).bind fun v68 =>
 some (v67,v68,0))))))))))))))))
def lT (p0:Int):Option Int :=
 (if p0<0 then
 some (IntKind.u64.wrap (-(IntKind.u64.wrap p0)))
 else
 some (IntKind.u64.wrap p0))
def sB (p0:Int) (p1:Int):Option (aD × Bool) :=
 ((lT p0).bind fun v1 =>
 ((lT p1).bind fun v2 =>
 ((cD (S:=Int × Int) (X:=Int) (fun s5 =>
 (if s5.2≠0 then
 (chk (s5.2≠0) (
 some (.inl (s5.2,s5.1.tmod s5.2))))
 else
 some (.inr s5.1))) (v1,v2):Option Int).bind fun v7 =>
 (chk (v7≠0) (
 (chk (v7≠0) (
 (((if 1000000000<(IntKind.u64.wrap (v1.tdiv v7)) then
 some true
 else
 some (decide (1000000000<(IntKind.u64.wrap (v2.tdiv v7))))):Option Bool).bind fun v10 =>
 (if v10=true then
 some ((⟨0,0⟩:aD),false)
 else
 (((if ((decide (p0<0)) != (decide (p1<0)))=true then
 some (⟨w64 (-(w64 (IntKind.u64.wrap (v1.tdiv v7)))),w64 (IntKind.u64.wrap (v2.tdiv v7))⟩:aD)
 else
 some (⟨w64 (IntKind.u64.wrap (v1.tdiv v7)),w64 (IntKind.u64.wrap (v2.tdiv v7))⟩:aD)):Option aD).bind fun v11 =>
 some (v11,true)))))))))))
def eS (p0:Int) (p1:Int):Option (aD × Int) :=
 (if p1=0 then
 some ((⟨0,0⟩:aD),6)
 else
 ((sB p0 p1).bind fun v1 =>
 (if (!v1.2)=true then
 some ((⟨0,0⟩:aD),2)
 else
 some (v1.1,0))))
def fD (p0:aD):Option Bool :=
 ((dJ p0.Den 1 1000000000).bind fun v1 =>
 (if v1=true then
 ((dJ p0.Num (-1000000000) 1000000000).bind fun v2 =>
 (if v2=true then
 ((vL p0.Num p0.Den).bind fun v3 =>
 some (decide (v3=1)))
 else
 some false))
 else
 some false))
def rI (p0:Int) (p1:Int):Option Bool :=
 (if 6≤p0 then
 (if p1≤120 then
 (if p0≤p1 then
 some (decide (p1≤(w64 (p0+30))))
 else
 some false)
 else
 some false)
 else
 some false)
def oC (p0:iN):Option Bool :=
 ((rI p0.LowDriver p0.HighDriver).bind fun v1 =>
 (if v1=true then
 ((rI p0.LowDriven p0.HighDriven).bind fun v2 =>
 (if v2=true then
 ((dJ p0.Stages 1 3).bind fun v3 =>
 some v3)
 else
 some false))
 else
 some false))
def vJ (p0:aD) (p1:iN):Option Int :=
 ((((fD p0).bind fun v1 =>
 (if (!v1)=true then
 some true
 else
 ((oC p1).bind fun v2 =>
 some (!v2)))):Option Bool).bind fun v3 =>
 (if v3=true then
 some 1
 else
 (((if p0.Num≤0 then
 some true
 else
 (if 1000000<p0.Num then
 some true
 else
 some (decide (1000000<p0.Den)))):Option Bool).bind fun v4 =>
 (if v4=true then
 some 2
 else
 some 0))))
def pF (p0 p1 p2:Int):Option aF7:=(chk (1≤p0∧p0≤p1∧p1≤120∧1≤p2∧p2≤3) (some ⟨aCy (gZ (cH p0 p1 p2.toNat)),fH (cH p0 p1 p2.toNat)⟩))
def jB (p0:Int):Option Bool :=
 some (decide (p0≠p0))
def dY (p0:Int) (p1:Int):Option Int :=
 ((jB p0).bind fun v1 =>
 ((jB p1).bind fun v2 =>
 (if v1=true then
 (if v2=true then
 some 0
 else
 some (-1))
 else
 (if v2=true then
 some 1
 else
 (if p0<p1 then
 some (-1)
 else
 (if p1<p0 then
 some 1
 else
 some 0))))))
def jD (p0:Int) (p1:Int) (p2:aD):Option Int :=
 ((dY (w64 (p0*p2.Num)) (w64 (p1*p2.Den))).bind fun v1 =>
 some v1)
def bP (p0:List Int) (p1:Int) (p2_0:aD):Option (Int × Bool) :=
 ((cD (S:=Int × Int) (X:=Int) (fun s5 =>
 (if s5.1<s5.2 then
 ((atI p0 (w64 (aU3 .u64 (IntKind.u64.wrap (w64 (s5.1+s5.2))) 1))).bind fun v7 =>
 ((jD v7 p1 p2_0).bind fun v8 =>
 (if v8<0 then
 some (.inl (w64 ((w64 (aU3 .u64 (IntKind.u64.wrap (w64 (s5.1+s5.2))) 1))+1),s5.2))
 else
 some (.inl (s5.1,w64 (aU3 .u64 (IntKind.u64.wrap (w64 (s5.1+s5.2))) 1))))))
 else
 some (.inr s5.1))) (0,(p0.length:Int)):Option Int).bind fun v9 =>
 (if v9<(p0.length:Int) then
 ((atI p0 v9).bind fun v10 =>
 ((jD v10 p1 p2_0).bind fun v11 =>
 some (v9,decide (v11=0))))
 else
 some (v9,false)))
def wW (p0:Int):Option Int :=
 (if p0<0 then
 some (w64 (-p0))
 else
 some p0)
def xV (p0:Int) (p1:Int) (p2:aD):Option kZ :=
 ((wW (w64 ((w64 (p0*p2.Den))-(w64 (p1*p2.Num))))).bind fun v1 =>
 some (⟨p0,p1,v1⟩:kZ))
def gG (p0:kZ) (p1:kZ):Option Int :=
 ((dY (w64 (p0.far*p1.q)) (w64 (p1.far*p0.q))).bind fun v1 =>
 some v1)
def cU (p0:List Int):Option (List Int) :=
 (chk ((([]:List Int).length+p0.length)*1*64≤140737488355328) (
 some (([]:List Int)++p0)))
def eK (p0:List Int):Option (List Int) :=
 cD (S:=Int × Int × List Int) (X:=List Int) (fun s6 =>
 (if s6.1<s6.2.1 then
 ((atI s6.2.2 s6.2.1).bind fun v7 =>
 ((atI s6.2.2 s6.1).bind fun v8 =>
 ((atI s6.2.2 s6.1).bind fun v9 =>
 ((atI (List.set s6.2.2 s6.1.toNat v7) s6.2.1).bind fun v10 =>
 some (.inl (w64 (s6.1+1),w64 (s6.2.1-1),List.set (List.set s6.2.2 s6.1.toNat v7) s6.2.1.toNat v8))))))
 else
 some (.inr s6.2.2))) (0,w64 ((p0.length:Int)-1),p0)
def xW (p0:List Int) (p1:List Int):Option (List bQ) :=
 ((cD (S:=Int × List bQ) (X:=List bQ) (fun s5 =>
 (if s5.1<(p0.length:Int) then
 ((atI p0 s5.1).bind fun v6 =>
 ((atI p1 s5.1).bind fun v7 =>
 (chk ((s5.2.length+[(⟨v6,v7⟩:bQ)].length)*2*64≤140737488355328) (
 some (.inl (w64 (s5.1+1),s5.2++[(⟨v6,v7⟩:bQ)]))))))
 else
 some (.inr s5.2))) (0,([]:List bQ)):Option (List bQ)).bind fun v9 =>
 some v9)
def jS (p0:List Int) (p1:List Int):Option (List bQ) :=
 ((cU p0).bind fun v1 =>
 ((eK v1).bind fun v2 =>
 (chk (v2.length=v1.length) (
 ((xW v2 p1).bind fun v4 =>
 some v4)))))
def mY (p0:List bQ):Option Int :=
 ((cD (S:=Int × Int) (X:=Int) (fun s3 =>
 (if s3.2<(p0.length:Int) then
 ((atI p0 s3.2).bind fun v4 =>
 some (.inl (w64 (s3.1+(w64 (v4.Driver+v4.Driven))),w64 (s3.2+1))))
 else
 some (.inr s3.1))) (0,0):Option Int).bind fun v5 =>
 some v5)
def nG (p0:List Int):Option Int :=
 ((cD (S:=Int) (X:=Unit ⊕ Int) (fun s3 =>
 (if s3<(p0.length:Int) then
 ((atI p0 s3).bind fun v4 =>
 (if v4≠0 then
 some (.inr (.inr v4))
 else
 some (.inl (w64 (s3+1)))))
 else
 some (.inr (.inl ())))) 0:Option (Unit ⊕ Int)).bind fun v5x=>orE v5x fun v5 =>
 some 0)
def eX (p0:bQ) (p1:bQ):Option Int :=
 ((dY p0.Driver p1.Driver).bind fun v1 =>
 ((dY p0.Driven p1.Driven).bind fun v2 =>
 ((nG [v1,v2]).bind fun v3 =>
 some v3)))
def bL (p0:List bQ) (p1:List bQ):Option Int :=
 ((cD (S:=Int) (X:=Unit ⊕ Int) (fun s5 =>
 (if s5<(p0.length:Int) then
 ((atI p0 s5).bind fun v6 =>
 (if (p1.length:Int)≤s5 then
 some (.inr (.inr 1))
 else
 ((atI p1 s5).bind fun v7 =>
 ((eX v6 v7).bind fun v8 =>
 (if v8≠0 then
 some (.inr (.inr v8))
 else
 some (.inl (w64 (s5+1))))))))
 else
 some (.inr (.inl ())))) 0:Option (Unit ⊕ Int)).bind fun v9x=>orE v9x fun v9 =>
 (if (p0.length:Int)<(p1.length:Int) then
 some (-1)
 else
 some 0))
def jE (p0:List bQ) (p1:List bQ):Option Int :=
 ((mY p0).bind fun v1 =>
 ((mY p1).bind fun v2 =>
 ((dY v1 v2).bind fun v3 =>
 (if v3≠0 then
 some v3
 else
 ((bL p0 p1).bind fun v4 =>
 some v4)))))
def lR (p0:aD) (p1:iN):Option (List bQ) :=
 ((pF p1.LowDriver p1.HighDriver p1.Stages).bind fun v1 =>
 ((pF p1.LowDriven p1.HighDriven p1.Stages).bind fun v2 =>
 ((cD (S:=Int × List kZ) (X:=List kZ) (fun s31 =>
 (if s31.1<(v1.products.length:Int) then
 ((((atI v1.products s31.1).bind fun v32 =>
 ((bP v2.products v32 p0).bind fun v33 =>
 cD (S:=Int × List kZ) (X:=List kZ) (fun s47 =>
 (((if s47.1≤v33.1 then
 some (decide (s47.1<(v2.products.length:Int)))
 else
 some false):Option Bool).bind fun v48 =>
 (if v48=true then
 ((((atI v2.products s47.1).bind fun v49 =>
 ((xV v32 v49 p0).bind fun v50 =>
 (((((if 0<(s47.2.length:Int) then
 ((atI s47.2 0).bind fun v51 =>
 ((gG v50 v51).bind fun v52 =>
 some (decide (v52<0))))
 else
 some false):Option Bool).bind fun v53 =>
 (if v53=true then
 some ([]:List kZ)
 else
 some s47.2)):Option (List kZ)).bind fun v54 =>
 (((if (v54.length:Int)=0 then
 some true
 else
 ((atI v54 0).bind fun v55 =>
 ((gG v50 v55).bind fun v56 =>
 some (decide (v56=0))))):Option Bool).bind fun v57 =>
 (if v57=true then
 (chk ((v54.length+[v50].length)*3*64≤140737488355328) (
 some (v54++[v50])))
 else
 some v54))))):Option (List kZ)).bind fun v59 =>
 some (.inl (w64 (s47.1+1),v59)))
 else
 some (.inr s47.2)))) (max (w64 (v33.1-1)) 0,s31.2))):Option (List kZ)).bind fun v60 =>
 some (.inl (w64 (s31.1+1),v60)))
 else
 some (.inr s31.2))) (0,([]:List kZ)):Option (List kZ)).bind fun v61 =>
 ((cD (S:=List bQ × Int) (X:=List bQ) (fun s102 =>
 (if s102.2<(v61.length:Int) then
 ((((atI v61 s102.2).bind fun v103 =>
 (chk (-9223372036854775808≤v103.p∧v103.p≤9223372036854775807) (
 cD (S:=List bQ × Int) (X:=List bQ) (fun s123 =>
 (if s123.2<((v1.lists v103.p).length:Int) then
 ((((atI (v1.lists v103.p) s123.2).bind fun v124 =>
 (chk (-9223372036854775808≤v103.q∧v103.q≤9223372036854775807) (
 cD (S:=List bQ × Int) (X:=List bQ) (fun s133 =>
 (if s133.2<((v2.lists v103.q).length:Int) then
 ((((atI (v2.lists v103.q) s133.2).bind fun v134 =>
 ((jS v124 v134).bind fun v135 =>
 (((if s133.1=[] then
 some true
 else
 ((jE v135 s133.1).bind fun v136 =>
 some (decide (v136<0)))):Option Bool).bind fun v137 =>
 (if v137=true then
 (chk (v135≠[]) (
 some v135))
 else
 some s133.1)))):Option (List bQ)).bind fun v139 =>
 some (.inl (v139,w64 (s133.2+1))))
 else
 some (.inr s133.1))) (s123.1,0)))):Option (List bQ)).bind fun v140 =>
 some (.inl (v140,w64 (s123.2+1))))
 else
 some (.inr s123.1))) (s102.1,0)))):Option (List bQ)).bind fun v141 =>
 some (.inl (v141,w64 (s102.2+1))))
 else
 some (.inr s102.1))) (([]:List bQ),0):Option (List bQ)).bind fun v142 =>
 some v142))))
def gD (p0:bQ):Option Bool :=
 ((iQ p0.Driver).bind fun v1 =>
 (if v1=true then
 ((iQ p0.Driven).bind fun v2 =>
 some v2)
 else
 some false))
def kP (p0:List bQ):Option Bool :=
 ((cD (S:=Int) (X:=Unit ⊕ Bool) (fun s4 =>
 (if s4<(p0.length:Int) then
 ((atI p0 s4).bind fun v5 =>
 ((gD v5).bind fun v6 =>
 (if (!v6)=true then
 some (.inr (.inr false))
 else
 some (.inl (w64 (s4+1))))))
 else
 some (.inr (.inl ())))) 0:Option (Unit ⊕ Bool)).bind fun v7x=>orE v7x fun v7 =>
 some (decide ((p0.length:Int)≤5)))
def iF (p0:aD) (p1:aD):Option (aD × Int) :=
 ((((fD p0).bind fun v1 =>
 (if (!v1)=true then
 some true
 else
 ((fD p1).bind fun v2 =>
 some (!v2)))):Option Bool).bind fun v3 =>
 (if v3=true then
 some ((⟨0,0⟩:aD),1)
 else
 ((eS (w64 (p0.Num*p1.Num)) (w64 (p0.Den*p1.Den))).bind fun v4 =>
 some (v4.1,v4.2))))
def kR (p0:List bQ):Option (aD × Int) :=
 ((cD (S:=Int × aD) (X:=aD ⊕ (aD × Int)) (fun s5 =>
 (if s5.1<(p0.length:Int) then
 ((atI p0 s5.1).bind fun v6 =>
 ((eS (w64 (-v6.Driver)) v6.Driven).bind fun v7 =>
 ((iF s5.2 v7.1).bind fun v8 =>
 (if v8.2≠0 then
 some (.inr (.inr ((⟨0,0⟩:aD),v8.2)))
 else
 some (.inl (w64 (s5.1+1),v8.1))))))
 else
 some (.inr (.inl s5.2)))) (0,(⟨1,1⟩:aD)):Option (aD ⊕ (aD × Int))).bind fun v9x=>orE v9x fun v9 =>
 some (v9,0))
def tB (p0:aD) (p1:aD):Option (aD × Int) :=
 ((((fD p0).bind fun v1 =>
 (if (!v1)=true then
 some true
 else
 ((fD p1).bind fun v2 =>
 some (!v2)))):Option Bool).bind fun v3 =>
 (if v3=true then
 some ((⟨0,0⟩:aD),1)
 else
 ((eS (w64 ((w64 (p0.Num*p1.Den))-(w64 (p1.Num*p0.Den)))) (w64 (p0.Den*p1.Den))).bind fun v4 =>
 some (v4.1,v4.2))))
def mT (p0:List bQ) (p1:aD):Option (aD × Int) :=
 ((kR p0).bind fun v1 =>
 (if v1.2≠0 then
 some ((⟨0,0⟩:aD),v1.2)
 else
 ((wW v1.1.Num).bind fun v2 =>
 ((tB (⟨v2,v1.1.Den⟩:aD) p1).bind fun v3 =>
 some (v3.1,v3.2)))))
def rY (p0:List bQ) (p1:aD):Option (aD × Int) :=
 ((((kP p0).bind fun v1 =>
 (if (!v1)=true then
 some true
 else
 ((fD p1).bind fun v2 =>
 some (!v2)))):Option Bool).bind fun v3 =>
 (if v3=true then
 some ((⟨0,0⟩:aD),1)
 else
 ((mT p0 p1).bind fun v4 =>
 ((wW v4.1.Num).bind fun v5 =>
 some ((⟨v5,v4.1.Den⟩:aD),v4.2)))))
def nZ (p0:aD) (p1:iN):Option (uE × Int) :=
 ((vJ p0 p1).bind fun v1 =>
 (if v1≠0 then
 some ((⟨([]:List bQ),(⟨0,0⟩:aD)⟩:uE),v1)
 else
 ((lR p0 p1).bind fun v2 =>
 ((rY v2 p0).bind fun v3 =>
 (if v3.2≠0 then
 some ((⟨([]:List bQ),(⟨0,0⟩:aD)⟩:uE),v3.2)
 else
 some ((⟨v2,v3.1⟩:uE),0))))))
def fR (p0:List bR):Option (List bR) :=
 (chk ((([]:List bR).length+p0.length)*4*64≤140737488355328) (
 some (([]:List bR)++p0)))
def oD (p0:bG):Option bG :=
 ((cD (S:=Int × List bO) (X:=List bO) (fun s5 =>
 (if s5.1<(p0.Arbors.length:Int) then
 ((atI p0.Arbors s5.1).bind fun v6 =>
 ((cU v6.Wheels).bind fun v7 =>
 (chk ((s5.2.length+1)*2*64≤140737488355328) (
 some (.inl (w64 (s5.1+1),s5.2++[(⟨v6.Name,v7⟩:bO)]))))))
 else
 some (.inr s5.2))) (0,([]:List bO)):Option (List bO)).bind fun v9 =>
 ((fR p0.Meshes).bind fun v10 =>
 some (⟨v9,v10⟩:bG)))
def fF (p0:List bE):Option (List bE) :=
 (chk ((([]:List bE).length+p0.length)*3*64≤140737488355328) (
 some (([]:List bE)++p0)))
def eE (p0:List aO):Option (List aO) :=
 (chk ((([]:List aO).length+p0.length)*3*64≤140737488355328) (
 some (([]:List aO)++p0)))
def hY (p0:aW):Option aW :=
 ((oD p0.Works).bind fun v1 =>
 ((fF p0.Calendar.Months).bind fun v2 =>
 ((eE p0.Calendar.Rules).bind fun v3 =>
 ((cU p0.Cam).bind fun v4 =>
 some (⟨p0.Name,v1,p0.Minute,p0.Hour,p0.Escape,p0.Teeth,p0.Beats,(⟨p0.Calendar.Name,v2,v3,p0.Calendar.Week⟩:aF),v4,p0.Strike⟩:aW)))))
def iD (p0:ByteArray) (p1:Int) (p2:Int) (p3:aF) (p4:Int):Option (aW × Int) :=
 ((eJ p3).bind fun v1 =>
 (if (!v1)=true then
 some ((⟨(⟨#[]⟩:ByteArray),(⟨([]:List bO),([]:List bR)⟩:bG),0,0,0,0,0,(⟨(⟨#[]⟩:ByteArray),([]:List bE),([]:List aO),0⟩:aF),([]:List Int),0⟩:aW),1)
 else
 ((lO p0).bind fun v2 =>
 (if (!v2)=true then
 some ((⟨(⟨#[]⟩:ByteArray),(⟨([]:List bO),([]:List bR)⟩:bG),0,0,0,0,0,(⟨(⟨#[]⟩:ByteArray),([]:List bE),([]:List aO),0⟩:aF),([]:List Int),0⟩:aW),7)
 else
 ((((dJ p1 1 36000).bind fun v3 =>
 (if (!v3)=true then
 some true
 else
 ((iQ p2).bind fun v4 =>
 some (!v4)))):Option Bool).bind fun v5 =>
 (if v5=true then
 some ((⟨(⟨#[]⟩:ByteArray),(⟨([]:List bO),([]:List bR)⟩:bG),0,0,0,0,0,(⟨(⟨#[]⟩:ByteArray),([]:List bE),([]:List aO),0⟩:aF),([]:List Int),0⟩:aW),2)
 else
 ((rX p3 p4).bind fun v6 =>
 (if v6.2.2≠0 then
 some ((⟨(⟨#[]⟩:ByteArray),(⟨([]:List bO),([]:List bR)⟩:bG),0,0,0,0,0,(⟨(⟨#[]⟩:ByteArray),([]:List bE),([]:List aO),0⟩:aF),([]:List Int),0⟩:aW),v6.2.2)
 else
 ((eS p1 (w64 (2*p2))).bind fun v7 =>
 (if v7.2≠0 then
 some ((⟨(⟨#[]⟩:ByteArray),(⟨([]:List bO),([]:List bR)⟩:bG),0,0,0,0,0,(⟨(⟨#[]⟩:ByteArray),([]:List bE),([]:List aO),0⟩:aF),([]:List Int),0⟩:aW),v7.2)
 else
 ((nZ v7.1 (⟨60,84,7,10,2⟩:iN)).bind fun v8 =>
 (if v8.2≠0 then
 some ((⟨(⟨#[]⟩:ByteArray),(⟨([]:List bO),([]:List bR)⟩:bG),0,0,0,0,0,(⟨(⟨#[]⟩:ByteArray),([]:List bE),([]:List aO),0⟩:aF),([]:List Int),0⟩:aW),v8.2)
 else
 (if v8.1.Error.Num≠0 then
 some ((⟨(⟨#[]⟩:ByteArray),(⟨([]:List bO),([]:List bR)⟩:bG),0,0,0,0,0,(⟨(⟨#[]⟩:ByteArray),([]:List bE),([]:List aO),0⟩:aF),([]:List Int),0⟩:aW),3)
 else
 ((atI v8.1.Train 0).bind fun v9 =>
 ((atI v8.1.Train 1).bind fun v10 =>
 ((hY (⟨p0,(⟨[(⟨(⟨#[99,101,110,116,101,114]⟩:ByteArray),[v9.Driver,12]⟩:bO),(⟨(⟨#[116,104,105,114,100]⟩:ByteArray),[v9.Driven,v10.Driver]⟩:bO),(⟨(⟨#[101,115,99,97,112,101]⟩:ByteArray),[v10.Driven]⟩:bO),(⟨(⟨#[109,105,110,117,116,101]⟩:ByteArray),[36,10]⟩:bO),(⟨(⟨#[104,111,117,114]⟩:ByteArray),[40]⟩:bO)],[(⟨0,0,1,0⟩:bR),(⟨1,1,2,0⟩:bR),(⟨0,1,3,0⟩:bR),(⟨3,1,4,0⟩:bR)]⟩:bG),0,4,2,p2,p1,p3,v6.1,2⟩:aW)).bind fun v11 =>
 some (v11,0)))))))))))))))))
def mX (p0:bG) (p1:Int):Option Bool :=
 ((dJ p1 0 (w64 ((p0.Arbors.length:Int)-1))).bind fun v1 =>
 some v1)
def mK (p0:bO):Option Bool :=
 ((cD (S:=Int) (X:=Unit ⊕ Bool) (fun s4 =>
 (if s4<(p0.Wheels.length:Int) then
 ((atI p0.Wheels s4).bind fun v5 =>
 ((iQ v5).bind fun v6 =>
 (if (!v6)=true then
 some (.inr (.inr false))
 else
 some (.inl (w64 (s4+1))))))
 else
 some (.inr (.inl ())))) 0:Option (Unit ⊕ Bool)).bind fun v7x=>orE v7x fun v7 =>
 ((lO p0.Name).bind fun v8 =>
 (if v8=true then
 some (decide ((p0.Wheels.length:Int)≤5))
 else
 some false)))
def nJ (p0:bG) (p1:Int) (p2:Int):Option Bool :=
 ((dJ p1 0 (w64 ((p0.Arbors.length:Int)-1))).bind fun v1 =>
 (if v1=true then
 ((atI p0.Arbors p1).bind fun v2 =>
 ((dJ p2 0 (w64 ((v2.Wheels.length:Int)-1))).bind fun v3 =>
 some v3))
 else
 some false))
def wZ (p0:bG) (p1:bR):Option Bool :=
 (if p1.A≠p1.B then
 ((nJ p0 p1.A p1.WheelA).bind fun v1 =>
 (if v1=true then
 ((nJ p0 p1.B p1.WheelB).bind fun v2 =>
 some v2)
 else
 some false))
 else
 some false)
def qL (p0:bR) (p1:bR):Option Bool :=
 (if p0=p1 then
 some true
 else
 some (decide (p0=(⟨p1.B,p1.WheelB,p1.A,p1.WheelA⟩:bR))))
def mS (p0:bR) (p1:bR):Option Bool :=
 ((qL p1 p0).bind fun v1 =>
 some v1)
def dC (p0:List bR) (p1_0:bR):Option Int :=
 ((cD (S:=Int) (X:=Unit ⊕ Int) (fun s4 =>
 (if s4<(p0.length:Int) then
 ((atI p0 s4).bind fun v5 =>
 ((mS v5 p1_0).bind fun v6 =>
 (if v6=true then
 some (.inr (.inr s4))
 else
 some (.inl (w64 (s4+1))))))
 else
 some (.inr (.inl ())))) 0:Option (Unit ⊕ Int)).bind fun v7x=>orE v7x fun v7 =>
 some (-1))
def cJ (p0:List bR) (p1_0:bR):Option Bool :=
 ((dC p0 p1_0).bind fun v1 =>
 some (decide (0≤v1)))
def kQ (p0:bG):Option Bool :=
 (((if 16<(p0.Arbors.length:Int) then
 some true
 else
 some (decide (24<(p0.Meshes.length:Int)))):Option Bool).bind fun v1 =>
 (if v1=true then
 some false
 else
 ((cD (S:=Int) (X:=Unit ⊕ Bool) (fun s11 =>
 (if s11<(p0.Arbors.length:Int) then
 ((((atI p0.Arbors s11).bind fun v12 =>
 ((mK v12).bind fun v13 =>
 (if (!v13)=true then
 some (.inr (.inr (.inr false)))
 else
 (chk (0≤(0:Int)∧(0:Int)≤s11∧s11≤(p0.Arbors.length:Int)) (
 cD (S:=Int) (X:=Unit ⊕ (Int ⊕ (Unit ⊕ Bool))) (fun s17 =>
 (if s17<((zS p0.Arbors (0:Int) s11).length:Int) then
 ((atI (zS p0.Arbors (0:Int) s11) s17).bind fun v18 =>
 (if v12.Name=v18.Name then
 some (.inr (.inr (.inr (.inr false))))
 else
 some (.inl (w64 (s17+1)))))
 else
 some (.inr (.inl ())))) 0))))):Option (Unit ⊕ (Int ⊕ (Unit ⊕ Bool)))).bind fun v19x=>orE v19x fun v19 =>
 some (.inl (w64 (s11+1))))
 else
 some (.inr (.inl ())))) 0:Option (Unit ⊕ Bool)).bind fun v20x=>orE v20x fun v20 =>
 ((cD (S:=Int) (X:=Unit ⊕ Bool) (fun s27 =>
 (if s27<(p0.Meshes.length:Int) then
 ((atI p0.Meshes s27).bind fun v28 =>
 ((((wZ p0 v28).bind fun v29 =>
 (if (!v29)=true then
 some true
 else
 (chk (0≤(0:Int)∧(0:Int)≤s27∧s27≤(p0.Meshes.length:Int)) (
 ((cJ (zS p0.Meshes (0:Int) s27) v28).bind fun v31 =>
 some v31))))):Option Bool).bind fun v32 =>
 (if v32=true then
 some (.inr (.inr false))
 else
 some (.inl (w64 (s27+1))))))
 else
 some (.inr (.inl ())))) 0:Option (Unit ⊕ Bool)).bind fun v33x=>orE v33x fun v33 =>
 some true))))
def nI (p0:List Int):Option Bool :=
 ((cD (S:=Int) (X:=Unit ⊕ Bool) (fun s4 =>
 (if s4<(p0.length:Int) then
 ((atI p0 s4).bind fun v5 =>
 ((dJ v5 1 60).bind fun v6 =>
 (if (!v6)=true then
 some (.inr (.inr false))
 else
 some (.inl (w64 (s4+1))))))
 else
 some (.inr (.inl ())))) 0:Option (Unit ⊕ Bool)).bind fun v7x=>orE v7x fun v7 =>
 (if 1≤(p0.length:Int) then
 some (decide ((p0.length:Int)≤260))
 else
 some false))
def gI (p0:aW):Option Bool :=
 ((((mX p0.Works p0.Minute).bind fun v1 =>
 (if v1=true then
 ((mX p0.Works p0.Hour).bind fun v2 =>
 (if v2=true then
 ((mX p0.Works p0.Escape).bind fun v3 =>
 some v3)
 else
 some false))
 else
 some false)):Option Bool).bind fun v4 =>
 ((((iQ p0.Teeth).bind fun v5 =>
 (if v5=true then
 ((dJ p0.Beats 1 36000).bind fun v6 =>
 (if v6=true then
 ((dJ p0.Strike 0 2).bind fun v7 =>
 some v7)
 else
 some false))
 else
 some false)):Option Bool).bind fun v8 =>
 (if v4=true then
 (if v8=true then
 ((lO p0.Name).bind fun v9 =>
 (if v9=true then
 ((kQ p0.Works).bind fun v10 =>
 (if v10=true then
 ((eJ p0.Calendar).bind fun v11 =>
 (if v11=true then
 ((nI p0.Cam).bind fun v12 =>
 some v12)
 else
 some false))
 else
 some false))
 else
 some false))
 else
 some false)
 else
 some false)))
def nL (p0:bG) (p1:bR):Option bQ :=
 ((atI p0.Arbors p1.A).bind fun v1 =>
 ((atI v1.Wheels p1.WheelA).bind fun v2 =>
 ((atI p0.Arbors p1.B).bind fun v3 =>
 ((atI v3.Wheels p1.WheelB).bind fun v4 =>
 some (⟨v2,v4⟩:bQ)))))
def nK (p0:aD) (p1:Int) (p2:Int):Option (aD × Int) :=
 ((eS (w64 (-p1)) p2).bind fun v1 =>
 ((iF p0 v1.1).bind fun v2 =>
 some (v2.1,v2.2)))
def mJ (p0:bG) (p1:Int):Option (List aD × Int) :=
 (chk (0≤(p0.Arbors.length:Int)∧(p0.Arbors.length:Int)=(p0.Arbors.length:Int)∧(p0.Arbors.length:Int).toNat*2*64≤281474976710656) (
 ((atI (List.replicate (p0.Arbors.length:Int).toNat (⟨0,0⟩:aD)) p1).bind fun v2 =>
 ((cD (S:=Bool × List aD) (X:=(List aD) ⊕ (List aD × Int)) (fun s28 =>
 (if s28.1=true then
 cD (S:=Bool × Int × List aD) (X:=(Bool × List aD) ⊕ ((List aD) ⊕ (List aD × Int))) (fun s41 =>
 (if s41.2.1<(p0.Meshes.length:Int) then
 ((((atI p0.Meshes s41.2.1).bind fun v42 =>
 ((nL p0 v42).bind fun v43 =>
 ((((atI s41.2.2 v42.A).bind fun v44 =>
 (if v44.Den=0 then
 some (v42.B,v42.A,(⟨v43.Driven,v43.Driver⟩:bQ))
 else
 some (v42.A,v42.B,v43))):Option (Int × Int × bQ)).bind fun v45 =>
 ((((atI s41.2.2 v45.1).bind fun v46 =>
 (if v46.Den=0 then
 some true
 else
 ((atI s41.2.2 v45.2.1).bind fun v47 =>
 some (decide (v47.Den≠0))))):Option Bool).bind fun v48 =>
 (if v48=true then
 some (.inl (s41.1,s41.2.2))
 else
 ((atI s41.2.2 v45.1).bind fun v49 =>
 ((nK v49 v45.2.2.Driver v45.2.2.Driven).bind fun v50 =>
 (if v50.2≠0 then
 some (.inr (.inr (.inr (.inr (([]:List aD),v50.2)))))
 else
 ((atI s41.2.2 v45.2.1).bind fun v51 =>
 some (.inl (true,List.set s41.2.2 v45.2.1.toNat v50.1))))))))))):Option ((Bool × List aD) ⊕ ((Bool × Int × List aD) ⊕ ((Bool × List aD) ⊕ ((List aD) ⊕ (List aD × Int)))))).bind fun v52x=>orE v52x fun v52 =>
 some (.inl (v52.1,w64 (s41.2.1+1),v52.2)))
 else
 some (.inr (.inl (s41.1,s41.2.2))))) (false,0,s28.2)
 else
 some (.inr (.inl s28.2)))) (true,List.set (List.replicate (p0.Arbors.length:Int).toNat (⟨0,0⟩:aD)) p1.toNat (⟨1,1⟩:aD)):Option ((List aD) ⊕ (List aD × Int))).bind fun v53x=>orE v53x fun v53 =>
 some (v53,0)))))
def pY (p0:aD):Option Bool :=
 some (decide (p0.Den=0))
def dD (p0:List aD):Option Int :=
 ((cD (S:=Int) (X:=Unit ⊕ Int) (fun s4 =>
 (if s4<(p0.length:Int) then
 ((atI p0 s4).bind fun v5 =>
 ((pY v5).bind fun v6 =>
 (if v6=true then
 some (.inr (.inr s4))
 else
 some (.inl (w64 (s4+1))))))
 else
 some (.inr (.inl ())))) 0:Option (Unit ⊕ Int)).bind fun v7x=>orE v7x fun v7 =>
 some (-1))
def cK (p0:List aD):Option Bool :=
 ((dD p0).bind fun v1 =>
 some (decide (0≤v1)))
def qH (p0:bG) (p1:Int):Option (List aD × Int) :=
 ((kQ p0).bind fun v1 =>
 (if (!v1)=true then
 some (([]:List aD),1)
 else
 ((dJ p1 0 (w64 ((p0.Arbors.length:Int)-1))).bind fun v2 =>
 (if (!v2)=true then
 some (([]:List aD),2)
 else
 ((mJ p0 p1).bind fun v3 =>
 (if v3.2≠0 then
 some (([]:List aD),v3.2)
 else
 ((cK v3.1).bind fun v4 =>
 (if v4=true then
 some (([]:List aD),6)
 else
 ((cD (S:=Int) (X:=Unit ⊕ (List aD × Int)) (fun s12 =>
 (if s12<(p0.Meshes.length:Int) then
 ((atI p0.Meshes s12).bind fun v13 =>
 ((nL p0 v13).bind fun v14 =>
 ((atI v3.1 v13.A).bind fun v15 =>
 ((nK v15 v14.Driver v14.Driven).bind fun v16 =>
 (((if v16.2≠0 then
 some true
 else
 ((atI v3.1 v13.B).bind fun v17 =>
 some (decide (v16.1≠v17)))):Option Bool).bind fun v18 =>
 (if v18=true then
 some (.inr (.inr (([]:List aD),10)))
 else
 some (.inl (w64 (s12+1)))))))))
 else
 some (.inr (.inl ())))) 0:Option (Unit ⊕ (List aD × Int))).bind fun v19x=>orE v19x fun v19 =>
 some (v3.1,0))))))))))
def iE (p0:aW):Option (List ByteArray) :=
 ((gI p0).bind fun v1 =>
 (if (!v1)=true then
 some [(⟨#[109,111,118,101,109,101,110,116]⟩:ByteArray)]
 else
 ((qH p0.Works p0.Minute).bind fun v2 =>
 (((if v2.2≠0 then
 (chk ([(⟨#[119,111,114,107,115]⟩:ByteArray)].length*1*64≤140737488355328) (
 some [(⟨#[119,111,114,107,115]⟩:ByteArray)]))
 else
 ((((atI v2.1 p0.Hour).bind fun v4 =>
 (if v4≠(⟨1,12⟩:aD) then
 (chk ([(⟨#[104,111,117,114]⟩:ByteArray)].length*1*64≤140737488355328) (
 some [(⟨#[104,111,117,114]⟩:ByteArray)]))
 else
 some ([]:List ByteArray))):Option (List ByteArray)).bind fun v6 =>
 ((atI v2.1 p0.Escape).bind fun v7 =>
 ((wW v7.Num).bind fun v8 =>
 (if (w64 ((w64 (2*p0.Teeth))*v8))≠(w64 (p0.Beats*v7.Den)) then
 (chk ((v6.length+[(⟨#[98,101,97,116,115]⟩:ByteArray)].length)*1*64≤140737488355328) (
 some (v6++[(⟨#[98,101,97,116,115]⟩:ByteArray)])))
 else
 some v6))))):Option (List ByteArray)).bind fun v10 =>
 ((((iO p0.Calendar p0.Cam).bind fun v11 =>
 (if v11=0 then
 (chk ((v10.length+[(⟨#[99,97,109]⟩:ByteArray)].length)*1*64≤140737488355328) (
 some (v10++[(⟨#[99,97,109]⟩:ByteArray)])))
 else
 some v10)):Option (List ByteArray)).bind fun v13 =>
 some v13)))))
def qI (p0:aF) (p1:List Int):Option Int :=
 ((((eJ p0).bind fun v1 =>
 (if (!v1)=true then
 some true
 else
 ((nI p1).bind fun v2 =>
 some (!v2)))):Option Bool).bind fun v3 =>
 (if v3=true then
 some 1
 else
 ((iO p0 p1).bind fun v4 =>
 (if v4=0 then
 some 6
 else
 some 0))))
def xU (p0:Int):Option Bool :=
 ((dJ p0 0 9999).bind fun v1 =>
 some v1)
def vM (p0:aF) (p1:Int):Option Bool :=
 ((dJ p1 1 (p0.Months.length:Int)).bind fun v1 =>
 some v1)
def oB (p0:aF) (p1:gY):Option Bool :=
 ((eJ p0).bind fun v1 =>
 (if v1=true then
 ((xU p1.Year).bind fun v2 =>
 (if v2=true then
 ((vM p0 p1.Month).bind fun v3 =>
 (if v3=true then
 ((lS p0 p1.Year).bind fun v4 =>
 ((jF p0 v4 p1.Month).bind fun v5 =>
 ((dJ p1.Day 1 v5).bind fun v6 =>
 some v6)))
 else
 some false))
 else
 some false))
 else
 some false))
def eP (p0:List Int):Option Int :=
 (((if (p0.length:Int)<1 then
 none
 else
 some ()):Option Unit).bind fun v1 =>
 ((atI p0 0).bind fun v2 =>
 ((cD (S:=Int × Int) (X:=Int) (fun s5 =>
 (if s5.2<(p0.length:Int) then
 ((atI p0 s5.2).bind fun v6 =>
 some (.inl (max s5.1 v6,w64 (s5.2+1))))
 else
 some (.inr s5.1))) (v2,1):Option Int).bind fun v7 =>
 some v7)))
def kE (p0:aF) (p1:List Int) (p2:gY) (p3:Int):Option (bX × Int) :=
 ((qI p0 p1).bind fun v1 =>
 (if v1≠0 then
 some ((⟨([]:List Int),0,0,0,0,0,0⟩:bX),v1)
 else
 ((((oB p0 p2).bind fun v2 =>
 (if (!v2)=true then
 some true
 else
 ((dJ p3 1 p0.Week).bind fun v3 =>
 some (!v3)))):Option Bool).bind fun v4 =>
 (if v4=true then
 some ((⟨([]:List Int),0,0,0,0,0,0⟩:bX),2)
 else
 ((eP p1).bind fun v5 =>
 ((cD (S:=Int × Int) (X:=Int) (fun s8 =>
 (if s8.2<(p0.Months.length:Int) then
 ((atI p0.Months s8.2).bind fun v9 =>
 some (.inl (max (max s8.1 v9.Days) v9.Leap,w64 (s8.2+1))))
 else
 some (.inr s8.1))) (v5,0):Option Int).bind fun v10 =>
 ((cU p1).bind fun v11 =>
 ((iO p0 p1).bind fun v12 =>
 (chk (v12≠0) (
 some ((⟨v11,(p0.Months.length:Int),v10,w64 ((w64 ((w64 ((p2.Year.tmod v12)*(p0.Months.length:Int)))+p2.Month))-1),p2.Day,p0.Week,p3⟩:bX),0)))))))))))
def uI (p0:aW) (p1:gY) (p2:Int):Option (wN × Int) :=
 ((gI p0).bind fun v1 =>
 (if (!v1)=true then
 some ((⟨(⟨(⟨#[]⟩:ByteArray),(⟨([]:List bO),([]:List bR)⟩:bG),0,0,0,0,0,(⟨(⟨#[]⟩:ByteArray),([]:List bE),([]:List aO),0⟩:aF),([]:List Int),0⟩:aW),(⟨0,0,0⟩:gY),0,0,(⟨([]:List Int),0,0,0,0,0,0⟩:bX)⟩:wN),1)
 else
 ((iE p0).bind fun v2 =>
 (if 0<(v2.length:Int) then
 some ((⟨(⟨(⟨#[]⟩:ByteArray),(⟨([]:List bO),([]:List bR)⟩:bG),0,0,0,0,0,(⟨(⟨#[]⟩:ByteArray),([]:List bE),([]:List aO),0⟩:aF),([]:List Int),0⟩:aW),(⟨0,0,0⟩:gY),0,0,(⟨([]:List Int),0,0,0,0,0,0⟩:bX)⟩:wN),6)
 else
 ((kE p0.Calendar p0.Cam p1 p2).bind fun v3 =>
 (if v3.2≠0 then
 some ((⟨(⟨(⟨#[]⟩:ByteArray),(⟨([]:List bO),([]:List bR)⟩:bG),0,0,0,0,0,(⟨(⟨#[]⟩:ByteArray),([]:List bE),([]:List aO),0⟩:aF),([]:List Int),0⟩:aW),(⟨0,0,0⟩:gY),0,0,(⟨([]:List Int),0,0,0,0,0,0⟩:bX)⟩:wN),v3.2)
 else
 ((hY p0).bind fun v4 =>
 some ((⟨v4,p1,p2,0,v3.1⟩:wN),0))))))))
def vK (p0:Int) (p1:Int) (p2:ByteArray) (p3:Int) (p4:Int):Option (wN × Int) :=
 ((lN p2).bind fun v1 =>
 (if v1.2≠0 then
 some ((⟨(⟨(⟨#[]⟩:ByteArray),(⟨([]:List bO),([]:List bR)⟩:bG),0,0,0,0,0,(⟨(⟨#[]⟩:ByteArray),([]:List bE),([]:List aO),0⟩:aF),([]:List Int),0⟩:aW),(⟨0,0,0⟩:gY),0,0,(⟨([]:List Int),0,0,0,0,0,0⟩:bX)⟩:wN),v1.2)
 else
 ((iD (⟨#[99,108,111,99,107]⟩:ByteArray) p0 p1 v1.1 p3).bind fun v2 =>
 (if v2.2≠0 then
 some ((⟨(⟨(⟨#[]⟩:ByteArray),(⟨([]:List bO),([]:List bR)⟩:bG),0,0,0,0,0,(⟨(⟨#[]⟩:ByteArray),([]:List bE),([]:List aO),0⟩:aF),([]:List Int),0⟩:aW),(⟨0,0,0⟩:gY),0,0,(⟨([]:List Int),0,0,0,0,0,0⟩:bX)⟩:wN),v2.2)
 else
 ((uI v2.1 (⟨2000,1,1⟩:gY) p4).bind fun v3 =>
 some (v3.1,v3.2))))))
def pE  : Option rR :=
 ((vK 3600 30 (⟨#[103,114,101,103,111,114,105,97,110]⟩:ByteArray) 4 6).bind fun v1 =>
 some (⟨v1.1⟩:rR))
def lE (p0:List Int) (p1:List Int):Option Bool :=
 (if (p0.length:Int)≠(p1.length:Int) then
 some false
 else
 ((cD (S:=Int) (X:=Unit ⊕ Bool) (fun s4 =>
 (if s4<(p0.length:Int) then
 ((atI p0 s4).bind fun v5 =>
 ((atI p1 s4).bind fun v6 =>
 (if v5≠v6 then
 some (.inr (.inr false))
 else
 some (.inl (w64 (s4+1))))))
 else
 some (.inr (.inl ())))) 0:Option (Unit ⊕ Bool)).bind fun v7x=>orE v7x fun v7 =>
 some true))
def sD (p0:bO) (p1:bO):Option Bool :=
 (if p0.Name≠p1.Name then
 some false
 else
 ((lE p0.Wheels p1.Wheels).bind fun v1 =>
 (if (!v1)=true then
 some false
 else
 some true)))
def qM (p0:List bO) (p1:List bO):Option Bool :=
 (if (p0.length:Int)≠(p1.length:Int) then
 some false
 else
 ((cD (S:=Int) (X:=Unit ⊕ Bool) (fun s5 =>
 (if s5<(p0.length:Int) then
 ((atI p0 s5).bind fun v6 =>
 ((atI p1 s5).bind fun v7 =>
 ((sD v6 v7).bind fun v8 =>
 (if (!v8)=true then
 some (.inr (.inr false))
 else
 some (.inl (w64 (s5+1)))))))
 else
 some (.inr (.inl ())))) 0:Option (Unit ⊕ Bool)).bind fun v9x=>orE v9x fun v9 =>
 some true))
def uM (p0:bR) (p1:bR):Option Bool :=
 (if p0.A≠p1.A then
 some false
 else
 (if p0.WheelA≠p1.WheelA then
 some false
 else
 (if p0.B≠p1.B then
 some false
 else
 (if p0.WheelB≠p1.WheelB then
 some false
 else
 some true))))
def sE (p0:List bR) (p1:List bR):Option Bool :=
 (if (p0.length:Int)≠(p1.length:Int) then
 some false
 else
 ((cD (S:=Int) (X:=Unit ⊕ Bool) (fun s5 =>
 (if s5<(p0.length:Int) then
 ((atI p0 s5).bind fun v6 =>
 ((atI p1 s5).bind fun v7 =>
 ((uM v6 v7).bind fun v8 =>
 (if (!v8)=true then
 some (.inr (.inr false))
 else
 some (.inl (w64 (s5+1)))))))
 else
 some (.inr (.inl ())))) 0:Option (Unit ⊕ Bool)).bind fun v9x=>orE v9x fun v9 =>
 some true))
def sG (p0:bG) (p1:bG):Option Bool :=
 ((qM p0.Arbors p1.Arbors).bind fun v1 =>
 (if (!v1)=true then
 some false
 else
 ((sE p0.Meshes p1.Meshes).bind fun v2 =>
 (if (!v2)=true then
 some false
 else
 some true))))
def sF (p0:bE) (p1:bE):Option Bool :=
 (if p0.Name≠p1.Name then
 some false
 else
 (if p0.Days≠p1.Days then
 some false
 else
 (if p0.Leap≠p1.Leap then
 some false
 else
 some true)))
def qN (p0:List bE) (p1:List bE):Option Bool :=
 (if (p0.length:Int)≠(p1.length:Int) then
 some false
 else
 ((cD (S:=Int) (X:=Unit ⊕ Bool) (fun s5 =>
 (if s5<(p0.length:Int) then
 ((atI p0 s5).bind fun v6 =>
 ((atI p1 s5).bind fun v7 =>
 ((sF v6 v7).bind fun v8 =>
 (if (!v8)=true then
 some (.inr (.inr false))
 else
 some (.inl (w64 (s5+1)))))))
 else
 some (.inr (.inl ())))) 0:Option (Unit ⊕ Bool)).bind fun v9x=>orE v9x fun v9 =>
 some true))
def mM (p0:aO) (p1:aO):Option Bool :=
 (if p0.Every≠p1.Every then
 some false
 else
 (if p0.Rest≠p1.Rest then
 some false
 else
 (if (p0.Leap != p1.Leap)=true then
 some false
 else
 some true)))
def lF (p0:List aO) (p1:List aO):Option Bool :=
 (if (p0.length:Int)≠(p1.length:Int) then
 some false
 else
 ((cD (S:=Int) (X:=Unit ⊕ Bool) (fun s5 =>
 (if s5<(p0.length:Int) then
 ((atI p0 s5).bind fun v6 =>
 ((atI p1 s5).bind fun v7 =>
 ((mM v6 v7).bind fun v8 =>
 (if (!v8)=true then
 some (.inr (.inr false))
 else
 some (.inl (w64 (s5+1)))))))
 else
 some (.inr (.inl ())))) 0:Option (Unit ⊕ Bool)).bind fun v9x=>orE v9x fun v9 =>
 some true))
def mL (p0:aF) (p1:aF):Option Bool :=
 (if p0.Name≠p1.Name then
 some false
 else
 ((qN p0.Months p1.Months).bind fun v1 =>
 (if (!v1)=true then
 some false
 else
 ((lF p0.Rules p1.Rules).bind fun v2 =>
 (if (!v2)=true then
 some false
 else
 (if p0.Week≠p1.Week then
 some false
 else
 some true))))))
def mN (p0:aW) (p1:aW):Option Bool :=
 (if p0.Name≠p1.Name then
 some false
 else
 ((sG p0.Works p1.Works).bind fun v1 =>
 (if (!v1)=true then
 some false
 else
 (if p0.Minute≠p1.Minute then
 some false
 else
 (if p0.Hour≠p1.Hour then
 some false
 else
 (if p0.Escape≠p1.Escape then
 some false
 else
 (if p0.Teeth≠p1.Teeth then
 some false
 else
 (if p0.Beats≠p1.Beats then
 some false
 else
 ((mL p0.Calendar p1.Calendar).bind fun v2 =>
 (if (!v2)=true then
 some false
 else
 ((lE p0.Cam p1.Cam).bind fun v3 =>
 (if (!v3)=true then
 some false
 else
 (if p0.Strike≠p1.Strike then
 some false
 else
 some true)))))))))))))
def uL (p0:gY) (p1:gY):Option Bool :=
 (if p0.Year≠p1.Year then
 some false
 else
 (if p0.Month≠p1.Month then
 some false
 else
 (if p0.Day≠p1.Day then
 some false
 else
 some true)))
def lG (p0:bX) (p1:bX):Option Bool :=
 ((lE p0.Cam p1.Cam).bind fun v1 =>
 (if (!v1)=true then
 some false
 else
 (if p0.Months≠p1.Months then
 some false
 else
 (if p0.Teeth≠p1.Teeth then
 some false
 else
 (if p0.At≠p1.At then
 some false
 else
 (if p0.Day≠p1.Day then
 some false
 else
 (if p0.Week≠p1.Week then
 some false
 else
 (if p0.Weekday≠p1.Weekday then
 some false
 else
 some true))))))))
def xC (p0:wN) (p1:wN):Option Bool :=
 ((mN p0.Movement p1.Movement).bind fun v1 =>
 (if (!v1)=true then
 some false
 else
 ((uL p0.Start p1.Start).bind fun v2 =>
 (if (!v2)=true then
 some false
 else
 (if p0.First≠p1.First then
 some false
 else
 (if p0.Clock≠p1.Clock then
 some false
 else
 ((lG p0.Dial p1.Dial).bind fun v3 =>
 (if (!v3)=true then
 some false
 else
 some true))))))))
def rO (p0:rR) (p1:rR):Option Bool :=
 ((xC p0.Sim p1.Sim).bind fun v1 =>
 (if (!v1)=true then
 some false
 else
 some true))
def gF (p0:Int):Option ByteArray :=
 (if p0≤0 then
 some (⟨#[109,48]⟩:ByteArray)
 else
 ((cD (S:=Int × ByteArray) (X:=ByteArray) (fun s5 =>
 (if 0<s5.1 then
 (chk ((strOfNums [IntKind.u8.wrap (w64 (48+(s5.1.tmod 10)))]).size+s5.2.size≤9223372036854775807) (
 some (.inl (w64 (s5.1.tdiv 10),(strOfNums [IntKind.u8.wrap (w64 (48+(s5.1.tmod 10)))])++s5.2))))
 else
 some (.inr s5.2))) (p0,(⟨#[]⟩:ByteArray)):Option ByteArray).bind fun v9 =>
 (chk ((⟨#[109]⟩:ByteArray).size+v9.size≤9223372036854775807) (
 some ((⟨#[109]⟩:ByteArray)++v9)))))
def fZ (p0:List Int) (p1:Int):Option (Int × List Int) :=
 ((cD (S:=Int × Int × List Int) (X:=Int × List Int) (fun s3 =>
 (if s3.2.1<(s3.2.2.length:Int) then
 ((atI s3.2.2 s3.2.1).bind fun v4 =>
 some (.inl (w64 (s3.1+1),w64 (s3.2.1+1),List.set s3.2.2 s3.2.1.toNat s3.1)))
 else
 some (.inr (s3.1,s3.2.2)))) (p1,0,p0):Option (Int × List Int)).bind fun v5 =>
 some (v5.1,v5.2))
def kI (p0:List bO) (p1:Int):Option (Int × List bO) :=
 ((cD (S:=Int × Int × List bO) (X:=Int × List bO) (fun s7 =>
 (if s7.2.1<(s7.2.2.length:Int) then
 ((gF s7.1).bind fun v8 =>
 ((atI s7.2.2 s7.2.1).bind fun v9 =>
 ((atI (List.set s7.2.2 s7.2.1.toNat (⟨v8,v9.Wheels⟩:bO)) s7.2.1).bind fun v10 =>
 ((fZ v10.Wheels (w64 (s7.1+1))).bind fun v11 =>
 (chk (v11.2.length=v10.Wheels.length) (
 some (.inl (v11.1,w64 (s7.2.1+1),List.set (List.set s7.2.2 s7.2.1.toNat (⟨v8,v9.Wheels⟩:bO)) s7.2.1.toNat (⟨v10.Name,v11.2⟩:bO)))))))))
 else
 some (.inr (s7.1,s7.2.2)))) (p1,0,p0):Option (Int × List bO)).bind fun v13 =>
 some (v13.1,v13.2))
def lH (p0:List bR) (p1:Int):Option (Int × List bR) :=
 ((cD (S:=Int × Int × List bR) (X:=Int × List bR) (fun s6 =>
 (if s6.2.1<(s6.2.2.length:Int) then
 ((atI s6.2.2 s6.2.1).bind fun v7 =>
 ((atI (List.set s6.2.2 s6.2.1.toNat (⟨s6.1,v7.WheelA,v7.B,v7.WheelB⟩:bR)) s6.2.1).bind fun v8 =>
 ((atI (List.set (List.set s6.2.2 s6.2.1.toNat (⟨s6.1,v7.WheelA,v7.B,v7.WheelB⟩:bR)) s6.2.1.toNat (⟨v8.A,w64 (s6.1+1),v8.B,v8.WheelB⟩:bR)) s6.2.1).bind fun v9 =>
 ((atI (List.set (List.set (List.set s6.2.2 s6.2.1.toNat (⟨s6.1,v7.WheelA,v7.B,v7.WheelB⟩:bR)) s6.2.1.toNat (⟨v8.A,w64 (s6.1+1),v8.B,v8.WheelB⟩:bR)) s6.2.1.toNat (⟨v9.A,v9.WheelA,w64 ((w64 (s6.1+1))+1),v9.WheelB⟩:bR)) s6.2.1).bind fun v10 =>
 some (.inl (w64 ((w64 ((w64 ((w64 (s6.1+1))+1))+1))+1),w64 (s6.2.1+1),List.set (List.set (List.set (List.set s6.2.2 s6.2.1.toNat (⟨s6.1,v7.WheelA,v7.B,v7.WheelB⟩:bR)) s6.2.1.toNat (⟨v8.A,w64 (s6.1+1),v8.B,v8.WheelB⟩:bR)) s6.2.1.toNat (⟨v9.A,v9.WheelA,w64 ((w64 (s6.1+1))+1),v9.WheelB⟩:bR)) s6.2.1.toNat (⟨v10.A,v10.WheelA,v10.B,w64 ((w64 ((w64 (s6.1+1))+1))+1)⟩:bR)))))))
 else
 some (.inr (s6.1,s6.2.2)))) (p1,0,p0):Option (Int × List bR)).bind fun v11 =>
 some (v11.1,v11.2))
def lI (p0:bG) (p1:Int):Option (Int × List bO × List bR) :=
 ((kI p0.Arbors p1).bind fun v1 =>
 (chk (v1.2.length=p0.Arbors.length) (
 ((lH p0.Meshes v1.1).bind fun v3 =>
 (chk (v3.2.length=p0.Meshes.length) (
 some (v3.1,v1.2,v3.2)))))))
def kJ (p0:List bE) (p1:Int):Option (Int × List bE) :=
 ((cD (S:=Int × Int × List bE) (X:=Int × List bE) (fun s6 =>
 (if s6.2.1<(s6.2.2.length:Int) then
 ((gF s6.1).bind fun v7 =>
 ((atI s6.2.2 s6.2.1).bind fun v8 =>
 ((atI (List.set s6.2.2 s6.2.1.toNat (⟨v7,v8.Days,v8.Leap⟩:bE)) s6.2.1).bind fun v9 =>
 ((atI (List.set (List.set s6.2.2 s6.2.1.toNat (⟨v7,v8.Days,v8.Leap⟩:bE)) s6.2.1.toNat (⟨v9.Name,w64 (s6.1+1),v9.Leap⟩:bE)) s6.2.1).bind fun v10 =>
 some (.inl (w64 ((w64 ((w64 (s6.1+1))+1))+1),w64 (s6.2.1+1),List.set (List.set (List.set s6.2.2 s6.2.1.toNat (⟨v7,v8.Days,v8.Leap⟩:bE)) s6.2.1.toNat (⟨v9.Name,w64 (s6.1+1),v9.Leap⟩:bE)) s6.2.1.toNat (⟨v10.Name,v10.Days,w64 ((w64 (s6.1+1))+1)⟩:bE)))))))
 else
 some (.inr (s6.1,s6.2.2)))) (p1,0,p0):Option (Int × List bE)).bind fun v11 =>
 some (v11.1,v11.2))
def gN (p0:List aO) (p1:Int):Option (Int × List aO) :=
 ((cD (S:=Int × Int × List aO) (X:=Int × List aO) (fun s6 =>
 (if s6.2.1<(s6.2.2.length:Int) then
 ((atI s6.2.2 s6.2.1).bind fun v7 =>
 ((atI (List.set s6.2.2 s6.2.1.toNat (⟨s6.1,v7.Rest,v7.Leap⟩:aO)) s6.2.1).bind fun v8 =>
 ((atI (List.set (List.set s6.2.2 s6.2.1.toNat (⟨s6.1,v7.Rest,v7.Leap⟩:aO)) s6.2.1.toNat (⟨v8.Every,w64 (s6.1+1),v8.Leap⟩:aO)) s6.2.1).bind fun v10 =>
 some (.inl (w64 ((w64 ((w64 (s6.1+1))+1))+1),w64 (s6.2.1+1),List.set (List.set (List.set s6.2.2 s6.2.1.toNat (⟨s6.1,v7.Rest,v7.Leap⟩:aO)) s6.2.1.toNat (⟨v8.Every,w64 (s6.1+1),v8.Leap⟩:aO)) s6.2.1.toNat (⟨v10.Every,v10.Rest,decide (((w64 ((w64 (s6.1+1))+1)).tmod 3)=0)⟩:aO))))))
 else
 some (.inr (s6.1,s6.2.2)))) (p1,0,p0):Option (Int × List aO)).bind fun v11 =>
 some (v11.1,v11.2))
def iH (p0:aF) (p1:Int):Option (Int × List bE × List aO) :=
 ((kJ p0.Months p1).bind fun v1 =>
 (chk (v1.2.length=p0.Months.length) (
 ((gN p0.Rules v1.1).bind fun v3 =>
 (chk (v3.2.length=p0.Rules.length) (
 some (v3.1,v1.2,v3.2)))))))
def iJ (p0:aW) (p1:Int):Option (Int × List bO × List bR × List bE × List aO × List Int) :=
 ((lI p0.Works p1).bind fun v1 =>
 (chk (v1.2.1.length=p0.Works.Arbors.length) (
 (chk (v1.2.2.length=p0.Works.Meshes.length) (
 ((iH p0.Calendar v1.1).bind fun v4 =>
 (chk (v4.2.1.length=p0.Calendar.Months.length) (
 (chk (v4.2.2.length=p0.Calendar.Rules.length) (
 ((fZ p0.Cam v4.1).bind fun v7 =>
 (chk (v7.2.length=p0.Cam.length) (
 some (v7.1,v1.2.1,v1.2.2,v4.2.1,v4.2.2,v7.2))))))))))))))
def gO (p0:bX) (p1:Int):Option (Int × List Int) :=
 ((fZ p0.Cam p1).bind fun v1 =>
 (chk (v1.2.length=p0.Cam.length) (
 some (v1.1,v1.2))))
def oG (p0:wN) (p1:Int):Option (Int × List bO × List bR × List bE × List aO × List Int × List Int) :=
 ((iJ p0.Movement p1).bind fun v1 =>
 (chk (v1.2.1.length=p0.Movement.Works.Arbors.length) (
 (chk (v1.2.2.1.length=p0.Movement.Works.Meshes.length) (
 (chk (v1.2.2.2.1.length=p0.Movement.Calendar.Months.length) (
 (chk (v1.2.2.2.2.1.length=p0.Movement.Calendar.Rules.length) (
 (chk (v1.2.2.2.2.2.length=p0.Movement.Cam.length) (
 ((gO p0.Dial v1.1).bind fun v7 =>
 (chk (v7.2.length=p0.Dial.Cam.length) (
 some (v7.1,v1.2.1,v1.2.2.1,v1.2.2.2.1,v1.2.2.2.2.1,v1.2.2.2.2.2,v7.2)))))))))))))))
def mQ (p0:rR) (p1:Int):Option (Int × List bO × List bR × List bE × List aO × List Int × List Int) :=
 ((oG p0.Sim p1).bind fun v1 =>
 (chk (v1.2.1.length=p0.Sim.Movement.Works.Arbors.length) (
 (chk (v1.2.2.1.length=p0.Sim.Movement.Works.Meshes.length) (
 (chk (v1.2.2.2.1.length=p0.Sim.Movement.Calendar.Months.length) (
 (chk (v1.2.2.2.2.1.length=p0.Sim.Movement.Calendar.Rules.length) (
 (chk (v1.2.2.2.2.2.1.length=p0.Sim.Movement.Cam.length) (
 (chk (v1.2.2.2.2.2.2.length=p0.Sim.Dial.Cam.length) (
 some (v1.1,v1.2.1,v1.2.2.1,v1.2.2.2.1,v1.2.2.2.2.1,v1.2.2.2.2.2.1,v1.2.2.2.2.2.2))))))))))))))
def iR (p0:List Int) (p1:Int):Option Int :=
 ((cD (S:=Int × Int) (X:=Int ⊕ Int) (fun s3 =>
 (if s3.2<(p0.length:Int) then
 ((atI p0 s3.2).bind fun v4 =>
 (if v4≠s3.1 then
 some (.inr (.inr (-1)))
 else
 some (.inl (w64 (s3.1+1),w64 (s3.2+1)))))
 else
 some (.inr (.inl s3.1)))) (p1,0):Option (Int ⊕ Int)).bind fun v5x=>orE v5x fun v5 =>
 some v5)
def mO (p0:List bO) (p1:Int):Option Int :=
 ((cD (S:=Int × Int) (X:=Int ⊕ Int) (fun s6 =>
 (if s6.2<(p0.length:Int) then
 ((atI p0 s6.2).bind fun v7 =>
 ((gF s6.1).bind fun v8 =>
 (if v7.Name≠v8 then
 some (.inr (.inr (-1)))
 else
 ((atI p0 s6.2).bind fun v9 =>
 ((iR v9.Wheels (w64 (s6.1+1))).bind fun v10 =>
 (if v10<0 then
 some (.inr (.inr (-1)))
 else
 some (.inl (v10,w64 (s6.2+1)))))))))
 else
 some (.inr (.inl s6.1)))) (p1,0):Option (Int ⊕ Int)).bind fun v11x=>orE v11x fun v11 =>
 some v11)
def oE (p0:List bR) (p1:Int):Option Int :=
 ((cD (S:=Int × Int) (X:=Int ⊕ Int) (fun s6 =>
 (if s6.2<(p0.length:Int) then
 ((atI p0 s6.2).bind fun v7 =>
 (if v7.A≠s6.1 then
 some (.inr (.inr (-1)))
 else
 ((atI p0 s6.2).bind fun v8 =>
 (if v8.WheelA≠(w64 (s6.1+1)) then
 some (.inr (.inr (-1)))
 else
 ((atI p0 s6.2).bind fun v9 =>
 (if v9.B≠(w64 ((w64 (s6.1+1))+1)) then
 some (.inr (.inr (-1)))
 else
 ((atI p0 s6.2).bind fun v10 =>
 (if v10.WheelB≠(w64 ((w64 ((w64 (s6.1+1))+1))+1)) then
 some (.inr (.inr (-1)))
 else
 some (.inl (w64 ((w64 ((w64 ((w64 (s6.1+1))+1))+1))+1),w64 (s6.2+1)))))))))))
 else
 some (.inr (.inl s6.1)))) (p1,0):Option (Int ⊕ Int)).bind fun v11x=>orE v11x fun v11 =>
 some v11)
def oF (p0:bG) (p1:Int):Option Int :=
 ((mO p0.Arbors p1).bind fun v1 =>
 (if v1<0 then
 some (-1)
 else
 ((oE p0.Meshes v1).bind fun v2 =>
 (if v2<0 then
 some (-1)
 else
 some v2))))
def mP (p0:List bE) (p1:Int):Option Int :=
 ((cD (S:=Int × Int) (X:=Int ⊕ Int) (fun s6 =>
 (if s6.2<(p0.length:Int) then
 ((atI p0 s6.2).bind fun v7 =>
 ((gF s6.1).bind fun v8 =>
 (if v7.Name≠v8 then
 some (.inr (.inr (-1)))
 else
 ((atI p0 s6.2).bind fun v9 =>
 (if v9.Days≠(w64 (s6.1+1)) then
 some (.inr (.inr (-1)))
 else
 ((atI p0 s6.2).bind fun v10 =>
 (if v10.Leap≠(w64 ((w64 (s6.1+1))+1)) then
 some (.inr (.inr (-1)))
 else
 some (.inl (w64 ((w64 ((w64 (s6.1+1))+1))+1),w64 (s6.2+1))))))))))
 else
 some (.inr (.inl s6.1)))) (p1,0):Option (Int ⊕ Int)).bind fun v11x=>orE v11x fun v11 =>
 some v11)
def jG (p0:List aO) (p1:Int):Option Int :=
 ((cD (S:=Int × Int) (X:=Int ⊕ Int) (fun s6 =>
 (if s6.2<(p0.length:Int) then
 ((atI p0 s6.2).bind fun v7 =>
 (if v7.Every≠s6.1 then
 some (.inr (.inr (-1)))
 else
 ((atI p0 s6.2).bind fun v8 =>
 (if v8.Rest≠(w64 (s6.1+1)) then
 some (.inr (.inr (-1)))
 else
 ((atI p0 s6.2).bind fun v9 =>
 (if (v9.Leap != (decide (((w64 ((w64 (s6.1+1))+1)).tmod 3)=0)))=true then
 some (.inr (.inr (-1)))
 else
 some (.inl (w64 ((w64 ((w64 (s6.1+1))+1))+1),w64 (s6.2+1)))))))))
 else
 some (.inr (.inl s6.1)))) (p1,0):Option (Int ⊕ Int)).bind fun v11x=>orE v11x fun v11 =>
 some v11)
def kG (p0:aF) (p1:Int):Option Int :=
 ((mP p0.Months p1).bind fun v1 =>
 (if v1<0 then
 some (-1)
 else
 ((jG p0.Rules v1).bind fun v2 =>
 (if v2<0 then
 some (-1)
 else
 some v2))))
def kH (p0:aW) (p1:Int):Option Int :=
 ((oF p0.Works p1).bind fun v1 =>
 (if v1<0 then
 some (-1)
 else
 ((kG p0.Calendar v1).bind fun v2 =>
 (if v2<0 then
 some (-1)
 else
 ((iR p0.Cam v2).bind fun v3 =>
 (if v3<0 then
 some (-1)
 else
 some v3))))))
def jH (p0:bX) (p1:Int):Option Int :=
 ((iR p0.Cam p1).bind fun v1 =>
 (if v1<0 then
 some (-1)
 else
 some v1))
def sH (p0:wN) (p1:Int):Option Int :=
 ((kH p0.Movement p1).bind fun v1 =>
 (if v1<0 then
 some (-1)
 else
 ((jH p0.Dial v1).bind fun v2 =>
 (if v2<0 then
 some (-1)
 else
 some v2))))
def nN (p0:rR) (p1:Int):Option Int :=
 ((sH p0.Sim p1).bind fun v1 =>
 (if v1<0 then
 some (-1)
 else
 some v1))
def kW  : Option Bool :=
 ((sO).bind fun v1 =>
 ((pE).bind fun v2 =>
 ((rO v2 v1).bind fun v3 =>
 (if (!v3)=true then
 some false
 else
 ((mQ v2 1).bind fun v4 =>
 (chk (v4.2.1.length=v2.Sim.Movement.Works.Arbors.length) (
 (chk (v4.2.2.1.length=v2.Sim.Movement.Works.Meshes.length) (
 (chk (v4.2.2.2.1.length=v2.Sim.Movement.Calendar.Months.length) (
 (chk (v4.2.2.2.2.1.length=v2.Sim.Movement.Calendar.Rules.length) (
 (chk (v4.2.2.2.2.2.1.length=v2.Sim.Movement.Cam.length) (
 (chk (v4.2.2.2.2.2.2.length=v2.Sim.Dial.Cam.length) (
 ((nN (⟨(⟨(⟨v2.Sim.Movement.Name,(⟨v4.2.1,v4.2.2.1⟩:bG),v2.Sim.Movement.Minute,v2.Sim.Movement.Hour,v2.Sim.Movement.Escape,v2.Sim.Movement.Teeth,v2.Sim.Movement.Beats,(⟨v2.Sim.Movement.Calendar.Name,v4.2.2.2.1,v4.2.2.2.2.1,v2.Sim.Movement.Calendar.Week⟩:aF),v4.2.2.2.2.2.1,v2.Sim.Movement.Strike⟩:aW),v2.Sim.Start,v2.Sim.First,v2.Sim.Clock,(⟨v4.2.2.2.2.2.2,v2.Sim.Dial.Months,v2.Sim.Dial.Teeth,v2.Sim.Dial.At,v2.Sim.Dial.Day,v2.Sim.Dial.Week,v2.Sim.Dial.Weekday⟩:bX)⟩:wN)⟩:rR) 1).bind fun v11 =>
 (if v11<0 then
 some false
 else
 (if v11≠v4.1 then
 some false
 else
 ((pE).bind fun v12 =>
 ((rO v12 v1).bind fun v13 =>
 (if (!v13)=true then
 some false
 else
 ((nN (⟨(⟨(⟨v2.Sim.Movement.Name,(⟨v4.2.1,v4.2.2.1⟩:bG),v2.Sim.Movement.Minute,v2.Sim.Movement.Hour,v2.Sim.Movement.Escape,v2.Sim.Movement.Teeth,v2.Sim.Movement.Beats,(⟨v2.Sim.Movement.Calendar.Name,v4.2.2.2.1,v4.2.2.2.2.1,v2.Sim.Movement.Calendar.Week⟩:aF),v4.2.2.2.2.2.1,v2.Sim.Movement.Strike⟩:aW),v2.Sim.Start,v2.Sim.First,v2.Sim.Clock,(⟨v4.2.2.2.2.2.2,v2.Sim.Dial.Months,v2.Sim.Dial.Teeth,v2.Sim.Dial.At,v2.Sim.Dial.Day,v2.Sim.Dial.Week,v2.Sim.Dial.Weekday⟩:bX)⟩:wN)⟩:rR) 1).bind fun v14 =>
 (if v14<0 then
 some false
 else
 (if v14≠v4.1 then
 some false
 else
 some true))))))))))))))))))))))))))
end Go.Proofs.YtceknlcbfomdhaaGreatDoor
namespace Go.Proofs.YtceknlcbfomdhaaGreatDoor
open Go.RowKit
set_option linter.unusedVariables false
set_option maxRecDepth 100000
abbrev dI (x:Int):AV := .d (.v (.int .i64 x))
abbrev z0:AV:=dI 0
abbrev dB (x:Bool):AV := .d (.v (.bool x))
abbrev dS (x:ByteArray):AV := .d (.v (.string x))
abbrev dL {α:Type} (c:α→List DV) (x:List α):AV := .d (.sl (List.map c x))
abbrev zl:AV := .d (.v (.slice none 0 0))
abbrev ze:AV := .d (.v (.string (⟨#[]⟩:ByteArray)))
section
variable {P:Program} {T:Tab} {L N:Nat} {ops:Array Oper} {E:Env} {K:List (Nat × Cls)→AS→Prop} {i:Nat} {is:List Nat} {t:Nat→AV} {h h':eB} {d:Tmp} {dst:Option Tmp} {op:Op} {ty:TypeId} {pos:String} {aft:Array Edge} {g:Option (Nat × Bool)} {Q:rQ→AS→Prop} {σ:AS} {c:Code} {x y:Operand}
theorem wa (k:Nat) (et:TypeId) (esz kb j:Nat) {bt:TypeId} {sz:Nat} {cells cells':List AV} (H:AW L P N c Q ⟨t,upd (upd h k (.live [⟨et,esz, .data []⟩])) kb (.live [⟨bt,sz, .av [cells']⟩])⟩) (hk:h k = .no:=by exact rfl) (hb:h kb = .live [⟨bt,sz, .av [cells]⟩]:=by exact rfl) (hj:cells[j]? = some (.d (.v (.slice none 0 0))):=by exact rfl) (hs:Spl j [.own k 0 0] cells cells':=by repeat (first | exact Spl.z _ | apply Spl.t | apply Spl.d)):AW L P N c Q ⟨t,h⟩:=cN (vA k hk et esz hb hj hs) H
theorem fi (N:Nat) (hT:TOk P T) {f:FuncId} {fn:Func} {body:Code} {hin hout:List fT} {as:List AV} {r:AV} (hf:P.funcs[f]? = some fn) (hw:AW 3 P N body (aYq T N fn hin.length hout r) ⟨aS1 as 0,lks hin⟩) (hb:fn.body=some body:=by exact rfl) (hN:fn.ntmps=N:=by exact rfl) (hc:aLj P f=true:=by kernel_rfl) (hl:Nat.ble as.length N=true:=by exact rfl) (hm:Nat.ble hin.length 3=true:=by exact rfl):FnC P f hin as hout r:=aQr hT hf hb hN hc hl hm hw
theorem bst (hT:TOk P T) {bt bt':TypeId} {kk j sz:Nat} {c1:AV} {cells cs cells':List AV} {ti:TI} (k:RA L P N ops is Q ⟨t,upd h kk (.live [⟨bt',sz, .av [cells']⟩])⟩) (ho:ops[i]? = some ⟨none, .store bt x y,ty,pos,aft,none⟩:=by exact rfl) (hx:evA N ⟨t,h⟩ x = .ptr kk 0 1 0 j:=by exact rfl) (hy:wD (evA N ⟨t,h⟩ y)=c1 :: cs:=by exact rfl) (hk1:okL (c1 :: cs)=true:=by exact rfl) (h1:T bt=some ti:=by exact rfl)
  (hl:Nat.beq (c1 :: cs).length ti.size=true:=by exact rfl) (hpos:Nat.blt 0 ti.size=true:=by exact rfl) (hk:h kk = .live [⟨bt',sz, .av [cells]⟩]:=by exact rfl) (hs:Spl j (c1 :: cs) cells cells':=by repeat (first | exact Spl.z _ | apply Spl.t | apply Spl.d)):RA L P N ops (i :: is) Q ⟨t,h⟩:=rw0 ho w0 (jA hT hx hy hk1 h1 hl hpos hk hs) k
theorem bs1 (hT:TOk P T) {bt bt':TypeId} {kk j sz:Nat} {c1:DV} {cells cells':List AV} {ti:TI} (k:RA L P N ops is Q ⟨t,upd h kk (.live [⟨bt',sz, .av [cells']⟩])⟩) (ho:ops[i]? = some ⟨none, .store bt x y,ty,pos,aft,none⟩:=by exact rfl) (hx:evA N ⟨t,h⟩ x = .ptr kk 0 1 0 j:=by exact rfl) (hy:wD (evA N ⟨t,h⟩ y)=[.d c1]:=by exact rfl) (hk1:okL [.d c1]=true:=by exact rfl) (h1:T bt=some ti:=by exact rfl)
  (hl:Nat.beq [AV.d c1].length ti.size=true:=by exact rfl) (hpos:Nat.blt 0 ti.size=true:=by exact rfl) (hk:h kk = .live [⟨bt',sz, .av [cells]⟩]:=by exact rfl) (hs:Spl j [.d c1] cells cells':=by repeat (first | exact Spl.z _ | apply Spl.t | apply Spl.d)):RA L P N ops (i :: is) Q ⟨t,h⟩:=rw0 ho w0 (jA hT hx hy hk1 h1 hl hpos hk hs) k
theorem al (k:Nat) (cs:List AV) (hT:TOk P T) {bt:TypeId} {ti:TI} (H:RA L P N ops is Q ⟨aC t d (.ptr k 0 1 0 0),upd h k (.live [⟨bt,cs.length, .av [cs]⟩])⟩) (ho:ops[i]? = some ⟨some d, .alloc bt,ty,pos,aft,none⟩:=by exact rfl) (hd:Nat.blt d N=true:=by exact rfl) (h1:T bt=some ti:=by exact rfl) (hc:aBy ti.zero.cells.toList=cs:=by exact rfl) (hk:h k = .no:=by exact rfl):RA L P N ops (i :: is) Q ⟨t,h⟩:=rs ho w0 hd (oU k hT h1 hc hk) H
theorem bxx (k:Nat) {bt:TypeId} {c1:AV} {cs:List AV} (H:RA L P N ops is Q ⟨aC t d (.ptr k 0 1 0 0),upd h k (.live [⟨bt,(c1 :: cs).length, .av [c1 :: cs]⟩])⟩) (ho:ops[i]? = some ⟨some d, .box bt x,ty,pos,aft,none⟩:=by exact rfl) (hd:Nat.blt d N=true:=by exact rfl) (hc:wD (evA N ⟨t,h⟩ x)=c1 :: cs:=by exact rfl) (hk1:okL (c1 :: cs)=true:=by exact rfl) (hk:h k = .no:=by exact rfl):RA L P N ops (i :: is) Q ⟨t,h⟩:=rs ho w0 hd (aXw k hc hk1 hk) H
theorem tfa (hT:TOk P T) {s bt:TypeId} {q kk e sz:Nat} {cells:List AV} {ti fj:TI} {fs:Array Field} {fld:Field} (H:RT P N ops is (fun l σ'=>K ((i, .lk kk) :: l) σ') ⟨aC t d (.ptr kk 0 1 0 (e+fld.offset)),h⟩) (ho:ops[i]? = some ⟨some d, .fieldAddr s x q,ty,pos,aft,none⟩:=by exact rfl) (hd:Nat.blt d N=true:=by exact rfl) (hx:evA N ⟨t,h⟩ x = .ptr kk 0 1 0 e:=by exact rfl) (h1:T s=some ti:=by exact rfl) (h2:ti.desc = .struct fs:=by exact rfl) (h3:fs[q]? = some fld:=by exact rfl) (h4:T fld.type=some fj:=by exact rfl) (h5:Nat.beq fj.size 0=false:=by exact rfl) (hk:h kk = .live [⟨bt,sz, .av [cells]⟩]:=by exact rfl):RT P N ops (i :: is) K ⟨t,h⟩:=cZ ho w0 hd (yO hT hx h1 h2 h3 h4 h5 hk) rfl (by rw [hx];rfl) (by simp only [Op.operands,List.all_cons,List.all_nil,hx];simp [AV.key]) H
theorem tld (hT:TOk P T) {lt bt:TypeId} {kk e sz:Nat} {cells:List AV} {c0:AV} {ti:TI} (H:RT P N ops is (fun l σ'=>K ((i, .lk kk) :: l) σ') ⟨aC t d c0,h⟩) (ho:ops[i]? = some ⟨some d, .load lt x,ty,pos,aft,none⟩:=by exact rfl) (hd:Nat.blt d N=true:=by exact rfl) (hx:evA N ⟨t,h⟩ x = .ptr kk 0 1 0 e:=by exact rfl) (h1:T lt=some ti:=by exact rfl) (h2:tZ ti.desc=false:=by exact rfl) (hk:h kk = .live [⟨bt,sz, .av [cells]⟩]:=by exact rfl) (hc:cells[e]? = some c0:=by exact rfl):RT P N ops (i :: is) K ⟨t,h⟩:=cZ ho w0 hd (rG hT hx h1 h2 hk hc) rfl (by rw [hx];rfl) (by simp only [Op.operands,List.all_cons,List.all_nil,hx];simp [AV.key]) H
theorem r0t {fn:Func} (i:Nat) {as:List AV} {r:AV} (hrs:fn.results.toList=[.tmp i])
  (R:rB T N ⟨t,h⟩ [.tmp i] as:=by repeat (first | exact rB.nil | apply rB.tmp (a := .d _) rfl | apply rB.tmp (a := .own _ _ _) rfl | apply rB.tmp (a := .agg _) rfl | apply rB.tmp (a := .ref _) rfl | apply rB.tmp (a := .fn _ _) rfl | apply rB.tmp (a := .ptr _ _ _ _ _) rfl | apply rB.cell1 rfl rfl rfl rfl (by first | rfl) (by first | rfl) rfl | apply rB.cellN rfl rfl rfl rfl (by first | rfl) (by first | rfl) (by repeat (first | exact Seg.z _ | apply Seg.t | apply Seg.d))))
  (hB:Abv h 300:=by repeat (first | exact oZ _ | exact oY rfl | refine pA ?_ rfl)) (e:aUa as=r:=by rfl) (hf:r.free=true:=by rfl):aFd T N fn 0 [] r ⟨t,h⟩:=aZy 300 hrs R hB hf e
theorem rP {r:AV} (ho:(ops[i]?,Nat.blt d N)=(some ⟨some d,op,ty,pos,aft,none⟩,true)) (hp:eV P N ⟨some d,op,ty,pos,aft,none⟩ ⟨t,h⟩ r) (k:RA L P N ops is Q ⟨aC t d r,h⟩):RA L P N ops (i :: is) Q ⟨t,h⟩:=rp (Prod.mk.inj ho).1 w0 (Prod.mk.inj ho).2 hp k
theorem rL {r:AV} (ho:(ops[i]?,Nat.blt d N)=(some ⟨some d,op,ty,pos,aft,none⟩,true)) (hp:jO P N ⟨some d,op,ty,pos,aft,none⟩ ⟨t,h⟩ r) (k:RA L P N ops is Q ⟨aC t d r,h⟩):RA L P N ops (i :: is) Q ⟨t,h⟩:=rl (Prod.mk.inj ho).1 w0 (Prod.mk.inj ho).2 hp k
theorem rS {r:AV} (ho:(ops[i]?,Nat.blt d N)=(some ⟨some d,op,ty,pos,aft,none⟩,true)) (hp:dK P N ⟨some d,op,ty,pos,aft,none⟩ ⟨t,h⟩ r h' ∧ ∀ k,h k ≠ .no→h' k=h k) (k:RA L P N ops is Q ⟨aC t d r,h'⟩):RA L P N ops (i :: is) Q ⟨t,h⟩:=rs (Prod.mk.inj ho).1 w0 (Prod.mk.inj ho).2 hp k
theorem tP {r:AV} (ho:(ops[i]?,Nat.blt d N)=(some ⟨some d,op,ty,pos,aft,none⟩,true)) (hp:eV P N ⟨some d,op,ty,pos,aft,none⟩ ⟨t,h⟩ r) (k:RT P N ops is (fun l σ'=>K ((i, .pu) :: l) σ') ⟨aC t d r,h⟩):RT P N ops (i :: is) K ⟨t,h⟩:=rF (Prod.mk.inj ho).1 w0 (Prod.mk.inj ho).2 hp k
end
end Go.Proofs.YtceknlcbfomdhaaGreatDoor
namespace Go.Proofs.YtceknlcbfomdhaaGreatDoor
open Go.RowKit
set_option linter.unusedVariables false
set_option maxRecDepth 100000
theorem aRk {α:Type} {c:α→List DV} {xs:List α} {w:World} {F:Nat→Prop} {μ:cT} {h:eB} {v:Value} (r:fC w F μ h v (aMd c xs)):fC w F μ h v (.d (.sl (List.map c xs))):=by
 cases xs with
 | nil=>exact aN3 r
 | cons x xs=>exact r
section
variable {P:Program} {T:Tab} {L N:Nat} {t:Nat→AV} {h:eB} {d:Tmp} {dst:Option Tmp} {ty:TypeId} {pos:String} {aft:Array Edge} {g:Option (Nat × Bool)} {x y:Operand}
theorem aNh {d:Nat} {a:AV} (k : ∀ w F μ v,fC w F μ h v (t d)→fC w F μ h v a):mG L N ⟨t,h⟩ ⟨aC t d a,h⟩:=by
 rintro E a' w ⟨F, μ,A⟩
 refine ⟨F, μ,A.H,A.df,A.sz,fun d' hd' => ?_,A.lim⟩
 by_cases e:d'=d
 ·subst e
  have h1:=A.tm d' hd'
  dsimp only at h1 ⊢
  rw [gC]
  exact k _ _ _ _ h1
 ·dsimp only;rw [lM _ _ e]
  exact A.tm d' hd'
theorem aSr {α:Type} (c:α→List DV) {d:Nat} {xs:List α} (hd:t d=aMd c xs):mG L N ⟨t,h⟩ ⟨aC t d (.d (.sl (List.map c xs))),h⟩:=aNh fun w F μ v r=>by rw [hd] at r;exact aRk r
theorem aWp {α:Type} (c:α→List DV) {d:Nat} {xs:List α} (hd:t d = .d (.sl (List.map c xs))) (hx:xs≠[]):mG L N ⟨t,h⟩ ⟨aC t d (aMd c xs),h⟩:=aNh fun w F μ v r=>by
 rw [hd] at r
 cases xs with
 | nil=>exact absurd rfl hx
 | cons x xs=>exact r
theorem aWo {α:Type} (c:α→List DV) {d:Nat} (hd:t d = .d (.v (.slice none 0 0))):mG L N ⟨t,h⟩ ⟨aC t d (aMd c []),h⟩:=aNh fun w F μ v r=>by rw [hd] at r;exact r
theorem aMp {α:Type} {c:α→List DV} {xs:List α} [DecidableEq α] (hT:TOk P T) {xt e:TypeId} {ti:TI} {yt:TypeId} (hx:evA N ⟨t,h⟩ x=aMd c xs) (h1:T xt=some ti) (h2:ti.desc = .slice e) (hy:evA N ⟨t,h⟩ y = .d (.v (.slice none 0 0))) :
  eV P N ⟨some d, .binOp .eql xt x y yt,ty,pos,aft,g⟩ ⟨t,h⟩ (.d (.v (.bool (decide (xs=[]))))):=by
 cases xs with
 | nil=>exact lU hT hx h1 h2 hy
 | cons a xs =>
  have:=sK (P:=P) (d:=d) (ty:=ty) (pos:=pos) (aft:=aft) (g:=g) (yt:=yt) hT (xt:=xt) (es:=List.map c (a :: xs)) hx (by simp) h1 h2 hy
  simpa using this
end
end Go.Proofs.YtceknlcbfomdhaaGreatDoor
namespace Go.Proofs.YtceknlcbfomdhaaGreatDoor
open Go.RowKit
set_option linter.unusedVariables false
set_option maxRecDepth 100000
theorem aOc {P:Program} {T K E:TypeId} (hu:P.underlying T=some (.map K E)) (hK:P.underlying K=some (.int .i64)) {w:World} (hz:(zeroValue E).run P w = .ok (.slice none 0 0) w) {b clock:Nat} {es:Array MapEntry} (hb:w.heap[b]? = some (.map es clock)) {k:Int} {v:Value} (h:aX4 es k v) :
  (Instr.lookup T (.map (some b)) (.int .i64 k) false).run P w = .ok v w:=by
 have hc : ∀ e,(Instr.checkKey e 10000 K (.int .i64 k)).run P w = .ok () w:=fun e=>MapKept.run_checkKey hK (by simp [MapKept.IsKey]) e 9999
 rcases h with ⟨i,h⟩ | ⟨h,rfl⟩
 ·have h2:=MapKept.run_findKey (w:=w) (kt:=K) hK h
  simp [Instr.lookup,run_underlying hu,MapKept.run_getObj_map hb,hc,h2,Result.andThen]
 ·have h2:=MapKept.run_findKey (w:=w) (kt:=K) hK h
  simp [Instr.lookup,run_underlying hu,MapKept.run_getObj_map hb,hc,h2,hz,Result.andThen]
section
variable {P:Program} {T:Tab} {L N:Nat} {ops:Array Oper} {E:Env} {K:List (Nat × Cls)→AS→Prop} {i:Nat} {is:List Nat} {t:Nat→AV} {h h':eB} {d:Tmp} {dst:Option Tmp} {op:Op} {ty:TypeId} {pos:String} {aft:Array Edge} {g:Option (Nat × Bool)} {Q:rQ→AS→Prop} {σ:AS} {c:Code} {x y:Operand}
theorem aV9 {mt kt et:TypeId} {f:Int→List (List Int)} {k:Int} {ti ki:TI} (hT:TOk P T) (h1:T mt=some ti) (h2:ti.desc = .map kt et) (h3:T kt=some ki) (h4:ki.desc = .int .i64) (hz : ∀ w:World,(zeroValue et).run P w = .ok (.slice none 0 0) w)
  (hx:evA N ⟨t,h⟩ x = .d (.mp f)) (hy:evA N ⟨t,h⟩ y = .d (.v (.int .i64 k))) (hk : -9223372036854775808≤k∧k≤9223372036854775807):eV P N ⟨some d, .lookup mt x y false,ty,pos,aft,g⟩ ⟨t,h⟩ (.d (.sl (aXo (f k)))):=fun w F μ hh ρ st=>by
 have hr:=st x (by simp [Op.operands])
 have e2:=lV (by have:=st y (by simp [Op.operands]);rw [hy] at this;exact this)
 rw [hx] at hr
 have hu:=(hT _ _ h1).1
 rw [h2] at hu
 have hu2:=(hT _ _ h3).1
 rw [h4] at hu2
 generalize hv:ρ x=v at hr
 cases hr with | d _ _ hd =>
 cases hd with | mp b clock es f gg hF hb hkk hr =>
 exact ⟨gg k,by simp [execOp,hv,e2,aOc hu hu2 (hz w) hb (hkk k hk.1 hk.2),Result.andThen], .d _ _ (hr k hk.1 hk.2)⟩
theorem aRq {mt kt et:TypeId} {f:Int→List (List Int)} {k:Int} {ti ki ei:TI} (hT:TOk P T) (h1:T mt=some ti) (h2:ti.desc = .map kt et) (h3:T kt=some ki) (h4:ki.desc = .int .i64) (h5:T et=some ei) (h6:ei.zero = .slice none 0 0)
  (hx:evA N ⟨t,h⟩ x = .d (.mp f)) (hy:evA N ⟨t,h⟩ y = .d (.v (.int .i64 k))) (hk : -9223372036854775808≤k∧k≤9223372036854775807):eV P N ⟨some d, .lookup mt x y false,ty,pos,aft,g⟩ ⟨t,h⟩ (.d (.sl (List.map (cL cI) (f k)))) :=
 aV9 hT h1 h2 h3 h4 (fun w=>by rw [← h6];exact aOd hT h5 w) hx hy hk
end
end Go.Proofs.YtceknlcbfomdhaaGreatDoor
namespace Go.Proofs.YtceknlcbfomdhaaGreatDoor
open Go.RowKit Go.Maps Go.ChangeMaps Go.MapKept Go.WideElems
set_option linter.unusedVariables false
set_option maxRecDepth 100000
def InK (k:Int):Prop := -9223372036854775808≤k∧k≤9223372036854775807
def rvV (v:Value):Option (DataW Value × List MemPlace):=some (.held v,[])
theorem aUt {k:Int} (h:InK k):(Lit.int .i64 k).wf=true:=WalkArith.wf_i64 (by unfold InK at h;omega)
section
variable {P:Program} {T K E:TypeId} {w:World} {b n:Nat} {val:Int→Value}
def AtV (P:Program) (K:TypeId) (w:World) (b n:Nat) (val:Int→Value):Prop := ∃ D:DataW Value,w.ownsMap P K rvV b n D ∧ ∀ k,InK k→D.atKey (.int .i64 k) (.held (.slice none 0 0)) = .held (val k)
theorem AtV.lt (h:AtV P K w b n val):b<w.heap.size:=let ⟨_,h,_⟩:=h;h.lt
theorem aS4 (w:World):AtV P K (w.alloc (.map #[] 0)) w.heap.size 0 (fun _ => .slice none 0 0):=⟨_,World.ownsMap_made w P K rvV,fun k _=>rfl⟩
theorem AtV.same (h:AtV P K w b n val) {w':World} (hg:w'.heap[b]? = w.heap[b]?):AtV P K w' b n val:=by
 obtain ⟨D,⟨es,clock,h1,h2⟩,h3⟩:=h
 exact ⟨D,⟨es,clock,hg.trans h1,h2⟩,h3⟩
theorem AtV.look (h:AtV P K w b n val) (ht:P.underlying T=some (.map K E)) (hK:P.underlying K=some (.int .i64)) (hz:(zeroValue E).run P w = .ok (.slice none 0 0) w) {k:Int} (hk:InK k):(Instr.lookup T (.map (some b)) (.int .i64 k) false).run P w = .ok (val k) w:=by
 obtain ⟨D,h,h2⟩:=h
 obtain ⟨v,ps,hr,hv⟩:=h.lookup (int_keyed hK) ht hz (zd := .held (.slice none 0 0)) (zp:=[]) rfl (keyOf_int_mk hK (aUt hk))
 rw [h2 k hk] at hv
 simp only [rvV,Option.some.injEq,Prod.mk.injEq,DataW.held.injEq] at hv
 rw [hr,hv.1]
theorem AtV.put (h:AtV P K w b n val) (ht:P.underlying T=some (.map K E)) (hK:P.underlying K=some (.int .i64)) (hn:n<maxLen) {k:Int} (hk:InK k) (v:Value) :
  ∃ w',(Instr.mapUpdate T (.map (some b)) (.int .i64 k) v).run P w = .ok () w'∧AtV P K w' b (n+1) (fun k'=>if k'=k then v else val k')∧w.grownBy w' (some b):=by
 obtain ⟨D,h,h2⟩:=h
 obtain ⟨w',hr,ho,hg⟩:=h.update (int_keyed hK) ht hn (keyOf_int_mk hK (aUt hk)) (val:=v) (d := .held v) (ps:=[]) rfl
 have hm:IsMap D:=let ⟨_,_,_,_,_,e⟩:=h; ⟨_,e⟩
 refine ⟨w',hr,⟨_,ho,fun k' hk' => ?_⟩,hg⟩
 dsimp only
 by_cases e:k'=k
 ·subst e
  rw [if_pos rfl,atKey_put_same (k := .int .i64 k') hm (show WideAt.IsKeyLit (.int .i64 k') from trivial)]
 ·rw [if_neg e,atKey_put_other (fun q=>e (by simpa using q)),h2 k' hk']
theorem AtV.key (h:AtV P K w b n val) (ht:P.underlying T=some (.map K E)) (hK:P.underlying K=some (.int .i64)) (hz:(zeroValue E).run P w = .ok (.slice none 0 0) w) : ∃ clock es,w.heap[b]? = some (.map es clock) ∧ ∀ k,InK k→aX4 es k (val k):=by
 have h0:=h
 obtain ⟨D,⟨es,clock,hb,F,_,_⟩,_⟩:=h
 refine ⟨clock,es,hb,fun k hk => ?_⟩
 have hrun:=h0.look ht hK hz hk
 have hks : ∀ y ∈ es.toList,IsKey (.int .i64) y.key:=fun y hy=>by
  obtain ⟨z,hy⟩:=F.reads y hy
  have hkk:=rd_key hy
  simp only [keyOf,hK,mapKey] at hkk
  cases hyk:y.key <;> rw [hyk] at hkk <;> simp at hkk
  exact hkk.1.1
 have : ∃ v,aX4 es k v:=by
  rcases findNow_spec (d := .int .i64) (k := .int .i64 k) (by simp [IsKey]) es.toList 0 hks with ⟨h1,_⟩ | ⟨j,e0,h1,_⟩
  ·exact ⟨_, .inr ⟨h1,rfl⟩⟩
  ·exact ⟨_, .inl ⟨_,h1⟩⟩
 obtain ⟨v,hv⟩:=this
 have h1:=aOc ht hK hz hb hv
 rw [hrun] at h1
 cases h1
 exact hv
end
end Go.Proofs.YtceknlcbfomdhaaGreatDoor
namespace Go.Proofs.YtceknlcbfomdhaaGreatDoor
open Go.RowKit
set_option linter.unusedVariables false
set_option maxRecDepth 100000
section
variable {w w' wr w2 w3 w4:World} {base b:Nat} {e e':TypeId} {s s' n n':Nat} {v vc v1 v8 v2 x:Value} {xs xs' vals:List Value} {l r:List Int} {rows:List (List Int)} {tI tS:TypeId}
theorem fW (h:w.ownsRow base e s v n xs) (hb : ∀ g,v.ownBlock=some g→w'.heap[g]? = w.heap[g]?):w'.ownsRow base e s v n xs:=by
 refine ⟨h.1,?_⟩
 rcases h.2 with q | ⟨g,cap,cur,rfl,q1,q2,q3⟩
 ·exact .inl q
 ·exact .inr ⟨g,cap,cur,rfl,q1,(hb g rfl).trans q2,q3⟩
theorem nO (h:w.ownsRow base e s v n xs) (hb:b≤base):w.ownsRow b e s v n xs:=by
 refine ⟨h.1,?_⟩
 rcases h.2 with q | ⟨g,cap,cur,rfl,q1,q2⟩
 ·exact .inl q
 ·exact .inr ⟨g,cap,cur,rfl,Nat.le_trans hb q1,q2⟩
def aX6 (tI:TypeId) (w:World) (base:Nat) (v:Value) (l:List Int):Prop:=w.ownsRow base tI 1 v l.length (l.map (Value.int .i64))
def aA8 (tI tS:TypeId) (w:World) (base:Nat) (v:Value) (rows:List (List Int)) (vals:List Value):Prop:=w.ownsRow base tS 1 v rows.length vals ∧ ∀ (i:Nat) x r,vals[i]? = some x→rows[i]? = some r→aX6 tI w base x r∧(x.ownBlock=none∨x.ownBlock≠v.ownBlock)∧(r=[]→x = .slice none 0 0)
def zT (tI tS:TypeId) (w:World) (base:Nat) (v:Value) (rows:List (List Int)):Prop := ∃ vals,aA8 tI tS w base v rows vals
theorem zT.nil:zT tI tS w base (.slice none 0 0) []:=⟨[],World.ownsRow_nil _ _ _ _,fun i x r h=>by simp at h⟩
theorem aA8.of (h:aA8 tI tS w base v rows vals) (hb : ∀ g,g<w.heap.size→base≤g→w'.heap[g]? = w.heap[g]?):aA8 tI tS w' base v rows vals:=by
 refine ⟨fW h.1 fun g hg=>hb g (h.1.lt g hg).2 (h.1.lt g hg).1,fun i x r h1 h2 => ?_⟩
 obtain ⟨q1,q2⟩:=h.2 i x r h1 h2
 exact ⟨fW q1 fun g hg=>hb g (q1.lt g hg).2 (q1.lt g hg).1,q2⟩
theorem zT.of (h:zT tI tS w base v rows) (hb : ∀ g,g<w.heap.size→base≤g→w'.heap[g]? = w.heap[g]?):zT tI tS w' base v rows:=let ⟨vals,h⟩:=h; ⟨vals,h.of hb⟩
theorem zT.below (h:zT tI tS w base v rows) (hb:Below w.heap.size w w'):zT tI tS w' base v rows:=h.of fun g h1 _=>hb.block g h1
theorem zT.base_ (h:zT tI tS w base v rows) (hb:b≤base):zT tI tS w b v rows:=by
 obtain ⟨vals,h1,h2⟩:=h
 refine ⟨vals,nO h1 hb,fun i x r q1 q2=>⟨nO (h2 i x r q1 q2).1 hb,(h2 i x r q1 q2).2⟩⟩
theorem aA8.len (h:aA8 tI tS w base v rows vals):vals.length=rows.length:=by have:=h.1.1;omega
theorem aZv {o:Obj} (hb2:Below wr.heap.size wr w2) (hvc:w2.ownsRow wr.heap.size e' s' vc n' xs') (hg:(w2.alloc o).grownBy w3 vc.ownBlock) {g:Nat} (hlt:g<wr.heap.size):w3.heap[g]? = wr.heap[g]? := by
 have h2:=hb2.size
 rw [hg.block g (by simp;omega) fun e=>by have:=(hvc.lt g e.symm).1;omega]
 rw [Below.heap_alloc w2 o g (by omega)]
 exact hb2.block g hlt
theorem aZw {o:Obj} {B:Nat} (h:wr.ownsRow base e s v n xs) (hb2:Below wr.heap.size wr w2) (hvc:w2.ownsRow wr.heap.size e' s' vc n' xs') (hg:(w2.alloc o).grownBy w3 vc.ownBlock):w3.ownsRow base e s v n xs:=fW h fun g hg'=>aZv hb2 hvc hg (h.lt g hg').2
theorem aXl {o o':Obj} {t:Int} {wj:World} (hj:base=wj.heap.size) (hnx:Below base wj wr) (hbase:base≤wr.heap.size) (hv:aA8 tI tS wr base v8 rows vals)
  (hb2:Below wr.heap.size wr w2) (hvc:w2.ownsRow wr.heap.size tI 1 vc l.length (l.map (Value.int .i64))) (hg1:(w2.alloc o).grownBy w3 vc.ownBlock) (ho1:w3.ownsRow wr.heap.size tI 1 v1 (l.length+1) (l.map (Value.int .i64)++[.int .i64 t]))
  (hg2:(w3.alloc o').grownBy w4 v8.ownBlock) (ho2:w4.ownsRow base tS 1 v2 (rows.length+1) (vals++[v1])) (hloc:v2.ownBlock=v8.ownBlock∨v2.ownBlock=some (w3.alloc o').heap.size) :
  zT tI tS w4 base v2 (rows++[l++[t]])∧Below base wj w4∧base≤w4.heap.size:=by
 have z2:=hb2.size
 have z3:=hg1.size
 have z4:=hg2.size
 have za : ∀ (w:World) (o:Obj),(w.alloc o).heap.size=w.heap.size+1:=fun w o=>by simp
 rw [za] at z3 z4
 have old : ∀ g,g<wr.heap.size→v8.ownBlock≠some g→w4.heap[g]? = wr.heap[g]? := fun g hlt hne=>by
  rw [hg2.block g (by simp;omega) fun e=>hne e.symm,Below.heap_alloc w3 o' g (by omega)]
  exact aZv hb2 hvc hg1 hlt
 have new1 : ∀ g,v1.ownBlock=some g→w4.heap[g]? = w3.heap[g]? := fun g hg=>by
  have:=ho1.lt g hg
  rw [hg2.block g (by simp;omega) fun e=>by have:=(hv.1.lt g e.symm).2;omega,Below.heap_alloc w3 o' g (by omega)]
 refine ⟨⟨vals++[v1],by simpa using ho2,fun i x r h1 h2 => ?_⟩,⟨?_,?_,?_,?_,?_⟩,by omega⟩
 ·have hl:=hv.len
  by_cases hi:i<rows.length
  ·rw [List.getElem?_append_left (by omega)] at h1
   rw [List.getElem?_append_left hi] at h2
   obtain ⟨q1,q2,q3⟩:=hv.2 i x r h1 h2
   refine ⟨fW q1 fun g hg=>old g (q1.lt g hg).2 fun e => ?_,?_,q3⟩
   ·rcases q2 with q2 | q2
    ·rw [q2] at hg;cases hg
    ·exact q2 (hg.trans e.symm)
   ·rcases hloc with hloc | hloc
    ·rw [hloc];exact q2
    ·cases hx:x.ownBlock with
     | none=>exact .inl rfl
     | some g =>
      right
      rw [hloc]
      intro e
      have:=(q1.lt g hx).2
      cases e
      simp at this;omega
  ·rw [List.getElem?_append_right (by omega)] at h1
   rw [List.getElem?_append_right (by omega)] at h2
   have hi0:i=rows.length:=by
    have:=(List.getElem?_eq_some_iff.1 h2).1
    simp at this;omega
   subst hi0
   simp [hl] at h1 h2
   subst h1 h2
   have q1:aX6 tI w3 base v1 (l++[t]):=by
    unfold aX6
    have:=nO ho1 hbase
    simpa using this
   refine ⟨fW q1 new1,?_,fun e=>by simp at e⟩
   cases hx:v1.ownBlock with
   | none=>exact .inl rfl
   | some g =>
    right
    have h3:=ho1.lt g hx
    rcases hloc with hloc | hloc
    ·rw [hloc]
     intro e
     have:=(hv.1.lt g e.symm).2
     omega
    ·rw [hloc]
     intro e
     cases e
     have:=h3.2
     rw [za] at this
     omega
 ·rw [hg2.os,show (w3.alloc o').os=w3.os from rfl,hg1.os,show (w2.alloc o).os=w2.os from rfl,hb2.os];exact hnx.os
 ·rw [hg2.tape,show (w3.alloc o').tape=w3.tape from rfl,hg1.tape,show (w2.alloc o).tape=w2.tape from rfl,hb2.tape];exact hnx.tape
 ·rw [hg2.output,show (w3.alloc o').output=w3.output from rfl,hg1.output,show (w2.alloc o).output=w2.output from rfl,hb2.output];exact hnx.output
 ·have:=hnx.size;omega
 ·intro g hg
  rw [old g (by omega) fun e=>by have:=(hv.1.lt g e).1;omega]
  exact hnx.block g hg
end
end Go.Proofs.YtceknlcbfomdhaaGreatDoor
namespace Go.Proofs.YtceknlcbfomdhaaGreatDoor
open Go.RowKit
set_option linter.unusedVariables false
set_option maxRecDepth 100000
def pW (ls:List (List Int)) (vals:List Value) (p:Int):List Value:=((ls.zip vals).filter fun q=>decide (dF q.1=p)).map (·.2)
theorem aGr (ls:List (List Int)) (l:List Int):gZ (ls++[l])=if dF l ∈ gZ ls then gZ ls else gZ ls++[dF l]:=by
 unfold gZ
 rw [List.foldl_append];rfl
theorem aPw {ls:List (List Int)} {vals:List Value} (h:ls.length=vals.length) (l:List Int) (x:Value) (p:Int):pW (ls++[l]) (vals++[x]) p=pW ls vals p++if dF l=p then [x] else []:=by
 unfold pW
 rw [List.zip_append h,List.filter_append,List.map_append]
 by_cases e:dF l=p <;> simp [e]
theorem aR9 {p:Int} : ∀ (ls:List (List Int)) (acc:List Int),p ∈ ls.foldl (fun acc l=>if dF l ∈ acc then acc else acc++[dF l]) acc ↔ p ∈ acc ∨ ∃ l ∈ ls,dF l=p
 | [],acc=>by simp
 | l :: ls,acc=>by
  rw [List.foldl_cons,aR9 ls]
  split
  ·rename_i hm
   constructor
   ·rintro (h | ⟨l',h1,h2⟩)
    ·exact .inl h
    ·exact .inr ⟨l',List.mem_cons_of_mem _ h1,h2⟩
   ·rintro (h | ⟨l',h1,h2⟩)
    ·exact .inl h
    ·rcases List.mem_cons.1 h1 with rfl | h1
     ·exact .inl (h2 ▸ hm)
     ·exact .inr ⟨l',h1,h2⟩
  ·constructor
   ·rintro (h | ⟨l',h1,h2⟩)
    ·rcases List.mem_append.1 h with h | h
     ·exact .inl h
     ·exact .inr ⟨l,List.mem_cons_self ..,(List.mem_singleton.1 h).symm⟩
    ·exact .inr ⟨l',List.mem_cons_of_mem _ h1,h2⟩
   ·rintro (h | ⟨l',h1,h2⟩)
    ·exact .inl (List.mem_append_left _ h)
    ·rcases List.mem_cons.1 h1 with rfl | h1
     ·exact .inl (by rw [h2];simp)
     ·exact .inr ⟨l',h1,h2⟩
theorem aK2 {p:Int} {ls:List (List Int)}:p ∈ gZ ls ↔ ∃ l ∈ ls,dF l=p:=by
 unfold gZ
 rw [aR9]
 simp
theorem aLb {p:Int} {ls:List (List Int)} {vals:List Value} (h:ls.length=vals.length):pW ls vals p=[] ↔ p ∉ gZ ls:=by
 rw [aK2]
 unfold pW
 rw [List.map_eq_nil_iff,List.filter_eq_nil_iff]
 constructor
 ·rintro h2 ⟨l,hl,hp⟩
  obtain ⟨i,hi,rfl⟩:=List.getElem_of_mem hl
  have:=h2 (ls[i],vals[i]) (by
   rw [List.mem_iff_getElem]
   exact ⟨i,by simp;omega,by simp⟩)
  simp [hp] at this
 ·rintro h2 ⟨l,x⟩ hq
  have:=(List.of_mem_zip hq).1
  simp only [decide_eq_true_eq]
  exact fun e=>h2 ⟨l,this,e⟩
section
variable {P:Program} {K tI tS T:TypeId} {ls:List (List Int)} {vals:List Value} {wB wr w5 w7 w8:World} {B kp k n:Nat} {vP vP' v' x:Value} {val:Int→Value} {p:Int} {l:List Int}
structure aI0 (P:Program) (K tI tS T:TypeId) (ls:List (List Int)) (vals:List Value) (wB:World) (B kp k:Nat) (vP:Value) (val:Int→Value) (wr:World):Prop where
 bel:Below B wB wr
 sz:B+2≤wr.heap.size
 cel:wr.heap[B+1]? = some (.cells #[vP, .map (some B)] T (0,0))
 prd:wr.ownsRow (B+2) tI 1 vP (gZ (ls.take kp)).length ((gZ (ls.take kp)).map (Value.int .i64))
 map:AtV P K wr B k val
 row : ∀ p,wr.ownsRow (B+2) tS 1 (val p) (pW (ls.take k) (vals.take k) p).length (pW (ls.take k) (vals.take k) p)
 nil : ∀ p,pW (ls.take k) (vals.take k) p=[]→val p = .slice none 0 0
 sep : ∀ p q,p≠q→(val p).ownBlock=none∨(val p).ownBlock≠(val q).ownBlock
 sepP : ∀ p,(val p).ownBlock=none∨(val p).ownBlock≠vP.ownBlock
theorem aI0.c0 (h:aI0 P K tI tS T ls vals wB B kp k vP val wr):wr.cell? ⟨B+1,0,none⟩=some vP:=by simp [World.cell?,h.cel]
theorem aI0.c1 (h:aI0 P K tI tS T ls vals wB B kp k vP val wr):wr.cell? ⟨B+1,1,none⟩=some (.map (some B)):=by simp [World.cell?,h.cel]
theorem aI0.f0 (h:aI0 P K tI tS T ls vals wB B kp k vP val wr):wr.frozen? ⟨B+1,0,none⟩=false:=by simp [World.frozen?,h.cel]
theorem aI0.seen (h:aI0 P K tI tS T ls vals wB B k k vP val wr) (hk:k<ls.length) (hl:ls[k]? = some l) (hs:dF l ∈ gZ (ls.take k)):aI0 P K tI tS T ls vals wB B (k+1) k vP val wr:=by
 have he:ls[k]=l:=by rw [List.getElem?_eq_getElem hk] at hl;exact Option.some.inj hl
 have e:gZ (ls.take (k+1))=gZ (ls.take k):=by rw [List.take_succ_eq_append_getElem hk,he,aGr,if_pos hs]
 exact ⟨h.bel,h.sz,h.cel,by rw [e];exact h.prd,h.map,h.row,h.nil,h.sep,h.sepP⟩
theorem aI0.fresh {o:Obj} (h:aI0 P K tI tS T ls vals wB B k k vP val wr) (hk:k<ls.length) (hl:ls[k]? = some l) (hs:dF l ∉ gZ (ls.take k)) (ho:w5.ownsRow (B+2) tI 1 vP' ((gZ (ls.take k)).length+1) ((gZ (ls.take k)).map (Value.int .i64)++[.int .i64 (dF l)]))
  (hg:(wr.alloc o).grownBy w5 vP.ownBlock) (hloc:vP'.ownBlock=vP.ownBlock∨vP'.ownBlock=some (wr.alloc o).heap.size) (hw:w8.heap=w5.heap.setIfInBounds (B+1) (.cells #[vP', .map (some B)] T (0,0))) (hos:w8.os=w5.os) (htape:w8.tape=w5.tape) (hout:w8.output=w5.output) :
  aI0 P K tI tS T ls vals wB B (k+1) k vP' val w8:=by
 have he:ls[k]=l:=by rw [List.getElem?_eq_getElem hk] at hl;exact Option.some.inj hl
 have e:gZ (ls.take (k+1))=gZ (ls.take k)++[dF l]:=by rw [List.take_succ_eq_append_getElem hk,he,aGr,if_neg hs]
 have za:(wr.alloc o).heap.size=wr.heap.size+1:=by simp
 have z5:=hg.size
 rw [za] at z5
 have hsz:=h.sz
 have old : ∀ g,g<wr.heap.size→g≠B+1→vP.ownBlock≠some g→w8.heap[g]? = wr.heap[g]? := fun g h1 h2 h3=>by
  rw [hw,Array.getElem?_setIfInBounds_ne (by omega),hg.block g (by omega) fun e=>h3 e.symm,Below.heap_alloc wr o g h1]
 have oldP : ∀ g,vP.ownBlock=some g→B+2≤g∧g<wr.heap.size:=fun g hg=>h.prd.lt g hg
 refine ⟨⟨?_,?_,?_,?_,fun g hgB => ?_⟩,?_,?_,?_,?_,fun p => ?_,h.nil,h.sep,fun p => ?_⟩
 ·rw [hos,hg.os];exact h.bel.os
 ·rw [htape,hg.tape];exact h.bel.tape
 ·rw [hout,hg.output];exact h.bel.output
 ·rw [hw,Array.size_setIfInBounds];have:=h.bel.size;omega
 ·rw [old g (by omega) (by omega) fun e=>by have:=(oldP g e).1;omega];exact h.bel.block g hgB
 ·rw [hw,Array.size_setIfInBounds];omega
 ·rw [hw,Array.getElem?_setIfInBounds_self_of_lt (by omega)]
 ·rw [e]
  have:w8.ownsRow (B+2) tI 1 vP' ((gZ (ls.take k)).length+1) ((gZ (ls.take k)).map (Value.int .i64)++[.int .i64 (dF l)]):=fW ho fun g hg'=>by
   have:=(ho.lt g hg').1
   rw [hw,Array.getElem?_setIfInBounds_ne (by omega)]
  simpa using this
 ·exact h.map.same (old B h.map.lt (by omega) fun e=>by have:=(oldP B e).1;omega)
 ·refine fW (h.row p) fun g hg' => ?_
  have h1:=(h.row p).lt g hg'
  exact old g h1.2 (by omega) fun e=>by
   rcases h.sepP p with q | q
   ·rw [q] at hg';cases hg'
   ·exact q (hg'.trans e.symm)
 ·rcases hloc with q | q
  ·rw [q];exact h.sepP p
  ·cases hv:(val p).ownBlock with
   | none=>exact .inl rfl
   | some g =>
    right
    rw [q]
    intro e
    have:=((h.row p).lt g hv).2
    cases e
    rw [za] at this
    omega
theorem aI0.join {o:Obj} (h:aI0 P K tI tS T ls vals wB B kp k vP val wr) (hk:k<ls.length) (hl:ls[k]? = some l) (hx:vals[k]? = some x) (hlen:ls.length=vals.length) (ho:w7.ownsRow (B+2) tS 1 v' ((pW (ls.take k) (vals.take k) (dF l)).length+1) (pW (ls.take k) (vals.take k) (dF l)++[x]))
  (hg:(wr.alloc o).grownBy w7 (val (dF l)).ownBlock) (hloc:v'.ownBlock=(val (dF l)).ownBlock∨v'.ownBlock=some (wr.alloc o).heap.size) (hm:AtV P K w8 B (k+1) (fun q=>if q=dF l then v' else val q)) (hg8:w7.grownBy w8 (some B)) :
  aI0 P K tI tS T ls vals wB B kp (k+1) vP (fun q=>if q=dF l then v' else val q) w8:=by
 have hkv:k<vals.length:=by omega
 have he:ls[k]=l:=by rw [List.getElem?_eq_getElem hk] at hl;exact Option.some.inj hl
 have hxe:vals[k]=x:=by rw [List.getElem?_eq_getElem hkv] at hx;exact Option.some.inj hx
 have ev : ∀ p,pW (ls.take (k+1)) (vals.take (k+1)) p=pW (ls.take k) (vals.take k) p++if dF l=p then [x] else []:=fun p=>by
  rw [List.take_succ_eq_append_getElem hk,List.take_succ_eq_append_getElem hkv,he,hxe,aPw (by simp;omega)]
 have za:(wr.alloc o).heap.size=wr.heap.size+1:=by simp
 have z7:=hg.size
 have z8:=hg8.size
 rw [za] at z7
 have hsz:=h.sz
 have hrl:=fun g hg=>(h.row (dF l)).lt g hg
 have old : ∀ g,g<wr.heap.size→g≠B→(val (dF l)).ownBlock≠some g→w8.heap[g]? = wr.heap[g]? := fun g h1 h2 h3=>by
  rw [hg8.block g (by omega) (by simpa using h2),hg.block g (by omega) fun e=>h3 e.symm,Below.heap_alloc wr o g h1]
 have hv':w8.ownsRow (B+2) tS 1 v' ((pW (ls.take k) (vals.take k) (dF l)).length+1) (pW (ls.take k) (vals.take k) (dF l)++[x]):=fW ho fun g hg'=>by
  have:=ho.lt g hg'
  exact hg8.block g this.2 (by simp;omega)
 have hne : ∀ q,q≠dF l→(val q).ownBlock=none∨(val q).ownBlock≠v'.ownBlock:=fun q hq=>by
  rcases hloc with e | e
  ·rw [e];exact h.sep q _ hq
  ·cases hv:(val q).ownBlock with
   | none=>exact .inl rfl
   | some g =>
    right
    rw [e]
    intro e
    have:=((h.row q).lt g hv).2
    cases e
    rw [za] at this
    omega
 refine ⟨⟨?_,?_,?_,?_,fun g hgB => ?_⟩,?_,?_,?_,hm,fun p => ?_,fun p hp => ?_,fun p q hpq => ?_,fun p => ?_⟩
 ·rw [hg8.os,hg.os];exact h.bel.os
 ·rw [hg8.tape,hg.tape];exact h.bel.tape
 ·rw [hg8.output,hg.output];exact h.bel.output
 ·have:=h.bel.size;omega
 ·rw [old g (by omega) (by omega) fun e=>by have:=(hrl g e).1;omega];exact h.bel.block g hgB
 ·omega
 ·rw [old (B+1) (by omega) (by omega) fun e=>by have:=(hrl _ e).1;omega];exact h.cel
 ·refine fW h.prd fun g hg' => ?_
  have h1:=h.prd.lt g hg'
  exact old g h1.2 (by omega) fun e=>by
   rcases h.sepP (dF l) with q | q
   ·rw [q] at e;cases e
   ·exact q (e.trans hg'.symm)
 ·try dsimp only
  rw [ev p]
  by_cases e:p=dF l
  ·subst e
   rw [if_pos rfl,if_pos rfl]
   simpa using hv'
  ·rw [if_neg e,if_neg fun q=>e q.symm,List.append_nil]
   refine fW (h.row p) fun g hg' => ?_
   have h1:=(h.row p).lt g hg'
   exact old g h1.2 (by omega) fun e2=>by
    rcases h.sep p (dF l) e with q | q
    ·rw [q] at hg';cases hg'
    ·exact q (hg'.trans e2.symm)
 ·try dsimp only
  rw [ev p] at hp
  by_cases e:p=dF l
  ·subst e;simp at hp
  ·rw [if_neg e]
   exact h.nil p (by simpa [fun q=>e (Eq.symm q)] using (List.append_eq_nil_iff.1 hp).1)
 ·try dsimp only
  by_cases e1:p=dF l
  ·rw [if_pos e1,if_neg fun q2=>hpq (e1.trans q2.symm)]
   have hq:q≠dF l:=fun q2=>hpq (e1.trans q2.symm)
   rcases hne q hq with h1 | h1
   ·cases hv:v'.ownBlock with
    | none=>exact .inl rfl
    | some g=>right;rw [h1];simp
   ·exact .inr fun e=>h1 e.symm
  ·rw [if_neg e1]
   by_cases e2:q=dF l
   ·rw [if_pos e2];exact hne p e1
   ·rw [if_neg e2];exact h.sep p q hpq
 ·try dsimp only
  by_cases e1:p=dF l
  ·rw [if_pos e1]
   rcases hloc with q | q
   ·rw [q];exact h.sepP _
   ·right
    rw [q]
    intro e
    have:=(h.prd.lt _ e.symm).2
    rw [za] at this
    omega
  ·rw [if_neg e1];exact h.sepP p
end
end Go.Proofs.YtceknlcbfomdhaaGreatDoor
namespace Go.Proofs.YtceknlcbfomdhaaGreatDoor
set_option linter.unusedVariables false
theorem jQ {α:Type} {xs:List α} {i:Int} (h0:0≤i) (h1:i<xs.length) : ∃ e,atI xs i=some e∧e ∈ xs∧xs[i.toNat]? = some e:=by
 have hl:i.toNat<xs.length:=by omega
 refine ⟨xs[i.toNat],?_,List.getElem_mem hl,List.getElem?_eq_getElem hl⟩
 unfold atI;rw [if_pos h0];exact List.getElem?_eq_getElem hl
theorem aG2 {α:Type} {xs:List α} {i:Int} {x:α} (h0:0≤i) (h1:i<xs.length):atI (List.set xs i.toNat x) i=some x:=by
 unfold atI;rw [if_pos h0];exact List.getElem?_set_self (by omega)
theorem rH {α:Type} {k:Option α}:chk True k=k:=if_pos trivial
theorem aSp {i:Int} {n:Nat} (h0:0≤i) (h1:i<n) (hn:n≤9223372036854775807):w64 (i+1)=i+1:=bD (by omega) (by omega)
theorem aC8 {α:Type} {f:α→α→Option Bool} {xs:List α} (hl:xs.length≤9223372036854775807) (h : ∀ v ∈ xs,f v v=some true) :
  cD (S:=Int) (X:=Unit ⊕ Bool) (fun s=>(if s<(xs.length:Int) then ((atI xs s).bind fun v=>((atI xs s).bind fun u=>((f v u).bind fun b=>(if (!b)=true then some (.inr (.inr false)) else some (.inl (w64 (s+1))))))) else some (.inr (.inl ())))) 0=some (.inl ()):=by
 refine tG (fun (s:Int)=>0≤s∧s≤xs.length) (fun (s:Int)=>((xs.length:Int)-s).toNat) (fun s hI => ?_) (by omega) (by omega)
 by_cases hs:s<xs.length
 ·obtain ⟨e,he,hm,_⟩:=jQ hI.1 hs
  left
  refine ⟨s+1,?_,by omega,by omega⟩
  simp [hs,he,h e hm,aSp hI.1 hs hl]
 ·right;simp [hs]
theorem aQn {α:Type} [DecidableEq α] {xs:List α} (hl:xs.length≤9223372036854775807) :
  cD (S:=Int) (X:=Unit ⊕ Bool) (fun s=>(if s<(xs.length:Int) then ((atI xs s).bind fun v=>((atI xs s).bind fun u=>(if v≠u then some (.inr (.inr false)) else some (.inl (w64 (s+1)))))) else some (.inr (.inl ())))) 0=some (.inl ()):=by
 refine tG (fun (s:Int)=>0≤s∧s≤xs.length) (fun (s:Int)=>((xs.length:Int)-s).toNat) (fun s hI => ?_) (by omega) (by omega)
 by_cases hs:s<xs.length
 ·obtain ⟨e,he,hm,_⟩:=jQ hI.1 hs
  left
  refine ⟨s+1,?_,by omega,by omega⟩
  simp [hs,he,aSp hI.1 hs hl]
 ·right;simp [hs]
theorem aDe {α:Type} {c:Int} {B:Int} {M:Int→α} {step:Int × Int × List α→Option ((Int × Int × List α) ⊕ (Int × List α))} (hc:0≤c)
  (hM : ∀ k i ys,0≤k→k≤B→0≤i→i<ys.length→ys.length≤1048576→step (k,i,ys)=some (.inl (k+c,i+1,List.set ys i.toNat (M k)))) (hE : ∀ k i ys, ¬ i<ys.length→step (k,i,ys)=some (.inr (k,ys)))
  {xs:List α} {k0:Int} (h0:0≤k0) (hl:xs.length≤1048576) (hB:k0+c*xs.length≤B):cD step (k0,0,xs)=some (k0+c*xs.length,(List.range xs.length).map fun (j:Nat)=>M (k0+c*(j:Int))):=by
 refine tG (fun (s:Int × Int × List α)=>0≤s.2.1∧s.2.1≤xs.length∧s.1=k0+c*s.2.1∧s.2.2=((List.range s.2.1.toNat).map fun (j:Nat)=>M (k0+c*(j:Int)))++xs.drop s.2.1.toNat) (fun (s:Int × Int × List α)=>((xs.length:Int)-s.2.1).toNat) (fun s hI => ?_) (by simp) (by simp;omega)
 obtain ⟨k,i,ys⟩:=s
 obtain ⟨q0,q1,q2,q3⟩:=hI
 dsimp only at q0 q1 q2 q3 ⊢
 have hyl:ys.length=xs.length:=by rw [q3];simp;omega
 by_cases hs:i<xs.length
 ·left
  have hci:0≤c*i:=Int.mul_nonneg hc q0
  have hcl:c*i≤c*xs.length:=Int.mul_le_mul_of_nonneg_left (by omega) hc
  refine ⟨_,hM k i ys (by omega) (by omega) q0 (by omega) (by omega),⟨by dsimp only;omega,by dsimp only;omega,?_,?_⟩,by dsimp only;omega⟩
  ·dsimp only
   rw [q2,Int.mul_add];omega
  ·have e1:(i+1).toNat=i.toNat+1:=by omega
   dsimp only
   rw [e1,q3,List.set_append_right _ _ (by simp),List.range_succ,List.map_append,List.length_map,List.length_range,Nat.sub_self,List.drop_eq_getElem_cons (show i.toNat<xs.length by omega),List.set_cons_zero]
   have e2:((i.toNat:Nat):Int)=i:=by omega
   simp [q2,e2]
 ·right
  have hi:i=xs.length:=by omega
  rw [hE k i ys (by omega),q3,q2,hi]
  simp
theorem aDa {α:Type} {c:Int} {B:Int} {M:Int→α} {n:Nat} {step:Int × Int→Option ((Int × Int) ⊕ (Int ⊕ Int))} (hc:0≤c)
  {k0:Int} (hM : ∀ k i:Int,0≤k→k≤B→0≤i→i<n→k=k0+c*i→step (k,i)=some (.inl (k+c,i+1))) (hE : ∀ k i, ¬ i<(n:Int)→step (k,i)=some (.inr (.inl k)))
  (h0:0≤k0) (hl:n≤1048576) (hB:k0+c*n≤B):cD step (k0,0)=some (.inl (k0+c*n)):=by
 refine tG (fun (s:Int × Int)=>0≤s.2∧s.2≤n∧s.1=k0+c*s.2) (fun (s:Int × Int)=>((n:Int)-s.2).toNat) (fun s hI => ?_) (by simp) (by simp;omega)
 obtain ⟨k,i⟩:=s
 obtain ⟨q0,q1,q2⟩:=hI
 dsimp only at q0 q1 q2 ⊢
 by_cases hs:i<n
 ·left
  have hci:0≤c*i:=Int.mul_nonneg hc q0
  have hcl:c*i≤c*n:=Int.mul_le_mul_of_nonneg_left (by omega) hc
  refine ⟨_,hM k i (by omega) (by omega) q0 hs q2,⟨by dsimp only;omega,by dsimp only;omega,by dsimp only;rw [q2,Int.mul_add];omega⟩,by dsimp only;omega⟩
 ·right
  have hi:i=n:=by omega
  rw [hE k i (by omega),q2,hi]
theorem yB {α:Type} {M:Int→α} {k0 c:Int} {n:Nat} {i:Int} (h0:0≤i) (h1:i<n):atI ((List.range n).map fun (j:Nat)=>M (k0+c*(j:Int))) i=some (M (k0+c*i)):=by
 unfold atI
 rw [if_pos h0,List.getElem?_map,List.getElem?_range (by omega)]
 have:((i.toNat:Nat):Int)=i:=by omega
 simp [this]
theorem aQq {X:Type} {n:Nat} {g:Nat→Bool} {d:X} {e:Nat→X} {step:Int→Option (Int ⊕ X)} (hS : ∀ i:Nat,i<n→step (i:Int)=some (if g i=true then .inl ((i:Int)+1) else .inr (e i))) (hE:step (n:Int)=some (.inr d)) (hn:n≤9223372036854775807) :
  ∃ x,cD step 0=some x∧(((∀ j,j<n→g j=true)∧x=d) ∨ ∃ i,i<n∧g i=false∧(∀ j,j<i→g j=true)∧x=e i):=by
 refine xY (fun (s:Int)=>0≤s∧s≤n ∧ ∀ j:Nat,(j:Int)<s→g j=true) (fun (s:Int)=>((n:Int)-s).toNat) _ (fun s hI => ?_) 0 ⟨by omega,by omega,fun j hj=>by omega⟩ (by omega)
 obtain ⟨q0,q1,q2⟩:=hI
 obtain ⟨i,rfl⟩ : ∃ i:Nat,s=i:=⟨s.toNat,by omega⟩
 by_cases hs:i<n
 ·cases hg:g i
  ·right
   exact ⟨e i,by rw [hS i hs,hg];rfl, .inr ⟨i,hs,hg,fun j hj=>q2 j (by omega),rfl⟩⟩
  ·left
   refine ⟨(i:Int)+1,by rw [hS i hs,hg];rfl,⟨by omega,by omega,fun j hj => ?_⟩,by omega⟩
   rcases Nat.lt_or_ge j i with h | h
   ·exact q2 j (by omega)
   ·have:j=i:=by omega
    rw [this];exact hg
 ·right
  have:i=n:=by omega
  subst this
  exact ⟨d,hE, .inl ⟨fun j hj=>q2 j (by omega),rfl⟩⟩
theorem aM9 {X:Type} {n:Nat} {g:Nat→Bool} {d e:X} {step:Int→Option (Int ⊕ X)} (hS : ∀ i:Nat,i<n→step (i:Int)=some (if g i=true then .inl ((i:Int)+1) else .inr e)) (hE:step (n:Int)=some (.inr d)) (hn:n≤9223372036854775807) :
  cD step 0=some (if (List.range n).all g=true then d else e):=by
 obtain ⟨x,hx,⟨h,rfl⟩ | ⟨i,hi,hg,_,rfl⟩⟩:=aQq (e:=fun _=>e) hS hE hn
 ·rw [hx,if_pos (by simpa using h)]
 ·rw [hx,if_neg (by simp only [List.all_eq_true,List.mem_range];intro h;rw [h i hi] at hg;cases hg)]
theorem dT {α:Type} {xs:List α} {i:Nat} (h:i<xs.length):atI xs (i:Int)=some xs[i]:=by rw [aBb];exact List.getElem?_eq_getElem h
theorem aDr {α:Type} {xs:List α} {f:α→Bool} {g:Nat→Bool} (h : ∀ (i:Nat) (hi:i<xs.length),g i=f xs[i]):(List.range xs.length).all g=xs.all f:=by
 rw [Bool.eq_iff_iff,List.all_eq_true,List.all_eq_true]
 constructor
 ·intro q v hv
  obtain ⟨i,hi,rfl⟩:=List.getElem_of_mem hv
  rw [← h i hi];exact q i (List.mem_range.2 hi)
 ·intro q i hi
  have hi:=List.mem_range.1 hi
  rw [h i hi];exact q _ (List.getElem_mem hi)
theorem aUe {α X:Type} {xs:List α} {f:α→Bool} {d e:X} {step:Int→Option (Int ⊕ X)} (hS : ∀ (i:Nat) (hi:i<xs.length),step (i:Int)=some (if f xs[i]=true then .inl ((i:Int)+1) else .inr e)) (hE:step (xs.length:Int)=some (.inr d)) (hn:xs.length≤9223372036854775807) :
  cD step 0=some (if xs.all f=true then d else e):=by
 rw [aM9 (n:=xs.length) (d:=d) (e:=e) (g:=fun i=>if hi:i<xs.length then f xs[i] else true) (fun i hi=>by rw [hS i hi];simp [hi]) hE hn,aDr (f:=f) fun i hi=>by simp [hi]]
theorem wQ {α β:Type} {xs:List α} {f:α→List β} {c:Nat} {init:List β} {step:Int × List β→Option ((Int × List β) ⊕ List β)} (hc : ∀ v ∈ xs,(f v).length≤c) (hS : ∀ (i:Nat) (hi:i<xs.length) ys,ys.length≤init.length+c*i→step ((i:Int),ys)=some (.inl ((i:Int)+1,ys++f xs[i]))) (hE : ∀ ys,step ((xs.length:Int),ys)=some (.inr ys)) (hn:xs.length≤9223372036854775807) :
  cD step (0,init)=some (init++xs.flatMap f):=by
 refine tG (fun (s:Int × List β)=>0≤s.1∧s.1≤xs.length∧s.2=init++(xs.take s.1.toNat).flatMap f∧s.2.length≤init.length+c*s.1.toNat) (fun (s:Int × List β)=>((xs.length:Int)-s.1).toNat) (fun s hI => ?_) (by simp) (by simp;omega)
 obtain ⟨i,ys⟩:=s
 obtain ⟨q0,q1,q2,q3⟩:=hI
 dsimp only at q0 q1 q2 q3 ⊢
 obtain ⟨j,rfl⟩ : ∃ j:Nat,i=j:=⟨i.toNat,by omega⟩
 have e2:((j:Int)).toNat=j:=by omega
 rw [e2] at q2 q3
 by_cases hs:j<xs.length
 ·left
  have e:((j:Int)+1).toNat=j+1:=by omega
  refine ⟨_,hS j hs ys q3,⟨by dsimp only;omega,by dsimp only;omega,?_,?_⟩,by dsimp only;omega⟩
  ·dsimp only
   rw [e,q2,List.take_succ_eq_append_getElem hs,List.flatMap_append, ← List.append_assoc];simp
  ·dsimp only
   rw [e,List.length_append,Nat.mul_add]
   have:=hc xs[j] (List.getElem_mem hs)
   omega
 ·right
  have:j=xs.length:=by omega
  subst this
  rw [hE ys,q2,List.take_length]
end Go.Proofs.YtceknlcbfomdhaaGreatDoor
namespace Go.Proofs.YtceknlcbfomdhaaGreatDoor
set_option linter.unusedVariables false
def btw (x a b:Int):Bool:=decide (a≤x∧x≤b)
theorem fM (x a b:Int):dJ x a b=some (btw x a b):=by unfold dJ btw;split <;> simp_all <;> omega
theorem eO (x a b:Int):dO x a b=some (btw x a b):=by unfold dO btw;split <;> simp_all <;> omega
def aYl (n d:Int):Int:=(2*n+d) / (2*d)
structure aZ0 (r k n:Int):Prop where
 p0:0≤2*k*(n-2*k)
 p1:2*k*(n-2*k)≤64000000
 r0:0≤r*16*(2*k*(n-2*k))
 r1:r*16*(2*k*(n-2*k))≤102400000000000
 n0:1≤5*n*n-4*(2*k*(n-2*k))
 n1:5*n*n≤1280000000
end Go.Proofs.YtceknlcbfomdhaaGreatDoor
namespace Go.Proofs.YtceknlcbfomdhaaGreatDoor
set_option linter.unusedVariables false
def smB (c:Int):Bool:=decide (97≤c∧c≤122)
def dgB (c:Int):Bool:=decide (48≤c∧c≤57)
def okB (c:Int):Bool:=smB c || (dgB c || decide (c=45))
theorem aE5 (s:ByteArray) (i:Int):aIu s i=atI (eG s) i:=by
 unfold aIu atI eG
 split
 ·rename_i h
  rw [List.getElem?_map]
  congr 1
  rw [Array.getElem?_toList]
  by_cases hi:i.toNat<s.size
  ·rw [getElem?_pos s i.toNat hi,getElem?_pos s.data i.toNat hi];rfl
  ·rw [getElem?_neg s i.toNat hi,getElem?_neg s.data i.toNat hi]
 ·rfl
def oH (s:ByteArray):Bool:=decide (1≤s.size∧s.size≤12) && ((eG s).take 1).all smB && (eG s).all okB
theorem aAw (c:Int):nQ c=some (smB c):=by unfold nQ smB;split <;> simp_all <;> omega
theorem aIf (c:Int):qO c=some (dgB c):=by unfold qO dgB;split <;> simp_all <;> omega
theorem aZz {s:ByteArray}:s=⟨#[]⟩ ↔ s.size=0:=by
 constructor
 ·rintro rfl;rfl
 ·intro h
  cases s with | mk d =>
  have:d = #[]:=Array.eq_empty_of_size_eq_zero h
  rw [this]
theorem sN (s:ByteArray):lX s=some (oH s):=by
 have hl:=aBd s
 unfold lX oH
 by_cases h0:s=⟨#[]⟩
 ·have:=aZz.1 h0
  simp [h0]
  intro h;exact absurd h (by decide)
 ·have h1:s.size≠0:=fun h=>h0 (aZz.2 h)
  rw [if_neg h0]
  by_cases h2:12<(s.size:Int)
  ·rw [if_pos h2]
   simp
   intro a b;omega
  ·rw [if_neg h2]
   obtain ⟨c,cs,hc⟩ : ∃ c cs,eG s=c :: cs:=by
    cases hb:eG s with
    | nil=>rw [hb] at hl;simp at hl;omega
    | cons c cs=>exact ⟨c,cs,rfl⟩
   have e0:aIu s 0=some c:=by rw [aE5,hc];rfl
   rw [e0]
   simp only [Option.bind_some,aAw]
   have ht:((eG s).take 1).all smB=smB c:=by rw [hc];simp
   have hd:decide (1≤s.size∧s.size≤12)=true:=decide_eq_true ⟨by omega,by omega⟩
   rw [ht,hd]
   cases hs:smB c
   ·simp
   ·simp only [Bool.not_true,Bool.false_eq_true,if_false,Bool.true_and]
    have hz:(s.size:Int)=((eG s).length:Int):=by rw [hl]
    rw [hz,aUe (xs:=eG s) (f:=okB) (d := .inl ()) (e := .inr false) (fun i hi => ?_) (by simp) (by omega)]
    ·cases (eG s).all okB <;> simp [orE]
    ·have hi':(i:Int)<((eG s).length:Int):=by omega
     have e1:w64 ((i:Int)+1)=i+1:=bD (by omega) (by omega)
     rw [if_pos hi',aE5,dT hi]
     simp only [Option.bind_some,aAw,aIf,e1,okB]
     generalize (eG s)[i]=c
     rcases Bool.eq_false_or_eq_true (smB c) with g1 | g1 <;> rcases Bool.eq_false_or_eq_true (dgB c) with g2 | g2 <;> by_cases h45:c=45 <;> simp [g1,g2,h45]
theorem vI (s:ByteArray):lO s=some (oH s):=by
 have hl:=aBd s
 unfold lO oH
 by_cases h1:(s.size:Int)<1
 ·rw [if_pos h1];simp
  intro a b;omega
 ·rw [if_neg h1]
  by_cases h2:12<(s.size:Int)
  ·simp [h2]
   intro a b;omega
  ·have hd:decide (1≤s.size∧s.size≤12)=true:=decide_eq_true ⟨by omega,by omega⟩
   simp only [h2,decide_false,Option.bind_some,Bool.false_eq_true,if_false,hd,Bool.true_and]
   rw [fY (by omega),aM9 (n:=(eG s).length) (d := .inl ()) (e := .inr false) (g:=fun i=>smB ((eG s).getD i 0) || (decide (i≠0) && (dgB ((eG s).getD i 0) || decide ((eG s).getD i 0=45)))) (fun i hi => ?_) (by simp) (by omega)]
   ·obtain ⟨c,cs,hc⟩ : ∃ c cs,eG s=c :: cs:=by
     cases hb:eG s with
     | nil=>rw [hb] at hl;simp at hl;omega
     | cons c cs=>exact ⟨c,cs,rfl⟩
    have key:(List.range (eG s).length).all (fun i=>smB ((eG s).getD i 0) || (decide (i≠0) && (dgB ((eG s).getD i 0) || decide ((eG s).getD i 0=45))))=(((eG s).take 1).all smB && (eG s).all okB):=by
     rw [hc]
     simp only [List.length_cons,List.range_succ_eq_map,List.all_cons,List.all_map,List.take_succ_cons,List.take_zero,List.all_nil,Bool.and_true]
     have:(List.range cs.length).all ((fun i=>smB ((c :: cs).getD i 0) || (decide (i≠0) && (dgB ((c :: cs).getD i 0) || decide ((c :: cs).getD i 0=45)))) ∘ Nat.succ)=cs.all okB:=aDr (f:=okB) fun i hi=>by simp [okB,hi]
     rw [this]
     simp [okB]
     cases smB c <;> simp
    rw [key]
    cases ((eG s).take 1).all smB && (eG s).all okB <;> simp [orE]
   ·have hi':(i:Int)<((eG s).length:Int):=by omega
    have e1:w64 ((i:Int)+1)=i+1:=bD (by omega) (by omega)
    have e2:(eG s).getD i 0=(eG s)[i]:=by simp [hi]
    rw [if_pos hi',dT hi,e2]
    simp only [Option.bind_some,e1]
    generalize (eG s)[i]=c
    have A:(if 97≤c then some (decide (c≤122)) else some false)=some (smB c):=by unfold smB;split <;> simp_all <;> omega
    have B:(if 48≤c then (if c≤57 then some true else some (decide (c=45))) else some (decide (c=45)))=some (dgB c || decide (c=45)):=by
     unfold dgB
     split
     ·split <;> simp_all <;> omega
     ·simp_all;omega
    rw [A,B]
    simp only [Option.bind_some]
    have hz:((i:Int)=0) ↔ i=0:=by omega
    cases smB c <;> cases (dgB c || decide (c=45)) <;> by_cases h0:i=0 <;> simp [h0]
end Go.Proofs.YtceknlcbfomdhaaGreatDoor
namespace Go.Proofs.YtceknlcbfomdhaaGreatDoor
set_option linter.unusedVariables false
def aLg {α:Type} (xs:List α) (f:Nat→α→Bool):Bool:=(List.range xs.length).all fun i=>if hi:i<xs.length then f i xs[i] else true
theorem aC0 {α:Type} {xs:List α} {f:Nat→α→Bool}:aLg xs f=true ↔ ∀ (i:Nat) (hi:i<xs.length),f i xs[i]=true:=by
 unfold aLg
 rw [List.all_eq_true]
 constructor
 ·intro h i hi
  have:=h i (List.mem_range.2 hi)
  rwa [dif_pos hi] at this
 ·intro h i hi
  have hi:=List.mem_range.1 hi
  rw [dif_pos hi]
  exact h i hi
theorem nW {α:Type} {xs:List α} {f:α→Bool}:aLg xs (fun _ v=>f v)=xs.all f:=aDr fun i hi=>by simp [hi]
theorem xO {α X:Type} {xs:List α} {G:Int→Option (Int ⊕ X)} (f:Nat→α→Bool) {d e:X} (hl:xs.length≤9223372036854775807) (hG : ∀ (i:Nat) (hi:i<xs.length),G i=some (if f i xs[i]=true then .inl (w64 ((i:Int)+1)) else .inr e)) :
  cD (fun s=>(if s<(xs.length:Int) then G s else some (.inr d))) 0=some (if aLg xs f=true then d else e):=by
 refine aM9 (n:=xs.length) (g:=fun i=>if hi:i<xs.length then f i xs[i] else true) (fun i hi => ?_) (by simp) hl
 have hi':(i:Int)<xs.length:=by omega
 have e1:w64 ((i:Int)+1)=i+1:=bD (by omega) (by omega)
 simp only [if_pos hi',hG i hi,hi,dite_true,e1]
theorem aXs {α X:Type} {xs:List α} {G:Int→Option (Int ⊕ X)} (k:Nat) (f:Nat→α→Bool) {d e:X} (hk:k≤xs.length) (hl:xs.length≤9223372036854775807) (hG : ∀ (i:Nat) (hi:i<xs.length),i<k→G i=some (if f i xs[i]=true then .inl (w64 ((i:Int)+1)) else .inr e)) :
  cD (fun s=>(if s<(k:Int) then G s else some (.inr d))) 0=some (if aLg (xs.take k) f=true then d else e):=by
 have hlen:(xs.take k).length=k:=by rw [List.length_take];omega
 have:=xO (xs:=xs.take k) (G:=G) f (d:=d) (e:=e) (by omega) (fun i hi=>by
  rw [List.getElem_take];exact hG i (by omega) (by omega))
 rwa [hlen] at this
def aMl {α:Type} (xs:List α) (p:α→Bool):Int:=match xs.findIdx? p with
 | some i=>i
 | none => -1
theorem aTh {α:Type} {xs:List α} {G:Int→Option (Int ⊕ (Unit ⊕ Int))} (p:α→Bool) (hl:xs.length≤9223372036854775807) (hG : ∀ (i:Nat) (hi:i<xs.length),G i=(if p xs[i]=true then some (.inr (.inr (i:Int))) else some (.inl (w64 ((i:Int)+1))))) :
  ((cD (fun s=>(if s<(xs.length:Int) then G s else some (.inr (.inl ())))) 0:Option (Unit ⊕ Int)).bind fun x=>orE x fun v=>some (-1))=some (aMl xs p):=by
 obtain ⟨x,hx,h⟩:=aQq (X:=Unit ⊕ Int) (n:=xs.length) (step:=fun s=>(if s<(xs.length:Int) then G s else some (.inr (.inl ())))) (g:=fun i=>if hi:i<xs.length then !p xs[i] else true) (d := .inl ()) (e:=fun i => .inr (i:Int)) (fun i hi=>by
  have hi':(i:Int)<xs.length:=by omega
  have e1:w64 ((i:Int)+1)=i+1:=bD (by omega) (by omega)
  simp only [if_pos hi',hG i hi,hi,dite_true,e1]
  cases p xs[i] <;> rfl) (by simp) hl
 rw [hx]
 unfold aMl
 rcases h with ⟨h,rfl⟩ | ⟨i,hi,hg,hj,rfl⟩
 ·have:xs.findIdx? p=none:=by
   rw [List.findIdx?_eq_none_iff]
   intro v hv
   obtain ⟨i,hi,rfl⟩:=List.getElem_of_mem hv
   have:=h i hi
   simpa [hi] using this
  rw [this];rfl
 ·have:xs.findIdx? p=some i:=by
   rw [List.findIdx?_eq_some_iff_getElem]
   refine ⟨hi,by simpa [hi] using hg,fun j hji => ?_⟩
   have:=hj j hji
   have hjl:j<xs.length:=by omega
   simpa [hjl] using this
  rw [this];rfl
theorem aH8 {α:Type} {xs:List α} {p:α→Bool}:decide (0≤aMl xs p)=xs.any p:=by
 unfold aMl
 cases h:xs.findIdx? p with
 | none =>
  rw [List.findIdx?_eq_none_iff] at h
  have e:xs.any p=false:=by
   rw [← Bool.not_eq_true,List.any_eq_true]
   rintro ⟨v,hv,hp⟩
   rw [h v hv] at hp;cases hp
  rw [e];rfl
 | some i =>
  rw [List.findIdx?_eq_some_iff_getElem] at h
  obtain ⟨hi,hp,_⟩:=h
  rw [List.any_eq_true.2 ⟨_,List.getElem_mem hi,hp⟩]
  exact decide_eq_true (by show (0:Int)≤(i:Int);omega)
theorem aPa {α:Type} {xs:List α} {p:α→Bool} {i:Nat} (hi:i<xs.length) (hp:p xs[i]=true):decide (aMl xs p≠(i:Int))=(xs.take i).any p:=by
 unfold aMl
 cases h:xs.findIdx? p with
 | none =>
  rw [List.findIdx?_eq_none_iff] at h
  rw [h _ (List.getElem_mem hi)] at hp;cases hp
 | some j =>
  rw [List.findIdx?_eq_some_iff_getElem] at h
  obtain ⟨hj,hpj,hmin⟩:=h
  by_cases e:j=i
  ·subst e
   have e2:(xs.take j).any p=false:=by
    rw [← Bool.not_eq_true,List.any_eq_true]
    rintro ⟨v,hv,hq⟩
    obtain ⟨k,hk,rfl⟩:=List.getElem_of_mem hv
    rw [List.length_take] at hk
    rw [List.getElem_take] at hq
    exact hmin k (by omega) hq
   rw [e2]
   exact decide_eq_false (by simp)
  ·have hlt:j<i:=by
    rcases Nat.lt_trichotomy j i with h | h | h
    ·exact h
    ·exact absurd h e
    ·exact absurd hp (hmin i h)
   have e2:(xs.take i).any p=true:=List.any_eq_true.2 ⟨xs[j],by
    rw [List.mem_iff_getElem]
    exact ⟨j,by rw [List.length_take];omega,by rw [List.getElem_take]⟩,hpj⟩
   rw [e2]
   exact decide_eq_true (by show (j:Int)≠(i:Int);omega)
theorem aSg {α:Type} {xs:List α} {i:Nat}:zS xs 0 (i:Int)=xs.take i:=by simp [zS]
theorem aNf {α:Type} {xs:List α} {i:Nat} (h:i≤xs.length):0≤(0:Int)∧(0:Int)≤(i:Int)∧(i:Int)≤(xs.length:Int):=by omega
def aP0 {α σ X:Type} (body:Nat→α→σ→Option (σ ⊕ X)):List α→Nat→σ→Option (σ ⊕ X)
 | [],_,s=>some (.inl s)
 | x :: xs,i,s=>(body i x s).bind fun r=>match r with
  | .inl s'=>aP0 body xs (i+1) s'
  | .inr y=>some (.inr y)
theorem xZ {S X:Type} (step:S→Option (S ⊕ X)) (n:Nat) (s:S):zN step (n+1) s=(step s).bind fun r=>match r with
  | .inl s'=>zN step n s'
  | .inr y=>some y:=by
 cases h:step s with
 | none=>simp [zN,h]
 | some r=>cases r <;> simp [zN,h]
theorem yA {α S σ X:Type} {xs:List α} {step:S→Option (S ⊕ X)} (mk:Int→σ→S) (body:Nat→α→σ→Option (σ ⊕ X)) (fin:σ→X) (hl:xs.length≤9223372036854775807)
  (hS : ∀ (i:Nat) (hi:i<xs.length) s,step (mk i s)=(body i xs[i] s).map (Sum.map (mk ((i:Int)+1)) id)) (hE : ∀ s,step (mk xs.length s)=some (.inr (fin s))) (s0:σ) :
  cD step (mk 0 s0)=(aP0 body xs 0 s0).map (Sum.elim fin id):=by
 have key : ∀ (k:Nat) (ys:List α) (n:Nat) s,ys.length+k=xs.length→ys=xs.drop k→ys.length<n→zN step n (mk (k:Int) s)=(aP0 body ys k s).map (Sum.elim fin id):=by
  intro k ys
  induction ys generalizing k with
  | nil =>
   intro n s h1 h2 h3
   obtain ⟨n,rfl⟩ : ∃ m,n=m+1:=⟨n-1,by simp at h3;omega⟩
   have:k=xs.length:=by simpa using h1
   subst this
   rw [xZ,hE];rfl
  | cons y ys ih =>
   intro n s h1 h2 h3
   obtain ⟨n,rfl⟩ : ∃ m,n=m+1:=⟨n-1,by simp at h3;omega⟩
   have hk:k<xs.length:=by simp at h1;omega
   rw [List.drop_eq_getElem_cons hk] at h2
   injection h2 with h2 h4
   rw [xZ,hS k hk, ← h2]
   show _=((body k y s).bind _).map _
   cases body k y s with
   | none=>rfl
   | some r =>
    cases r with
    | inr z=>rfl
    | inl s'=>exact ih (k+1) n s' (by simp at h1;omega) h4 (by simp at h3;omega)
 exact key 0 xs aTn s0 (by simp) (by simp) (by unfold aTn;omega)
theorem aAn {α S σ X:Type} {xs:List α} {step:S→Option (S ⊕ X)} (mk:Int→σ→S) (body:Nat→α→σ→Option (σ ⊕ X)) (fin:σ→X) (I:σ→Prop) (hl:xs.length≤9223372036854775807)
  (hS : ∀ (i:Nat) (hi:i<xs.length) s,I s→step (mk i s)=(body i xs[i] s).map (Sum.map (mk ((i:Int)+1)) id)) (hI : ∀ (i:Nat) (hi:i<xs.length) s s',I s→body i xs[i] s=some (.inl s')→I s') (hE : ∀ s,I s→step (mk xs.length s)=some (.inr (fin s))) (s0:σ) (h0:I s0) :
  cD step (mk 0 s0)=(aP0 body xs 0 s0).map (Sum.elim fin id):=by
 have key : ∀ (k:Nat) (ys:List α) (n:Nat) s,I s→ys.length+k=xs.length→ys=xs.drop k→ys.length<n→zN step n (mk (k:Int) s)=(aP0 body ys k s).map (Sum.elim fin id):=by
  intro k ys
  induction ys generalizing k with
  | nil =>
   intro n s hs h1 h2 h3
   obtain ⟨n,rfl⟩ : ∃ m,n=m+1:=⟨n-1,by simp at h3;omega⟩
   have:k=xs.length:=by simpa using h1
   subst this
   rw [xZ,hE s hs];rfl
  | cons y ys ih =>
   intro n s hs h1 h2 h3
   obtain ⟨n,rfl⟩ : ∃ m,n=m+1:=⟨n-1,by simp at h3;omega⟩
   have hk:k<xs.length:=by simp at h1;omega
   rw [List.drop_eq_getElem_cons hk] at h2
   injection h2 with h2 h4
   rw [xZ,hS k hk s hs, ← h2]
   show _=((body k y s).bind _).map _
   cases hb:body k y s with
   | none=>rfl
   | some r =>
    cases r with
    | inr z=>rfl
    | inl s'=>exact ih (k+1) n s' (hI k hk s s' hs (by rw [← h2];exact hb)) (by simp at h1;omega) h4 (by simp at h3;omega)
 exact key 0 xs aTn s0 h0 (by simp) (by simp) (by unfold aTn;omega)
theorem rW {α σ X:Type} {body:Nat→α→σ→Option (σ ⊕ X)} (f:σ→α→σ) (h : ∀ i x s,body i x s=some (.inl (f s x))) : ∀ (xs:List α) (k:Nat) (s:σ),aP0 body xs k s=some (.inl (xs.foldl f s))
 | [],k,s=>rfl
 | x :: xs,k,s=>by
  show (body k x s).bind _=_
  rw [h]
  exact rW f h xs (k+1) (f s x)
theorem itA {a b:Bool}:(if a=true then some b else some false)=some (a && b):=by cases a <;> rfl
theorem itO {a b:Bool}:(if a=true then some true else some b)=some (a || b):=by cases a <;> rfl
theorem itF {a b:Bool}:(if a=true then some false else some b)=some (!a && b):=by cases a <;> rfl
theorem aZ2 {p:Prop} [Decidable p] {b:Bool}:(if p then some b else some false)=some (decide p && b):=by by_cases h:p <;> simp [h]
theorem aZ3 {p:Prop} [Decidable p] {b:Bool}:(if p then some true else some b)=some (decide p || b):=by by_cases h:p <;> simp [h]
theorem aOe {a b:Bool} {k:Option Bool} (h:k=some b):(orE (if a=true then (.inl ():Unit ⊕ Bool) else .inr false) fun _=>k)=some (a && b):=by cases a <;> simp [orE,h]
end Go.Proofs.YtceknlcbfomdhaaGreatDoor
namespace Go.Proofs.YtceknlcbfomdhaaGreatDoor
set_option linter.unusedVariables false
def iM (t:Int):Bool:=btw t 6 240
theorem tE (t:Int):iQ t=some (iM t):=by unfold iQ;rw [fM];rfl
theorem oP (t:Int):iL t=some (iM t):=by unfold iL;rw [eO];rfl
def aF9 (a:bO):Bool:=a.Wheels.all iM && (oH a.Name && decide (a.Wheels.length≤5))
theorem aEe {a:bO} (hl:a.Wheels.length≤9223372036854775807):mK a=some (aF9 a):=by
 unfold mK aF9
 rw [xO (fun _ v=>iM v) hl fun i hi=>by rw [dT hi,Option.bind_some,tE,Option.bind_some];cases iM a.Wheels[i] <;> rfl,nW,Option.bind_some,vI]
 cases a.Wheels.all iM <;> cases oH a.Name <;> simp [orE];omega
theorem aIh {a:bO} (hl:a.Wheels.length≤9223372036854775807):qU a=some (aF9 a):=by
 unfold qU aF9
 rw [xO (fun _ v=>iM v) hl fun i hi=>by rw [dT hi,Option.bind_some,oP,Option.bind_some];cases iM a.Wheels[i] <;> rfl,nW,Option.bind_some,sN]
 cases a.Wheels.all iM <;> cases oH a.Name <;> simp [orE];omega
def whB (w:bG) (a k:Int):Bool:=decide (0≤a∧a<w.Arbors.length) && match w.Arbors[a.toNat]? with
 | some b=>decide (0≤k∧k<b.Wheels.length)
 | none=>false
theorem zA {α:Type} {l:List α} {a:Int} (hl:l.length≤9223372036854775807):btw a 0 (w64 ((l.length:Int)-1))=decide (0≤a∧a<l.length):=by
 rw [bD (by omega) (by omega)]
 unfold btw
 rw [decide_eq_decide];omega
theorem aGw {w:bG} {a k:Int} (hl:w.Arbors.length≤9223372036854775807) (hw : ∀ b ∈ w.Arbors,b.Wheels.length≤9223372036854775807) {f:bO→Option Bool} (hf : ∀ b ∈ w.Arbors,f b=some (decide (0≤k∧k<b.Wheels.length))) :
  (if decide (0≤a∧a<w.Arbors.length)=true then ((atI w.Arbors a).bind f) else some false)=some (whB w a k):=by
 unfold whB
 by_cases h:0≤a∧a<w.Arbors.length
 ·obtain ⟨e,he,hm,hg⟩:=jQ h.1 h.2
  rw [decide_eq_true h,if_pos rfl,he,Option.bind_some,hf e hm,hg];rfl
 ·rw [decide_eq_false h];rfl
theorem aHr {w:bG} (hl:w.Arbors.length≤9223372036854775807) (hw : ∀ b ∈ w.Arbors,b.Wheels.length≤9223372036854775807) (a k:Int):nJ w a k=some (whB w a k):=by
 unfold nJ
 rw [fM,Option.bind_some,zA hl]
 exact aGw hl hw fun b hb=>by rw [fM,Option.bind_some,zA (hw b hb)]
theorem aIl {w:bG} (hl:w.Arbors.length≤9223372036854775807) (hw : ∀ b ∈ w.Arbors,b.Wheels.length≤9223372036854775807) (a k:Int):nT w a k=some (whB w a k):=by
 unfold nT
 rw [eO,Option.bind_some,zA hl]
 exact aGw hl hw fun b hb=>by rw [eO,Option.bind_some,zA (hw b hb)]
def sY (w:bG) (m:bR):Bool:=decide (m.A≠m.B) && (whB w m.A m.WheelA && whB w m.B m.WheelB)
theorem aOy {w:bG} (hl:w.Arbors.length≤9223372036854775807) (hw : ∀ b ∈ w.Arbors,b.Wheels.length≤9223372036854775807) (m:bR):wZ w m=some (sY w m):=by
 unfold wZ sY
 simp only [aHr hl hw,Option.bind_some]
 by_cases h:m.A=m.B <;> cases whB w m.A m.WheelA <;> simp [h]
theorem aKt {w:bG} (hl:w.Arbors.length≤9223372036854775807) (hw : ∀ b ∈ w.Arbors,b.Wheels.length≤9223372036854775807) (m:bR):sT w m=some (sY w m):=by
 unfold sT sY
 simp only [aIl hl hw,Option.bind_some]
 by_cases h:m.A=m.B <;> cases whB w m.A m.WheelA <;> simp [h]
def sU (m n:bR):Bool:=decide (m=n∨m=⟨n.B,n.WheelB,n.A,n.WheelA⟩)
theorem aPu (m n:bR):sU m n=sU n m:=by
 unfold sU
 rw [decide_eq_decide]
 obtain ⟨a,b,c,d⟩:=m
 obtain ⟨a',b',c',d'⟩:=n
 simp only [bR.mk.injEq]
 omega
theorem aHs (m n:bR):qL m n=some (sU m n):=by
 unfold qL sU
 by_cases h:m=n
 ·simp [h]
 ·rw [if_neg h];simp [h]
theorem aIi (m n:bR):qV m n=some (sU m n):=by
 unfold qV sU
 by_cases h:m=n
 ·simp [h]
 ·rw [if_neg h]
  obtain ⟨a,b,c,d⟩:=m
  obtain ⟨a',b',c',d'⟩:=n
  have e:decide ((⟨a,b,c,d⟩:bR)=⟨a',b',c',d'⟩∨(⟨a,b,c,d⟩:bR)=⟨c',d',a',b'⟩)=decide (a=c'∧b=d'∧c=a'∧d=b'):=by
   rw [decide_eq_decide]
   simp only [h,false_or,bR.mk.injEq]
  dsimp only
  rw [e]
  by_cases h1:a=c' <;> by_cases h2:b=d' <;> by_cases h3:c=a' <;> simp [h1,h2,h3]
def aBw (w:bG):Bool:=decide (w.Arbors.length≤16) && (decide (w.Meshes.length≤24) && (aLg w.Arbors (fun i a=>aF9 a && !((w.Arbors.take i).any fun b=>decide (b.Name=a.Name))) && aLg w.Meshes (fun i m=>sY w m && !((w.Meshes.take i).any fun n=>sU m n))))
theorem aFn {xs:List bR} {m:bR} (hl:xs.length≤9223372036854775807):cJ xs m=some (xs.any fun n=>sU m n):=by
 unfold cJ dC
 rw [aTh (fun n=>sU m n) hl fun i hi=>by rw [dT hi,Option.bind_some,mS,aHs,Option.bind_some,Option.bind_some],Option.bind_some,aH8]
theorem wV {w:bG} (hl:w.Arbors.length≤9223372036854775807) (hw : ∀ b ∈ w.Arbors,b.Wheels.length≤9223372036854775807) (hm:w.Meshes.length≤9223372036854775807):kQ w=some (aBw w):=by
 unfold kQ aBw
 by_cases h1:w.Arbors.length≤16
 ·by_cases h2:w.Meshes.length≤24
  ·rw [if_neg (by omega),Option.bind_some,decide_eq_false (by omega),if_neg (by decide),decide_eq_true h1,decide_eq_true h2,
    xO (e := .inr false) (fun i a=>aF9 a && !((w.Arbors.take i).any fun b=>decide (b.Name=a.Name))) hl fun i hi => ?_,Option.bind_some,
    xO (e := .inr false) (fun i m=>sY w m && !((w.Meshes.take i).any fun n=>sU m n)) hm fun i hi => ?_,Option.bind_some]
   ·cases aLg w.Arbors (fun i a=>aF9 a && !((w.Arbors.take i).any fun b=>decide (b.Name=a.Name))) <;> cases aLg w.Meshes (fun i m=>sY w m && !((w.Meshes.take i).any fun n=>sU m n)) <;> rfl
   ·rw [dT hi,Option.bind_some,aOy hl hw,Option.bind_some,fY (aNf (by omega)),aSg,aFn (by rw [List.length_take];omega)]
    cases sY w w.Meshes[i] <;> cases ((w.Meshes.take i).any fun n=>sU w.Meshes[i] n) <;> rfl
   ·rw [dT hi,Option.bind_some,aEe (hw _ (List.getElem_mem hi)),Option.bind_some,fY (aNf (by omega)),aSg,
     xO (fun _ b => !decide (b.Name=w.Arbors[i].Name)) (by rw [List.length_take];omega) fun j hj=>by
      rw [dT hj,Option.bind_some]
      by_cases q:w.Arbors[i].Name=(w.Arbors.take i)[j].Name
      ·rw [if_pos q,decide_eq_true q.symm];rfl
      ·rw [if_neg q,decide_eq_false (Ne.symm q)];rfl,nW]
    have e:((w.Arbors.take i).all fun b => !decide (b.Name=w.Arbors[i].Name)) = !((w.Arbors.take i).any fun b=>decide (b.Name=w.Arbors[i].Name)):=by rw [Bool.eq_iff_iff];simp
    rw [e]
    cases aF9 w.Arbors[i] <;> cases ((w.Arbors.take i).any fun b=>decide (b.Name=w.Arbors[i].Name)) <;> rfl
  ·rw [if_neg (by omega),Option.bind_some,decide_eq_true (by omega),if_pos rfl,decide_eq_false h2,decide_eq_true h1];rfl
 ·rw [if_pos (by omega),Option.bind_some,if_pos rfl,decide_eq_false h1];rfl
theorem aKq {w:bG} (hl:w.Arbors.length≤9223372036854775807) (s:ByteArray):sR w s=some (aMl w.Arbors fun a=>decide (a.Name=s)):=by
 unfold sR
 rw [aTh (fun a=>decide (a.Name=s)) hl fun i hi=>by rw [dT hi,Option.bind_some];by_cases q:w.Arbors[i].Name=s <;> simp [q]]
theorem aIj {w:bG} (hm:w.Meshes.length≤9223372036854775807) (m:bR) {k:Nat} (hk:k≤w.Meshes.length):qW w m (k:Int)=some ((w.Meshes.take k).any fun n=>sU m n):=by
 unfold qW
 rw [aXs k (fun _ n => !sU m n) hk hm fun i hi _=>by rw [dT hi,Option.bind_some,aIi,Option.bind_some,aPu];cases sU m w.Meshes[i] <;> rfl,nW,Option.bind_some]
 have e:((w.Meshes.take k).all fun n => !sU m n) = !((w.Meshes.take k).any fun n=>sU m n):=by rw [Bool.eq_iff_iff];simp
 rw [e]
 cases ((w.Meshes.take k).any fun n=>sU m n) <;> rfl
theorem aPm {w:bG} (hl:w.Arbors.length≤9223372036854775807) (hw : ∀ b ∈ w.Arbors,b.Wheels.length≤9223372036854775807) (hm:w.Meshes.length≤9223372036854775807):xK w=some (aBw w):=by
 unfold xK aBw
 rw [xO (e := .inr false) (fun i a=>aF9 a && !((w.Arbors.take i).any fun b=>decide (b.Name=a.Name))) hl fun i hi => ?_,Option.bind_some,
   xO (e := .inr false) (fun i m=>sY w m && !((w.Meshes.take i).any fun n=>sU m n)) hm fun i hi => ?_,Option.bind_some]
 ·have e1:decide ((w.Meshes.length:Int)≤24)=decide (w.Meshes.length≤24):=by rw [decide_eq_decide];omega
  have e2:(if (w.Arbors.length:Int)≤16 then some (decide ((w.Meshes.length:Int)≤24)) else some false)=some (decide (w.Arbors.length≤16) && decide (w.Meshes.length≤24)):=by
   rw [e1]
   by_cases h1:w.Arbors.length≤16
   ·rw [if_pos (by omega),decide_eq_true h1,Bool.true_and]
   ·rw [if_neg (by omega),decide_eq_false h1];rfl
  rw [e2]
  cases aLg w.Arbors (fun i a=>aF9 a && !((w.Arbors.take i).any fun b=>decide (b.Name=a.Name))) <;> cases aLg w.Meshes (fun i m=>sY w m && !((w.Meshes.take i).any fun n=>sU m n)) <;> cases decide (w.Arbors.length≤16) <;> cases decide (w.Meshes.length≤24) <;> rfl
 ·simp only [dT hi,Option.bind_some,aKt hl hw,aIj hm _ (Nat.le_of_lt hi)]
  cases sY w w.Meshes[i] <;> cases ((w.Meshes.take i).any fun n=>sU w.Meshes[i] n) <;> rfl
 ·simp only [dT hi,Option.bind_some,aIh (hw _ (List.getElem_mem hi)),aKq hl,aPa (p:=fun a=>decide (a.Name=w.Arbors[i].Name)) hi (decide_eq_true rfl)]
  cases aF9 w.Arbors[i] <;> cases ((w.Arbors.take i).any fun b=>decide (b.Name=w.Arbors[i].Name)) <;> rfl
end Go.Proofs.YtceknlcbfomdhaaGreatDoor
namespace Go.Proofs.YtceknlcbfomdhaaGreatDoor
set_option linter.unusedVariables false
def Ok {α:Type} (m:Option α) (P:α→Prop):Prop := ∃ x,m=some x∧P x
theorem aP {α:Type} {x:α} {P:α→Prop} (h:P x):Ok (some x) P:=⟨x,rfl,h⟩
theorem bZ {α β:Type} {m:Option α} {f:α→Option β} {P:α→Prop} {Q:β→Prop} (h:Ok m P) (k : ∀ x,P x→Ok (f x) Q):Ok (m.bind f) Q:=by
 obtain ⟨x,rfl,hx⟩:=h
 exact k x hx
theorem eH {α:Type} {p:Prop} [Decidable p] {a b:Option α} {P:α→Prop} (h:p→Ok a P) (k : ¬ p→Ok b P):Ok (if p then a else b) P:=by
 split
 ·exact h ‹_›
 ·exact k ‹_›
theorem kK {α:Type} {p:Prop} [Decidable p] {a:Option α} {P:α→Prop} (hp:p) (h:Ok a P):Ok (chk p a) P:=by rw [fY hp];exact h
theorem aRp {α:Type} {xs:List α} {i:Int} (h0:0≤i) (h1:i<xs.length):Ok (atI xs i) (fun e=>e ∈ xs∧xs[i.toNat]? = some e):=by
 obtain ⟨e,h,hm,hg⟩:=jQ h0 h1
 exact ⟨e,h,hm,hg⟩
theorem aH7 {α:Type} {m:Option α} {P Q:α→Prop} (h:Ok m P) (k : ∀ x,P x→Q x):Ok m Q:=by
 obtain ⟨x,e,hx⟩:=h
 exact ⟨x,e,k x hx⟩
theorem eI {S X:Type} {step:S→Option (S ⊕ X)} {P:X→Prop} (I:S→Prop) (m:S→Nat) (hs : ∀ s,I s→Ok (step s) (fun y=>(∃ s',y = .inl s'∧I s'∧m s'<m s) ∨ ∃ x,y = .inr x∧P x)) (s0:S) (h0:I s0) (hm:m s0<1180591620717411303424):Ok (cD step s0) P :=
 xY I m P (fun s hI=>by
  obtain ⟨y,e,⟨s',rfl,h1,h2⟩ | ⟨x,rfl,h1⟩⟩:=hs s hI
  ·exact .inl ⟨s',e,h1,h2⟩
  ·exact .inr ⟨x,e,h1⟩) s0 h0 hm
end Go.Proofs.YtceknlcbfomdhaaGreatDoor
namespace Go.Proofs.YtceknlcbfomdhaaGreatDoor
set_option linter.unusedVariables false
end Go.Proofs.YtceknlcbfomdhaaGreatDoor
