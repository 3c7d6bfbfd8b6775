/- Texts of this claim, one behind the other (merged by a program of mine). -/
import Derived.KernelRfl
import Derived.Test.YtgcdbbidmfdonaaGreatGR2
set_option linter.unusedSimpArgs false
set_option linter.unusedVariables false
namespace Go.Proofs.YtgcdbbidmfdonaaGreat
open Go.RowKit
set_option linter.unusedVariables false
set_option maxRecDepth 100000
set_option maxHeartbeats 2000000
structure cA where
 Year : Int
 Month : Int
 Day : Int
deriving DecidableEq
structure bP where
 code : List Int
 at_ : Int
 seed : Int
deriving DecidableEq
structure bO where
 Name : ByteArray
 Days : Int
 Leap : Int
deriving DecidableEq
def aP (x : bO) : List DV := [.v (.string x.Name), .v (.int .i64 x.Days), .v (.int .i64 x.Leap)]
structure aY where
 Every : Int
 Rest : Int
 Leap : Bool
deriving DecidableEq
def aF (x : aY) : List DV := [.v (.int .i64 x.Every), .v (.int .i64 x.Rest), .v (.bool x.Leap)]
structure aB where
 Name : ByteArray
 Months : List bO
 Rules : List aY
 Week : Int
deriving DecidableEq
def bY (x : aB) : List DV := [.v (.string x.Name), .sl (List.map aP x.Months), .sl (List.map aF x.Rules), .v (.int .i64 x.Week)]
structure aOf where
 Year : Int
 Month : Int
 Shown : Int
 Right : Int
deriving DecidableEq
structure aJ where
 Num : Int
 Den : Int
deriving DecidableEq
def eV (x : aJ) : List DV := [.v (.int .i64 x.Num), .v (.int .i64 x.Den)]
structure pV where
 LowDriver : Int
 HighDriver : Int
 LowDriven : Int
 HighDriven : Int
 Stages : Int
deriving DecidableEq
def aB1 (x : pV) : List DV := [.v (.int .i64 x.LowDriver), .v (.int .i64 x.HighDriver), .v (.int .i64 x.LowDriven), .v (.int .i64 x.HighDriven), .v (.int .i64 x.Stages)]
structure aZ where
 value : Int
 teeth : List Int
deriving DecidableEq
def aS (x : aZ) : List DV := [.v (.int .i64 x.value), .sl (List.map cI x.teeth)]
structure dX where
 Driver : Int
 Driven : Int
deriving DecidableEq
def eT (x : dX) : List DV := [.v (.int .i64 x.Driver), .v (.int .i64 x.Driven)]
structure fI where
 driver : Int
 driven : Int
 off : Int
 train : List dX
deriving DecidableEq
structure aA0 where
 Train : List dX
 Error : aJ
deriving DecidableEq
structure cH where
 A : Int
 WheelA : Int
 B : Int
 WheelB : Int
deriving DecidableEq
def bF (x : cH) : List DV := [.v (.int .i64 x.A), .v (.int .i64 x.WheelA), .v (.int .i64 x.B), .v (.int .i64 x.WheelB)]
structure cQ where
 Name : ByteArray
 Wheels : List Int
deriving DecidableEq
def aM (x : cQ) : List DV := [.v (.string x.Name), .sl (List.map cI x.Wheels)]
structure bE where
 Arbors : List cQ
 Meshes : List cH
deriving DecidableEq
def fM (x : bE) : List DV := [.sl (List.map aM x.Arbors), .sl (List.map bF x.Meshes)]
structure aU where
 Name : ByteArray
 Works : bE
 Minute : Int
 Hour : Int
 Escape : Int
 Teeth : Int
 Beats : Int
 Calendar : aB
 Cam : List Int
 Strike : Int
deriving DecidableEq
def fO (x : aU) : List DV := [.v (.string x.Name), .sl (List.map aM x.Works.Arbors), .sl (List.map bF x.Works.Meshes), .v (.int .i64 x.Minute), .v (.int .i64 x.Hour), .v (.int .i64 x.Escape), .v (.int .i64 x.Teeth), .v (.int .i64 x.Beats), .v (.string x.Calendar.Name), .sl (List.map aP x.Calendar.Months), .sl (List.map aF x.Calendar.Rules), .v (.int .i64 x.Calendar.Week), .sl (List.map cI x.Cam), .v (.int .i64 x.Strike)]
structure aH where
 Cam : List Int
 Months : Int
 Teeth : Int
 At : Int
 Day : Int
 Week : Int
 Weekday : Int
deriving DecidableEq
def oC (x : aH) : List DV := [.sl (List.map cI x.Cam), .v (.int .i64 x.Months), .v (.int .i64 x.Teeth), .v (.int .i64 x.At), .v (.int .i64 x.Day), .v (.int .i64 x.Week), .v (.int .i64 x.Weekday)]
structure dM where
 Movement : aU
 Start : cA
 First : Int
 Clock : Int
 Dial : aH
deriving DecidableEq
def aRq (x : dM) : List DV := [.v (.string x.Movement.Name), .sl (List.map aM x.Movement.Works.Arbors), .sl (List.map bF x.Movement.Works.Meshes), .v (.int .i64 x.Movement.Minute), .v (.int .i64 x.Movement.Hour), .v (.int .i64 x.Movement.Escape), .v (.int .i64 x.Movement.Teeth), .v (.int .i64 x.Movement.Beats), .v (.string x.Movement.Calendar.Name), .sl (List.map aP x.Movement.Calendar.Months), .sl (List.map aF x.Movement.Calendar.Rules), .v (.int .i64 x.Movement.Calendar.Week), .sl (List.map cI x.Movement.Cam), .v (.int .i64 x.Movement.Strike), .v (.int .i64 x.Start.Year), .v (.int .i64 x.Start.Month), .v (.int .i64 x.Start.Day), .v (.int .i64 x.First), .v (.int .i64 x.Clock), .sl (List.map cI x.Dial.Cam), .v (.int .i64 x.Dial.Months), .v (.int .i64 x.Dial.Teeth), .v (.int .i64 x.Dial.At), .v (.int .i64 x.Dial.Day), .v (.int .i64 x.Dial.Week), .v (.int .i64 x.Dial.Weekday)]
structure aWn where
 p : Int
 q : Int
 far : Int
deriving DecidableEq
def wJ (p0 : List Int) (p1 : List Int) : Option Bool :=
 (if 3000 < (p0.length : Int) then
 some true
 else
 some (decide (3000 < (p1.length : Int))))

def tH (p0 : List Int) : Option bP :=
 some (⟨p0, 0, 0⟩ : bP)

def iE (p0 : bP) : Option (Int × bP) :=
 (((if p0.at_ < (p0.code.length : Int) then
 ((atI p0.code p0.at_).bind fun v1 =>
 some (w64 v1))
 else
 some 0) : Option Int).bind fun v2 =>
 (if (w64 (p0.at_ + 1)) ≤ (p0.code.length : Int) then
 some (v2, (⟨p0.code, w64 (p0.at_ + 1), IntKind.u64.wrap ((IntKind.u64.wrap ((IntKind.u64.wrap (p0.seed * 6364136223846793005)) + (IntKind.u64.wrap v2))) + 1442695040888963407)⟩ : bP))
 else
 some (w64 (aS2 .u64 (aTm .u64 (IntKind.u64.wrap ((IntKind.u64.wrap ((IntKind.u64.wrap (p0.seed * 6364136223846793005)) + (IntKind.u64.wrap v2))) + 1442695040888963407)) 40) 255), (⟨p0.code, w64 (p0.at_ + 1), IntKind.u64.wrap ((IntKind.u64.wrap ((IntKind.u64.wrap (p0.seed * 6364136223846793005)) + (IntKind.u64.wrap v2))) + 1442695040888963407)⟩ : bP))))

def bS (p0 : bP) (p1 : Int) : Option (Int × bP) :=
 (if p1 ≤ 1 then
 some (0, p0)
 else
 ((iE p0).bind fun v1 =>
 (((if 200 < p1 then
 ((iE v1.2).bind fun v2 =>
 some (w64 ((w64 (v1.1 * 256)) + v2.1), v2.2))
 else
 some (v1.1, v1.2)) : Option (Int × bP)).bind fun v3 =>
 (chk (p1 ≠ 0) (
 some (v3.1.tmod p1, v3.2))))))

def fE (p0 : bP) (p1 : Int) : Option (Bool × bP) :=
 ((bS p0 p1).bind fun v1 =>
 some (decide (v1.1 = 0), v1.2))

def kT  : Option (List ByteArray) :=
 some [(⟨#[101, 103, 121, 112, 116, 105, 97, 110]⟩ : ByteArray), (⟨#[102, 105, 120, 101, 100]⟩ : ByteArray), (⟨#[103, 114, 101, 103, 111, 114, 105, 97, 110]⟩ : ByteArray), (⟨#[106, 117, 108, 105, 97, 110]⟩ : ByteArray)]

def mM (p0 : bP) (p1 : List ByteArray) : Option (ByteArray × bP) :=
 ((bS p0 (p1.length : Int)).bind fun v1 =>
 ((atI p1 v1.1).bind fun v2 =>
 some (v2, v1.2)))

def nL (p0 : Int) : Option ByteArray :=
 ((cO (S := Int × List Int) (X := List Int) (fun s6 =>
 (if s6.1 ≠ 0 then
 (((if (s6.1.tmod 10) < 0 then
 some (w64 (-(s6.1.tmod 10)))
 else
 some (s6.1.tmod 10)) : Option Int).bind fun v8 =>
 (chk (([IntKind.u8.wrap (w64 (48 + v8))].length + s6.2.length) * 1 * 64 ≤ 140737488355328) (
 some (.inl (w64 (s6.1.tdiv 10), [IntKind.u8.wrap (w64 (48 + v8))] ++ s6.2)))))
 else
 some (.inr s6.2))) (p0, ([] : List Int)) : Option (List Int)).bind fun v11 =>
 (if (v11.length : Int) = 0 then
 some (⟨#[48]⟩ : ByteArray)
 else
 (if p0 < 0 then
 (chk ((⟨#[45]⟩ : ByteArray).size + (strOfNums v11).size ≤ 9223372036854775807) (
 some ((⟨#[45]⟩ : ByteArray) ++ (strOfNums v11))))
 else
 some (strOfNums v11))))

def rZ (p0 : Int) (p1 : Int) : Option (List bO) :=
 ((cO (S := Int × List bO) (X := List bO) (fun s5 =>
 (if s5.1 ≤ p0 then
 ((nL s5.1).bind fun v6 =>
 (chk ((⟨#[109]⟩ : ByteArray).size + v6.size ≤ 9223372036854775807) (
 (chk ((s5.2.length + [(⟨(⟨#[109]⟩ : ByteArray) ++ v6, p1, p1⟩ : bO)].length) * 3 * 64 ≤ 140737488355328) (
 some (.inl (w64 (s5.1 + 1), s5.2 ++ [(⟨(⟨#[109]⟩ : ByteArray) ++ v6, p1, p1⟩ : bO)])))))))
 else
 some (.inr s5.2))) (1, ([] : List bO)) : Option (List bO)).bind fun v9 =>
 some v9)

def lP  : Option (List aY) :=
 some [(⟨4, 0, true⟩ : aY), (⟨100, 0, false⟩ : aY), (⟨400, 0, true⟩ : aY)]

def rW  : Option (List bO) :=
 ((cO (S := Int × List bO) (X := List bO) (fun s6 =>
 (if s6.1 < 12 then
 ((atI [(⟨#[106, 97, 110]⟩ : ByteArray), (⟨#[102, 101, 98]⟩ : ByteArray), (⟨#[109, 97, 114]⟩ : ByteArray), (⟨#[97, 112, 114]⟩ : ByteArray), (⟨#[109, 97, 121]⟩ : ByteArray), (⟨#[106, 117, 110]⟩ : ByteArray), (⟨#[106, 117, 108]⟩ : ByteArray), (⟨#[97, 117, 103]⟩ : ByteArray), (⟨#[115, 101, 112]⟩ : ByteArray), (⟨#[111, 99, 116]⟩ : ByteArray), (⟨#[110, 111, 118]⟩ : ByteArray), (⟨#[100, 101, 99]⟩ : ByteArray)] s6.1).bind fun v7 =>
 ((atI [31, 28, 31, 30, 31, 30, 31, 31, 30, 31, 30, 31] s6.1).bind fun v8 =>
 ((atI [31, 28, 31, 30, 31, 30, 31, 31, 30, 31, 30, 31] s6.1).bind fun v9 =>
 (chk ((s6.2.length + [(⟨v7, v8, v9⟩ : bO)].length) * 3 * 64 ≤ 140737488355328) (
 some (.inl (w64 (s6.1 + 1), s6.2 ++ [(⟨v7, v8, v9⟩ : bO)])))))))
 else
 some (.inr s6.2))) (0, ([] : List bO)) : Option (List bO)).bind fun v11 =>
 ((atI v11 1).bind fun v12 =>
 some (List.set v11 (1 : Int).toNat (⟨v12.Name, v12.Days, 29⟩ : bO))))

def kQ (p0 : ByteArray) : Option (aB × Int) :=
 (if p0 = (⟨#[101, 103, 121, 112, 116, 105, 97, 110]⟩ : ByteArray) then
 ((rZ 12 30).bind fun v1 =>
 (chk ((v1.length + [(⟨(⟨#[109, 49, 51]⟩ : ByteArray), 5, 5⟩ : bO)].length) * 3 * 64 ≤ 140737488355328) (
 some ((⟨p0, v1 ++ [(⟨(⟨#[109, 49, 51]⟩ : ByteArray), 5, 5⟩ : bO)], ([] : List aY), 10⟩ : aB), 0))))
 else
 (if p0 = (⟨#[102, 105, 120, 101, 100]⟩ : ByteArray) then
 ((rZ 12 28).bind fun v3 =>
 (chk ((v3.length + [(⟨(⟨#[109, 49, 51]⟩ : ByteArray), 29, 30⟩ : bO)].length) * 3 * 64 ≤ 140737488355328) (
 ((lP).bind fun v5 =>
 some ((⟨p0, v3 ++ [(⟨(⟨#[109, 49, 51]⟩ : ByteArray), 29, 30⟩ : bO)], v5, 7⟩ : aB), 0)))))
 else
 (if p0 = (⟨#[103, 114, 101, 103, 111, 114, 105, 97, 110]⟩ : ByteArray) then
 ((rW).bind fun v6 =>
 ((lP).bind fun v7 =>
 some ((⟨p0, v6, v7, 7⟩ : aB), 0)))
 else
 (if p0 = (⟨#[106, 117, 108, 105, 97, 110]⟩ : ByteArray) then
 ((rW).bind fun v8 =>
 some ((⟨p0, v8, [(⟨4, 0, true⟩ : aY)], 7⟩ : aB), 0))
 else
 some ((⟨(⟨#[]⟩ : ByteArray), ([] : List bO), ([] : List aY), 0⟩ : aB), 3)))))

def fA (p0 : bP) (p1 : List Int) : Option (Int × bP) :=
 ((bS p0 (p1.length : Int)).bind fun v1 =>
 ((atI p1 v1.1).bind fun v2 =>
 some (v2, v1.2)))

def cN (p0 : Int) (p1 : Int) (p2 : Int) : Option Bool :=
 (if p1 ≤ p0 then
 some (decide (p0 ≤ p2))
 else
 some false)

def nK (p0 : Int) (p1 : Int) : Option Int :=
 ((cO (S := Int × Int) (X := Int) (fun s3 =>
 (if 0 < s3.2 then
 (chk (s3.2 ≠ 0) (
 some (.inl (s3.2, s3.1.tmod s3.2))))
 else
 some (.inr s3.1))) (p0, p1) : Option Int).bind fun v5 =>
 some v5)

def mJ (p0 : List aY) : Option (Int × Bool) :=
 ((cO (S := Int × Int) (X := Int ⊕ (Int × Bool)) (fun s12 =>
 (if s12.2 < (p0.length : Int) then
 ((((atI p0 s12.2).bind fun v13 =>
 ((cN v13.Every 1 1000).bind fun v14 =>
 (if (!v14) = true then
 some true
 else
 ((atI p0 s12.2).bind fun v15 =>
 ((atI p0 s12.2).bind fun v16 =>
 ((cN v15.Rest 0 (w64 (v16.Every - 1))).bind fun v17 =>
 some (!v17))))))) : Option Bool).bind fun v18 =>
 (if v18 = true then
 some (.inr (.inr (0, false)))
 else
 ((atI p0 s12.2).bind fun v19 =>
 ((atI p0 s12.2).bind fun v20 =>
 ((nK s12.1 v19.Every).bind fun v21 =>
 (chk (v21 ≠ 0) (
 (if 2000 < (w64 ((w64 (s12.1.tdiv v21)) * v20.Every)) then
 some (.inr (.inr (0, false)))
 else
 some (.inl (w64 ((w64 (s12.1.tdiv v21)) * v20.Every), w64 (s12.2 + 1)))))))))))
 else
 some (.inr (.inl s12.1)))) (1, 0) : Option (Int ⊕ (Int × Bool))).bind fun v23x => orE v23x fun v23 =>
 some (v23, decide ((p0.length : Int) ≤ 6)))

def mE (p0 : Int) : Option Bool :=
 (if 97 ≤ p0 then
 some (decide (p0 ≤ 122))
 else
 some false)

def pN (p0 : Int) : Option Bool :=
 (if 48 ≤ p0 then
 some (decide (p0 ≤ 57))
 else
 some false)

def kU (p0 : ByteArray) : Option Bool :=
 (((if p0 = (⟨#[]⟩ : ByteArray) then
 some true
 else
 (if 12 < (p0.size : Int) then
 some true
 else
 ((aFt p0 0).bind fun v1 =>
 ((mE v1).bind fun v2 =>
 some (!v2))))) : Option Bool).bind fun v3 =>
 (if v3 = true then
 some false
 else
 ((cO (S := Int) (X := Unit ⊕ Bool) (fun s11 =>
 (if s11 < (p0.size : Int) then
 ((((aFt p0 s11).bind fun v12 =>
 ((mE v12).bind fun v13 =>
 (if (!v13) = true then
 ((aFt p0 s11).bind fun v14 =>
 ((pN v14).bind fun v15 =>
 (if (!v15) = true then
 ((aFt p0 s11).bind fun v16 =>
 some (decide (v16 ≠ 45)))
 else
 some false)))
 else
 some false))) : Option Bool).bind fun v17 =>
 (if v17 = true then
 some (.inr (.inr false))
 else
 some (.inl (w64 (s11 + 1)))))
 else
 some (.inr (.inl ())))) 0 : Option (Unit ⊕ Bool)).bind fun v18x => orE v18x fun v18 =>
 some true)))

def mP (p0 : List bO) : Option Bool :=
 ((cO (S := Int) (X := Unit ⊕ Bool) (fun s16 =>
 (if s16 < (p0.length : Int) then
 ((((((atI p0 s16).bind fun v17 =>
 ((kU v17.Name).bind fun v18 =>
 (if (!v18) = true then
 some true
 else
 ((atI p0 s16).bind fun v19 =>
 ((cN v19.Days 1 60).bind fun v20 =>
 (if (!v20) = true then
 some true
 else
 ((atI p0 s16).bind fun v21 =>
 ((cN v21.Leap 1 60).bind fun v22 =>
 some (!v22))))))))) : Option Bool).bind fun v23 =>
 (if v23 = true then
 some (.inr (.inr (.inr false)))
 else
 cO (S := Int) (X := Unit ⊕ (Int ⊕ (Unit ⊕ Bool))) (fun s27 =>
 (if s27 < s16 then
 ((atI p0 s27).bind fun v28 =>
 ((atI p0 s16).bind fun v29 =>
 (if v28.Name = v29.Name then
 some (.inr (.inr (.inr (.inr false))))
 else
 some (.inl (w64 (s27 + 1))))))
 else
 some (.inr (.inl ())))) 0)) : Option (Unit ⊕ (Int ⊕ (Unit ⊕ Bool)))).bind fun v30x => orE v30x fun v30 =>
 some (.inl (w64 (s16 + 1))))
 else
 some (.inr (.inl ())))) 0 : Option (Unit ⊕ Bool)).bind fun v31x => orE v31x fun v31 =>
 ((cN (p0.length : Int) 1 20).bind fun v32 =>
 some v32))

def mT (p0 : aB) : Option Bool :=
 ((mJ p0.Rules).bind fun v1 =>
 (if v1.2 = true then
 ((kU p0.Name).bind fun v2 =>
 (if v2 = true then
 ((mP p0.Months).bind fun v3 =>
 (if v3 = true then
 ((cN p0.Week 1 12).bind fun v4 =>
 some v4)
 else
 some false))
 else
 some false))
 else
 some false))

def mU (p0 : bP) : Option (aB × bP) :=
 ((fE p0 2).bind fun v1 =>
 (if v1.1 = true then
 ((kT).bind fun v2 =>
 ((mM v1.2 v2).bind fun v3 =>
 ((kQ v3.1).bind fun v4 =>
 some (v4.1, v3.2))))
 else
 ((bS v1.2 12).bind fun v5 =>
 ((bS v5.2 6).bind fun v6 =>
 ((cO (S := Int × bP × List bO) (X := bP × List bO) (fun s15 =>
 (if s15.1 ≤ (w64 (1 + v6.1)) then
 ((nL s15.1).bind fun v16 =>
 (chk ((⟨#[109]⟩ : ByteArray).size + v16.size ≤ 9223372036854775807) (
 ((bS s15.2.1 40).bind fun v18 =>
 ((((fE v18.2 3).bind fun v19 =>
 (if v19.1 = true then
 ((bS v19.2 40).bind fun v20 =>
 some (v20.2, (⟨(⟨#[109]⟩ : ByteArray) ++ v16, w64 (1 + v18.1), w64 (1 + v20.1)⟩ : bO)))
 else
 some (v19.2, (⟨(⟨#[109]⟩ : ByteArray) ++ v16, w64 (1 + v18.1), w64 (1 + v18.1)⟩ : bO)))) : Option (bP × bO)).bind fun v21 =>
 (chk ((s15.2.2.length + [v21.2].length) * 3 * 64 ≤ 140737488355328) (
 some (.inl (w64 (s15.1 + 1), v21.1, s15.2.2 ++ [v21.2])))))))))
 else
 some (.inr (s15.2.1, s15.2.2)))) (1, v6.2, ([] : List bO)) : Option (bP × List bO)).bind fun v23 =>
 ((((bS v23.1 4).bind fun v24 =>
 cO (S := Int × bP × List aY) (X := bP × List aY) (fun s30 =>
 (if 0 < s30.1 then
 ((fA s30.2.1 [1, 2, 3, 4, 5, 8, 33, 100]).bind fun v31 =>
 ((bS v31.2 v31.1).bind fun v32 =>
 ((fE v32.2 3).bind fun v33 =>
 (chk ((s30.2.2.length + [(⟨v31.1, v32.1, !v33.1⟩ : aY)].length) * 3 * 64 ≤ 140737488355328) (
 some (.inl (w64 (s30.1 - 1), v33.2, s30.2.2 ++ [(⟨v31.1, v32.1, !v33.1⟩ : aY)])))))))
 else
 some (.inr (s30.2.1, s30.2.2)))) (v24.1, v24.2, ([] : List aY))) : Option (bP × List aY)).bind fun v35 =>
 ((((mT (⟨(⟨#[111, 119, 110]⟩ : ByteArray), v23.2, v35.2, w64 (1 + v5.1)⟩ : aB)).bind fun v36 =>
 (if (!v36) = true then
 some ([] : List aY)
 else
 some v35.2)) : Option (List aY)).bind fun v37 =>
 some ((⟨(⟨#[111, 119, 110]⟩ : ByteArray), v23.2, v37, w64 (1 + v5.1)⟩ : aB), v35.1))))))))

def gU (p0 : Int) : Option Bool :=
 ((cN p0 6 240).bind fun v1 =>
 some v1)

def sC (p0 : aB) (p1 : Int) : Option Bool :=
 ((cN p1 1 260).bind fun v1 =>
 (if v1 = true then
 some (decide ((w64 (p1 * (p0.Months.length : Int))) ≤ 260))
 else
 some false))

def nA (p0 : aB) (p1 : Int) : Option Int :=
 ((mJ p0.Rules).bind fun v1 =>
 ((nK v1.1 p1).bind fun v2 =>
 (chk (v2 ≠ 0) (
 some (w64 ((w64 (v1.1.tdiv v2)) * p1))))))

def nT (p0 : aB) (p1 : Int) : Option Bool :=
 ((cO (S := Bool × Int) (X := Bool) (fun s7 =>
 (if s7.2 < (p0.Rules.length : Int) then
 ((((atI p0.Rules s7.2).bind fun v8 =>
 (chk (v8.Every ≠ 0) (
 ((atI p0.Rules s7.2).bind fun v10 =>
 (if (p1.tmod v8.Every) = v10.Rest then
 ((atI p0.Rules s7.2).bind fun v11 =>
 some v11.Leap)
 else
 some s7.1))))) : Option Bool).bind fun v12 =>
 some (.inl (v12, w64 (s7.2 + 1))))
 else
 some (.inr s7.1))) (false, 0) : Option Bool).bind fun v13 =>
 some v13)

def wQ (p0 : Int) (p1 : Int) : Option Int :=
 (if p0 < p1 then
 some p0
 else
 some p1)

def oZ (p0 : aB) (p1 : Int) (p2 : Int) (p3 : Int) (p4 : Int) : Option Int :=
 ((cO (S := Int × Int × Int) (X := Int × Int) (fun s4 =>
 (if s4.2.2 < p3 then
 ((((nT p0 s4.2.2).bind fun v5 =>
 (if v5 = true then
 some (w64 (s4.1 + 1))
 else
 some s4.1)) : Option Int).bind fun v6 =>
 some (.inl (v6, w64 (s4.2.1 + 1), w64 (s4.2.2 + p2))))
 else
 some (.inr (s4.1, s4.2.1)))) (0, 0, p1) : Option (Int × Int)).bind fun v7 =>
 ((atI p0.Months p4).bind fun v8 =>
 (if v7.2 < (w64 (2 * v7.1)) then
 some v8.Leap
 else
 (if (w64 (2 * v7.1)) < v7.2 then
 some v8.Days
 else
 ((wQ v8.Leap v8.Days).bind fun v9 =>
 some v9)))))

def jX (p0 : aB) (p1 : Int) (p2 : Int) : Option Int :=
 ((nT p0 p1).bind fun v1 =>
 (if v1 = true then
 ((atI p0.Months p2).bind fun v2 =>
 some v2.Leap)
 else
 ((atI p0.Months p2).bind fun v3 =>
 some v3.Days)))

def pO (p0 : aB) (p1 : List Int) (p2 : Int) (p3 : Int) : Option (aOf × Bool) :=
 (chk ((p0.Months.length : Int) ≠ 0) (
 ((jX p0 p2 p3).bind fun v2 =>
 (chk ((w64 ((p1.length : Int).tdiv (p0.Months.length : Int))) ≠ 0) (
 ((atI p1 (w64 ((w64 ((p2.tmod (w64 ((p1.length : Int).tdiv (p0.Months.length : Int)))) * (p0.Months.length : Int))) + p3))).bind fun v4 =>
 some ((⟨p2, w64 (p3 + 1), v4, v2⟩ : aOf), decide (v4 ≠ v2))))))))

def oU (p0 : aB) (p1 : List Int) (p2 : Int) : Option Int :=
 ((cO (S := Int × Int) (X := Int) (fun s9 =>
 (if s9.2 < p2 then
 ((cO (S := Int × Int) (X := Int) (fun s13 =>
 (if s13.2 < (p0.Months.length : Int) then
 ((((pO p0 p1 s9.2 s13.2).bind fun v14 =>
 (if v14.2 = true then
 some (w64 (s13.1 + 1))
 else
 some s13.1)) : Option Int).bind fun v15 =>
 some (.inl (v15, w64 (s13.2 + 1))))
 else
 some (.inr s13.1))) (s9.1, 0) : Option Int).bind fun v16 =>
 some (.inl (v16, w64 (s9.2 + 1))))
 else
 some (.inr s9.1))) (0, 0) : Option Int).bind fun v17 =>
 some v17)

def qK (p0 : aB) (p1 : Int) : Option (List Int × Int × Int) :=
 ((mT p0).bind fun v1 =>
 (if (!v1) = true then
 some (([] : List Int), 0, 1)
 else
 ((sC p0 p1).bind fun v2 =>
 (if (!v2) = true then
 some (([] : List Int), 0, 2)
 else
 ((nA p0 p1).bind fun v3 =>
 ((cO (S := Int × List Int) (X := List Int) (fun s12 =>
 (if s12.1 < p1 then
 ((cO (S := Int × List Int) (X := List Int) (fun s16 =>
 (if s16.1 < (p0.Months.length : Int) then
 ((oZ p0 s12.1 p1 v3 s16.1).bind fun v17 =>
 (chk ((s16.2.length + [v17].length) * 1 * 64 ≤ 140737488355328) (
 some (.inl (w64 (s16.1 + 1), s16.2 ++ [v17])))))
 else
 some (.inr s16.2))) (0, s12.2) : Option (List Int)).bind fun v19 =>
 some (.inl (w64 (s12.1 + 1), v19)))
 else
 some (.inr s12.2))) (0, ([] : List Int)) : Option (List Int)).bind fun v20 =>
 ((oU p0 v20 v3).bind fun v21 =>
 some (v20, v21, 0))))))))

def nR (p0 : Int) : Option Int :=
 (if p0 < 0 then
 some (IntKind.u64.wrap (-(IntKind.u64.wrap p0)))
 else
 some (IntKind.u64.wrap p0))

def fJ (p0 : Int) (p1 : Int) : Option (aJ × Bool) :=
 ((nR p0).bind fun v1 =>
 ((nR p1).bind fun v2 =>
 ((cO (S := Int × Int) (X := Int) (fun s5 =>
 (if 0 < s5.2 then
 (chk (s5.2 ≠ 0) (
 some (.inl (s5.2, s5.1.tmod s5.2))))
 else
 some (.inr s5.1))) (v1, v2) : Option Int).bind fun v7 =>
 (chk (v7 ≠ 0) (
 (chk (v7 ≠ 0) (
 (((if 1000000000 < (IntKind.u64.wrap (v1.tdiv v7)) then
 some true
 else
 some (decide (1000000000 < (IntKind.u64.wrap (v2.tdiv v7))))) : Option Bool).bind fun v10 =>
 (if v10 = true then
 some ((⟨0, 0⟩ : aJ), false)
 else
 (((if ((decide (p0 < 0)) != (decide (p1 < 0))) = true then
 some (⟨w64 (-(w64 (IntKind.u64.wrap (v1.tdiv v7)))), w64 (IntKind.u64.wrap (v2.tdiv v7))⟩ : aJ)
 else
 some (⟨w64 (IntKind.u64.wrap (v1.tdiv v7)), w64 (IntKind.u64.wrap (v2.tdiv v7))⟩ : aJ)) : Option aJ).bind fun v11 =>
 some (v11, true)))))))))))

def pZ  : Option pV :=
 some (⟨60, 84, 7, 10, 2⟩ : pV)

def hJ (p0 : Int) : Option Int :=
 (if p0 < 0 then
 some (w64 (-p0))
 else
 some p0)

def sO (p0 : aJ) : Option Bool :=
 ((cN p0.Den 1 1000000000).bind fun v1 =>
 (if v1 = true then
 ((cN p0.Num (-1000000000) 1000000000).bind fun v2 =>
 (if v2 = true then
 ((hJ p0.Num).bind fun v3 =>
 ((nK v3 p0.Den).bind fun v4 =>
 some (decide (v4 = 1))))
 else
 some false))
 else
 some false))

def rU (p0 : Int) (p1 : Int) : Option Bool :=
 (if 6 ≤ p0 then
 (if p1 ≤ 120 then
 ((cN p1 p0 (w64 (p0 + 30))).bind fun v1 =>
 some v1)
 else
 some false)
 else
 some false)

def yG (p0 : pV) : Option Bool :=
 ((rU p0.LowDriver p0.HighDriver).bind fun v1 =>
 (if v1 = true then
 ((rU p0.LowDriven p0.HighDriven).bind fun v2 =>
 (if v2 = true then
 ((cN p0.Stages 1 3).bind fun v3 =>
 some v3)
 else
 some false))
 else
 some false))

def wN (p0 : aJ) : Option Bool :=
 ((cN p0.Num 1 1000000).bind fun v1 =>
 (if v1 = true then
 some (decide (p0.Den ≤ 1000000))
 else
 some false))

def jG (p0 : List Int) : Option (List Int) :=
 (chk ((([] : List Int).length + p0.length) * 1 * 64 ≤ 140737488355328) (
 some (([] : List Int) ++ p0)))

def iG (p0 : Int) (p1 : Int) (p2 : Int) : Option (List aZ) :=
 ((cO (S := List aZ × Int) (X := List aZ) (fun s38 =>
 (if s38.2 < p2 then
 ((((cO (S := Int × List aZ) (X := List aZ) (fun s56 =>
 (if s56.1 < (s38.1.length : Int) then
 (((((if 0 < s38.2 then
 ((atI s38.1 s56.1).bind fun v57 =>
 ((atI v57.teeth (w64 (s38.2 - 1))).bind fun v58 =>
 some v58))
 else
 some p0) : Option Int).bind fun v59 =>
 cO (S := Int × List aZ) (X := List aZ) (fun s66 =>
 (if s66.1 ≤ p1 then
 ((atI s38.1 s56.1).bind fun v67 =>
 ((atI s38.1 s56.1).bind fun v68 =>
 ((jG v68.teeth).bind fun v69 =>
 (chk ((v69.length + [s66.1].length) * 1 * 64 ≤ 140737488355328) (
 (chk ((s66.2.length + [(⟨w64 (v67.value * s66.1), v69 ++ [s66.1]⟩ : aZ)].length) * 2 * 64 ≤ 140737488355328) (
 some (.inl (w64 (s66.1 + 1), s66.2 ++ [(⟨w64 (v67.value * s66.1), v69 ++ [s66.1]⟩ : aZ)])))))))))
 else
 some (.inr s66.2))) (v59, s56.2)) : Option (List aZ)).bind fun v72 =>
 some (.inl (w64 (s56.1 + 1), v72)))
 else
 some (.inr s56.2))) (0, ([] : List aZ)) : Option (List aZ)).bind fun v73 =>
 some v73) : Option (List aZ)).bind fun v74 =>
 some (.inl (v74, w64 (s38.2 + 1))))
 else
 some (.inr s38.1))) ([(⟨1, []⟩ : aZ)], 0) : Option (List aZ)).bind fun v75 =>
 some v75)

def oT (p0 : List aZ) (p1 : List aZ) : Option (List aZ) :=
 ((cO (S := Int × Int × List aZ) (X := Int × List aZ) (fun s18 =>
 (if s18.2.1 < (p1.length : Int) then
 ((((cO (S := Int × List aZ) (X := Int × List aZ) (fun s25 =>
 (((if s25.1 < (p0.length : Int) then
 ((atI p0 s25.1).bind fun v26 =>
 ((atI p1 s18.2.1).bind fun v27 =>
 some (decide (v26.value ≤ v27.value))))
 else
 some false) : Option Bool).bind fun v28 =>
 (if v28 = true then
 ((atI p0 s25.1).bind fun v29 =>
 (chk ((s25.2.length + [v29].length) * 2 * 64 ≤ 140737488355328) (
 some (.inl (w64 (s25.1 + 1), s25.2 ++ [v29])))))
 else
 some (.inr (s25.1, s25.2))))) (s18.1, s18.2.2) : Option (Int × List aZ)).bind fun v31 =>
 ((atI p1 s18.2.1).bind fun v32 =>
 (chk ((v31.2.length + [v32].length) * 2 * 64 ≤ 140737488355328) (
 some (v31.1, v31.2 ++ [v32]))))) : Option (Int × List aZ)).bind fun v34 =>
 some (.inl (v34.1, w64 (s18.2.1 + 1), v34.2)))
 else
 some (.inr (s18.1, s18.2.2)))) (0, 0, ([] : List aZ)) : Option (Int × List aZ)).bind fun v35 =>
 (chk (0 ≤ v35.1 ∧ v35.1 ≤ (p0.length : Int) ∧ (p0.length : Int) ≤ (p0.length : Int)) (
 (chk ((v35.2.length + (aAv p0 v35.1 (p0.length : Int)).length) * 2 * 64 ≤ 140737488355328) (
 some (v35.2 ++ (aAv p0 v35.1 (p0.length : Int))))))))

def iP : Nat → (List aZ) → Option (List aZ)
 | 0, _ => none
 | n' + 1, p0 =>
 (if (p0.length : Int) < 2 then
 some p0
 else
 (chk (0 ≤ (0 : Int) ∧ (0 : Int) ≤ (w64 ((p0.length : Int).tdiv 2)) ∧ (w64 ((p0.length : Int).tdiv 2)) ≤ (p0.length : Int)) (
 (chk (0 ≤ (w64 ((p0.length : Int).tdiv 2)) ∧ (w64 ((p0.length : Int).tdiv 2)) ≤ (p0.length : Int) ∧ (p0.length : Int) ≤ (p0.length : Int)) (
 ((iP n' (aAv p0 (0 : Int) (w64 ((p0.length : Int).tdiv 2)))).bind fun v4 =>
 ((iP n' (aAv p0 (w64 ((p0.length : Int).tdiv 2)) (p0.length : Int))).bind fun v5 =>
 ((oT v4 v5).bind fun v6 =>
 some v6))))))))

def pP (p0 : List aZ) (p1 : Int) : Option Int :=
 ((cO (S := Int × Int) (X := Int) (fun s4 =>
 (if s4.1 < s4.2 then
 ((atI p0 (w64 ((w64 (s4.1 + s4.2)).tdiv 2))).bind fun v6 =>
 (if v6.value < p1 then
 some (.inl (w64 ((w64 ((w64 (s4.1 + s4.2)).tdiv 2)) + 1), s4.2))
 else
 some (.inl (s4.1, w64 ((w64 (s4.1 + s4.2)).tdiv 2)))))
 else
 some (.inr s4.1))) (0, (p0.length : Int)) : Option Int).bind fun v7 =>
 some v7)

def oA (p0 : List Int) : Option (List Int) :=
 ((cO (S := Int × List Int) (X := List Int) (fun s18 =>
 (if s18.1 < (p0.length : Int) then
 ((((cO (S := Int) (X := Int) (fun s23 =>
 (((if 0 < s23 then
 ((atI s18.2 (w64 (s23 - 1))).bind fun v24 =>
 ((atI p0 s18.1).bind fun v25 =>
 some (decide (v25 < v24))))
 else
 some false) : Option Bool).bind fun v26 =>
 (if v26 = true then
 some (.inl (w64 (s23 - 1)))
 else
 some (.inr s23)))) (s18.2.length : Int) : Option Int).bind fun v27 =>
 (chk (0 ≤ (0 : Int) ∧ (0 : Int) ≤ v27 ∧ v27 ≤ (s18.2.length : Int)) (
 ((atI p0 s18.1).bind fun v29 =>
 ((jG (aAv s18.2 (0 : Int) v27)).bind fun v30 =>
 (chk ((v30.length + [v29].length) * 1 * 64 ≤ 140737488355328) (
 (chk (0 ≤ v27 ∧ v27 ≤ (s18.2.length : Int) ∧ (s18.2.length : Int) ≤ (s18.2.length : Int)) (
 (chk (((v30 ++ [v29]).length + (aAv s18.2 v27 (s18.2.length : Int)).length) * 1 * 64 ≤ 140737488355328) (
 some ((v30 ++ [v29]) ++ (aAv s18.2 v27 (s18.2.length : Int)))))))))))))) : Option (List Int)).bind fun v34 =>
 some (.inl (w64 (s18.1 + 1), v34)))
 else
 some (.inr s18.2))) (0, ([] : List Int)) : Option (List Int)).bind fun v35 =>
 some v35)

def pG (p0 : List Int) (p1 : List Int) : Option (List dX) :=
 ((oA p0).bind fun v1 =>
 ((oA p1).bind fun v2 =>
 ((cO (S := Int × List dX) (X := List dX) (fun s7 =>
 (if s7.1 < (v2.length : Int) then
 ((atI v1 (w64 ((w64 ((v1.length : Int) - 1)) - s7.1))).bind fun v8 =>
 ((atI v2 s7.1).bind fun v9 =>
 (chk ((s7.2.length + [(⟨v8, v9⟩ : dX)].length) * 2 * 64 ≤ 140737488355328) (
 some (.inl (w64 (s7.1 + 1), s7.2 ++ [(⟨v8, v9⟩ : dX)]))))))
 else
 some (.inr s7.2))) (0, ([] : List dX)) : Option (List dX)).bind fun v11 =>
 some v11)))

def qD (p0 : List dX) : Option Int :=
 ((cO (S := Int × Int) (X := Int) (fun s4 =>
 (if s4.2 < (p0.length : Int) then
 ((atI p0 s4.2).bind fun v5 =>
 ((atI p0 s4.2).bind fun v6 =>
 some (.inl (w64 (s4.1 + (w64 (v5.Driver + v6.Driven))), w64 (s4.2 + 1)))))
 else
 some (.inr s4.1))) (0, 0) : Option Int).bind fun v7 =>
 some v7)

def gY (p0 : Int) : Option aJ :=
 some (⟨p0, 1⟩ : aJ)

def oK (p0 : aJ) (p1 : aJ) : Option Int :=
 (if (w64 (p0.Num * p1.Den)) < (w64 (p1.Num * p0.Den)) then
 some (-1)
 else
 (if (w64 (p1.Num * p0.Den)) < (w64 (p0.Num * p1.Den)) then
 some 1
 else
 some 0))

def lE (p0 : List dX) (p1 : List dX) : Option Int :=
 ((qD p0).bind fun v1 =>
 ((qD p1).bind fun v2 =>
 ((cO (S := Int × List Int) (X := List Int) (fun s7 =>
 (if s7.1 < (p0.length : Int) then
 ((atI p0 s7.1).bind fun v8 =>
 ((atI p0 s7.1).bind fun v9 =>
 (chk ((s7.2.length + [v8.Driver, v9.Driven].length) * 1 * 64 ≤ 140737488355328) (
 some (.inl (w64 (s7.1 + 1), s7.2 ++ [v8.Driver, v9.Driven]))))))
 else
 some (.inr s7.2))) (0, [v1]) : Option (List Int)).bind fun v11 =>
 ((cO (S := Int × List Int) (X := List Int) (fun s16 =>
 (if s16.1 < (p1.length : Int) then
 ((atI p1 s16.1).bind fun v17 =>
 ((atI p1 s16.1).bind fun v18 =>
 (chk ((s16.2.length + [v17.Driver, v18.Driven].length) * 1 * 64 ≤ 140737488355328) (
 some (.inl (w64 (s16.1 + 1), s16.2 ++ [v17.Driver, v18.Driven]))))))
 else
 some (.inr s16.2))) (0, [v2]) : Option (List Int)).bind fun v20 =>
 ((cO (S := Int) (X := Unit ⊕ Int) (fun s27 =>
 (((if s27 < (v11.length : Int) then
 some (decide (s27 < (v20.length : Int)))
 else
 some false) : Option Bool).bind fun v28 =>
 (if v28 = true then
 ((atI v11 s27).bind fun v29 =>
 ((atI v20 s27).bind fun v30 =>
 (if v29 < v30 then
 some (.inr (.inr (-1)))
 else
 ((atI v11 s27).bind fun v31 =>
 ((atI v20 s27).bind fun v32 =>
 (if v32 < v31 then
 some (.inr (.inr 1))
 else
 some (.inl (w64 (s27 + 1)))))))))
 else
 some (.inr (.inl ()))))) 0 : Option (Unit ⊕ Int)).bind fun v33x => orE v33x fun v33 =>
 ((gY (v11.length : Int)).bind fun v34 =>
 ((gY (v20.length : Int)).bind fun v35 =>
 ((oK v34 v35).bind fun v36 =>
 some v36))))))))

def gO (p0 : fI) (p1 : aJ) (p2 : aZ) (p3 : aZ) : Option fI :=
 ((hJ (w64 ((w64 (p2.value * p1.Den)) - (w64 (p3.value * p1.Num))))).bind fun v1 =>
 (((if 0 < (p0.train.length : Int) then
 some (decide ((w64 (p0.off * p3.value)) < (w64 (v1 * p0.driven))))
 else
 some false) : Option Bool).bind fun v2 =>
 (if v2 = true then
 some p0
 else
 ((pG p2.teeth p3.teeth).bind fun v3 =>
 (((if (p0.train.length : Int) = 0 then
 some true
 else
 (if (w64 (v1 * p0.driven)) < (w64 (p0.off * p3.value)) then
 some true
 else
 ((lE v3 p0.train).bind fun v4 =>
 some (decide (v4 < 0))))) : Option Bool).bind fun v5 =>
 (if v5 = true then
 some (⟨p2.value, p3.value, v1, v3⟩ : fI)
 else
 some p0))))))

def nE (p0 : aJ) (p1 : pV) : Option (List dX) :=
 ((iG p1.LowDriver p1.HighDriver p1.Stages).bind fun v1 =>
 ((iG p1.LowDriven p1.HighDriven p1.Stages).bind fun v2 =>
 ((iP aL5 v2).bind fun v3 =>
 ((cO (S := Int × fI) (X := fI) (fun s37 =>
 (if s37.1 < (v1.length : Int) then
 ((((atI v1 s37.1).bind fun v38 =>
 (chk (p0.Num ≠ 0) (
 ((pP v3 (w64 ((w64 ((w64 (v38.value * p0.Den)).tdiv p0.Num)) + 1))).bind fun v40 =>
 (((if 0 < v40 then
 ((atI v3 (w64 (v40 - 1))).bind fun v41 =>
 cO (S := Int × fI) (X := fI) (fun s48 =>
 (((if 0 ≤ s48.1 then
 ((atI v3 s48.1).bind fun v49 =>
 some (decide (v49.value = v41.value)))
 else
 some false) : Option Bool).bind fun v50 =>
 (if v50 = true then
 ((atI v1 s37.1).bind fun v51 =>
 ((atI v3 s48.1).bind fun v52 =>
 ((gO s48.2 p0 v51 v52).bind fun v53 =>
 some (.inl (w64 (s48.1 - 1), v53)))))
 else
 some (.inr s48.2)))) (w64 (v40 - 1), s37.2))
 else
 some s37.2) : Option fI).bind fun v54 =>
 cO (S := Int × fI) (X := fI) (fun s62 =>
 (((if s62.1 < (v3.length : Int) then
 ((atI v3 s62.1).bind fun v63 =>
 ((atI v3 v40).bind fun v64 =>
 some (decide (v63.value = v64.value))))
 else
 some false) : Option Bool).bind fun v65 =>
 (if v65 = true then
 ((atI v1 s37.1).bind fun v66 =>
 ((atI v3 s62.1).bind fun v67 =>
 ((gO s62.2 p0 v66 v67).bind fun v68 =>
 some (.inl (w64 (s62.1 + 1), v68)))))
 else
 some (.inr s62.2)))) (v40, v54)))))) : Option fI).bind fun v69 =>
 some (.inl (w64 (s37.1 + 1), v69)))
 else
 some (.inr s37.2))) (0, (⟨0, 0, 0, ([] : List dX)⟩ : fI)) : Option fI).bind fun v70 =>
 some v70.train))))

def tZ (p0 : dX) : Option Bool :=
 ((gU p0.Driver).bind fun v1 =>
 (if v1 = true then
 ((gU p0.Driven).bind fun v2 =>
 some v2)
 else
 some false))

def vA (p0 : List dX) : Option Bool :=
 ((cO (S := Int) (X := Unit ⊕ Bool) (fun s4 =>
 (if s4 < (p0.length : Int) then
 ((atI p0 s4).bind fun v5 =>
 ((tZ v5).bind fun v6 =>
 (if (!v6) = true then
 some (.inr (.inr false))
 else
 some (.inl (w64 (s4 + 1))))))
 else
 some (.inr (.inl ())))) 0 : Option (Unit ⊕ Bool)).bind fun v7x => orE v7x fun v7 =>
 some (decide ((p0.length : Int) ≤ 5)))

def iI (p0 : aJ) (p1 : aJ) : Option (aJ × Bool) :=
 ((fJ (w64 (p0.Num * p1.Num)) (w64 (p0.Den * p1.Den))).bind fun v1 =>
 some (v1.1, v1.2))

def oP (p0 : List dX) : Option (aJ × Bool) :=
 ((gY 1).bind fun v1 =>
 ((cO (S := Int × aJ) (X := aJ ⊕ (aJ × Bool)) (fun s7 =>
 (if s7.1 < (p0.length : Int) then
 ((atI p0 s7.1).bind fun v8 =>
 ((atI p0 s7.1).bind fun v9 =>
 ((fJ (w64 (-v8.Driver)) v9.Driven).bind fun v10 =>
 ((iI s7.2 v10.1).bind fun v11 =>
 (if (!v11.2) = true then
 some (.inr (.inr ((⟨0, 0⟩ : aJ), false)))
 else
 some (.inl (w64 (s7.1 + 1), v11.1)))))))
 else
 some (.inr (.inl s7.2)))) (0, v1) : Option (aJ ⊕ (aJ × Bool))).bind fun v12x => orE v12x fun v12 =>
 some (v12, true)))

def wD (p0 : aJ) : Option aJ :=
 some (⟨w64 (-p0.Num), p0.Den⟩ : aJ)

def wM (p0 : aJ) (p1 : aJ) : Option (aJ × Bool) :=
 ((fJ (w64 ((w64 (p0.Num * p1.Den)) + (w64 (p1.Num * p0.Den)))) (w64 (p0.Den * p1.Den))).bind fun v1 =>
 some (v1.1, v1.2))

def qM (p0 : List dX) (p1 : aJ) : Option (aJ × Bool) :=
 ((oP p0).bind fun v1 =>
 (if (!v1.2) = true then
 some ((⟨0, 0⟩ : aJ), false)
 else
 ((hJ v1.1.Num).bind fun v2 =>
 ((wD p1).bind fun v3 =>
 ((wM (⟨v2, v1.1.Den⟩ : aJ) v3).bind fun v4 =>
 some (v4.1, v4.2))))))

def tB (p0 : List dX) (p1 : aJ) : Option (aJ × Int) :=
 ((((vA p0).bind fun v1 =>
 (if (!v1) = true then
 some true
 else
 ((sO p1).bind fun v2 =>
 some (!v2)))) : Option Bool).bind fun v3 =>
 (if v3 = true then
 some ((⟨0, 0⟩ : aJ), 1)
 else
 ((qM p0 p1).bind fun v4 =>
 (if (!v4.2) = true then
 some ((⟨0, 0⟩ : aJ), 2)
 else
 ((hJ v4.1.Num).bind fun v5 =>
 some ((⟨v5, v4.1.Den⟩ : aJ), 0))))))

def tS (p0 : aJ) (p1 : pV) : Option (aA0 × Int) :=
 ((nE p0 p1).bind fun v1 =>
 ((tB v1 p0).bind fun v2 =>
 (if v2.2 ≠ 0 then
 some ((⟨([] : List dX), (⟨0, 0⟩ : aJ)⟩ : aA0), v2.2)
 else
 some ((⟨v1, v2.1⟩ : aA0), 0))))

def mS (p0 : aJ) (p1 : pV) : Option (aA0 × Int) :=
 ((((sO p0).bind fun v1 =>
 (if (!v1) = true then
 some true
 else
 ((yG p1).bind fun v2 =>
 some (!v2)))) : Option Bool).bind fun v3 =>
 (if v3 = true then
 some ((⟨([] : List dX), (⟨0, 0⟩ : aJ)⟩ : aA0), 1)
 else
 ((wN p0).bind fun v4 =>
 (if (!v4) = true then
 some ((⟨([] : List dX), (⟨0, 0⟩ : aJ)⟩ : aA0), 2)
 else
 ((tS p0 p1).bind fun v5 =>
 some (v5.1, v5.2))))))

def mB (p0 : List dX) : Option bE :=
 ((atI p0 0).bind fun v1 =>
 ((atI p0 0).bind fun v2 =>
 ((atI p0 1).bind fun v3 =>
 ((atI p0 1).bind fun v4 =>
 some (⟨[(⟨(⟨#[99, 101, 110, 116, 101, 114]⟩ : ByteArray), [v1.Driver, 12]⟩ : cQ), (⟨(⟨#[116, 104, 105, 114, 100]⟩ : ByteArray), [v2.Driven, v3.Driver]⟩ : cQ), (⟨(⟨#[101, 115, 99, 97, 112, 101]⟩ : ByteArray), [v4.Driven]⟩ : cQ), (⟨(⟨#[109, 105, 110, 117, 116, 101]⟩ : ByteArray), [36, 10]⟩ : cQ), (⟨(⟨#[104, 111, 117, 114]⟩ : ByteArray), [40]⟩ : cQ)], [(⟨0, 0, 1, 0⟩ : cH), (⟨1, 1, 2, 0⟩ : cH), (⟨0, 1, 3, 0⟩ : cH), (⟨3, 1, 4, 0⟩ : cH)]⟩ : bE)))))

def nQ (p0 : aB) : Option aB :=
 (chk ((([] : List bO).length + p0.Months.length) * 3 * 64 ≤ 140737488355328) (
 (chk ((([] : List aY).length + p0.Rules.length) * 3 * 64 ≤ 140737488355328) (
 some (⟨p0.Name, ([] : List bO) ++ p0.Months, ([] : List aY) ++ p0.Rules, p0.Week⟩ : aB)))))

def gX (p0 : ByteArray) (p1 : Int) (p2 : Int) (p3 : aB) (p4 : Int) : Option (aU × Int) :=
 ((mT p3).bind fun v1 =>
 (if (!v1) = true then
 some ((⟨(⟨#[]⟩ : ByteArray), (⟨([] : List cQ), ([] : List cH)⟩ : bE), 0, 0, 0, 0, 0, (⟨(⟨#[]⟩ : ByteArray), ([] : List bO), ([] : List aY), 0⟩ : aB), ([] : List Int), 0⟩ : aU), 1)
 else
 ((kU p0).bind fun v2 =>
 (if (!v2) = true then
 some ((⟨(⟨#[]⟩ : ByteArray), (⟨([] : List cQ), ([] : List cH)⟩ : bE), 0, 0, 0, 0, 0, (⟨(⟨#[]⟩ : ByteArray), ([] : List bO), ([] : List aY), 0⟩ : aB), ([] : List Int), 0⟩ : aU), 7)
 else
 ((((cN p1 1 36000).bind fun v3 =>
 (if (!v3) = true then
 some true
 else
 ((gU p2).bind fun v4 =>
 some (!v4)))) : Option Bool).bind fun v5 =>
 (if v5 = true then
 some ((⟨(⟨#[]⟩ : ByteArray), (⟨([] : List cQ), ([] : List cH)⟩ : bE), 0, 0, 0, 0, 0, (⟨(⟨#[]⟩ : ByteArray), ([] : List bO), ([] : List aY), 0⟩ : aB), ([] : List Int), 0⟩ : aU), 2)
 else
 ((qK p3 p4).bind fun v6 =>
 (if v6.2.2 ≠ 0 then
 some ((⟨(⟨#[]⟩ : ByteArray), (⟨([] : List cQ), ([] : List cH)⟩ : bE), 0, 0, 0, 0, 0, (⟨(⟨#[]⟩ : ByteArray), ([] : List bO), ([] : List aY), 0⟩ : aB), ([] : List Int), 0⟩ : aU), v6.2.2)
 else
 ((fJ p1 (w64 (2 * p2))).bind fun v7 =>
 ((pZ).bind fun v8 =>
 ((mS v7.1 v8).bind fun v9 =>
 (((if v9.2 ≠ 0 then
 some true
 else
 some (decide (v9.1.Error.Num ≠ 0))) : Option Bool).bind fun v10 =>
 (if v10 = true then
 some ((⟨(⟨#[]⟩ : ByteArray), (⟨([] : List cQ), ([] : List cH)⟩ : bE), 0, 0, 0, 0, 0, (⟨(⟨#[]⟩ : ByteArray), ([] : List bO), ([] : List aY), 0⟩ : aB), ([] : List Int), 0⟩ : aU), 3)
 else
 ((mB v9.1.Train).bind fun v11 =>
 ((nQ p3).bind fun v12 =>
 some ((⟨p0, v11, 0, 4, 2, p2, p1, v12, v6.1, 2⟩ : aU), 0))))))))))))))))

def uX (p0 : aB) (p1 : Int) (p2 : Int) : Option (List Int) :=
 ((cO (S := Int × List Int) (X := List Int) (fun s9 =>
 (if s9.1 < (w64 (p1 + p2)) then
 ((cO (S := Int × List Int) (X := List Int) (fun s13 =>
 (if s13.1 < (p0.Months.length : Int) then
 ((jX p0 s9.1 s13.1).bind fun v14 =>
 (chk ((s13.2.length + [v14].length) * 1 * 64 ≤ 140737488355328) (
 some (.inl (w64 (s13.1 + 1), s13.2 ++ [v14])))))
 else
 some (.inr s13.2))) (0, s9.2) : Option (List Int)).bind fun v16 =>
 some (.inl (w64 (s9.1 + 1), v16)))
 else
 some (.inr s9.2))) (p1, ([] : List Int)) : Option (List Int)).bind fun v17 =>
 some v17)

def kL (p0 : bP) : Option (aU × bP) :=
 ((mU p0).bind fun v1 =>
 ((fA v1.2 [3600, 7200, 5400, 18000, 4800, 3960]).bind fun v2 =>
 ((fA v2.2 [30, 15, 36, 20]).bind fun v3 =>
 ((bS v3.2 4).bind fun v4 =>
 ((gX (⟨#[99, 108, 111, 99, 107]⟩ : ByteArray) v2.1 v3.1 v1.1 (w64 (1 + v4.1))).bind fun v5 =>
 (((if v5.2 ≠ 0 then
 ((mB [(⟨64, 8⟩ : dX), (⟨60, 8⟩ : dX)]).bind fun v6 =>
 ((uX v1.1 0 1).bind fun v7 =>
 some ((⟨#[112, 108, 97, 105, 110]⟩ : ByteArray), v6.Arbors, 0, 4, 2, 30, 3600, v1.1, 0, v6.Meshes, v7)))
 else
 some (v5.1.Name, v5.1.Works.Arbors, v5.1.Minute, v5.1.Hour, v5.1.Escape, v5.1.Teeth, v5.1.Beats, v5.1.Calendar, v5.1.Strike, v5.1.Works.Meshes, v5.1.Cam)) : Option (ByteArray × List cQ × Int × Int × Int × Int × Int × aB × Int × List cH × List Int)).bind fun v8 =>
 ((((fE v4.2 4).bind fun v9 =>
 (if v9.1 = true then
 ((bS v9.2 3).bind fun v10 =>
 some (v10.2, v10.1))
 else
 some (v9.2, v8.2.2.2.2.2.2.2.2.1))) : Option (bP × Int)).bind fun v11 =>
 some ((⟨v8.1, (⟨v8.2.1, v8.2.2.2.2.2.2.2.2.2.1⟩ : bE), v8.2.2.1, v8.2.2.2.1, v8.2.2.2.2.1, v8.2.2.2.2.2.1, v8.2.2.2.2.2.2.1, v8.2.2.2.2.2.2.2.1, v8.2.2.2.2.2.2.2.2.2.2, v11.2⟩ : aU), v11.1))))))))

def kV (p0 : bP) (p1 : aB) : Option (cA × bP) :=
 ((fA p0 [0, 1900, 2000, 2023, 2024, 2100, 9999, 4, 33]).bind fun v1 =>
 ((bS v1.2 (p1.Months.length : Int)).bind fun v2 =>
 ((jX p1 v1.1 (w64 ((w64 (1 + v2.1)) - 1))).bind fun v3 =>
 ((bS v2.2 v3).bind fun v4 =>
 ((((fE v4.2 3).bind fun v5 =>
 (if v5.1 = true then
 some (v5.2, (⟨v1.1, w64 (1 + v2.1), v3⟩ : cA))
 else
 some (v5.2, (⟨v1.1, w64 (1 + v2.1), w64 (1 + v4.1)⟩ : cA)))) : Option (bP × cA)).bind fun v6 =>
 some (v6.2, v6.1))))))

def pQ (p0 : cQ) : Option Bool :=
 ((cO (S := Int) (X := Unit ⊕ Bool) (fun s4 =>
 (if s4 < (p0.Wheels.length : Int) then
 ((atI p0.Wheels s4).bind fun v5 =>
 ((gU v5).bind fun v6 =>
 (if (!v6) = true then
 some (.inr (.inr false))
 else
 some (.inl (w64 (s4 + 1))))))
 else
 some (.inr (.inl ())))) 0 : Option (Unit ⊕ Bool)).bind fun v7x => orE v7x fun v7 =>
 ((kU p0.Name).bind fun v8 =>
 (if v8 = true then
 some (decide ((p0.Wheels.length : Int) ≤ 5))
 else
 some false)))

def qR (p0 : bE) (p1 : ByteArray) : Option Int :=
 ((cO (S := Int) (X := Unit ⊕ Int) (fun s3 =>
 (if s3 < (p0.Arbors.length : Int) then
 ((atI p0.Arbors s3).bind fun v4 =>
 (if v4.Name = p1 then
 some (.inr (.inr s3))
 else
 some (.inl (w64 (s3 + 1)))))
 else
 some (.inr (.inl ())))) 0 : Option (Unit ⊕ Int)).bind fun v5x => orE v5x fun v5 =>
 some (-1))

def mA (p0 : bE) (p1 : Int) (p2 : Int) : Option Bool :=
 ((cN p1 0 (w64 ((p0.Arbors.length : Int) - 1))).bind fun v1 =>
 (if v1 = true then
 ((atI p0.Arbors p1).bind fun v2 =>
 ((cN p2 0 (w64 ((v2.Wheels.length : Int) - 1))).bind fun v3 =>
 some v3))
 else
 some false))

def qH (p0 : bE) (p1 : cH) : Option Bool :=
 (if p1.A ≠ p1.B then
 ((mA p0 p1.A p1.WheelA).bind fun v1 =>
 (if v1 = true then
 ((mA p0 p1.B p1.WheelB).bind fun v2 =>
 some v2)
 else
 some false))
 else
 some false)

def pB (p0 : cH) (p1 : cH) : Option Bool :=
 (if p0 = p1 then
 some true
 else
 (if p0.A = p1.B then
 (if p0.WheelA = p1.WheelB then
 (if p0.B = p1.A then
 some (decide (p0.WheelB = p1.WheelA))
 else
 some false)
 else
 some false)
 else
 some false))

def oS (p0 : bE) (p1 : cH) (p2 : Int) : Option Bool :=
 ((cO (S := Int) (X := Unit ⊕ Bool) (fun s4 =>
 (if s4 < p2 then
 ((atI p0.Meshes s4).bind fun v5 =>
 ((pB v5 p1).bind fun v6 =>
 (if v6 = true then
 some (.inr (.inr true))
 else
 some (.inl (w64 (s4 + 1))))))
 else
 some (.inr (.inl ())))) 0 : Option (Unit ⊕ Bool)).bind fun v7x => orE v7x fun v7 =>
 some false)

def uT (p0 : bE) : Option Bool :=
 ((cO (S := Int) (X := Unit ⊕ Bool) (fun s7 =>
 (if s7 < (p0.Arbors.length : Int) then
 ((((atI p0.Arbors s7).bind fun v8 =>
 ((pQ v8).bind fun v9 =>
 (if (!v9) = true then
 some true
 else
 ((atI p0.Arbors s7).bind fun v10 =>
 ((qR p0 v10.Name).bind fun v11 =>
 some (decide (v11 ≠ s7))))))) : Option Bool).bind fun v12 =>
 (if v12 = true then
 some (.inr (.inr false))
 else
 some (.inl (w64 (s7 + 1)))))
 else
 some (.inr (.inl ())))) 0 : Option (Unit ⊕ Bool)).bind fun v13x => orE v13x fun v13 =>
 ((cO (S := Int) (X := Unit ⊕ Bool) (fun s20 =>
 (if s20 < (p0.Meshes.length : Int) then
 ((((atI p0.Meshes s20).bind fun v21 =>
 ((qH p0 v21).bind fun v22 =>
 (if (!v22) = true then
 some true
 else
 ((atI p0.Meshes s20).bind fun v23 =>
 ((oS p0 v23 s20).bind fun v24 =>
 some v24))))) : Option Bool).bind fun v25 =>
 (if v25 = true then
 some (.inr (.inr false))
 else
 some (.inl (w64 (s20 + 1)))))
 else
 some (.inr (.inl ())))) 0 : Option (Unit ⊕ Bool)).bind fun v26x => orE v26x fun v26 =>
 (if (p0.Arbors.length : Int) ≤ 16 then
 some (decide ((p0.Meshes.length : Int) ≤ 24))
 else
 some false)))

def kC (p0 : bE) (p1 : Int) : Option Bool :=
 ((cN p1 0 (w64 ((p0.Arbors.length : Int) - 1))).bind fun v1 =>
 some v1)

def qP (p0 : List Int) : Option Bool :=
 ((cO (S := Int) (X := Unit ⊕ Bool) (fun s4 =>
 (if s4 < (p0.length : Int) then
 ((atI p0 s4).bind fun v5 =>
 ((cN v5 1 60).bind fun v6 =>
 (if (!v6) = true then
 some (.inr (.inr false))
 else
 some (.inl (w64 (s4 + 1))))))
 else
 some (.inr (.inl ())))) 0 : Option (Unit ⊕ Bool)).bind fun v7x => orE v7x fun v7 =>
 ((cN (p0.length : Int) 1 260).bind fun v8 =>
 some v8))

def sW (p0 : aU) : Option Bool :=
 ((((kU p0.Name).bind fun v1 =>
 (if (!v1) = true then
 some true
 else
 ((uT p0.Works).bind fun v2 =>
 (if (!v2) = true then
 some true
 else
 ((kC p0.Works p0.Minute).bind fun v3 =>
 (if (!v3) = true then
 some true
 else
 ((kC p0.Works p0.Hour).bind fun v4 =>
 (if (!v4) = true then
 some true
 else
 ((kC p0.Works p0.Escape).bind fun v5 =>
 some (!v5)))))))))) : Option Bool).bind fun v6 =>
 (if v6 = true then
 some false
 else
 ((gU p0.Teeth).bind fun v7 =>
 (if v7 = true then
 ((cN p0.Beats 1 36000).bind fun v8 =>
 (if v8 = true then
 ((mT p0.Calendar).bind fun v9 =>
 (if v9 = true then
 ((qP p0.Cam).bind fun v10 =>
 (if v10 = true then
 ((cN p0.Strike 0 2).bind fun v11 =>
 some v11)
 else
 some false))
 else
 some false))
 else
 some false))
 else
 some false))))

def nN (p0 : bE) (p1 : cH) : Option dX :=
 ((atI p0.Arbors p1.A).bind fun v1 =>
 ((atI v1.Wheels p1.WheelA).bind fun v2 =>
 ((atI p0.Arbors p1.B).bind fun v3 =>
 ((atI v3.Wheels p1.WheelB).bind fun v4 =>
 some (⟨v2, v4⟩ : dX)))))

def gR (p0 : bE) (p1 : List Bool) (p2 : List aJ) : Option (Bool × Bool × List Bool × List aJ) :=
 ((cO (S := Bool × Int × List Bool × List aJ) (X := (Bool × List Bool × List aJ) ⊕ (Bool × Bool × List Bool × List aJ)) (fun s14 =>
 (if s14.2.1 < (p0.Meshes.length : Int) then
 ((((atI p0.Meshes s14.2.1).bind fun v15 =>
 ((nN p0 v15).bind fun v16 =>
 ((atI s14.2.2.1 v15.A).bind fun v17 =>
 ((atI s14.2.2.1 v15.B).bind fun v18 =>
 (if (v17 == v18) = true then
 some (.inl (s14.1, s14.2.2.1, s14.2.2.2))
 else
 ((((atI s14.2.2.1 v15.B).bind fun v19 =>
 (if v19 = true then
 some ((⟨v15.B, 0, v15.A, 0⟩ : cH), (⟨v16.Driven, v16.Driver⟩ : dX))
 else
 some (v15, v16))) : Option (cH × dX)).bind fun v20 =>
 ((fJ (w64 (-v20.2.Driver)) v20.2.Driven).bind fun v21 =>
 ((atI s14.2.2.2 v20.1.A).bind fun v22 =>
 ((iI v22 v21.1).bind fun v23 =>
 (if (!v23.2) = true then
 some (.inr (.inr (.inr (false, false, s14.2.2.1, s14.2.2.2))))
 else
 ((atI s14.2.2.2 v20.1.B).bind fun v24 =>
 ((atI s14.2.2.1 v20.1.B).bind fun v25 =>
 some (.inl (true, List.set s14.2.2.1 v20.1.B.toNat true, List.set s14.2.2.2 v20.1.B.toNat v23.1)))))))))))))) : Option ((Bool × List Bool × List aJ) ⊕ ((Bool × Int × List Bool × List aJ) ⊕ ((Bool × List Bool × List aJ) ⊕ (Bool × Bool × List Bool × List aJ))))).bind fun v26x => orE v26x fun v26 =>
 some (.inl (v26.1, w64 (s14.2.1 + 1), v26.2.1, v26.2.2)))
 else
 some (.inr (.inl (s14.1, s14.2.2.1, s14.2.2.2))))) (false, 0, p1, p2) : Option ((Bool × List Bool × List aJ) ⊕ (Bool × Bool × List Bool × List aJ))).bind fun v27x => orE v27x fun v27 =>
 some (v27.1, true, v27.2.1, v27.2.2))

def qO (p0 : bE) (p1 : cH) (p2 : List aJ) : Option Bool :=
 ((nN p0 p1).bind fun v1 =>
 ((fJ (w64 (-v1.Driver)) v1.Driven).bind fun v2 =>
 ((atI p2 p1.A).bind fun v3 =>
 ((iI v3 v2.1).bind fun v4 =>
 (if v4.2 = true then
 ((atI p2 p1.B).bind fun v5 =>
 some (decide (v4.1 = v5)))
 else
 some false)))))

def nG (p0 : bE) (p1 : Int) : Option (List aJ × Int) :=
 ((kC p0 p1).bind fun v1 =>
 (if (!v1) = true then
 some (([] : List aJ), 2)
 else
 (chk (0 ≤ (p0.Arbors.length : Int) ∧ (p0.Arbors.length : Int) = (p0.Arbors.length : Int) ∧ (p0.Arbors.length : Int).toNat * 1 * 64 ≤ 281474976710656) (
 (chk (0 ≤ (p0.Arbors.length : Int) ∧ (p0.Arbors.length : Int) = (p0.Arbors.length : Int) ∧ (p0.Arbors.length : Int).toNat * 2 * 64 ≤ 281474976710656) (
 ((atI (List.replicate (p0.Arbors.length : Int).toNat false) p1).bind fun v4 =>
 ((gY 1).bind fun v5 =>
 ((atI (List.replicate (p0.Arbors.length : Int).toNat (⟨0, 0⟩ : aJ)) p1).bind fun v6 =>
 ((cO (S := Bool × List Bool × List aJ) (X := (List Bool × List aJ) ⊕ (List aJ × Int)) (fun s11 =>
 (if s11.1 = true then
 ((gR p0 s11.2.1 s11.2.2).bind fun v12 =>
 (chk (v12.2.2.1.length = s11.2.1.length) (
 (chk (v12.2.2.2.length = s11.2.2.length) (
 (if (!v12.2.1) = true then
 some (.inr (.inr (([] : List aJ), 2)))
 else
 some (.inl (v12.1, v12.2.2.1, v12.2.2.2))))))))
 else
 some (.inr (.inl (s11.2.1, s11.2.2))))) (true, List.set (List.replicate (p0.Arbors.length : Int).toNat false) p1.toNat true, List.set (List.replicate (p0.Arbors.length : Int).toNat (⟨0, 0⟩ : aJ)) p1.toNat v5) : Option ((List Bool × List aJ) ⊕ (List aJ × Int))).bind fun v15x => orE v15x fun v15 =>
 ((cO (S := Int) (X := Unit ⊕ (List aJ × Int)) (fun s18 =>
 (if s18 < (v15.1.length : Int) then
 ((atI v15.1 s18).bind fun v19 =>
 (if (!v19) = true then
 some (.inr (.inr (([] : List aJ), 6)))
 else
 some (.inl (w64 (s18 + 1)))))
 else
 some (.inr (.inl ())))) 0 : Option (Unit ⊕ (List aJ × Int))).bind fun v20x => orE v20x fun v20 =>
 ((cO (S := Int) (X := Unit ⊕ (List aJ × Int)) (fun s24 =>
 (if s24 < (p0.Meshes.length : Int) then
 ((atI p0.Meshes s24).bind fun v25 =>
 ((qO p0 v25 v15.2).bind fun v26 =>
 (if (!v26) = true then
 some (.inr (.inr (([] : List aJ), 10)))
 else
 some (.inl (w64 (s24 + 1))))))
 else
 some (.inr (.inl ())))) 0 : Option (Unit ⊕ (List aJ × Int))).bind fun v27x => orE v27x fun v27 =>
 some (v15.2, 0)))))))))))))

def rT (p0 : aU) (p1 : aJ) : Option Bool :=
 ((hJ p1.Num).bind fun v1 =>
 some (decide ((w64 ((w64 (2 * p0.Teeth)) * v1)) = (w64 (p0.Beats * p1.Den)))))

def nM (p0 : aB) (p1 : List Int) : Option Int :=
 ((((mT p0).bind fun v1 =>
 (if (!v1) = true then
 some true
 else
 ((qP p1).bind fun v2 =>
 some (!v2)))) : Option Bool).bind fun v3 =>
 (if v3 = true then
 some 1
 else
 (chk ((p0.Months.length : Int) ≠ 0) (
 (if ((p1.length : Int).tmod (p0.Months.length : Int)) ≠ 0 then
 some 6
 else
 some 0)))))

def kP (p0 : aU) : Option (List ByteArray) :=
 ((nG p0.Works p0.Minute).bind fun v1 =>
 (((if v1.2 ≠ 0 then
 (chk ((([] : List ByteArray).length + [(⟨#[119, 111, 114, 107, 115]⟩ : ByteArray)].length) * 1 * 64 ≤ 140737488355328) (
 some (([] : List ByteArray) ++ [(⟨#[119, 111, 114, 107, 115]⟩ : ByteArray)])))
 else
 ((((atI v1.1 p0.Hour).bind fun v3 =>
 (if v3 ≠ (⟨1, 12⟩ : aJ) then
 (chk ((([] : List ByteArray).length + [(⟨#[104, 111, 117, 114]⟩ : ByteArray)].length) * 1 * 64 ≤ 140737488355328) (
 some (([] : List ByteArray) ++ [(⟨#[104, 111, 117, 114]⟩ : ByteArray)])))
 else
 some ([] : List ByteArray))) : Option (List ByteArray)).bind fun v5 =>
 ((atI v1.1 p0.Escape).bind fun v6 =>
 ((rT p0 v6).bind fun v7 =>
 (if (!v7) = true then
 (chk ((v5.length + [(⟨#[98, 101, 97, 116, 115]⟩ : ByteArray)].length) * 1 * 64 ≤ 140737488355328) (
 some (v5 ++ [(⟨#[98, 101, 97, 116, 115]⟩ : ByteArray)])))
 else
 some v5))))) : Option (List ByteArray)).bind fun v9 =>
 ((((nM p0.Calendar p0.Cam).bind fun v10 =>
 (if v10 ≠ 0 then
 (chk ((v9.length + [(⟨#[99, 97, 109]⟩ : ByteArray)].length) * 1 * 64 ≤ 140737488355328) (
 some (v9 ++ [(⟨#[99, 97, 109]⟩ : ByteArray)])))
 else
 some v9)) : Option (List ByteArray)).bind fun v12 =>
 some v12)))

def tF (p0 : Int) : Option Bool :=
 ((cN p0 0 9999).bind fun v1 =>
 some v1)

def uQ (p0 : aB) (p1 : cA) : Option Bool :=
 ((((tF p1.Year).bind fun v1 =>
 (if (!v1) = true then
 some true
 else
 ((cN p1.Month 1 (p0.Months.length : Int)).bind fun v2 =>
 some (!v2)))) : Option Bool).bind fun v3 =>
 (if v3 = true then
 some false
 else
 ((jX p0 p1.Year (w64 (p1.Month - 1))).bind fun v4 =>
 ((cN p1.Day 1 v4).bind fun v5 =>
 some v5))))

def jE (p0 : Int) (p1 : Int) : Option Int :=
 (if p1 < p0 then
 some p0
 else
 some p1)

def iV (p0 : aB) (p1 : List Int) (p2 : cA) (p3 : Int) : Option (aH × Int) :=
 ((nM p0 p1).bind fun v1 =>
 (if v1 ≠ 0 then
 some ((⟨([] : List Int), 0, 0, 0, 0, 0, 0⟩ : aH), v1)
 else
 ((((uQ p0 p2).bind fun v2 =>
 (if (!v2) = true then
 some true
 else
 ((cN p3 1 p0.Week).bind fun v3 =>
 some (!v3)))) : Option Bool).bind fun v4 =>
 (if v4 = true then
 some ((⟨([] : List Int), 0, 0, 0, 0, 0, 0⟩ : aH), 2)
 else
 ((jG p1).bind fun v5 =>
 (chk ((p0.Months.length : Int) ≠ 0) (
 (chk ((w64 ((p1.length : Int).tdiv (p0.Months.length : Int))) ≠ 0) (
 ((cO (S := Int × Int) (X := Int) (fun s11 =>
 (if s11.1 < (p1.length : Int) then
 ((atI p1 s11.1).bind fun v12 =>
 ((jE s11.2 v12).bind fun v13 =>
 some (.inl (w64 (s11.1 + 1), v13))))
 else
 some (.inr s11.2))) (0, 0) : Option Int).bind fun v14 =>
 ((cO (S := Int × Int) (X := Int) (fun s20 =>
 (if s20.1 < (p0.Months.length : Int) then
 ((atI p0.Months s20.1).bind fun v21 =>
 ((atI p0.Months s20.1).bind fun v22 =>
 ((jE v21.Days v22.Leap).bind fun v23 =>
 ((jE s20.2 v23).bind fun v24 =>
 some (.inl (w64 (s20.1 + 1), v24))))))
 else
 some (.inr s20.2))) (0, v14) : Option Int).bind fun v25 =>
 some ((⟨v5, (p0.Months.length : Int), v25, w64 ((w64 ((w64 ((p2.Year.tmod (w64 ((p1.length : Int).tdiv (p0.Months.length : Int)))) * (p0.Months.length : Int))) + p2.Month)) - 1), p2.Day, p0.Week, p3⟩ : aH), 0))))))))))))

def kB (p0 : aU) (p1 : cA) (p2 : Int) : Option (aH × Int) :=
 ((iV p0.Calendar p0.Cam p1 p2).bind fun v1 =>
 some (v1.1, v1.2))

def sZ (p0 : bE) : Option bE :=
 (chk ((([] : List cH).length + p0.Meshes.length) * 4 * 64 ≤ 140737488355328) (
 ((cO (S := Int × List cQ) (X := List cQ) (fun s7 =>
 (if s7.1 < (p0.Arbors.length : Int) then
 ((atI p0.Arbors s7.1).bind fun v8 =>
 ((atI p0.Arbors s7.1).bind fun v9 =>
 ((jG v9.Wheels).bind fun v10 =>
 (chk ((s7.2.length + 1) * 2 * 64 ≤ 140737488355328) (
 some (.inl (w64 (s7.1 + 1), s7.2 ++ [(⟨v8.Name, v10⟩ : cQ)])))))))
 else
 some (.inr s7.2))) (0, ([] : List cQ)) : Option (List cQ)).bind fun v12 =>
 some (⟨v12, ([] : List cH) ++ p0.Meshes⟩ : bE))))

def qG (p0 : aU) : Option aU :=
 ((sZ p0.Works).bind fun v1 =>
 ((nQ p0.Calendar).bind fun v2 =>
 ((jG p0.Cam).bind fun v3 =>
 some (⟨p0.Name, v1, p0.Minute, p0.Hour, p0.Escape, p0.Teeth, p0.Beats, v2, v3, p0.Strike⟩ : aU))))

def qB (p0 : aU) (p1 : cA) (p2 : Int) : Option (dM × Int) :=
 ((sW p0).bind fun v1 =>
 (if (!v1) = true then
 some ((⟨(⟨(⟨#[]⟩ : ByteArray), (⟨([] : List cQ), ([] : List cH)⟩ : bE), 0, 0, 0, 0, 0, (⟨(⟨#[]⟩ : ByteArray), ([] : List bO), ([] : List aY), 0⟩ : aB), ([] : List Int), 0⟩ : aU), (⟨0, 0, 0⟩ : cA), 0, 0, (⟨([] : List Int), 0, 0, 0, 0, 0, 0⟩ : aH)⟩ : dM), 1)
 else
 ((kP p0).bind fun v2 =>
 (if 0 < (v2.length : Int) then
 some ((⟨(⟨(⟨#[]⟩ : ByteArray), (⟨([] : List cQ), ([] : List cH)⟩ : bE), 0, 0, 0, 0, 0, (⟨(⟨#[]⟩ : ByteArray), ([] : List bO), ([] : List aY), 0⟩ : aB), ([] : List Int), 0⟩ : aU), (⟨0, 0, 0⟩ : cA), 0, 0, (⟨([] : List Int), 0, 0, 0, 0, 0, 0⟩ : aH)⟩ : dM), 6)
 else
 ((kB p0 p1 p2).bind fun v3 =>
 (if v3.2 ≠ 0 then
 some ((⟨(⟨(⟨#[]⟩ : ByteArray), (⟨([] : List cQ), ([] : List cH)⟩ : bE), 0, 0, 0, 0, 0, (⟨(⟨#[]⟩ : ByteArray), ([] : List bO), ([] : List aY), 0⟩ : aB), ([] : List Int), 0⟩ : aU), (⟨0, 0, 0⟩ : cA), 0, 0, (⟨([] : List Int), 0, 0, 0, 0, 0, 0⟩ : aH)⟩ : dM), v3.2)
 else
 ((qG p0).bind fun v4 =>
 some ((⟨v4, p1, p2, 0, v3.1⟩ : dM), 0))))))))

def pE (p0 : aH) : Option Bool :=
 ((((qP p0.Cam).bind fun v1 =>
 (if (!v1) = true then
 some true
 else
 (if p0.Months < 1 then
 some true
 else
 (chk (p0.Months ≠ 0) (
 (if ((p0.Cam.length : Int).tmod p0.Months) ≠ 0 then
 some true
 else
 ((cN p0.Teeth 1 60).bind fun v3 =>
 some (!v3)))))))) : Option Bool).bind fun v4 =>
 (if v4 = true then
 some false
 else
 ((cO (S := Int) (X := Unit ⊕ Bool) (fun s7 =>
 (if s7 < (p0.Cam.length : Int) then
 ((atI p0.Cam s7).bind fun v8 =>
 (if p0.Teeth < v8 then
 some (.inr (.inr false))
 else
 some (.inl (w64 (s7 + 1)))))
 else
 some (.inr (.inl ())))) 0 : Option (Unit ⊕ Bool)).bind fun v9x => orE v9x fun v9 =>
 ((cN p0.At 0 (w64 ((p0.Cam.length : Int) - 1))).bind fun v10 =>
 (if v10 = true then
 ((cN p0.Day 1 p0.Teeth).bind fun v11 =>
 (if v11 = true then
 ((cN p0.Week 1 12).bind fun v12 =>
 (if v12 = true then
 ((cN p0.Weekday 1 p0.Week).bind fun v13 =>
 some v13)
 else
 some false))
 else
 some false))
 else
 some false)))))

def hP (p0 : List Int) (p1 : List Int) : Option Bool :=
 (if (p0.length : Int) ≠ (p1.length : Int) then
 some false
 else
 ((cO (S := Int) (X := Unit ⊕ Bool) (fun s4 =>
 (if s4 < (p0.length : Int) then
 ((atI p0 s4).bind fun v5 =>
 ((atI p1 s4).bind fun v6 =>
 (if v5 ≠ v6 then
 some (.inr (.inr false))
 else
 some (.inl (w64 (s4 + 1))))))
 else
 some (.inr (.inl ())))) 0 : Option (Unit ⊕ Bool)).bind fun v7x => orE v7x fun v7 =>
 some true))

def pD (p0 : dM) : Option Bool :=
 ((((sW p0.Movement).bind fun v1 =>
 (if (!v1) = true then
 some true
 else
 ((kP p0.Movement).bind fun v2 =>
 (if 0 < (v2.length : Int) then
 some true
 else
 ((cN p0.Clock 0 1000000000).bind fun v3 =>
 (if (!v3) = true then
 some true
 else
 ((pE p0.Dial).bind fun v4 =>
 some (!v4)))))))) : Option Bool).bind fun v5 =>
 (if v5 = true then
 some false
 else
 ((kB p0.Movement p0.Start p0.First).bind fun v6 =>
 (if v6.2 = 0 then
 ((hP p0.Dial.Cam p0.Movement.Cam).bind fun v7 =>
 (if v7 = true then
 (if p0.Dial.Months = v6.1.Months then
 (if p0.Dial.Week = v6.1.Week then
 some (decide (p0.Dial.Teeth = v6.1.Teeth))
 else
 some false)
 else
 some false)
 else
 some false))
 else
 some false))))

def jL (p0 : aH) : Option aH :=
 ((jG p0.Cam).bind fun v1 =>
 some (⟨v1, p0.Months, p0.Teeth, p0.At, p0.Day, p0.Week, p0.Weekday⟩ : aH))

def nZ (p0 : dM) : Option dM :=
 ((qG p0.Movement).bind fun v1 =>
 ((jL p0.Dial).bind fun v2 =>
 some (⟨v1, p0.Start, p0.First, p0.Clock, v2⟩ : dM)))

def pI (p0 : aH) : Option Int :=
 ((atI p0.Cam p0.At).bind fun v1 =>
 (if p0.Day = v1 then
 some (w64 ((w64 (p0.Teeth + 1)) - p0.Day))
 else
 some 1))

def iB (p0 : dM) (p1 : Int) : Option dM :=
 (if p0.Dial.Teeth < (w64 (p0.Dial.Day + p1)) then
 (chk ((p0.Dial.Cam.length : Int) ≠ 0) (
 some (⟨p0.Movement, p0.Start, p0.First, p0.Clock, (⟨p0.Dial.Cam, p0.Dial.Months, p0.Dial.Teeth, (w64 (p0.Dial.At + 1)).tmod (p0.Dial.Cam.length : Int), w64 ((w64 (p0.Dial.Day + p1)) - p0.Dial.Teeth), p0.Dial.Week, p0.Dial.Weekday⟩ : aH)⟩ : dM)))
 else
 some (⟨p0.Movement, p0.Start, p0.First, p0.Clock, (⟨p0.Dial.Cam, p0.Dial.Months, p0.Dial.Teeth, p0.Dial.At, w64 (p0.Dial.Day + p1), p0.Dial.Week, p0.Dial.Weekday⟩ : aH)⟩ : dM))

def eR (p0 : dM) : Option dM :=
 ((pI p0.Dial).bind fun v1 =>
 ((iB p0 v1).bind fun v2 =>
 (chk (v2.Dial.Week ≠ 0) (
 some (⟨v2.Movement, v2.Start, v2.First, v2.Clock, (⟨v2.Dial.Cam, v2.Dial.Months, v2.Dial.Teeth, v2.Dial.At, v2.Dial.Day, v2.Dial.Week, w64 ((v2.Dial.Weekday.tmod v2.Dial.Week) + 1)⟩ : aH)⟩ : dM)))))

def mF (p0 : Int) : Option Int :=
 some (w64 ((w64 ((w64 (p0.tdiv 12)) * 78)) + (w64 ((w64 ((p0.tmod 12) * (w64 ((p0.tmod 12) + 1)))).tdiv 2))))

def gQ (p0 : Int) (p1 : Int) (p2 : Int) : Option (Int × Int) :=
 ((((cN p0 0 2).bind fun v1 =>
 (if (!v1) = true then
 some true
 else
 ((cN p1 0 p2).bind fun v2 =>
 (if (!v2) = true then
 some true
 else
 some (decide (1000000000 < p2)))))) : Option Bool).bind fun v3 =>
 (if v3 = true then
 some (0, 2)
 else
 (if p0 = 0 then
 some (0, 0)
 else
 ((mF (w64 (p2.tdiv 3600))).bind fun v5 =>
 ((mF (w64 (p1.tdiv 3600))).bind fun v7 =>
 some (w64 (v5 - v7), 0))))))

def qE (p0 : dM) (p1 : Int) : Option (dM × Int × Int) :=
 ((pD p0).bind fun v1 =>
 (if (!v1) = true then
 some ((⟨(⟨(⟨#[]⟩ : ByteArray), (⟨([] : List cQ), ([] : List cH)⟩ : bE), 0, 0, 0, 0, 0, (⟨(⟨#[]⟩ : ByteArray), ([] : List bO), ([] : List aY), 0⟩ : aB), ([] : List Int), 0⟩ : aU), (⟨0, 0, 0⟩ : cA), 0, 0, (⟨([] : List Int), 0, 0, 0, 0, 0, 0⟩ : aH)⟩ : dM), 0, 1)
 else
 ((((cN p1 0 3000000).bind fun v2 =>
 (if (!v2) = true then
 some true
 else
 some (decide (1000000000 < (w64 (p0.Clock + p1)))))) : Option Bool).bind fun v3 =>
 (if v3 = true then
 some ((⟨(⟨(⟨#[]⟩ : ByteArray), (⟨([] : List cQ), ([] : List cH)⟩ : bE), 0, 0, 0, 0, 0, (⟨(⟨#[]⟩ : ByteArray), ([] : List bO), ([] : List aY), 0⟩ : aB), ([] : List Int), 0⟩ : aU), (⟨0, 0, 0⟩ : cA), 0, 0, (⟨([] : List Int), 0, 0, 0, 0, 0, 0⟩ : aH)⟩ : dM), 0, 2)
 else
 ((nZ p0).bind fun v4 =>
 ((cO (S := Int × ByteArray × Int × Int × Int × Int × Int × ByteArray × Int × Int × cA × Int × Int × Int × Int × Int × Int × Int × Int × List cQ × List cH × List bO × List aY × List Int × List Int) (X := ByteArray × Int × Int × Int × Int × Int × ByteArray × Int × Int × cA × Int × Int × Int × Int × Int × Int × Int × Int × List cQ × List cH × List bO × List aY × List Int × List Int) (fun s9 =>
 (if s9.1 < (w64 (s9.2.2.2.2.2.2.2.2.2.2.2.2.1.tdiv 86400)) then
 ((eR (⟨(⟨s9.2.1, (⟨s9.2.2.2.2.2.2.2.2.2.2.2.2.2.2.2.2.2.2.2.1, s9.2.2.2.2.2.2.2.2.2.2.2.2.2.2.2.2.2.2.2.2.1⟩ : bE), s9.2.2.1, s9.2.2.2.1, s9.2.2.2.2.1, s9.2.2.2.2.2.1, s9.2.2.2.2.2.2.1, (⟨s9.2.2.2.2.2.2.2.1, s9.2.2.2.2.2.2.2.2.2.2.2.2.2.2.2.2.2.2.2.2.2.1, s9.2.2.2.2.2.2.2.2.2.2.2.2.2.2.2.2.2.2.2.2.2.2.1, s9.2.2.2.2.2.2.2.2.1⟩ : aB), s9.2.2.2.2.2.2.2.2.2.2.2.2.2.2.2.2.2.2.2.2.2.2.2.1, s9.2.2.2.2.2.2.2.2.2.1⟩ : aU), s9.2.2.2.2.2.2.2.2.2.2.1, s9.2.2.2.2.2.2.2.2.2.2.2.1, s9.2.2.2.2.2.2.2.2.2.2.2.2.1, (⟨s9.2.2.2.2.2.2.2.2.2.2.2.2.2.2.2.2.2.2.2.2.2.2.2.2, s9.2.2.2.2.2.2.2.2.2.2.2.2.2.1, s9.2.2.2.2.2.2.2.2.2.2.2.2.2.2.1, s9.2.2.2.2.2.2.2.2.2.2.2.2.2.2.2.1, s9.2.2.2.2.2.2.2.2.2.2.2.2.2.2.2.2.1, s9.2.2.2.2.2.2.2.2.2.2.2.2.2.2.2.2.2.1, s9.2.2.2.2.2.2.2.2.2.2.2.2.2.2.2.2.2.2.1⟩ : aH)⟩ : dM)).bind fun v11 =>
 some (.inl (w64 (s9.1 + 1), v11.Movement.Name, v11.Movement.Minute, v11.Movement.Hour, v11.Movement.Escape, v11.Movement.Teeth, v11.Movement.Beats, v11.Movement.Calendar.Name, v11.Movement.Calendar.Week, v11.Movement.Strike, v11.Start, v11.First, v11.Clock, v11.Dial.Months, v11.Dial.Teeth, v11.Dial.At, v11.Dial.Day, v11.Dial.Week, v11.Dial.Weekday, v11.Movement.Works.Arbors, v11.Movement.Works.Meshes, v11.Movement.Calendar.Months, v11.Movement.Calendar.Rules, v11.Movement.Cam, v11.Dial.Cam)))
 else
 some (.inr (s9.2.1, s9.2.2.1, s9.2.2.2.1, s9.2.2.2.2.1, s9.2.2.2.2.2.1, s9.2.2.2.2.2.2.1, s9.2.2.2.2.2.2.2.1, s9.2.2.2.2.2.2.2.2.1, s9.2.2.2.2.2.2.2.2.2.1, s9.2.2.2.2.2.2.2.2.2.2.1, s9.2.2.2.2.2.2.2.2.2.2.2.1, s9.2.2.2.2.2.2.2.2.2.2.2.2.1, s9.2.2.2.2.2.2.2.2.2.2.2.2.2.1, s9.2.2.2.2.2.2.2.2.2.2.2.2.2.2.1, s9.2.2.2.2.2.2.2.2.2.2.2.2.2.2.2.1, s9.2.2.2.2.2.2.2.2.2.2.2.2.2.2.2.2.1, s9.2.2.2.2.2.2.2.2.2.2.2.2.2.2.2.2.2.1, s9.2.2.2.2.2.2.2.2.2.2.2.2.2.2.2.2.2.2.1, s9.2.2.2.2.2.2.2.2.2.2.2.2.2.2.2.2.2.2.2.1, s9.2.2.2.2.2.2.2.2.2.2.2.2.2.2.2.2.2.2.2.2.1, s9.2.2.2.2.2.2.2.2.2.2.2.2.2.2.2.2.2.2.2.2.2.1, s9.2.2.2.2.2.2.2.2.2.2.2.2.2.2.2.2.2.2.2.2.2.2.1, s9.2.2.2.2.2.2.2.2.2.2.2.2.2.2.2.2.2.2.2.2.2.2.2.1, s9.2.2.2.2.2.2.2.2.2.2.2.2.2.2.2.2.2.2.2.2.2.2.2.2)))) (w64 (p0.Clock.tdiv 86400), v4.Movement.Name, v4.Movement.Minute, v4.Movement.Hour, v4.Movement.Escape, v4.Movement.Teeth, v4.Movement.Beats, v4.Movement.Calendar.Name, v4.Movement.Calendar.Week, v4.Movement.Strike, v4.Start, v4.First, w64 (v4.Clock + p1), v4.Dial.Months, v4.Dial.Teeth, v4.Dial.At, v4.Dial.Day, v4.Dial.Week, v4.Dial.Weekday, v4.Movement.Works.Arbors, v4.Movement.Works.Meshes, v4.Movement.Calendar.Months, v4.Movement.Calendar.Rules, v4.Movement.Cam, v4.Dial.Cam) : Option (ByteArray × Int × Int × Int × Int × Int × ByteArray × Int × Int × cA × Int × Int × Int × Int × Int × Int × Int × Int × List cQ × List cH × List bO × List aY × List Int × List Int)).bind fun v12 =>
 ((gQ p0.Movement.Strike p0.Clock v12.2.2.2.2.2.2.2.2.2.2.2.1).bind fun v13 =>
 some ((⟨(⟨v12.1, (⟨v12.2.2.2.2.2.2.2.2.2.2.2.2.2.2.2.2.2.2.1, v12.2.2.2.2.2.2.2.2.2.2.2.2.2.2.2.2.2.2.2.1⟩ : bE), v12.2.1, v12.2.2.1, v12.2.2.2.1, v12.2.2.2.2.1, v12.2.2.2.2.2.1, (⟨v12.2.2.2.2.2.2.1, v12.2.2.2.2.2.2.2.2.2.2.2.2.2.2.2.2.2.2.2.2.1, v12.2.2.2.2.2.2.2.2.2.2.2.2.2.2.2.2.2.2.2.2.2.1, v12.2.2.2.2.2.2.2.1⟩ : aB), v12.2.2.2.2.2.2.2.2.2.2.2.2.2.2.2.2.2.2.2.2.2.2.1, v12.2.2.2.2.2.2.2.2.1⟩ : aU), v12.2.2.2.2.2.2.2.2.2.1, v12.2.2.2.2.2.2.2.2.2.2.1, v12.2.2.2.2.2.2.2.2.2.2.2.1, (⟨v12.2.2.2.2.2.2.2.2.2.2.2.2.2.2.2.2.2.2.2.2.2.2.2, v12.2.2.2.2.2.2.2.2.2.2.2.2.1, v12.2.2.2.2.2.2.2.2.2.2.2.2.2.1, v12.2.2.2.2.2.2.2.2.2.2.2.2.2.2.1, v12.2.2.2.2.2.2.2.2.2.2.2.2.2.2.2.1, v12.2.2.2.2.2.2.2.2.2.2.2.2.2.2.2.2.1, v12.2.2.2.2.2.2.2.2.2.2.2.2.2.2.2.2.2.1⟩ : aH)⟩ : dM), v13.1, 0))))))))

def gV (p0 : aH) (p1 : Int) : Option aH :=
 (if p0.Teeth < (w64 (p0.Day + p1)) then
 (chk ((p0.Cam.length : Int) ≠ 0) (
 some (⟨p0.Cam, p0.Months, p0.Teeth, (w64 (p0.At + 1)).tmod (p0.Cam.length : Int), w64 ((w64 (p0.Day + p1)) - p0.Teeth), p0.Week, p0.Weekday⟩ : aH)))
 else
 some (⟨p0.Cam, p0.Months, p0.Teeth, p0.At, w64 (p0.Day + p1), p0.Week, p0.Weekday⟩ : aH))

def pL (p0 : aH) : Option (aH × Int) :=
 ((pE p0).bind fun v1 =>
 (if (!v1) = true then
 some ((⟨([] : List Int), 0, 0, 0, 0, 0, 0⟩ : aH), 1)
 else
 ((jL p0).bind fun v2 =>
 ((gV v2 1).bind fun v3 =>
 some (v3, 0)))))

def nB (p0 : aH) : Option (aH × Int) :=
 ((pE p0).bind fun v1 =>
 (if (!v1) = true then
 some ((⟨([] : List Int), 0, 0, 0, 0, 0, 0⟩ : aH), 1)
 else
 ((jL p0).bind fun v2 =>
 (chk ((v2.Cam.length : Int) ≠ 0) (
 some ((⟨v2.Cam, v2.Months, v2.Teeth, (w64 (v2.At + 1)).tmod (v2.Cam.length : Int), v2.Day, v2.Week, v2.Weekday⟩ : aH), 0))))))

def kH (p0 : aH) : Option (aH × Int) :=
 ((pE p0).bind fun v1 =>
 (if (!v1) = true then
 some ((⟨([] : List Int), 0, 0, 0, 0, 0, 0⟩ : aH), 1)
 else
 ((jL p0).bind fun v2 =>
 (chk (v2.Week ≠ 0) (
 some ((⟨v2.Cam, v2.Months, v2.Teeth, v2.At, v2.Day, v2.Week, w64 ((v2.Weekday.tmod v2.Week) + 1)⟩ : aH), 0))))))

def lR (p0 : dM) (p1 : Int) : Option (dM × Int) :=
 ((pD p0).bind fun v1 =>
 (if (!v1) = true then
 some ((⟨(⟨(⟨#[]⟩ : ByteArray), (⟨([] : List cQ), ([] : List cH)⟩ : bE), 0, 0, 0, 0, 0, (⟨(⟨#[]⟩ : ByteArray), ([] : List bO), ([] : List aY), 0⟩ : aB), ([] : List Int), 0⟩ : aU), (⟨0, 0, 0⟩ : cA), 0, 0, (⟨([] : List Int), 0, 0, 0, 0, 0, 0⟩ : aH)⟩ : dM), 1)
 else
 ((nZ p0).bind fun v2 =>
 (((if p1 = 1 then
 ((pL p0.Dial).bind fun v3 =>
 some (.inl (v3.1.Months, v3.1.Teeth, v3.1.At, v3.1.Day, v3.1.Week, v3.1.Weekday, v3.1.Cam)))
 else
 (if p1 = 2 then
 ((nB p0.Dial).bind fun v4 =>
 some (.inl (v4.1.Months, v4.1.Teeth, v4.1.At, v4.1.Day, v4.1.Week, v4.1.Weekday, v4.1.Cam)))
 else
 (if p1 = 3 then
 ((kH p0.Dial).bind fun v5 =>
 some (.inl (v5.1.Months, v5.1.Teeth, v5.1.At, v5.1.Day, v5.1.Week, v5.1.Weekday, v5.1.Cam)))
 else
 some (.inr ((⟨(⟨(⟨#[]⟩ : ByteArray), (⟨([] : List cQ), ([] : List cH)⟩ : bE), 0, 0, 0, 0, 0, (⟨(⟨#[]⟩ : ByteArray), ([] : List bO), ([] : List aY), 0⟩ : aB), ([] : List Int), 0⟩ : aU), (⟨0, 0, 0⟩ : cA), 0, 0, (⟨([] : List Int), 0, 0, 0, 0, 0, 0⟩ : aH)⟩ : dM), 2))))) : Option ((Int × Int × Int × Int × Int × Int × List Int) ⊕ (dM × Int))).bind fun v6x => orE v6x fun v6 =>
 some ((⟨v2.Movement, v2.Start, v2.First, v2.Clock, (⟨v6.2.2.2.2.2.2, v6.1, v6.2.1, v6.2.2.1, v6.2.2.2.1, v6.2.2.2.2.1, v6.2.2.2.2.2.1⟩ : aH)⟩ : dM), 0)))))

def mQ (p0 : bP) : Option (dM × bP) :=
 ((kL p0).bind fun v1 =>
 ((kV v1.2 v1.1.Calendar).bind fun v2 =>
 ((bS v2.2 v1.1.Calendar.Week).bind fun v3 =>
 ((qB v1.1 v2.1 (w64 (1 + v3.1))).bind fun v4 =>
 (((if v4.2 ≠ 0 then
 none
 else
 some ()) : Option Unit).bind fun v7 =>
 ((((bS v3.2 4).bind fun v8 =>
 cO (S := Int × bP × ByteArray × Int × Int × Int × Int × Int × ByteArray × Int × Int × cA × Int × Int × Int × Int × Int × Int × Int × Int × List cQ × List cH × List bO × List aY × List Int × List Int) (X := bP × ByteArray × Int × Int × Int × Int × Int × ByteArray × Int × Int × cA × Int × Int × Int × Int × Int × Int × Int × Int × List cQ × List cH × List bO × List aY × List Int × List Int) (fun s13 =>
 (if 0 < s13.1 then
 ((((fA s13.2.1 [0, 1, 3600, 86399, 86400, 1000000, 40000]).bind fun v14 =>
 ((qE (⟨(⟨s13.2.2.1, (⟨s13.2.2.2.2.2.2.2.2.2.2.2.2.2.2.2.2.2.2.2.2.1, s13.2.2.2.2.2.2.2.2.2.2.2.2.2.2.2.2.2.2.2.2.2.1⟩ : bE), s13.2.2.2.1, s13.2.2.2.2.1, s13.2.2.2.2.2.1, s13.2.2.2.2.2.2.1, s13.2.2.2.2.2.2.2.1, (⟨s13.2.2.2.2.2.2.2.2.1, s13.2.2.2.2.2.2.2.2.2.2.2.2.2.2.2.2.2.2.2.2.2.2.1, s13.2.2.2.2.2.2.2.2.2.2.2.2.2.2.2.2.2.2.2.2.2.2.2.1, s13.2.2.2.2.2.2.2.2.2.1⟩ : aB), s13.2.2.2.2.2.2.2.2.2.2.2.2.2.2.2.2.2.2.2.2.2.2.2.2.1, s13.2.2.2.2.2.2.2.2.2.2.1⟩ : aU), s13.2.2.2.2.2.2.2.2.2.2.2.1, s13.2.2.2.2.2.2.2.2.2.2.2.2.1, s13.2.2.2.2.2.2.2.2.2.2.2.2.2.1, (⟨s13.2.2.2.2.2.2.2.2.2.2.2.2.2.2.2.2.2.2.2.2.2.2.2.2.2, s13.2.2.2.2.2.2.2.2.2.2.2.2.2.2.1, s13.2.2.2.2.2.2.2.2.2.2.2.2.2.2.2.1, s13.2.2.2.2.2.2.2.2.2.2.2.2.2.2.2.2.1, s13.2.2.2.2.2.2.2.2.2.2.2.2.2.2.2.2.2.1, s13.2.2.2.2.2.2.2.2.2.2.2.2.2.2.2.2.2.2.1, s13.2.2.2.2.2.2.2.2.2.2.2.2.2.2.2.2.2.2.2.1⟩ : aH)⟩ : dM) v14.1).bind fun v15 =>
 (if v15.2.2 = 0 then
 some (v14.2, v15.1.Movement.Name, v15.1.Movement.Minute, v15.1.Movement.Hour, v15.1.Movement.Escape, v15.1.Movement.Teeth, v15.1.Movement.Beats, v15.1.Movement.Calendar.Name, v15.1.Movement.Calendar.Week, v15.1.Movement.Strike, v15.1.Start, v15.1.First, v15.1.Clock, v15.1.Dial.Months, v15.1.Dial.Teeth, v15.1.Dial.At, v15.1.Dial.Day, v15.1.Dial.Week, v15.1.Dial.Weekday, v15.1.Movement.Works.Arbors, v15.1.Movement.Works.Meshes, v15.1.Movement.Calendar.Months, v15.1.Movement.Calendar.Rules, v15.1.Movement.Cam, v15.1.Dial.Cam)
 else
 some (v14.2, s13.2.2.1, s13.2.2.2.1, s13.2.2.2.2.1, s13.2.2.2.2.2.1, s13.2.2.2.2.2.2.1, s13.2.2.2.2.2.2.2.1, s13.2.2.2.2.2.2.2.2.1, s13.2.2.2.2.2.2.2.2.2.1, s13.2.2.2.2.2.2.2.2.2.2.1, s13.2.2.2.2.2.2.2.2.2.2.2.1, s13.2.2.2.2.2.2.2.2.2.2.2.2.1, s13.2.2.2.2.2.2.2.2.2.2.2.2.2.1, s13.2.2.2.2.2.2.2.2.2.2.2.2.2.2.1, s13.2.2.2.2.2.2.2.2.2.2.2.2.2.2.2.1, s13.2.2.2.2.2.2.2.2.2.2.2.2.2.2.2.2.1, s13.2.2.2.2.2.2.2.2.2.2.2.2.2.2.2.2.2.1, s13.2.2.2.2.2.2.2.2.2.2.2.2.2.2.2.2.2.2.1, s13.2.2.2.2.2.2.2.2.2.2.2.2.2.2.2.2.2.2.2.1, s13.2.2.2.2.2.2.2.2.2.2.2.2.2.2.2.2.2.2.2.2.1, s13.2.2.2.2.2.2.2.2.2.2.2.2.2.2.2.2.2.2.2.2.2.1, s13.2.2.2.2.2.2.2.2.2.2.2.2.2.2.2.2.2.2.2.2.2.2.1, s13.2.2.2.2.2.2.2.2.2.2.2.2.2.2.2.2.2.2.2.2.2.2.2.1, s13.2.2.2.2.2.2.2.2.2.2.2.2.2.2.2.2.2.2.2.2.2.2.2.2.1, s13.2.2.2.2.2.2.2.2.2.2.2.2.2.2.2.2.2.2.2.2.2.2.2.2.2)))) : Option (bP × ByteArray × Int × Int × Int × Int × Int × ByteArray × Int × Int × cA × Int × Int × Int × Int × Int × Int × Int × Int × List cQ × List cH × List bO × List aY × List Int × List Int)).bind fun v16 =>
 some (.inl (w64 (s13.1 - 1), v16.1, v16.2.1, v16.2.2.1, v16.2.2.2.1, v16.2.2.2.2.1, v16.2.2.2.2.2.1, v16.2.2.2.2.2.2.1, v16.2.2.2.2.2.2.2.1, v16.2.2.2.2.2.2.2.2.1, v16.2.2.2.2.2.2.2.2.2.1, v16.2.2.2.2.2.2.2.2.2.2.1, v16.2.2.2.2.2.2.2.2.2.2.2.1, v16.2.2.2.2.2.2.2.2.2.2.2.2.1, v16.2.2.2.2.2.2.2.2.2.2.2.2.2.1, v16.2.2.2.2.2.2.2.2.2.2.2.2.2.2.1, v16.2.2.2.2.2.2.2.2.2.2.2.2.2.2.2.1, v16.2.2.2.2.2.2.2.2.2.2.2.2.2.2.2.2.1, v16.2.2.2.2.2.2.2.2.2.2.2.2.2.2.2.2.2.1, v16.2.2.2.2.2.2.2.2.2.2.2.2.2.2.2.2.2.2.1, v16.2.2.2.2.2.2.2.2.2.2.2.2.2.2.2.2.2.2.2.1, v16.2.2.2.2.2.2.2.2.2.2.2.2.2.2.2.2.2.2.2.2.1, v16.2.2.2.2.2.2.2.2.2.2.2.2.2.2.2.2.2.2.2.2.2.1, v16.2.2.2.2.2.2.2.2.2.2.2.2.2.2.2.2.2.2.2.2.2.2.1, v16.2.2.2.2.2.2.2.2.2.2.2.2.2.2.2.2.2.2.2.2.2.2.2.1, v16.2.2.2.2.2.2.2.2.2.2.2.2.2.2.2.2.2.2.2.2.2.2.2.2)))
 else
 some (.inr (s13.2.1, s13.2.2.1, s13.2.2.2.1, s13.2.2.2.2.1, s13.2.2.2.2.2.1, s13.2.2.2.2.2.2.1, s13.2.2.2.2.2.2.2.1, s13.2.2.2.2.2.2.2.2.1, s13.2.2.2.2.2.2.2.2.2.1, s13.2.2.2.2.2.2.2.2.2.2.1, s13.2.2.2.2.2.2.2.2.2.2.2.1, s13.2.2.2.2.2.2.2.2.2.2.2.2.1, s13.2.2.2.2.2.2.2.2.2.2.2.2.2.1, s13.2.2.2.2.2.2.2.2.2.2.2.2.2.2.1, s13.2.2.2.2.2.2.2.2.2.2.2.2.2.2.2.1, s13.2.2.2.2.2.2.2.2.2.2.2.2.2.2.2.2.1, s13.2.2.2.2.2.2.2.2.2.2.2.2.2.2.2.2.2.1, s13.2.2.2.2.2.2.2.2.2.2.2.2.2.2.2.2.2.2.1, s13.2.2.2.2.2.2.2.2.2.2.2.2.2.2.2.2.2.2.2.1, s13.2.2.2.2.2.2.2.2.2.2.2.2.2.2.2.2.2.2.2.2.1, s13.2.2.2.2.2.2.2.2.2.2.2.2.2.2.2.2.2.2.2.2.2.1, s13.2.2.2.2.2.2.2.2.2.2.2.2.2.2.2.2.2.2.2.2.2.2.1, s13.2.2.2.2.2.2.2.2.2.2.2.2.2.2.2.2.2.2.2.2.2.2.2.1, s13.2.2.2.2.2.2.2.2.2.2.2.2.2.2.2.2.2.2.2.2.2.2.2.2.1, s13.2.2.2.2.2.2.2.2.2.2.2.2.2.2.2.2.2.2.2.2.2.2.2.2.2)))) (v8.1, v8.2, v4.1.Movement.Name, v4.1.Movement.Minute, v4.1.Movement.Hour, v4.1.Movement.Escape, v4.1.Movement.Teeth, v4.1.Movement.Beats, v4.1.Movement.Calendar.Name, v4.1.Movement.Calendar.Week, v4.1.Movement.Strike, v4.1.Start, v4.1.First, v4.1.Clock, v4.1.Dial.Months, v4.1.Dial.Teeth, v4.1.Dial.At, v4.1.Dial.Day, v4.1.Dial.Week, v4.1.Dial.Weekday, v4.1.Movement.Works.Arbors, v4.1.Movement.Works.Meshes, v4.1.Movement.Calendar.Months, v4.1.Movement.Calendar.Rules, v4.1.Movement.Cam, v4.1.Dial.Cam)) : Option (bP × ByteArray × Int × Int × Int × Int × Int × ByteArray × Int × Int × cA × Int × Int × Int × Int × Int × Int × Int × Int × List cQ × List cH × List bO × List aY × List Int × List Int)).bind fun v17 =>
 ((((fE v17.1 4).bind fun v18 =>
 (if v18.1 = true then
 ((bS v18.2 3).bind fun v19 =>
 ((lR (⟨(⟨v17.2.1, (⟨v17.2.2.2.2.2.2.2.2.2.2.2.2.2.2.2.2.2.2.2.1, v17.2.2.2.2.2.2.2.2.2.2.2.2.2.2.2.2.2.2.2.2.1⟩ : bE), v17.2.2.1, v17.2.2.2.1, v17.2.2.2.2.1, v17.2.2.2.2.2.1, v17.2.2.2.2.2.2.1, (⟨v17.2.2.2.2.2.2.2.1, v17.2.2.2.2.2.2.2.2.2.2.2.2.2.2.2.2.2.2.2.2.2.1, v17.2.2.2.2.2.2.2.2.2.2.2.2.2.2.2.2.2.2.2.2.2.2.1, v17.2.2.2.2.2.2.2.2.1⟩ : aB), v17.2.2.2.2.2.2.2.2.2.2.2.2.2.2.2.2.2.2.2.2.2.2.2.1, v17.2.2.2.2.2.2.2.2.2.1⟩ : aU), v17.2.2.2.2.2.2.2.2.2.2.1, v17.2.2.2.2.2.2.2.2.2.2.2.1, v17.2.2.2.2.2.2.2.2.2.2.2.2.1, (⟨v17.2.2.2.2.2.2.2.2.2.2.2.2.2.2.2.2.2.2.2.2.2.2.2.2, v17.2.2.2.2.2.2.2.2.2.2.2.2.2.1, v17.2.2.2.2.2.2.2.2.2.2.2.2.2.2.1, v17.2.2.2.2.2.2.2.2.2.2.2.2.2.2.2.1, v17.2.2.2.2.2.2.2.2.2.2.2.2.2.2.2.2.1, v17.2.2.2.2.2.2.2.2.2.2.2.2.2.2.2.2.2.1, v17.2.2.2.2.2.2.2.2.2.2.2.2.2.2.2.2.2.2.1⟩ : aH)⟩ : dM) (w64 (1 + v19.1))).bind fun v20 =>
 some (v19.2, v20.1.Movement.Name, v20.1.Movement.Minute, v20.1.Movement.Hour, v20.1.Movement.Escape, v20.1.Movement.Teeth, v20.1.Movement.Beats, v20.1.Movement.Calendar.Name, v20.1.Movement.Calendar.Week, v20.1.Movement.Strike, v20.1.Start, v20.1.First, v20.1.Clock, v20.1.Dial.Months, v20.1.Dial.Teeth, v20.1.Dial.At, v20.1.Dial.Day, v20.1.Dial.Week, v20.1.Dial.Weekday, v20.1.Movement.Works.Arbors, v20.1.Movement.Works.Meshes, v20.1.Movement.Calendar.Months, v20.1.Movement.Calendar.Rules, v20.1.Movement.Cam, v20.1.Dial.Cam)))
 else
 some (v18.2, v17.2.1, v17.2.2.1, v17.2.2.2.1, v17.2.2.2.2.1, v17.2.2.2.2.2.1, v17.2.2.2.2.2.2.1, v17.2.2.2.2.2.2.2.1, v17.2.2.2.2.2.2.2.2.1, v17.2.2.2.2.2.2.2.2.2.1, v17.2.2.2.2.2.2.2.2.2.2.1, v17.2.2.2.2.2.2.2.2.2.2.2.1, v17.2.2.2.2.2.2.2.2.2.2.2.2.1, v17.2.2.2.2.2.2.2.2.2.2.2.2.2.1, v17.2.2.2.2.2.2.2.2.2.2.2.2.2.2.1, v17.2.2.2.2.2.2.2.2.2.2.2.2.2.2.2.1, v17.2.2.2.2.2.2.2.2.2.2.2.2.2.2.2.2.1, v17.2.2.2.2.2.2.2.2.2.2.2.2.2.2.2.2.2.1, v17.2.2.2.2.2.2.2.2.2.2.2.2.2.2.2.2.2.2.1, v17.2.2.2.2.2.2.2.2.2.2.2.2.2.2.2.2.2.2.2.1, v17.2.2.2.2.2.2.2.2.2.2.2.2.2.2.2.2.2.2.2.2.1, v17.2.2.2.2.2.2.2.2.2.2.2.2.2.2.2.2.2.2.2.2.2.1, v17.2.2.2.2.2.2.2.2.2.2.2.2.2.2.2.2.2.2.2.2.2.2.1, v17.2.2.2.2.2.2.2.2.2.2.2.2.2.2.2.2.2.2.2.2.2.2.2.1, v17.2.2.2.2.2.2.2.2.2.2.2.2.2.2.2.2.2.2.2.2.2.2.2.2))) : Option (bP × ByteArray × Int × Int × Int × Int × Int × ByteArray × Int × Int × cA × Int × Int × Int × Int × Int × Int × Int × Int × List cQ × List cH × List bO × List aY × List Int × List Int)).bind fun v21 =>
 some ((⟨(⟨v21.2.1, (⟨v21.2.2.2.2.2.2.2.2.2.2.2.2.2.2.2.2.2.2.2.1, v21.2.2.2.2.2.2.2.2.2.2.2.2.2.2.2.2.2.2.2.2.1⟩ : bE), v21.2.2.1, v21.2.2.2.1, v21.2.2.2.2.1, v21.2.2.2.2.2.1, v21.2.2.2.2.2.2.1, (⟨v21.2.2.2.2.2.2.2.1, v21.2.2.2.2.2.2.2.2.2.2.2.2.2.2.2.2.2.2.2.2.2.1, v21.2.2.2.2.2.2.2.2.2.2.2.2.2.2.2.2.2.2.2.2.2.2.1, v21.2.2.2.2.2.2.2.2.1⟩ : aB), v21.2.2.2.2.2.2.2.2.2.2.2.2.2.2.2.2.2.2.2.2.2.2.2.1, v21.2.2.2.2.2.2.2.2.2.1⟩ : aU), v21.2.2.2.2.2.2.2.2.2.2.1, v21.2.2.2.2.2.2.2.2.2.2.2.1, v21.2.2.2.2.2.2.2.2.2.2.2.2.1, (⟨v21.2.2.2.2.2.2.2.2.2.2.2.2.2.2.2.2.2.2.2.2.2.2.2.2, v21.2.2.2.2.2.2.2.2.2.2.2.2.2.1, v21.2.2.2.2.2.2.2.2.2.2.2.2.2.2.1, v21.2.2.2.2.2.2.2.2.2.2.2.2.2.2.2.1, v21.2.2.2.2.2.2.2.2.2.2.2.2.2.2.2.2.1, v21.2.2.2.2.2.2.2.2.2.2.2.2.2.2.2.2.2.1, v21.2.2.2.2.2.2.2.2.2.2.2.2.2.2.2.2.2.2.1⟩ : aH)⟩ : dM), v21.1))))))))

def vP (p0 : List Int) : Option dM :=
 ((tH p0).bind fun v1 =>
 ((mQ v1).bind fun v2 =>
 ((kB v2.1.Movement v2.1.Start v2.1.First).bind fun v3 =>
 some (⟨v2.1.Movement, v2.1.Start, v2.1.First, 0, v3.1⟩ : dM))))

def tL (p0 : List Int) (p1 : Int) (p2 : Int) : Option Int :=
 (((if (p0.length : Int) ≤ p1 then
 some true
 else
 some (decide (p2 < 1))) : Option Bool).bind fun v1 =>
 (if v1 = true then
 some 0
 else
 ((atI p0 p1).bind fun v2 =>
 (chk (p2 ≠ 0) (
 some ((w64 v2).tmod p2))))))

def cP (p0 : Int) (p1 : Int) (p2 : Int) : Option Bool :=
 (if p1 ≤ p0 then
 some (decide (p0 ≤ p2))
 else
 some false)

def lY (p0 : bE) (p1 : Int) : Option Bool :=
 ((cP p1 0 (w64 ((p0.Arbors.length : Int) - 1))).bind fun v1 =>
 some v1)

def nY (p0 : Int) : Option Bool :=
 ((cP p0 6 240).bind fun v1 =>
 some v1)

def lZ (p0 : ByteArray) : Option Bool :=
 (((if (p0.size : Int) < 1 then
 some true
 else
 some (decide (12 < (p0.size : Int)))) : Option Bool).bind fun v1 =>
 (if v1 = true then
 some false
 else
 (((chk (p0.size ≤ 140737488355328) (
 cO (S := Int) (X := Unit ⊕ Bool) (fun s8 =>
 (if s8 < ((eJ p0).length : Int) then
 ((atI (eJ p0) s8).bind fun v9 =>
 (((if 97 ≤ v9 then
 some (decide (v9 ≤ 122))
 else
 some false) : Option Bool).bind fun v10 =>
 (((if 48 ≤ v9 then
 (if v9 ≤ 57 then
 some true
 else
 some (decide (v9 = 45)))
 else
 some (decide (v9 = 45))) : Option Bool).bind fun v11 =>
 (((if (!v10) = true then
 (if s8 = 0 then
 some true
 else
 some (!v11))
 else
 some false) : Option Bool).bind fun v12 =>
 (if v12 = true then
 some (.inr (.inr false))
 else
 some (.inl (w64 (s8 + 1))))))))
 else
 some (.inr (.inl ())))) 0)) : Option (Unit ⊕ Bool)).bind fun v13x => orE v13x fun v13 =>
 some true)))

def lC (p0 : cQ) : Option Bool :=
 ((cO (S := Int) (X := Unit ⊕ Bool) (fun s4 =>
 (if s4 < (p0.Wheels.length : Int) then
 ((atI p0.Wheels s4).bind fun v5 =>
 ((nY v5).bind fun v6 =>
 (if (!v6) = true then
 some (.inr (.inr false))
 else
 some (.inl (w64 (s4 + 1))))))
 else
 some (.inr (.inl ())))) 0 : Option (Unit ⊕ Bool)).bind fun v7x => orE v7x fun v7 =>
 ((lZ p0.Name).bind fun v8 =>
 (if v8 = true then
 some (decide ((p0.Wheels.length : Int) ≤ 5))
 else
 some false)))

def mC (p0 : bE) (p1 : Int) (p2 : Int) : Option Bool :=
 ((cP p1 0 (w64 ((p0.Arbors.length : Int) - 1))).bind fun v1 =>
 (if v1 = true then
 ((atI p0.Arbors p1).bind fun v2 =>
 ((cP p2 0 (w64 ((v2.Wheels.length : Int) - 1))).bind fun v3 =>
 some v3))
 else
 some false))

def vG (p0 : bE) (p1 : cH) : Option Bool :=
 (if p1.A ≠ p1.B then
 ((mC p0 p1.A p1.WheelA).bind fun v1 =>
 (if v1 = true then
 ((mC p0 p1.B p1.WheelB).bind fun v2 =>
 some v2)
 else
 some false))
 else
 some false)

def pA (p0 : cH) (p1 : cH) : Option Bool :=
 (if p0 = p1 then
 some true
 else
 some (decide (p0 = (⟨p1.B, p1.WheelB, p1.A, p1.WheelA⟩ : cH))))

def lL (p0 : cH) (p1 : cH) : Option Bool :=
 ((pA p1 p0).bind fun v1 =>
 some v1)

def dD (p0 : List cH) (p1_0 : cH) : Option Int :=
 ((cO (S := Int) (X := Unit ⊕ Int) (fun s4 =>
 (if s4 < (p0.length : Int) then
 ((atI p0 s4).bind fun v5 =>
 ((lL v5 p1_0).bind fun v6 =>
 (if v6 = true then
 some (.inr (.inr s4))
 else
 some (.inl (w64 (s4 + 1))))))
 else
 some (.inr (.inl ())))) 0 : Option (Unit ⊕ Int)).bind fun v7x => orE v7x fun v7 =>
 some (-1))

def cC (p0 : List cH) (p1_0 : cH) : Option Bool :=
 ((dD p0 p1_0).bind fun v1 =>
 some (decide (0 ≤ v1)))

def jI (p0 : bE) : Option Bool :=
 (((if 16 < (p0.Arbors.length : Int) then
 some true
 else
 some (decide (24 < (p0.Meshes.length : Int)))) : Option Bool).bind fun v1 =>
 (if v1 = true then
 some false
 else
 ((cO (S := Int) (X := Unit ⊕ Bool) (fun s11 =>
 (if s11 < (p0.Arbors.length : Int) then
 ((((atI p0.Arbors s11).bind fun v12 =>
 ((lC v12).bind fun v13 =>
 (if (!v13) = true then
 some (.inr (.inr (.inr false)))
 else
 (chk (0 ≤ (0 : Int) ∧ (0 : Int) ≤ s11 ∧ s11 ≤ (p0.Arbors.length : Int)) (
 cO (S := Int) (X := Unit ⊕ (Int ⊕ (Unit ⊕ Bool))) (fun s17 =>
 (if s17 < ((aAv p0.Arbors (0 : Int) s11).length : Int) then
 ((atI (aAv p0.Arbors (0 : Int) s11) s17).bind fun v18 =>
 (if v12.Name = v18.Name then
 some (.inr (.inr (.inr (.inr false))))
 else
 some (.inl (w64 (s17 + 1)))))
 else
 some (.inr (.inl ())))) 0))))) : Option (Unit ⊕ (Int ⊕ (Unit ⊕ Bool)))).bind fun v19x => orE v19x fun v19 =>
 some (.inl (w64 (s11 + 1))))
 else
 some (.inr (.inl ())))) 0 : Option (Unit ⊕ Bool)).bind fun v20x => orE v20x fun v20 =>
 ((cO (S := Int) (X := Unit ⊕ Bool) (fun s27 =>
 (if s27 < (p0.Meshes.length : Int) then
 ((atI p0.Meshes s27).bind fun v28 =>
 ((((vG p0 v28).bind fun v29 =>
 (if (!v29) = true then
 some true
 else
 (chk (0 ≤ (0 : Int) ∧ (0 : Int) ≤ s27 ∧ s27 ≤ (p0.Meshes.length : Int)) (
 ((cC (aAv p0.Meshes (0 : Int) s27) v28).bind fun v31 =>
 some v31))))) : Option Bool).bind fun v32 =>
 (if v32 = true then
 some (.inr (.inr false))
 else
 some (.inl (w64 (s27 + 1))))))
 else
 some (.inr (.inl ())))) 0 : Option (Unit ⊕ Bool)).bind fun v33x => orE v33x fun v33 =>
 some true))))

def iR (p0 : bO) (p1 : bO) : Option Bool :=
 some (decide (p0.Name = p1.Name))

def cT (p0 : List bO) (p1_0 : bO) : Option Int :=
 ((cO (S := Int) (X := Unit ⊕ Int) (fun s4 =>
 (if s4 < (p0.length : Int) then
 ((atI p0 s4).bind fun v5 =>
 ((iR v5 p1_0).bind fun v6 =>
 (if v6 = true then
 some (.inr (.inr s4))
 else
 some (.inl (w64 (s4 + 1))))))
 else
 some (.inr (.inl ())))) 0 : Option (Unit ⊕ Int)).bind fun v7x => orE v7x fun v7 =>
 some (-1))

def bV (p0 : List bO) (p1_0 : bO) : Option Bool :=
 ((cT p0 p1_0).bind fun v1 =>
 some (decide (0 ≤ v1)))

def xN (p0 : Int) (p1 : Int) : Option Int :=
 ((cO (S := Int × Int) (X := Int) (fun s3 =>
 (if s3.2 ≠ 0 then
 (chk (s3.2 ≠ 0) (
 some (.inl (s3.2, s3.1.tmod s3.2))))
 else
 some (.inr s3.1))) (p0, p1) : Option Int).bind fun v5 =>
 (if v5 < 0 then
 some (w64 (-v5))
 else
 some v5))

def lJ (p0 : List aY) : Option Int :=
 ((cO (S := Int × Int) (X := Int) (fun s6 =>
 (if s6.2 < (p0.length : Int) then
 ((((atI p0 s6.2).bind fun v7 =>
 (if s6.1 ≤ 2000 then
 ((xN s6.1 v7.Every).bind fun v8 =>
 (chk (v8 ≠ 0) (
 some (w64 ((w64 (s6.1.tdiv v8)) * v7.Every)))))
 else
 some s6.1)) : Option Int).bind fun v10 =>
 some (.inl (v10, w64 (s6.2 + 1))))
 else
 some (.inr s6.1))) (1, 0) : Option Int).bind fun v11 =>
 some v11)

def fD (p0 : aB) : Option Bool :=
 ((((lZ p0.Name).bind fun v1 =>
 (if (!v1) = true then
 some true
 else
 (if (p0.Months.length : Int) < 1 then
 some true
 else
 (if 20 < (p0.Months.length : Int) then
 some true
 else
 (if 6 < (p0.Rules.length : Int) then
 some true
 else
 ((cP p0.Week 1 12).bind fun v2 =>
 some (!v2))))))) : Option Bool).bind fun v3 =>
 (if v3 = true then
 some false
 else
 ((cO (S := Int) (X := Unit ⊕ Bool) (fun s12 =>
 (if s12 < (p0.Months.length : Int) then
 ((atI p0.Months s12).bind fun v13 =>
 ((((lZ v13.Name).bind fun v14 =>
 (if (!v14) = true then
 some true
 else
 ((cP v13.Days 1 60).bind fun v15 =>
 (if (!v15) = true then
 some true
 else
 ((cP v13.Leap 1 60).bind fun v16 =>
 some (!v16)))))) : Option Bool).bind fun v17 =>
 (if v17 = true then
 some (.inr (.inr false))
 else
 (chk (0 ≤ (0 : Int) ∧ (0 : Int) ≤ s12 ∧ s12 ≤ (p0.Months.length : Int)) (
 ((bV (aAv p0.Months (0 : Int) s12) v13).bind fun v19 =>
 (if v19 = true then
 some (.inr (.inr false))
 else
 some (.inl (w64 (s12 + 1))))))))))
 else
 some (.inr (.inl ())))) 0 : Option (Unit ⊕ Bool)).bind fun v20x => orE v20x fun v20 =>
 ((cO (S := Int) (X := Unit ⊕ Bool) (fun s26 =>
 (if s26 < (p0.Rules.length : Int) then
 ((atI p0.Rules s26).bind fun v27 =>
 ((((cP v27.Every 1 1000).bind fun v28 =>
 (if (!v28) = true then
 some true
 else
 ((cP v27.Rest 0 (w64 (v27.Every - 1))).bind fun v29 =>
 some (!v29)))) : Option Bool).bind fun v30 =>
 (if v30 = true then
 some (.inr (.inr false))
 else
 some (.inl (w64 (s26 + 1))))))
 else
 some (.inr (.inl ())))) 0 : Option (Unit ⊕ Bool)).bind fun v31x => orE v31x fun v31 =>
 ((lJ p0.Rules).bind fun v32 =>
 some (decide (v32 ≤ 2000)))))))

def kD (p0 : List Int) : Option Bool :=
 ((cO (S := Int) (X := Unit ⊕ Bool) (fun s4 =>
 (if s4 < (p0.length : Int) then
 ((atI p0 s4).bind fun v5 =>
 ((cP v5 1 60).bind fun v6 =>
 (if (!v6) = true then
 some (.inr (.inr false))
 else
 some (.inl (w64 (s4 + 1))))))
 else
 some (.inr (.inl ())))) 0 : Option (Unit ⊕ Bool)).bind fun v7x => orE v7x fun v7 =>
 (if 1 ≤ (p0.length : Int) then
 some (decide ((p0.length : Int) ≤ 260))
 else
 some false))

def gG (p0 : aU) : Option Bool :=
 ((((lY p0.Works p0.Minute).bind fun v1 =>
 (if v1 = true then
 ((lY p0.Works p0.Hour).bind fun v2 =>
 (if v2 = true then
 ((lY p0.Works p0.Escape).bind fun v3 =>
 some v3)
 else
 some false))
 else
 some false)) : Option Bool).bind fun v4 =>
 ((((nY p0.Teeth).bind fun v5 =>
 (if v5 = true then
 ((cP p0.Beats 1 36000).bind fun v6 =>
 (if v6 = true then
 ((cP p0.Strike 0 2).bind fun v7 =>
 some v7)
 else
 some false))
 else
 some false)) : Option Bool).bind fun v8 =>
 (if v4 = true then
 (if v8 = true then
 ((lZ p0.Name).bind fun v9 =>
 (if v9 = true then
 ((jI p0.Works).bind fun v10 =>
 (if v10 = true then
 ((fD p0.Calendar).bind fun v11 =>
 (if v11 = true then
 ((kD p0.Cam).bind fun v12 =>
 some v12)
 else
 some false))
 else
 some false))
 else
 some false))
 else
 some false)
 else
 some false)))

def mH (p0 : bE) (p1 : cH) : Option dX :=
 ((atI p0.Arbors p1.A).bind fun v1 =>
 ((atI v1.Wheels p1.WheelA).bind fun v2 =>
 ((atI p0.Arbors p1.B).bind fun v3 =>
 ((atI v3.Wheels p1.WheelB).bind fun v4 =>
 some (⟨v2, v4⟩ : dX)))))

def kN (p0 : Int) : Option Int :=
 (if p0 < 0 then
 some (IntKind.u64.wrap (-(IntKind.u64.wrap p0)))
 else
 some (IntKind.u64.wrap p0))

def qS (p0 : Int) (p1 : Int) : Option (aJ × Bool) :=
 ((kN p0).bind fun v1 =>
 ((kN p1).bind fun v2 =>
 ((cO (S := Int × Int) (X := Int) (fun s5 =>
 (if s5.2 ≠ 0 then
 (chk (s5.2 ≠ 0) (
 some (.inl (s5.2, s5.1.tmod s5.2))))
 else
 some (.inr s5.1))) (v1, v2) : Option Int).bind fun v7 =>
 (chk (v7 ≠ 0) (
 (chk (v7 ≠ 0) (
 (((if 1000000000 < (IntKind.u64.wrap (v1.tdiv v7)) then
 some true
 else
 some (decide (1000000000 < (IntKind.u64.wrap (v2.tdiv v7))))) : Option Bool).bind fun v10 =>
 (if v10 = true then
 some ((⟨0, 0⟩ : aJ), false)
 else
 (((if ((decide (p0 < 0)) != (decide (p1 < 0))) = true then
 some (⟨w64 (-(w64 (IntKind.u64.wrap (v1.tdiv v7)))), w64 (IntKind.u64.wrap (v2.tdiv v7))⟩ : aJ)
 else
 some (⟨w64 (IntKind.u64.wrap (v1.tdiv v7)), w64 (IntKind.u64.wrap (v2.tdiv v7))⟩ : aJ)) : Option aJ).bind fun v11 =>
 some (v11, true)))))))))))

def kM (p0 : Int) (p1 : Int) : Option (aJ × Int) :=
 (if p1 = 0 then
 some ((⟨0, 0⟩ : aJ), 6)
 else
 ((qS p0 p1).bind fun v1 =>
 (if (!v1.2) = true then
 some ((⟨0, 0⟩ : aJ), 2)
 else
 some (v1.1, 0))))

def jH (p0 : aJ) : Option Bool :=
 ((cP p0.Den 1 1000000000).bind fun v1 =>
 (if v1 = true then
 ((cP p0.Num (-1000000000) 1000000000).bind fun v2 =>
 (if v2 = true then
 ((xN p0.Num p0.Den).bind fun v3 =>
 some (decide (v3 = 1)))
 else
 some false))
 else
 some false))

def oX (p0 : aJ) (p1 : aJ) : Option (aJ × Int) :=
 ((((jH p0).bind fun v1 =>
 (if (!v1) = true then
 some true
 else
 ((jH p1).bind fun v2 =>
 some (!v2)))) : Option Bool).bind fun v3 =>
 (if v3 = true then
 some ((⟨0, 0⟩ : aJ), 1)
 else
 ((kM (w64 (p0.Num * p1.Num)) (w64 (p0.Den * p1.Den))).bind fun v4 =>
 some (v4.1, v4.2))))

def mD (p0 : aJ) (p1 : Int) (p2 : Int) : Option (aJ × Int) :=
 ((kM (w64 (-p1)) p2).bind fun v1 =>
 ((oX p0 v1.1).bind fun v2 =>
 some (v2.1, v2.2)))

def lG (p0 : bE) (p1 : Int) : Option (List aJ × Int) :=
 (chk (0 ≤ (p0.Arbors.length : Int) ∧ (p0.Arbors.length : Int) = (p0.Arbors.length : Int) ∧ (p0.Arbors.length : Int).toNat * 2 * 64 ≤ 281474976710656) (
 ((atI (List.replicate (p0.Arbors.length : Int).toNat (⟨0, 0⟩ : aJ)) p1).bind fun v2 =>
 ((cO (S := Bool × List aJ) (X := (List aJ) ⊕ (List aJ × Int)) (fun s28 =>
 (if s28.1 = true then
 cO (S := Bool × Int × List aJ) (X := (Bool × List aJ) ⊕ ((List aJ) ⊕ (List aJ × Int))) (fun s41 =>
 (if s41.2.1 < (p0.Meshes.length : Int) then
 ((((atI p0.Meshes s41.2.1).bind fun v42 =>
 ((mH p0 v42).bind fun v43 =>
 ((((atI s41.2.2 v42.A).bind fun v44 =>
 (if v44.Den = 0 then
 some (v42.B, v42.A, (⟨v43.Driven, v43.Driver⟩ : dX))
 else
 some (v42.A, v42.B, v43))) : Option (Int × Int × dX)).bind fun v45 =>
 ((((atI s41.2.2 v45.1).bind fun v46 =>
 (if v46.Den = 0 then
 some true
 else
 ((atI s41.2.2 v45.2.1).bind fun v47 =>
 some (decide (v47.Den ≠ 0))))) : Option Bool).bind fun v48 =>
 (if v48 = true then
 some (.inl (s41.1, s41.2.2))
 else
 ((atI s41.2.2 v45.1).bind fun v49 =>
 ((mD v49 v45.2.2.Driver v45.2.2.Driven).bind fun v50 =>
 (if v50.2 ≠ 0 then
 some (.inr (.inr (.inr (.inr (([] : List aJ), v50.2)))))
 else
 ((atI s41.2.2 v45.2.1).bind fun v51 =>
 some (.inl (true, List.set s41.2.2 v45.2.1.toNat v50.1))))))))))) : Option ((Bool × List aJ) ⊕ ((Bool × Int × List aJ) ⊕ ((Bool × List aJ) ⊕ ((List aJ) ⊕ (List aJ × Int)))))).bind fun v52x => orE v52x fun v52 =>
 some (.inl (v52.1, w64 (s41.2.1 + 1), v52.2)))
 else
 some (.inr (.inl (s41.1, s41.2.2))))) (false, 0, s28.2)
 else
 some (.inr (.inl s28.2)))) (true, List.set (List.replicate (p0.Arbors.length : Int).toNat (⟨0, 0⟩ : aJ)) p1.toNat (⟨1, 1⟩ : aJ)) : Option ((List aJ) ⊕ (List aJ × Int))).bind fun v53x => orE v53x fun v53 =>
 some (v53, 0)))))

def oL (p0 : aJ) : Option Bool :=
 some (decide (p0.Den = 0))

def dC (p0 : List aJ) : Option Int :=
 ((cO (S := Int) (X := Unit ⊕ Int) (fun s4 =>
 (if s4 < (p0.length : Int) then
 ((atI p0 s4).bind fun v5 =>
 ((oL v5).bind fun v6 =>
 (if v6 = true then
 some (.inr (.inr s4))
 else
 some (.inl (w64 (s4 + 1))))))
 else
 some (.inr (.inl ())))) 0 : Option (Unit ⊕ Int)).bind fun v7x => orE v7x fun v7 =>
 some (-1))

def cD (p0 : List aJ) : Option Bool :=
 ((dC p0).bind fun v1 =>
 some (decide (0 ≤ v1)))

def pK (p0 : bE) (p1 : Int) : Option (List aJ × Int) :=
 ((jI p0).bind fun v1 =>
 (if (!v1) = true then
 some (([] : List aJ), 1)
 else
 ((cP p1 0 (w64 ((p0.Arbors.length : Int) - 1))).bind fun v2 =>
 (if (!v2) = true then
 some (([] : List aJ), 2)
 else
 ((lG p0 p1).bind fun v3 =>
 (if v3.2 ≠ 0 then
 some (([] : List aJ), v3.2)
 else
 ((cD v3.1).bind fun v4 =>
 (if v4 = true then
 some (([] : List aJ), 6)
 else
 ((cO (S := Int) (X := Unit ⊕ (List aJ × Int)) (fun s12 =>
 (if s12 < (p0.Meshes.length : Int) then
 ((atI p0.Meshes s12).bind fun v13 =>
 ((mH p0 v13).bind fun v14 =>
 ((atI v3.1 v13.A).bind fun v15 =>
 ((mD v15 v14.Driver v14.Driven).bind fun v16 =>
 (((if v16.2 ≠ 0 then
 some true
 else
 ((atI v3.1 v13.B).bind fun v17 =>
 some (decide (v16.1 ≠ v17)))) : Option Bool).bind fun v18 =>
 (if v18 = true then
 some (.inr (.inr (([] : List aJ), 10)))
 else
 some (.inl (w64 (s12 + 1)))))))))
 else
 some (.inr (.inl ())))) 0 : Option (Unit ⊕ (List aJ × Int))).bind fun v19x => orE v19x fun v19 =>
 some (v3.1, 0))))))))))

def aDi (p0 : Int) : Option Int :=
 (if p0 < 0 then
 some (w64 (-p0))
 else
 some p0)

def kE (p0 : aB) (p1 : List Int) : Option Int :=
 (chk ((p0.Months.length : Int) ≠ 0) (
 (if ((p1.length : Int).tmod (p0.Months.length : Int)) ≠ 0 then
 some 0
 else
 (chk ((p0.Months.length : Int) ≠ 0) (
 some (w64 ((p1.length : Int).tdiv (p0.Months.length : Int))))))))

def gW (p0 : aU) : Option (List ByteArray) :=
 ((gG p0).bind fun v1 =>
 (if (!v1) = true then
 some [(⟨#[109, 111, 118, 101, 109, 101, 110, 116]⟩ : ByteArray)]
 else
 ((pK p0.Works p0.Minute).bind fun v2 =>
 (((if v2.2 ≠ 0 then
 (chk ([(⟨#[119, 111, 114, 107, 115]⟩ : ByteArray)].length * 1 * 64 ≤ 140737488355328) (
 some [(⟨#[119, 111, 114, 107, 115]⟩ : ByteArray)]))
 else
 ((((atI v2.1 p0.Hour).bind fun v4 =>
 (if v4 ≠ (⟨1, 12⟩ : aJ) then
 (chk ([(⟨#[104, 111, 117, 114]⟩ : ByteArray)].length * 1 * 64 ≤ 140737488355328) (
 some [(⟨#[104, 111, 117, 114]⟩ : ByteArray)]))
 else
 some ([] : List ByteArray))) : Option (List ByteArray)).bind fun v6 =>
 ((atI v2.1 p0.Escape).bind fun v7 =>
 ((aDi v7.Num).bind fun v8 =>
 (if (w64 ((w64 (2 * p0.Teeth)) * v8)) ≠ (w64 (p0.Beats * v7.Den)) then
 (chk ((v6.length + [(⟨#[98, 101, 97, 116, 115]⟩ : ByteArray)].length) * 1 * 64 ≤ 140737488355328) (
 some (v6 ++ [(⟨#[98, 101, 97, 116, 115]⟩ : ByteArray)])))
 else
 some v6))))) : Option (List ByteArray)).bind fun v10 =>
 ((((kE p0.Calendar p0.Cam).bind fun v11 =>
 (if v11 = 0 then
 (chk ((v10.length + [(⟨#[99, 97, 109]⟩ : ByteArray)].length) * 1 * 64 ≤ 140737488355328) (
 some (v10 ++ [(⟨#[99, 97, 109]⟩ : ByteArray)])))
 else
 some v10)) : Option (List ByteArray)).bind fun v13 =>
 some v13)))))

def pJ (p0 : aB) (p1 : List Int) : Option Int :=
 ((((fD p0).bind fun v1 =>
 (if (!v1) = true then
 some true
 else
 ((kD p1).bind fun v2 =>
 some (!v2)))) : Option Bool).bind fun v3 =>
 (if v3 = true then
 some 1
 else
 ((kE p0 p1).bind fun v4 =>
 (if v4 = 0 then
 some 6
 else
 some 0))))

def wG (p0 : Int) : Option Bool :=
 ((cP p0 0 9999).bind fun v1 =>
 some v1)

def tQ (p0 : aB) (p1 : Int) : Option Bool :=
 ((cP p1 1 (p0.Months.length : Int)).bind fun v1 =>
 some v1)

def jJ (p0 : aB) (p1 : Int) : Option Bool :=
 ((cO (S := Bool × Int) (X := Bool) (fun s5 =>
 (if s5.2 < (p0.Rules.length : Int) then
 ((((atI p0.Rules s5.2).bind fun v6 =>
 (chk (v6.Every ≠ 0) (
 (if (p1.tmod v6.Every) = v6.Rest then
 some v6.Leap
 else
 some s5.1)))) : Option Bool).bind fun v8 =>
 some (.inl (v8, w64 (s5.2 + 1))))
 else
 some (.inr s5.1))) (false, 0) : Option Bool).bind fun v9 =>
 some v9)

def eW (p0 : aB) (p1 : Bool) (p2 : Int) : Option Int :=
 (if p1 = true then
 ((atI p0.Months (w64 (p2 - 1))).bind fun v1 =>
 some v1.Leap)
 else
 ((atI p0.Months (w64 (p2 - 1))).bind fun v2 =>
 some v2.Days))

def kO (p0 : aB) (p1 : cA) : Option Bool :=
 ((fD p0).bind fun v1 =>
 (if v1 = true then
 ((wG p1.Year).bind fun v2 =>
 (if v2 = true then
 ((tQ p0 p1.Month).bind fun v3 =>
 (if v3 = true then
 ((jJ p0 p1.Year).bind fun v4 =>
 ((eW p0 v4 p1.Month).bind fun v5 =>
 ((cP p1.Day 1 v5).bind fun v6 =>
 some v6)))
 else
 some false))
 else
 some false))
 else
 some false))

def eF (p0 : List Int) : Option Int :=
 (((if (p0.length : Int) < 1 then
 none
 else
 some ()) : Option Unit).bind fun v1 =>
 ((atI p0 0).bind fun v2 =>
 ((cO (S := Int × Int) (X := Int) (fun s5 =>
 (if s5.2 < (p0.length : Int) then
 ((atI p0 s5.2).bind fun v6 =>
 some (.inl (max s5.1 v6, w64 (s5.2 + 1))))
 else
 some (.inr s5.1))) (v2, 1) : Option Int).bind fun v7 =>
 some v7)))

def cM (p0 : List Int) : Option (List Int) :=
 (chk ((([] : List Int).length + p0.length) * 1 * 64 ≤ 140737488355328) (
 some (([] : List Int) ++ p0)))

def gP (p0 : aB) (p1 : List Int) (p2 : cA) (p3 : Int) : Option (aH × Int) :=
 ((pJ p0 p1).bind fun v1 =>
 (if v1 ≠ 0 then
 some ((⟨([] : List Int), 0, 0, 0, 0, 0, 0⟩ : aH), v1)
 else
 ((((kO p0 p2).bind fun v2 =>
 (if (!v2) = true then
 some true
 else
 ((cP p3 1 p0.Week).bind fun v3 =>
 some (!v3)))) : Option Bool).bind fun v4 =>
 (if v4 = true then
 some ((⟨([] : List Int), 0, 0, 0, 0, 0, 0⟩ : aH), 2)
 else
 ((eF p1).bind fun v5 =>
 ((cO (S := Int × Int) (X := Int) (fun s8 =>
 (if s8.2 < (p0.Months.length : Int) then
 ((atI p0.Months s8.2).bind fun v9 =>
 some (.inl (max (max s8.1 v9.Days) v9.Leap, w64 (s8.2 + 1))))
 else
 some (.inr s8.1))) (v5, 0) : Option Int).bind fun v10 =>
 ((cM p1).bind fun v11 =>
 ((kE p0 p1).bind fun v12 =>
 (chk (v12 ≠ 0) (
 some ((⟨v11, (p0.Months.length : Int), v10, w64 ((w64 ((w64 ((p2.Year.tmod v12) * (p0.Months.length : Int))) + p2.Month)) - 1), p2.Day, p0.Week, p3⟩ : aH), 0)))))))))))

def fS (p0 : List cH) : Option (List cH) :=
 (chk ((([] : List cH).length + p0.length) * 4 * 64 ≤ 140737488355328) (
 some (([] : List cH) ++ p0)))

def mO (p0 : bE) : Option bE :=
 ((cO (S := Int × List cQ) (X := List cQ) (fun s5 =>
 (if s5.1 < (p0.Arbors.length : Int) then
 ((atI p0.Arbors s5.1).bind fun v6 =>
 ((cM v6.Wheels).bind fun v7 =>
 (chk ((s5.2.length + 1) * 2 * 64 ≤ 140737488355328) (
 some (.inl (w64 (s5.1 + 1), s5.2 ++ [(⟨v6.Name, v7⟩ : cQ)]))))))
 else
 some (.inr s5.2))) (0, ([] : List cQ)) : Option (List cQ)).bind fun v9 =>
 ((fS p0.Meshes).bind fun v10 =>
 some (⟨v9, v10⟩ : bE)))

def fG (p0 : List bO) : Option (List bO) :=
 (chk ((([] : List bO).length + p0.length) * 3 * 64 ≤ 140737488355328) (
 some (([] : List bO) ++ p0)))

def eH (p0 : List aY) : Option (List aY) :=
 (chk ((([] : List aY).length + p0.length) * 3 * 64 ≤ 140737488355328) (
 some (([] : List aY) ++ p0)))

def gN (p0 : aU) : Option aU :=
 ((mO p0.Works).bind fun v1 =>
 ((fG p0.Calendar.Months).bind fun v2 =>
 ((eH p0.Calendar.Rules).bind fun v3 =>
 ((cM p0.Cam).bind fun v4 =>
 some (⟨p0.Name, v1, p0.Minute, p0.Hour, p0.Escape, p0.Teeth, p0.Beats, (⟨p0.Calendar.Name, v2, v3, p0.Calendar.Week⟩ : aB), v4, p0.Strike⟩ : aU)))))

def sY (p0 : aU) (p1 : cA) (p2 : Int) : Option (dM × Int) :=
 ((gG p0).bind fun v1 =>
 (if (!v1) = true then
 some ((⟨(⟨(⟨#[]⟩ : ByteArray), (⟨([] : List cQ), ([] : List cH)⟩ : bE), 0, 0, 0, 0, 0, (⟨(⟨#[]⟩ : ByteArray), ([] : List bO), ([] : List aY), 0⟩ : aB), ([] : List Int), 0⟩ : aU), (⟨0, 0, 0⟩ : cA), 0, 0, (⟨([] : List Int), 0, 0, 0, 0, 0, 0⟩ : aH)⟩ : dM), 1)
 else
 ((gW p0).bind fun v2 =>
 (if 0 < (v2.length : Int) then
 some ((⟨(⟨(⟨#[]⟩ : ByteArray), (⟨([] : List cQ), ([] : List cH)⟩ : bE), 0, 0, 0, 0, 0, (⟨(⟨#[]⟩ : ByteArray), ([] : List bO), ([] : List aY), 0⟩ : aB), ([] : List Int), 0⟩ : aU), (⟨0, 0, 0⟩ : cA), 0, 0, (⟨([] : List Int), 0, 0, 0, 0, 0, 0⟩ : aH)⟩ : dM), 6)
 else
 ((gP p0.Calendar p0.Cam p1 p2).bind fun v3 =>
 (if v3.2 ≠ 0 then
 some ((⟨(⟨(⟨#[]⟩ : ByteArray), (⟨([] : List cQ), ([] : List cH)⟩ : bE), 0, 0, 0, 0, 0, (⟨(⟨#[]⟩ : ByteArray), ([] : List bO), ([] : List aY), 0⟩ : aB), ([] : List Int), 0⟩ : aU), (⟨0, 0, 0⟩ : cA), 0, 0, (⟨([] : List Int), 0, 0, 0, 0, 0, 0⟩ : aH)⟩ : dM), v3.2)
 else
 ((gN p0).bind fun v4 =>
 some ((⟨v4, p1, p2, 0, v3.1⟩ : dM), 0))))))))

def gT (p0 : aH) : Option Bool :=
 ((((kD p0.Cam).bind fun v1 =>
 (if (!v1) = true then
 some true
 else
 (if p0.Months < 1 then
 some true
 else
 (chk (p0.Months ≠ 0) (
 some (decide (((p0.Cam.length : Int).tmod p0.Months) ≠ 0))))))) : Option Bool).bind fun v3 =>
 (if v3 = true then
 some false
 else
 (((if 60 < p0.Teeth then
 some true
 else
 ((eF p0.Cam).bind fun v4 =>
 some (decide (p0.Teeth < v4)))) : Option Bool).bind fun v5 =>
 (if v5 = true then
 some false
 else
 ((cP p0.At 0 (w64 ((p0.Cam.length : Int) - 1))).bind fun v6 =>
 (if v6 = true then
 ((cP p0.Day 1 p0.Teeth).bind fun v7 =>
 (if v7 = true then
 ((cP p0.Week 1 12).bind fun v8 =>
 (if v8 = true then
 ((cP p0.Weekday 1 p0.Week).bind fun v9 =>
 some v9)
 else
 some false))
 else
 some false))
 else
 some false))))))

def eL (p0 : List Int) (p1 : List Int) : Option Bool :=
 (if (p0.length : Int) ≠ (p1.length : Int) then
 some false
 else
 ((cO (S := Int) (X := Unit ⊕ Bool) (fun s4 =>
 (if s4 < (p0.length : Int) then
 ((atI p0 s4).bind fun v5 =>
 ((atI p1 s4).bind fun v6 =>
 (if v5 ≠ v6 then
 some (.inr (.inr false))
 else
 some (.inl (w64 (s4 + 1))))))
 else
 some (.inr (.inl ())))) 0 : Option (Unit ⊕ Bool)).bind fun v7x => orE v7x fun v7 =>
 some true))

def gD (p0 : dM) : Option Bool :=
 ((sY p0.Movement p0.Start p0.First).bind fun v1 =>
 (((if v1.2 ≠ 0 then
 some true
 else
 ((cP p0.Clock 0 1000000000).bind fun v2 =>
 (if (!v2) = true then
 some true
 else
 ((gT p0.Dial).bind fun v3 =>
 some (!v3))))) : Option Bool).bind fun v4 =>
 (if v4 = true then
 some false
 else
 ((eL p0.Dial.Cam v1.1.Dial.Cam).bind fun v5 =>
 (if v5 = true then
 (if p0.Dial.Months = v1.1.Dial.Months then
 (if p0.Dial.Teeth = v1.1.Dial.Teeth then
 some (decide (p0.Dial.Week = v1.1.Dial.Week))
 else
 some false)
 else
 some false)
 else
 some false)))))

def mR (p0 : aH) : Option aH :=
 ((cM p0.Cam).bind fun v1 =>
 some (⟨v1, p0.Months, p0.Teeth, p0.At, p0.Day, p0.Week, p0.Weekday⟩ : aH))

def jY (p0 : dM) : Option dM :=
 ((gN p0.Movement).bind fun v1 =>
 ((mR p0.Dial).bind fun v2 =>
 some (⟨v1, p0.Start, p0.First, p0.Clock, v2⟩ : dM)))

def iJ (p0 : aH) : Option Int :=
 ((atI p0.Cam p0.At).bind fun v1 =>
 (if p0.Day = v1 then
 some (w64 ((w64 (p0.Teeth + 1)) - p0.Day))
 else
 some 1))

def dY (p0 : dM) : Option dM :=
 (chk ((p0.Dial.Cam.length : Int) ≠ 0) (
 some (⟨p0.Movement, p0.Start, p0.First, p0.Clock, (⟨p0.Dial.Cam, p0.Dial.Months, p0.Dial.Teeth, (w64 (p0.Dial.At + 1)).tmod (p0.Dial.Cam.length : Int), p0.Dial.Day, p0.Dial.Week, p0.Dial.Weekday⟩ : aH)⟩ : dM)))

def eD (p0 : dM) (p1 : Int) : Option dM :=
 (if p0.Dial.Teeth < (w64 (p0.Dial.Day + p1)) then
 ((dY (⟨p0.Movement, p0.Start, p0.First, p0.Clock, (⟨p0.Dial.Cam, p0.Dial.Months, p0.Dial.Teeth, p0.Dial.At, w64 ((w64 (p0.Dial.Day + p1)) - p0.Dial.Teeth), p0.Dial.Week, p0.Dial.Weekday⟩ : aH)⟩ : dM)).bind fun v1 =>
 some v1)
 else
 some (⟨p0.Movement, p0.Start, p0.First, p0.Clock, (⟨p0.Dial.Cam, p0.Dial.Months, p0.Dial.Teeth, p0.Dial.At, w64 (p0.Dial.Day + p1), p0.Dial.Week, p0.Dial.Weekday⟩ : aH)⟩ : dM))

def dO (p0 : dM) : Option dM :=
 (chk (p0.Dial.Week ≠ 0) (
 some (⟨p0.Movement, p0.Start, p0.First, p0.Clock, (⟨p0.Dial.Cam, p0.Dial.Months, p0.Dial.Teeth, p0.Dial.At, p0.Dial.Day, p0.Dial.Week, w64 ((p0.Dial.Weekday.tmod p0.Dial.Week) + 1)⟩ : aH)⟩ : dM)))

def dK (p0 : dM) : Option dM :=
 ((iJ p0.Dial).bind fun v1 =>
 ((eD p0 v1).bind fun v2 =>
 ((dO v2).bind fun v3 =>
 some v3)))

def oG (p0 : Int) : Option Int :=
 some (w64 ((w64 ((w64 (p0.tdiv 12)) * 78)) + (w64 ((w64 ((p0.tmod 12) * (w64 ((p0.tmod 12) + 1)))).tdiv 2))))

def jD (p0 : Int) (p1 : Int) (p2 : Int) : Option (Int × Int) :=
 ((((cP p0 0 2).bind fun v1 =>
 (if (!v1) = true then
 some true
 else
 ((cP p1 0 p2).bind fun v2 =>
 (if (!v2) = true then
 some true
 else
 some (decide (1000000000 < p2)))))) : Option Bool).bind fun v3 =>
 (if v3 = true then
 some (0, 2)
 else
 (if p0 = 0 then
 some (0, 0)
 else
 ((oG (w64 (p2.tdiv 3600))).bind fun v5 =>
 ((oG (w64 (p1.tdiv 3600))).bind fun v7 =>
 some (w64 (v5 - v7), 0))))))

def nP (p0 : dM) (p1 : Int) : Option (dM × Int × Int) :=
 ((gD p0).bind fun v1 =>
 (if (!v1) = true then
 some ((⟨(⟨(⟨#[]⟩ : ByteArray), (⟨([] : List cQ), ([] : List cH)⟩ : bE), 0, 0, 0, 0, 0, (⟨(⟨#[]⟩ : ByteArray), ([] : List bO), ([] : List aY), 0⟩ : aB), ([] : List Int), 0⟩ : aU), (⟨0, 0, 0⟩ : cA), 0, 0, (⟨([] : List Int), 0, 0, 0, 0, 0, 0⟩ : aH)⟩ : dM), 0, 1)
 else
 ((((cP p1 0 3000000).bind fun v2 =>
 (if (!v2) = true then
 some true
 else
 some (decide (1000000000 < (w64 (p0.Clock + p1)))))) : Option Bool).bind fun v3 =>
 (if v3 = true then
 some ((⟨(⟨(⟨#[]⟩ : ByteArray), (⟨([] : List cQ), ([] : List cH)⟩ : bE), 0, 0, 0, 0, 0, (⟨(⟨#[]⟩ : ByteArray), ([] : List bO), ([] : List aY), 0⟩ : aB), ([] : List Int), 0⟩ : aU), (⟨0, 0, 0⟩ : cA), 0, 0, (⟨([] : List Int), 0, 0, 0, 0, 0, 0⟩ : aH)⟩ : dM), 0, 2)
 else
 ((jY p0).bind fun v4 =>
 ((cO (S := Int × ByteArray × Int × Int × Int × Int × Int × ByteArray × Int × Int × cA × Int × Int × Int × Int × Int × Int × Int × Int × List cQ × List cH × List bO × List aY × List Int × List Int) (X := ByteArray × Int × Int × Int × Int × Int × ByteArray × Int × Int × cA × Int × Int × Int × Int × Int × Int × Int × Int × List cQ × List cH × List bO × List aY × List Int × List Int) (fun s9 =>
 (if 0 < s9.1 then
 ((dK (⟨(⟨s9.2.1, (⟨s9.2.2.2.2.2.2.2.2.2.2.2.2.2.2.2.2.2.2.2.1, s9.2.2.2.2.2.2.2.2.2.2.2.2.2.2.2.2.2.2.2.2.1⟩ : bE), s9.2.2.1, s9.2.2.2.1, s9.2.2.2.2.1, s9.2.2.2.2.2.1, s9.2.2.2.2.2.2.1, (⟨s9.2.2.2.2.2.2.2.1, s9.2.2.2.2.2.2.2.2.2.2.2.2.2.2.2.2.2.2.2.2.2.1, s9.2.2.2.2.2.2.2.2.2.2.2.2.2.2.2.2.2.2.2.2.2.2.1, s9.2.2.2.2.2.2.2.2.1⟩ : aB), s9.2.2.2.2.2.2.2.2.2.2.2.2.2.2.2.2.2.2.2.2.2.2.2.1, s9.2.2.2.2.2.2.2.2.2.1⟩ : aU), s9.2.2.2.2.2.2.2.2.2.2.1, s9.2.2.2.2.2.2.2.2.2.2.2.1, s9.2.2.2.2.2.2.2.2.2.2.2.2.1, (⟨s9.2.2.2.2.2.2.2.2.2.2.2.2.2.2.2.2.2.2.2.2.2.2.2.2, s9.2.2.2.2.2.2.2.2.2.2.2.2.2.1, s9.2.2.2.2.2.2.2.2.2.2.2.2.2.2.1, s9.2.2.2.2.2.2.2.2.2.2.2.2.2.2.2.1, s9.2.2.2.2.2.2.2.2.2.2.2.2.2.2.2.2.1, s9.2.2.2.2.2.2.2.2.2.2.2.2.2.2.2.2.2.1, s9.2.2.2.2.2.2.2.2.2.2.2.2.2.2.2.2.2.2.1⟩ : aH)⟩ : dM)).bind fun v10 =>
 some (.inl (w64 (s9.1 - 1), v10.Movement.Name, v10.Movement.Minute, v10.Movement.Hour, v10.Movement.Escape, v10.Movement.Teeth, v10.Movement.Beats, v10.Movement.Calendar.Name, v10.Movement.Calendar.Week, v10.Movement.Strike, v10.Start, v10.First, v10.Clock, v10.Dial.Months, v10.Dial.Teeth, v10.Dial.At, v10.Dial.Day, v10.Dial.Week, v10.Dial.Weekday, v10.Movement.Works.Arbors, v10.Movement.Works.Meshes, v10.Movement.Calendar.Months, v10.Movement.Calendar.Rules, v10.Movement.Cam, v10.Dial.Cam)))
 else
 some (.inr (s9.2.1, s9.2.2.1, s9.2.2.2.1, s9.2.2.2.2.1, s9.2.2.2.2.2.1, s9.2.2.2.2.2.2.1, s9.2.2.2.2.2.2.2.1, s9.2.2.2.2.2.2.2.2.1, s9.2.2.2.2.2.2.2.2.2.1, s9.2.2.2.2.2.2.2.2.2.2.1, s9.2.2.2.2.2.2.2.2.2.2.2.1, s9.2.2.2.2.2.2.2.2.2.2.2.2.1, s9.2.2.2.2.2.2.2.2.2.2.2.2.2.1, s9.2.2.2.2.2.2.2.2.2.2.2.2.2.2.1, s9.2.2.2.2.2.2.2.2.2.2.2.2.2.2.2.1, s9.2.2.2.2.2.2.2.2.2.2.2.2.2.2.2.2.1, s9.2.2.2.2.2.2.2.2.2.2.2.2.2.2.2.2.2.1, s9.2.2.2.2.2.2.2.2.2.2.2.2.2.2.2.2.2.2.1, s9.2.2.2.2.2.2.2.2.2.2.2.2.2.2.2.2.2.2.2.1, s9.2.2.2.2.2.2.2.2.2.2.2.2.2.2.2.2.2.2.2.2.1, s9.2.2.2.2.2.2.2.2.2.2.2.2.2.2.2.2.2.2.2.2.2.1, s9.2.2.2.2.2.2.2.2.2.2.2.2.2.2.2.2.2.2.2.2.2.2.1, s9.2.2.2.2.2.2.2.2.2.2.2.2.2.2.2.2.2.2.2.2.2.2.2.1, s9.2.2.2.2.2.2.2.2.2.2.2.2.2.2.2.2.2.2.2.2.2.2.2.2)))) (w64 ((w64 ((w64 (v4.Clock + p1)).tdiv 86400)) - (w64 (p0.Clock.tdiv 86400))), v4.Movement.Name, v4.Movement.Minute, v4.Movement.Hour, v4.Movement.Escape, v4.Movement.Teeth, v4.Movement.Beats, v4.Movement.Calendar.Name, v4.Movement.Calendar.Week, v4.Movement.Strike, v4.Start, v4.First, w64 (v4.Clock + p1), v4.Dial.Months, v4.Dial.Teeth, v4.Dial.At, v4.Dial.Day, v4.Dial.Week, v4.Dial.Weekday, v4.Movement.Works.Arbors, v4.Movement.Works.Meshes, v4.Movement.Calendar.Months, v4.Movement.Calendar.Rules, v4.Movement.Cam, v4.Dial.Cam) : Option (ByteArray × Int × Int × Int × Int × Int × ByteArray × Int × Int × cA × Int × Int × Int × Int × Int × Int × Int × Int × List cQ × List cH × List bO × List aY × List Int × List Int)).bind fun v11 =>
 ((jD v11.2.2.2.2.2.2.2.2.1 p0.Clock v11.2.2.2.2.2.2.2.2.2.2.2.1).bind fun v12 =>
 some ((⟨(⟨v11.1, (⟨v11.2.2.2.2.2.2.2.2.2.2.2.2.2.2.2.2.2.2.1, v11.2.2.2.2.2.2.2.2.2.2.2.2.2.2.2.2.2.2.2.1⟩ : bE), v11.2.1, v11.2.2.1, v11.2.2.2.1, v11.2.2.2.2.1, v11.2.2.2.2.2.1, (⟨v11.2.2.2.2.2.2.1, v11.2.2.2.2.2.2.2.2.2.2.2.2.2.2.2.2.2.2.2.2.1, v11.2.2.2.2.2.2.2.2.2.2.2.2.2.2.2.2.2.2.2.2.2.1, v11.2.2.2.2.2.2.2.1⟩ : aB), v11.2.2.2.2.2.2.2.2.2.2.2.2.2.2.2.2.2.2.2.2.2.2.1, v11.2.2.2.2.2.2.2.2.1⟩ : aU), v11.2.2.2.2.2.2.2.2.2.1, v11.2.2.2.2.2.2.2.2.2.2.1, v11.2.2.2.2.2.2.2.2.2.2.2.1, (⟨v11.2.2.2.2.2.2.2.2.2.2.2.2.2.2.2.2.2.2.2.2.2.2.2, v11.2.2.2.2.2.2.2.2.2.2.2.2.1, v11.2.2.2.2.2.2.2.2.2.2.2.2.2.1, v11.2.2.2.2.2.2.2.2.2.2.2.2.2.2.1, v11.2.2.2.2.2.2.2.2.2.2.2.2.2.2.2.1, v11.2.2.2.2.2.2.2.2.2.2.2.2.2.2.2.2.1, v11.2.2.2.2.2.2.2.2.2.2.2.2.2.2.2.2.2.1⟩ : aH)⟩ : dM), v12.1, 0))))))))

def nH (p0 : bE) (p1 : bE) : Option Bool :=
 (((if (p0.Arbors.length : Int) ≠ (p1.Arbors.length : Int) then
 some true
 else
 some (decide ((p0.Meshes.length : Int) ≠ (p1.Meshes.length : Int)))) : Option Bool).bind fun v1 =>
 (if v1 = true then
 some false
 else
 ((cO (S := Int) (X := Unit ⊕ Bool) (fun s9 =>
 (if s9 < (p0.Arbors.length : Int) then
 ((((atI p0.Arbors s9).bind fun v10 =>
 ((atI p1.Arbors s9).bind fun v11 =>
 (if v10.Name ≠ v11.Name then
 some true
 else
 ((atI p0.Arbors s9).bind fun v12 =>
 ((atI p1.Arbors s9).bind fun v13 =>
 ((hP v12.Wheels v13.Wheels).bind fun v14 =>
 some (!v14))))))) : Option Bool).bind fun v15 =>
 (if v15 = true then
 some (.inr (.inr false))
 else
 some (.inl (w64 (s9 + 1)))))
 else
 some (.inr (.inl ())))) 0 : Option (Unit ⊕ Bool)).bind fun v16x => orE v16x fun v16 =>
 ((cO (S := Int) (X := Unit ⊕ Bool) (fun s20 =>
 (if s20 < (p0.Meshes.length : Int) then
 ((atI p0.Meshes s20).bind fun v21 =>
 ((atI p1.Meshes s20).bind fun v22 =>
 (if v21 ≠ v22 then
 some (.inr (.inr false))
 else
 some (.inl (w64 (s20 + 1))))))
 else
 some (.inr (.inl ())))) 0 : Option (Unit ⊕ Bool)).bind fun v23x => orE v23x fun v23 =>
 some true))))

def rA (p0 : aB) (p1 : aB) : Option Bool :=
 (((if p0.Name ≠ p1.Name then
 some true
 else
 (if p0.Week ≠ p1.Week then
 some true
 else
 (if (p0.Months.length : Int) ≠ (p1.Months.length : Int) then
 some true
 else
 some (decide ((p0.Rules.length : Int) ≠ (p1.Rules.length : Int)))))) : Option Bool).bind fun v1 =>
 (if v1 = true then
 some false
 else
 ((cO (S := Int) (X := Unit ⊕ Bool) (fun s5 =>
 (if s5 < (p0.Months.length : Int) then
 ((atI p0.Months s5).bind fun v6 =>
 ((atI p1.Months s5).bind fun v7 =>
 (if v6 ≠ v7 then
 some (.inr (.inr false))
 else
 some (.inl (w64 (s5 + 1))))))
 else
 some (.inr (.inl ())))) 0 : Option (Unit ⊕ Bool)).bind fun v8x => orE v8x fun v8 =>
 ((cO (S := Int) (X := Unit ⊕ Bool) (fun s12 =>
 (if s12 < (p0.Rules.length : Int) then
 ((atI p0.Rules s12).bind fun v13 =>
 ((atI p1.Rules s12).bind fun v14 =>
 (if v13 ≠ v14 then
 some (.inr (.inr false))
 else
 some (.inl (w64 (s12 + 1))))))
 else
 some (.inr (.inl ())))) 0 : Option (Unit ⊕ Bool)).bind fun v15x => orE v15x fun v15 =>
 some true))))

def iX (p0 : aU) (p1 : aU) : Option Bool :=
 (((if p0.Name ≠ p1.Name then
 some true
 else
 (if p0.Minute ≠ p1.Minute then
 some true
 else
 (if p0.Hour ≠ p1.Hour then
 some true
 else
 (if p0.Escape ≠ p1.Escape then
 some true
 else
 (if p0.Teeth ≠ p1.Teeth then
 some true
 else
 (if p0.Beats ≠ p1.Beats then
 some true
 else
 some (decide (p0.Strike ≠ p1.Strike)))))))) : Option Bool).bind fun v1 =>
 (if v1 = true then
 some false
 else
 ((nH p0.Works p1.Works).bind fun v2 =>
 (if v2 = true then
 ((rA p0.Calendar p1.Calendar).bind fun v3 =>
 (if v3 = true then
 ((hP p0.Cam p1.Cam).bind fun v4 =>
 some v4)
 else
 some false))
 else
 some false))))

def kS (p0 : aH) (p1 : aH) : Option Bool :=
 ((hP p0.Cam p1.Cam).bind fun v1 =>
 (if v1 = true then
 (if p0.Months = p1.Months then
 (if p0.Teeth = p1.Teeth then
 (if p0.At = p1.At then
 (if p0.Day = p1.Day then
 (if p0.Week = p1.Week then
 some (decide (p0.Weekday = p1.Weekday))
 else
 some false)
 else
 some false)
 else
 some false)
 else
 some false)
 else
 some false)
 else
 some false))

def qT (p0 : dM) (p1 : dM) : Option Bool :=
 ((iX p0.Movement p1.Movement).bind fun v1 =>
 (if v1 = true then
 (if p0.Start = p1.Start then
 (if p0.First = p1.First then
 (if p0.Clock = p1.Clock then
 ((kS p0.Dial p1.Dial).bind fun v2 =>
 some v2)
 else
 some false)
 else
 some false)
 else
 some false)
 else
 some false))

def nO (p0 : dM) (p1 : Int) : Option (dM × Int) :=
 ((gD p0).bind fun v1 =>
 (if (!v1) = true then
 some ((⟨(⟨(⟨#[]⟩ : ByteArray), (⟨([] : List cQ), ([] : List cH)⟩ : bE), 0, 0, 0, 0, 0, (⟨(⟨#[]⟩ : ByteArray), ([] : List bO), ([] : List aY), 0⟩ : aB), ([] : List Int), 0⟩ : aU), (⟨0, 0, 0⟩ : cA), 0, 0, (⟨([] : List Int), 0, 0, 0, 0, 0, 0⟩ : aH)⟩ : dM), 1)
 else
 ((jY p0).bind fun v2 =>
 (((if p1 = 1 then
 ((eD v2 1).bind fun v3 =>
 some (.inl (v3.Movement.Name, v3.Movement.Minute, v3.Movement.Hour, v3.Movement.Escape, v3.Movement.Teeth, v3.Movement.Beats, v3.Movement.Calendar.Name, v3.Movement.Calendar.Week, v3.Movement.Strike, v3.Start, v3.First, v3.Clock, v3.Dial.Months, v3.Dial.Teeth, v3.Dial.At, v3.Dial.Day, v3.Dial.Week, v3.Dial.Weekday, v3.Movement.Works.Arbors, v3.Movement.Works.Meshes, v3.Movement.Calendar.Months, v3.Movement.Calendar.Rules, v3.Movement.Cam, v3.Dial.Cam)))
 else
 (if p1 = 2 then
 ((dY v2).bind fun v4 =>
 some (.inl (v4.Movement.Name, v4.Movement.Minute, v4.Movement.Hour, v4.Movement.Escape, v4.Movement.Teeth, v4.Movement.Beats, v4.Movement.Calendar.Name, v4.Movement.Calendar.Week, v4.Movement.Strike, v4.Start, v4.First, v4.Clock, v4.Dial.Months, v4.Dial.Teeth, v4.Dial.At, v4.Dial.Day, v4.Dial.Week, v4.Dial.Weekday, v4.Movement.Works.Arbors, v4.Movement.Works.Meshes, v4.Movement.Calendar.Months, v4.Movement.Calendar.Rules, v4.Movement.Cam, v4.Dial.Cam)))
 else
 (if p1 = 3 then
 ((dO v2).bind fun v5 =>
 some (.inl (v5.Movement.Name, v5.Movement.Minute, v5.Movement.Hour, v5.Movement.Escape, v5.Movement.Teeth, v5.Movement.Beats, v5.Movement.Calendar.Name, v5.Movement.Calendar.Week, v5.Movement.Strike, v5.Start, v5.First, v5.Clock, v5.Dial.Months, v5.Dial.Teeth, v5.Dial.At, v5.Dial.Day, v5.Dial.Week, v5.Dial.Weekday, v5.Movement.Works.Arbors, v5.Movement.Works.Meshes, v5.Movement.Calendar.Months, v5.Movement.Calendar.Rules, v5.Movement.Cam, v5.Dial.Cam)))
 else
 some (.inr ((⟨(⟨(⟨#[]⟩ : ByteArray), (⟨([] : List cQ), ([] : List cH)⟩ : bE), 0, 0, 0, 0, 0, (⟨(⟨#[]⟩ : ByteArray), ([] : List bO), ([] : List aY), 0⟩ : aB), ([] : List Int), 0⟩ : aU), (⟨0, 0, 0⟩ : cA), 0, 0, (⟨([] : List Int), 0, 0, 0, 0, 0, 0⟩ : aH)⟩ : dM), 2))))) : Option ((ByteArray × Int × Int × Int × Int × Int × ByteArray × Int × Int × cA × Int × Int × Int × Int × Int × Int × Int × Int × List cQ × List cH × List bO × List aY × List Int × List Int) ⊕ (dM × Int))).bind fun v6x => orE v6x fun v6 =>
 some ((⟨(⟨v6.1, (⟨v6.2.2.2.2.2.2.2.2.2.2.2.2.2.2.2.2.2.2.1, v6.2.2.2.2.2.2.2.2.2.2.2.2.2.2.2.2.2.2.2.1⟩ : bE), v6.2.1, v6.2.2.1, v6.2.2.2.1, v6.2.2.2.2.1, v6.2.2.2.2.2.1, (⟨v6.2.2.2.2.2.2.1, v6.2.2.2.2.2.2.2.2.2.2.2.2.2.2.2.2.2.2.2.2.1, v6.2.2.2.2.2.2.2.2.2.2.2.2.2.2.2.2.2.2.2.2.2.1, v6.2.2.2.2.2.2.2.1⟩ : aB), v6.2.2.2.2.2.2.2.2.2.2.2.2.2.2.2.2.2.2.2.2.2.2.1, v6.2.2.2.2.2.2.2.2.1⟩ : aU), v6.2.2.2.2.2.2.2.2.2.1, v6.2.2.2.2.2.2.2.2.2.2.1, v6.2.2.2.2.2.2.2.2.2.2.2.1, (⟨v6.2.2.2.2.2.2.2.2.2.2.2.2.2.2.2.2.2.2.2.2.2.2.2, v6.2.2.2.2.2.2.2.2.2.2.2.2.1, v6.2.2.2.2.2.2.2.2.2.2.2.2.2.1, v6.2.2.2.2.2.2.2.2.2.2.2.2.2.2.1, v6.2.2.2.2.2.2.2.2.2.2.2.2.2.2.2.1, v6.2.2.2.2.2.2.2.2.2.2.2.2.2.2.2.2.1, v6.2.2.2.2.2.2.2.2.2.2.2.2.2.2.2.2.2.1⟩ : aH)⟩ : dM), 0)))))

def rV (p0 : dM) : Option Bool :=
 ((pD p0).bind fun v1 =>
 some v1)

def iD (p0 : aB) : Option (Int × Int) :=
 ((cO (S := Int × Int × Int) (X := Int × Int) (fun s3 =>
 (if s3.2.2 < (p0.Months.length : Int) then
 ((atI p0.Months s3.2.2).bind fun v4 =>
 some (.inl (w64 (s3.1 + v4.Days), w64 (s3.2.1 + v4.Leap), w64 (s3.2.2 + 1))))
 else
 some (.inr (s3.1, s3.2.1)))) (0, 0, 0) : Option (Int × Int)).bind fun v5 =>
 some (v5.1, v5.2))

def jM (p0 : aB) (p1 : Int) : Option Int :=
 ((iD p0).bind fun v1 =>
 ((cO (S := Int × Int) (X := Int) (fun s5 =>
 (if s5.2 < p1 then
 ((((jJ p0 s5.2).bind fun v6 =>
 (if v6 = true then
 some (w64 (s5.1 + v1.2))
 else
 some (w64 (s5.1 + v1.1)))) : Option Int).bind fun v7 =>
 some (.inl (v7, w64 (s5.2 + 1))))
 else
 some (.inr s5.1))) (0, 0) : Option Int).bind fun v8 =>
 some v8))

def uS (p0 : aB) (p1 : cA) : Option Int :=
 ((jM p0 p1.Year).bind fun v1 =>
 ((jJ p0 p1.Year).bind fun v2 =>
 ((cO (S := Int × Int) (X := Int) (fun s5 =>
 (if s5.2 < p1.Month then
 ((eW p0 v2 s5.2).bind fun v6 =>
 some (.inl (w64 (s5.1 + v6), w64 (s5.2 + 1))))
 else
 some (.inr s5.1))) (w64 ((w64 (v1 + p1.Day)) - 1), 1) : Option Int).bind fun v7 =>
 some v7)))

def zO (p0 : aB) (p1 : cA) : Option (Int × Int) :=
 ((fD p0).bind fun v1 =>
 (if (!v1) = true then
 some (0, 1)
 else
 ((kO p0 p1).bind fun v2 =>
 (if (!v2) = true then
 some (0, 2)
 else
 ((uS p0 p1).bind fun v3 =>
 some (v3, 0))))))

def qV (p0 : aB) : Option Int :=
 ((jM p0 10000).bind fun v1 =>
 some (w64 (v1 - 1)))

def sP (p0 : aB) (p1 : Int) : Option cA :=
 ((iD p0).bind fun v1 =>
 ((cO (S := Int × cA) (X := Int × cA) (fun s5 =>
 ((((jJ p0 s5.2.Year).bind fun v6 =>
 (if v6 = true then
 some v1.2
 else
 some v1.1)) : Option Int).bind fun v7 =>
 (if s5.1 < v7 then
 some (.inr (s5.1, s5.2))
 else
 some (.inl (w64 (s5.1 - v7), (⟨w64 (s5.2.Year + 1), s5.2.Month, s5.2.Day⟩ : cA)))))) (p1, (⟨0, 1, 0⟩ : cA)) : Option (Int × cA)).bind fun v8 =>
 ((((jJ p0 v8.2.Year).bind fun v9 =>
 cO (S := Int × cA) (X := Int × cA) (fun s13 =>
 ((eW p0 v9 s13.2.Month).bind fun v14 =>
 (if v14 ≤ s13.1 then
 ((eW p0 v9 s13.2.Month).bind fun v15 =>
 some (.inl (w64 (s13.1 - v15), (⟨s13.2.Year, w64 (s13.2.Month + 1), s13.2.Day⟩ : cA))))
 else
 some (.inr (s13.1, s13.2))))) (v8.1, v8.2)) : Option (Int × cA)).bind fun v16 =>
 some (⟨v16.2.Year, v16.2.Month, w64 (v16.1 + 1)⟩ : cA))))

def tY (p0 : aB) (p1 : Int) (p2 : Int) : Option (cA × Int) :=
 ((qV p0).bind fun v1 =>
 ((cP p2 (w64 (-p1)) (w64 (v1 - p1))).bind fun v2 =>
 (if (!v2) = true then
 some ((⟨0, 0, 0⟩ : cA), 2)
 else
 ((sP p0 (w64 (p1 + p2))).bind fun v3 =>
 some (v3, 0)))))

def tX (p0 : aB) (p1 : cA) (p2 : Int) : Option (cA × Int) :=
 ((zO p0 p1).bind fun v1 =>
 (if v1.2 ≠ 0 then
 some ((⟨0, 0, 0⟩ : cA), v1.2)
 else
 ((tY p0 v1.1 p2).bind fun v2 =>
 some (v2.1, v2.2))))

def kF (p0 : dM) : Option (cA × Int × Int) :=
 ((tX p0.Movement.Calendar p0.Start (w64 (p0.Clock.tdiv 86400))).bind fun v2 =>
 (if v2.2 ≠ 0 then
 some ((⟨0, 0, 0⟩ : cA), 0, v2.2)
 else
 (chk (p0.Movement.Calendar.Week ≠ 0) (
 some (v2.1, w64 (((w64 ((w64 (p0.First - 1)) + (w64 (p0.Clock.tdiv 86400)))).tmod p0.Movement.Calendar.Week) + 1), 0)))))

def lH (p0 : dM) : Option (dM × Int) :=
 ((gD p0).bind fun v1 =>
 (if (!v1) = true then
 some ((⟨(⟨(⟨#[]⟩ : ByteArray), (⟨([] : List cQ), ([] : List cH)⟩ : bE), 0, 0, 0, 0, 0, (⟨(⟨#[]⟩ : ByteArray), ([] : List bO), ([] : List aY), 0⟩ : aB), ([] : List Int), 0⟩ : aU), (⟨0, 0, 0⟩ : cA), 0, 0, (⟨([] : List Int), 0, 0, 0, 0, 0, 0⟩ : aH)⟩ : dM), 1)
 else
 ((kF p0).bind fun v2 =>
 (if v2.2.2 ≠ 0 then
 some ((⟨(⟨(⟨#[]⟩ : ByteArray), (⟨([] : List cQ), ([] : List cH)⟩ : bE), 0, 0, 0, 0, 0, (⟨(⟨#[]⟩ : ByteArray), ([] : List bO), ([] : List aY), 0⟩ : aB), ([] : List Int), 0⟩ : aU), (⟨0, 0, 0⟩ : cA), 0, 0, (⟨([] : List Int), 0, 0, 0, 0, 0, 0⟩ : aH)⟩ : dM), v2.2.2)
 else
 ((gP p0.Movement.Calendar p0.Movement.Cam v2.1 v2.2.1).bind fun v3 =>
 (if v3.2 ≠ 0 then
 some ((⟨(⟨(⟨#[]⟩ : ByteArray), (⟨([] : List cQ), ([] : List cH)⟩ : bE), 0, 0, 0, 0, 0, (⟨(⟨#[]⟩ : ByteArray), ([] : List bO), ([] : List aY), 0⟩ : aB), ([] : List Int), 0⟩ : aU), (⟨0, 0, 0⟩ : cA), 0, 0, (⟨([] : List Int), 0, 0, 0, 0, 0, 0⟩ : aH)⟩ : dM), v3.2)
 else
 ((jY p0).bind fun v4 =>
 some ((⟨v4.Movement, v4.Start, v4.First, v4.Clock, v3.1⟩ : dM), 0))))))))

def pF (p0 : dM) : Option (cA × Int) :=
 ((gD p0).bind fun v1 =>
 (if (!v1) = true then
 some ((⟨0, 0, 0⟩ : cA), 1)
 else
 ((kF p0).bind fun v2 =>
 some (v2.1, v2.2.2))))

def oF (p0 : aH) : Option Int :=
 (chk (p0.Months ≠ 0) (
 some (w64 ((p0.At.tmod p0.Months) + 1))))

def zC (p0 : aH) (p1 : Int) (p2 : Int) : Option Bool :=
 (if p0.Day = p2 then
 ((oF p0).bind fun v1 =>
 some (decide (v1 = p1)))
 else
 some false)

def gS (p0 : dM) : Option Bool :=
 ((gD p0).bind fun v1 =>
 (if (!v1) = true then
 some false
 else
 ((kF p0).bind fun v2 =>
 (if v2.2.2 = 0 then
 ((zC p0.Dial v2.1.Month v2.1.Day).bind fun v3 =>
 (if v3 = true then
 some (decide (p0.Dial.Weekday = v2.2.1))
 else
 some false))
 else
 some false))))

def yW (p0 : List Int) (p1 : List Int) : Option Bool :=
 ((wJ p0 p1).bind fun v1 =>
 (if v1 = true then
 some true
 else
 ((vP p0).bind fun v2 =>
 ((tL p1 0 256).bind fun v3 =>
 ((tL p1 1 256).bind fun v4 =>
 ((nP v2 (w64 (400 * v3))).bind fun v5 =>
 ((nP v5.1 (w64 (400 * v4))).bind fun v6 =>
 ((nP v2 (w64 ((w64 (400 * v3)) + (w64 (400 * v4))))).bind fun v7 =>
 (((if v5.2.2 ≠ 0 then
 some true
 else
 (if v6.2.2 ≠ 0 then
 some true
 else
 (if v7.2.2 ≠ 0 then
 some true
 else
 ((qT v6.1 v7.1).bind fun v8 =>
 (if (!v8) = true then
 some true
 else
 (if v5.2.1 < 0 then
 some true
 else
 (if v6.2.1 < 0 then
 some true
 else
 (if 10000 < v5.2.1 then
 some true
 else
 (if 10000 < v6.2.1 then
 some true
 else
 some (decide ((w64 (v5.2.1 + v6.2.1)) ≠ v7.2.1))))))))))) : Option Bool).bind fun v9 =>
 (if v9 = true then
 some false
 else
 ((tL p1 2 3).bind fun v10 =>
 ((nO v7.1 (w64 (1 + v10))).bind fun v11 =>
 (((if v11.2 ≠ 0 then
 some true
 else
 ((rV v11.1).bind fun v12 =>
 some (!v12))) : Option Bool).bind fun v13 =>
 (if v13 = true then
 some false
 else
 ((lH v11.1).bind fun v14 =>
 (if v14.2 ≠ 0 then
 ((pF v11.1).bind fun v15 =>
 (if v14.2 = 2 then
 some (decide (v15.2 = v14.2))
 else
 some false))
 else
 ((gS v14.1).bind fun v16 =>
 (if v16 = true then
 some (decide (v14.1.Clock = (w64 ((w64 (400 * v3)) + (w64 (400 * v4))))))
 else
 some false))))))))))))))))))

end Go.Proofs.YtgcdbbidmfdonaaGreat
namespace Go.Proofs.YtgcdbbidmfdonaaGreat
open Go.RowKit
set_option linter.unusedVariables false
set_option maxRecDepth 100000
abbrev dI (x : Int) : AV := .d (.v (.int .i64 x))
abbrev z0 : AV := dI 0
abbrev dB (x : Bool) : AV := .d (.v (.bool x))
abbrev dS (x : ByteArray) : AV := .d (.v (.string x))
abbrev dL {α : Type} (c : α → List DV) (x : List α) : AV := .d (.sl (List.map c x))
abbrev zl : AV := .d (.v (.slice none 0 0))
abbrev ze : AV := .d (.v (.string (⟨#[]⟩ : ByteArray)))
section
variable {P : Program} {T : Tab} {L N : Nat} {ops : Array Oper} {E : Env} {K : List (Nat × Cls) → AS → Prop} {i : Nat} {is : List Nat} {t : Nat → AV} {h h' : eG} {d : Tmp} {dst : Option Tmp} {op : Op} {ty : TypeId} {pos : String} {aft : Array Edge} {g : Option (Nat × Bool)} {Q : rJ → AS → Prop} {σ : AS} {c : Code} {x y : Operand}
theorem wa (k : Nat) (et : TypeId) (esz kb j : Nat) {bt : TypeId} {sz : Nat} {cells cells' : List AV} (H : AW L P N c Q ⟨t, upd (upd h k (.live [⟨et, esz, .data []⟩])) kb (.live [⟨bt, sz, .av [cells']⟩])⟩) (hk : h k = .no := by exact rfl) (hb : h kb = .live [⟨bt, sz, .av [cells]⟩] := by exact rfl) (hj : cells[j]? = some (.d (.v (.slice none 0 0))) := by exact rfl) (hs : Spl j [.own k 0 0] cells cells' := by repeat (first | exact Spl.z _ | apply Spl.t | apply Spl.d)) : AW L P N c Q ⟨t, h⟩ := cJ (qC k hk et esz hb hj hs) H
theorem fi (N : Nat) (hT : TOk P T) {f : FuncId} {fn : Func} {body : Code} {hin hout : List fU} {as : List AV} {r : AV} (hf : P.funcs[f]? = some fn) (hw : AW 3 P N body (aU2 T N fn hin.length hout r) ⟨aQj as 0, lks hin⟩) (hb : fn.body = some body := by exact rfl) (hN : fn.ntmps = N := by exact rfl) (hc : aLo P f = true := by kernel_rfl) (hl : Nat.ble as.length N = true := by exact rfl) (hm : Nat.ble hin.length 3 = true := by exact rfl) : FnC P f hin as hout r := aO5 hT hf hb hN hc hl hm hw
theorem bst (hT : TOk P T) {bt bt' : TypeId} {kk j sz : Nat} {c1 : AV} {cells cs cells' : List AV} {ti : TI} (k : RA L P N ops is Q ⟨t, upd h kk (.live [⟨bt', sz, .av [cells']⟩])⟩) (ho : ops[i]? = some ⟨none, .store bt x y, ty, pos, aft, none⟩ := by exact rfl) (hx : evA N ⟨t, h⟩ x = .ptr kk 0 1 0 j := by exact rfl) (hy : vV (evA N ⟨t, h⟩ y) = c1 :: cs := by exact rfl) (hk1 : okL (c1 :: cs) = true := by exact rfl) (h1 : T bt = some ti := by exact rfl)
  (hl : Nat.beq (c1 :: cs).length ti.size = true := by exact rfl) (hpos : Nat.blt 0 ti.size = true := by exact rfl) (hk : h kk = .live [⟨bt', sz, .av [cells]⟩] := by exact rfl) (hs : Spl j (c1 :: cs) cells cells' := by repeat (first | exact Spl.z _ | apply Spl.t | apply Spl.d)) : RA L P N ops (i :: is) Q ⟨t, h⟩ := rw0 ho w0 (fR hT hx hy hk1 h1 hl hpos hk hs) k
theorem bs1 (hT : TOk P T) {bt bt' : TypeId} {kk j sz : Nat} {c1 : DV} {cells cells' : List AV} {ti : TI} (k : RA L P N ops is Q ⟨t, upd h kk (.live [⟨bt', sz, .av [cells']⟩])⟩) (ho : ops[i]? = some ⟨none, .store bt x y, ty, pos, aft, none⟩ := by exact rfl) (hx : evA N ⟨t, h⟩ x = .ptr kk 0 1 0 j := by exact rfl) (hy : vV (evA N ⟨t, h⟩ y) = [.d c1] := by exact rfl) (hk1 : okL [.d c1] = true := by exact rfl) (h1 : T bt = some ti := by exact rfl)
  (hl : Nat.beq [AV.d c1].length ti.size = true := by exact rfl) (hpos : Nat.blt 0 ti.size = true := by exact rfl) (hk : h kk = .live [⟨bt', sz, .av [cells]⟩] := by exact rfl) (hs : Spl j [.d c1] cells cells' := by repeat (first | exact Spl.z _ | apply Spl.t | apply Spl.d)) : RA L P N ops (i :: is) Q ⟨t, h⟩ := rw0 ho w0 (fR hT hx hy hk1 h1 hl hpos hk hs) k
theorem al (k : Nat) (cs : List AV) (hT : TOk P T) {bt : TypeId} {ti : TI} (H : RA L P N ops is Q ⟨aE t d (.ptr k 0 1 0 0), upd h k (.live [⟨bt, cs.length, .av [cs]⟩])⟩) (ho : ops[i]? = some ⟨some d, .alloc bt, ty, pos, aft, none⟩ := by exact rfl) (hd : Nat.blt d N = true := by exact rfl) (h1 : T bt = some ti := by exact rfl) (hc : aBd ti.zero.cells.toList = cs := by exact rfl) (hk : h k = .no := by exact rfl) : RA L P N ops (i :: is) Q ⟨t, h⟩ := rs ho w0 hd (iQ k hT h1 hc hk) H
theorem bxx (k : Nat) {bt : TypeId} {c1 : AV} {cs : List AV} (H : RA L P N ops is Q ⟨aE t d (.ptr k 0 1 0 0), upd h k (.live [⟨bt, (c1 :: cs).length, .av [c1 :: cs]⟩])⟩) (ho : ops[i]? = some ⟨some d, .box bt x, ty, pos, aft, none⟩ := by exact rfl) (hd : Nat.blt d N = true := by exact rfl) (hc : vV (evA N ⟨t, h⟩ x) = c1 :: cs := by exact rfl) (hk1 : okL (c1 :: cs) = true := by exact rfl) (hk : h k = .no := by exact rfl) : RA L P N ops (i :: is) Q ⟨t, h⟩ := rs ho w0 hd (aT7 k hc hk1 hk) H
theorem tfa (hT : TOk P T) {s bt : TypeId} {q kk e sz : Nat} {cells : List AV} {ti fj : TI} {fs : Array Field} {fld : Field} (H : RT P N ops is (fun l σ' => K ((i, .lk kk) :: l) σ') ⟨aE t d (.ptr kk 0 1 0 (e + fld.offset)), h⟩) (ho : ops[i]? = some ⟨some d, .fieldAddr s x q, ty, pos, aft, none⟩ := by exact rfl) (hd : Nat.blt d N = true := by exact rfl) (hx : evA N ⟨t, h⟩ x = .ptr kk 0 1 0 e := by exact rfl) (h1 : T s = some ti := by exact rfl) (h2 : ti.desc = .struct fs := by exact rfl) (h3 : fs[q]? = some fld := by exact rfl) (h4 : T fld.type = some fj := by exact rfl) (h5 : Nat.beq fj.size 0 = false := by exact rfl) (hk : h kk = .live [⟨bt, sz, .av [cells]⟩] := by exact rfl) : RT P N ops (i :: is) K ⟨t, h⟩ := bW ho w0 hd (sH hT hx h1 h2 h3 h4 h5 hk) rfl (by rw [hx]; rfl) (by simp only [Op.operands, List.all_cons, List.all_nil, hx]; simp [AV.key]) H
theorem tld (hT : TOk P T) {lt bt : TypeId} {kk e sz : Nat} {cells : List AV} {c0 : AV} {ti : TI} (H : RT P N ops is (fun l σ' => K ((i, .lk kk) :: l) σ') ⟨aE t d c0, h⟩) (ho : ops[i]? = some ⟨some d, .load lt x, ty, pos, aft, none⟩ := by exact rfl) (hd : Nat.blt d N = true := by exact rfl) (hx : evA N ⟨t, h⟩ x = .ptr kk 0 1 0 e := by exact rfl) (h1 : T lt = some ti := by exact rfl) (h2 : sQ ti.desc = false := by exact rfl) (hk : h kk = .live [⟨bt, sz, .av [cells]⟩] := by exact rfl) (hc : cells[e]? = some c0 := by exact rfl) : RT P N ops (i :: is) K ⟨t, h⟩ := bW ho w0 hd (lD hT hx h1 h2 hk hc) rfl (by rw [hx]; rfl) (by simp only [Op.operands, List.all_cons, List.all_nil, hx]; simp [AV.key]) H
theorem r0t {fn : Func} (i : Nat) {as : List AV} {r : AV} (hrs : fn.results.toList = [.tmp i])
  (R : mW T N ⟨t, h⟩ [.tmp i] as := by repeat (first | exact mW.nil | apply mW.tmp (a := .d _) rfl | apply mW.tmp (a := .own _ _ _) rfl | apply mW.tmp (a := .agg _) rfl | apply mW.tmp (a := .ref _) rfl | apply mW.tmp (a := .ptr _ _ _ _ _) rfl | apply mW.cell1 rfl rfl rfl rfl (by first | rfl) (by first | rfl) rfl | apply mW.cellN rfl rfl rfl rfl (by first | rfl) (by first | rfl) (by repeat (first | exact Seg.z _ | apply Seg.t | apply Seg.d))))
  (hB : Abv h 300 := by repeat (first | exact jQ _ | exact jR rfl | refine jN ?_ rfl)) (e : aPn as = r := by rfl) (hf : r.free = true := by rfl) : aDg T N fn 0 [] r ⟨t, h⟩ := aVx 300 hrs R hB hf e
theorem rP {r : AV} (ho : (ops[i]?, Nat.blt d N) = (some ⟨some d, op, ty, pos, aft, none⟩, true)) (hp : eY P N ⟨some d, op, ty, pos, aft, none⟩ ⟨t, h⟩ r) (k : RA L P N ops is Q ⟨aE t d r, h⟩) : RA L P N ops (i :: is) Q ⟨t, h⟩ := rp (Prod.mk.inj ho).1 w0 (Prod.mk.inj ho).2 hp k
theorem rL {r : AV} (ho : (ops[i]?, Nat.blt d N) = (some ⟨some d, op, ty, pos, aft, none⟩, true)) (hp : kW P N ⟨some d, op, ty, pos, aft, none⟩ ⟨t, h⟩ r) (k : RA L P N ops is Q ⟨aE t d r, h⟩) : RA L P N ops (i :: is) Q ⟨t, h⟩ := rl (Prod.mk.inj ho).1 w0 (Prod.mk.inj ho).2 hp k
theorem rS {r : AV} (ho : (ops[i]?, Nat.blt d N) = (some ⟨some d, op, ty, pos, aft, none⟩, true)) (hp : dU P N ⟨some d, op, ty, pos, aft, none⟩ ⟨t, h⟩ r h' ∧ ∀ k, h k ≠ .no → h' k = h k) (k : RA L P N ops is Q ⟨aE t d r, h'⟩) : RA L P N ops (i :: is) Q ⟨t, h⟩ := rs (Prod.mk.inj ho).1 w0 (Prod.mk.inj ho).2 hp k
theorem tP {r : AV} (ho : (ops[i]?, Nat.blt d N) = (some ⟨some d, op, ty, pos, aft, none⟩, true)) (hp : eY P N ⟨some d, op, ty, pos, aft, none⟩ ⟨t, h⟩ r) (k : RT P N ops is (fun l σ' => K ((i, .pu) :: l) σ') ⟨aE t d r, h⟩) : RT P N ops (i :: is) K ⟨t, h⟩ := mL (Prod.mk.inj ho).1 w0 (Prod.mk.inj ho).2 hp k
end
end Go.Proofs.YtgcdbbidmfdonaaGreat
namespace Go.Proofs.YtgcdbbidmfdonaaGreat
set_option linter.unusedVariables false
theorem oM {α : Type} {xs : List α} {i : Int} (h0 : 0 ≤ i) (h1 : i < xs.length) : ∃ e, atI xs i = some e ∧ e ∈ xs ∧ xs[i.toNat]? = some e := by
 have hl : i.toNat < xs.length := by omega
 refine ⟨xs[i.toNat], ?_, List.getElem_mem hl, List.getElem?_eq_getElem hl⟩
 unfold atI; rw [if_pos h0]; exact List.getElem?_eq_getElem hl
theorem aLn {α : Type} {k : Option α} : chk True k = k := if_pos trivial
theorem aSe {i : Int} {n : Nat} (h0 : 0 ≤ i) (h1 : i < n) (hn : n ≤ 9223372036854775807) : w64 (i + 1) = i + 1 := aW (by omega) (by omega)
theorem yD {α : Type} [DecidableEq α] {xs : List α} (hl : xs.length ≤ 9223372036854775807) :
  cO (S := Int) (X := Unit ⊕ Bool) (fun s => (if s < (xs.length : Int) then ((atI xs s).bind fun v => ((atI xs s).bind fun u => (if v ≠ u then some (.inr (.inr false)) else some (.inl (w64 (s + 1)))))) else some (.inr (.inl ())))) 0 = some (.inl ()) := by
 refine aB5 (fun (s : Int) => 0 ≤ s ∧ s ≤ xs.length) (fun (s : Int) => ((xs.length : Int) - s).toNat) (fun s hI => ?_) (by omega) (by omega)
 by_cases hs : s < xs.length
 ·obtain ⟨e, he, hm, _⟩ := oM hI.1 hs
  left
  refine ⟨s + 1, ?_, by omega, by omega⟩
  simp [hs, he, aSe hI.1 hs hl]
 ·right; simp [hs]
theorem aNt {X : Type} {n : Nat} {g : Nat → Bool} {d : X} {e : Nat → X} {step : Int → Option (Int ⊕ X)} (hS : ∀ i : Nat, i < n → step (i : Int) = some (if g i = true then .inl ((i : Int) + 1) else .inr (e i))) (hE : step (n : Int) = some (.inr d)) (hn : n ≤ 9223372036854775807) :
  ∃ x, cO step 0 = some x ∧ (((∀ j, j < n → g j = true) ∧ x = d) ∨ ∃ i, i < n ∧ g i = false ∧ (∀ j, j < i → g j = true) ∧ x = e i) := by
 refine tI (fun (s : Int) => 0 ≤ s ∧ s ≤ n ∧ ∀ j : Nat, (j : Int) < s → g j = true) (fun (s : Int) => ((n : Int) - s).toNat) _ (fun s hI => ?_) 0 ⟨by omega, by omega, fun j hj => by omega⟩ (by omega)
 obtain ⟨q0, q1, q2⟩ := hI
 obtain ⟨i, rfl⟩ : ∃ i : Nat, s = i := ⟨s.toNat, by omega⟩
 by_cases hs : i < n
 ·cases hg : g i
  ·right
   exact ⟨e i, by rw [hS i hs, hg]; rfl, .inr ⟨i, hs, hg, fun j hj => q2 j (by omega), rfl⟩⟩
  ·left
   refine ⟨(i : Int) + 1, by rw [hS i hs, hg]; rfl, ⟨by omega, by omega, fun j hj => ?_⟩, by omega⟩
   rcases Nat.lt_or_ge j i with h | h
   ·exact q2 j (by omega)
   ·have : j = i := by omega
    rw [this]; exact hg
 ·right
  have : i = n := by omega
  subst this
  exact ⟨d, hE, .inl ⟨fun j hj => q2 j (by omega), rfl⟩⟩
theorem aJ5 {X : Type} {n : Nat} {g : Nat → Bool} {d e : X} {step : Int → Option (Int ⊕ X)} (hS : ∀ i : Nat, i < n → step (i : Int) = some (if g i = true then .inl ((i : Int) + 1) else .inr e)) (hE : step (n : Int) = some (.inr d)) (hn : n ≤ 9223372036854775807) :
  cO step 0 = some (if (List.range n).all g = true then d else e) := by
 obtain ⟨x, hx, ⟨h, rfl⟩ | ⟨i, hi, hg, _, rfl⟩⟩ := aNt (e := fun _ => e) hS hE hn
 ·rw [hx, if_pos (by simpa using h)]
 ·rw [hx, if_neg (by simp only [List.all_eq_true, List.mem_range]; intro h; rw [h i hi] at hg; cases hg)]
theorem eE {α : Type} {xs : List α} {i : Nat} (h : i < xs.length) : atI xs (i : Int) = some xs[i] := by rw [aI3]; exact List.getElem?_eq_getElem h
theorem aCv {α : Type} {xs : List α} {f : α → Bool} {g : Nat → Bool} (h : ∀ (i : Nat) (hi : i < xs.length), g i = f xs[i]) : (List.range xs.length).all g = xs.all f := by
 rw [Bool.eq_iff_iff, List.all_eq_true, List.all_eq_true]
 constructor
 ·intro q v hv
  obtain ⟨i, hi, rfl⟩ := List.getElem_of_mem hv
  rw [← h i hi]; exact q i (List.mem_range.2 hi)
 ·intro q i hi
  have hi := List.mem_range.1 hi
  rw [h i hi]; exact q _ (List.getElem_mem hi)
theorem aP0 {α X : Type} {xs : List α} {f : α → Bool} {d e : X} {step : Int → Option (Int ⊕ X)} (hS : ∀ (i : Nat) (hi : i < xs.length), step (i : Int) = some (if f xs[i] = true then .inl ((i : Int) + 1) else .inr e)) (hE : step (xs.length : Int) = some (.inr d)) (hn : xs.length ≤ 9223372036854775807) :
  cO step 0 = some (if xs.all f = true then d else e) := by
 rw [aJ5 (n := xs.length) (d := d) (e := e) (g := fun i => if hi : i < xs.length then f xs[i] else true) (fun i hi => by rw [hS i hi]; simp [hi]) hE hn, aCv (f := f) fun i hi => by simp [hi]]
theorem aHx {α β : Type} {xs : List α} {f : α → List β} {c : Nat} {init : List β} {step : Int × List β → Option ((Int × List β) ⊕ List β)} (hc : ∀ v ∈ xs, (f v).length ≤ c) (hS : ∀ (i : Nat) (hi : i < xs.length) ys, ys.length ≤ init.length + c * i → step ((i : Int), ys) = some (.inl ((i : Int) + 1, ys ++ f xs[i]))) (hE : ∀ ys, step ((xs.length : Int), ys) = some (.inr ys)) (hn : xs.length ≤ 9223372036854775807) :
  cO step (0, init) = some (init ++ xs.flatMap f) := by
 refine aB5 (fun (s : Int × List β) => 0 ≤ s.1 ∧ s.1 ≤ xs.length ∧ s.2 = init ++ (xs.take s.1.toNat).flatMap f ∧ s.2.length ≤ init.length + c * s.1.toNat) (fun (s : Int × List β) => ((xs.length : Int) - s.1).toNat) (fun s hI => ?_) (by simp) (by simp; omega)
 obtain ⟨i, ys⟩ := s
 obtain ⟨q0, q1, q2, q3⟩ := hI
 dsimp only at q0 q1 q2 q3 ⊢
 obtain ⟨j, rfl⟩ : ∃ j : Nat, i = j := ⟨i.toNat, by omega⟩
 have e2 : ((j : Int)).toNat = j := by omega
 rw [e2] at q2 q3
 by_cases hs : j < xs.length
 ·left
  have e : ((j : Int) + 1).toNat = j + 1 := by omega
  refine ⟨_, hS j hs ys q3, ⟨by dsimp only; omega, by dsimp only; omega, ?_, ?_⟩, by dsimp only; omega⟩
  ·dsimp only
   rw [e, q2, List.take_succ_eq_append_getElem hs, List.flatMap_append, ← List.append_assoc]; simp
  ·dsimp only
   rw [e, List.length_append, Nat.mul_add]
   have := hc xs[j] (List.getElem_mem hs)
   omega
 ·right
  have : j = xs.length := by omega
  subst this
  rw [hE ys, q2, List.take_length]
end Go.Proofs.YtgcdbbidmfdonaaGreat
namespace Go.Proofs.YtgcdbbidmfdonaaGreat
set_option linter.unusedVariables false
def btw (x a b : Int) : Bool := decide (a ≤ x ∧ x ≤ b)
theorem fB (x a b : Int) : cP x a b = some (btw x a b) := by unfold cP btw; split <;> simp_all <;> omega
theorem eC (x a b : Int) : cN x a b = some (btw x a b) := by unfold cN btw; split <;> simp_all <;> omega
structure aWo (r k n : Int) : Prop where
 p0 : 0 ≤ 2 * k * (n - 2 * k)
 p1 : 2 * k * (n - 2 * k) ≤ 64000000
 r0 : 0 ≤ r * 16 * (2 * k * (n - 2 * k))
 r1 : r * 16 * (2 * k * (n - 2 * k)) ≤ 102400000000000
 n0 : 1 ≤ 5 * n * n - 4 * (2 * k * (n - 2 * k))
 n1 : 5 * n * n ≤ 1280000000
end Go.Proofs.YtgcdbbidmfdonaaGreat
namespace Go.Proofs.YtgcdbbidmfdonaaGreat
set_option linter.unusedVariables false
def smB (c : Int) : Bool := decide (97 ≤ c ∧ c ≤ 122)
def dgB (c : Int) : Bool := decide (48 ≤ c ∧ c ≤ 57)
def okB (c : Int) : Bool := smB c || (dgB c || decide (c = 45))
theorem aCq (s : ByteArray) (i : Int) : aFt s i = atI (eJ s) i := by
 unfold aFt atI eJ
 split
 ·rename_i h
  rw [List.getElem?_map]
  congr 1
  rw [Array.getElem?_toList]
  by_cases hi : i.toNat < s.size
  ·rw [getElem?_pos s i.toNat hi, getElem?_pos s.data i.toNat hi]; rfl
  ·rw [getElem?_neg s i.toNat hi, getElem?_neg s.data i.toNat hi]
 ·rfl
def lV (s : ByteArray) : Bool := decide (1 ≤ s.size ∧ s.size ≤ 12) && ((eJ s).take 1).all smB && (eJ s).all okB
theorem yY (c : Int) : mE c = some (smB c) := by unfold mE smB; split <;> simp_all <;> omega
theorem aGc (c : Int) : pN c = some (dgB c) := by unfold pN dgB; split <;> simp_all <;> omega
theorem aVw {s : ByteArray} : s = ⟨#[]⟩ ↔ s.size = 0 := by
 constructor
 ·rintro rfl; rfl
 ·intro h
  cases s with | mk d =>
  have : d = #[] := Array.eq_empty_of_size_eq_zero h
  rw [this]
theorem qY (s : ByteArray) : kU s = some (lV s) := by
 have hl := aAq s
 unfold kU lV
 by_cases h0 : s = ⟨#[]⟩
 ·have := aVw.1 h0
  simp [h0]
  intro h; exact absurd h (by decide)
 ·have h1 : s.size ≠ 0 := fun h => h0 (aVw.2 h)
  rw [if_neg h0]
  by_cases h2 : 12 < (s.size : Int)
  ·rw [if_pos h2]
   simp
   intro a b; omega
  ·rw [if_neg h2]
   obtain ⟨c, cs, hc⟩ : ∃ c cs, eJ s = c :: cs := by
    cases hb : eJ s with
    | nil => rw [hb] at hl; simp at hl; omega
    | cons c cs => exact ⟨c, cs, rfl⟩
   have e0 : aFt s 0 = some c := by rw [aCq, hc]; rfl
   rw [e0]
   simp only [Option.bind_some, yY]
   have ht : ((eJ s).take 1).all smB = smB c := by rw [hc]; simp
   have hd : decide (1 ≤ s.size ∧ s.size ≤ 12) = true := decide_eq_true ⟨by omega, by omega⟩
   rw [ht, hd]
   cases hs : smB c
   ·simp
   ·simp only [Bool.not_true, Bool.false_eq_true, if_false, Bool.true_and]
    have hz : (s.size : Int) = ((eJ s).length : Int) := by rw [hl]
    rw [hz, aP0 (xs := eJ s) (f := okB) (d := .inl ()) (e := .inr false) (fun i hi => ?_) (by simp) (by omega)]
    ·cases (eJ s).all okB <;> simp [orE]
    ·have hi' : (i : Int) < ((eJ s).length : Int) := by omega
     have e1 : w64 ((i : Int) + 1) = i + 1 := aW (by omega) (by omega)
     rw [if_pos hi', aCq, eE hi]
     simp only [Option.bind_some, yY, aGc, e1, okB]
     generalize (eJ s)[i] = c
     rcases Bool.eq_false_or_eq_true (smB c) with g1 | g1 <;> rcases Bool.eq_false_or_eq_true (dgB c) with g2 | g2 <;> by_cases h45 : c = 45 <;> simp [g1, g2, h45]
theorem xF (s : ByteArray) : lZ s = some (lV s) := by
 have hl := aAq s
 unfold lZ lV
 by_cases h1 : (s.size : Int) < 1
 ·rw [if_pos h1]; simp
  intro a b; omega
 ·rw [if_neg h1]
  by_cases h2 : 12 < (s.size : Int)
  ·simp [h2]
   intro a b; omega
  ·have hd : decide (1 ≤ s.size ∧ s.size ≤ 12) = true := decide_eq_true ⟨by omega, by omega⟩
   simp only [h2, decide_false, Option.bind_some, Bool.false_eq_true, if_false, hd, Bool.true_and]
   rw [gB (by omega), aJ5 (n := (eJ s).length) (d := .inl ()) (e := .inr false) (g := fun i => smB ((eJ s).getD i 0) || (decide (i ≠ 0) && (dgB ((eJ s).getD i 0) || decide ((eJ s).getD i 0 = 45)))) (fun i hi => ?_) (by simp) (by omega)]
   ·obtain ⟨c, cs, hc⟩ : ∃ c cs, eJ s = c :: cs := by
     cases hb : eJ s with
     | nil => rw [hb] at hl; simp at hl; omega
     | cons c cs => exact ⟨c, cs, rfl⟩
    have key : (List.range (eJ s).length).all (fun i => smB ((eJ s).getD i 0) || (decide (i ≠ 0) && (dgB ((eJ s).getD i 0) || decide ((eJ s).getD i 0 = 45)))) = (((eJ s).take 1).all smB && (eJ s).all okB) := by
     rw [hc]
     simp only [List.length_cons, List.range_succ_eq_map, List.all_cons, List.all_map, List.take_succ_cons, List.take_zero, List.all_nil, Bool.and_true]
     have : (List.range cs.length).all ((fun i => smB ((c :: cs).getD i 0) || (decide (i ≠ 0) && (dgB ((c :: cs).getD i 0) || decide ((c :: cs).getD i 0 = 45)))) ∘ Nat.succ) = cs.all okB := aCv (f := okB) fun i hi => by simp [okB, hi]
     rw [this]
     simp [okB]
     cases smB c <;> simp
    rw [key]
    cases ((eJ s).take 1).all smB && (eJ s).all okB <;> simp [orE]
   ·have hi' : (i : Int) < ((eJ s).length : Int) := by omega
    have e1 : w64 ((i : Int) + 1) = i + 1 := aW (by omega) (by omega)
    have e2 : (eJ s).getD i 0 = (eJ s)[i] := by simp [hi]
    rw [if_pos hi', eE hi, e2]
    simp only [Option.bind_some, e1]
    generalize (eJ s)[i] = c
    have A : (if 97 ≤ c then some (decide (c ≤ 122)) else some false) = some (smB c) := by unfold smB; split <;> simp_all <;> omega
    have B : (if 48 ≤ c then (if c ≤ 57 then some true else some (decide (c = 45))) else some (decide (c = 45))) = some (dgB c || decide (c = 45)) := by
     unfold dgB
     split
     ·split <;> simp_all <;> omega
     ·simp_all; omega
    rw [A, B]
    simp only [Option.bind_some]
    have hz : ((i : Int) = 0) ↔ i = 0 := by omega
    cases smB c <;> cases (dgB c || decide (c = 45)) <;> by_cases h0 : i = 0 <;> simp [h0]
end Go.Proofs.YtgcdbbidmfdonaaGreat
namespace Go.Proofs.YtgcdbbidmfdonaaGreat
set_option linter.unusedVariables false
def aGw {α : Type} (xs : List α) (f : Nat → α → Bool) : Bool := (List.range xs.length).all fun i => if hi : i < xs.length then f i xs[i] else true
theorem tV {α : Type} {xs : List α} {f : Nat → α → Bool} : aGw xs f = true ↔ ∀ (i : Nat) (hi : i < xs.length), f i xs[i] = true := by
 unfold aGw
 rw [List.all_eq_true]
 constructor
 ·intro h i hi
  have := h i (List.mem_range.2 hi)
  rwa [dif_pos hi] at this
 ·intro h i hi
  have hi := List.mem_range.1 hi
  rw [dif_pos hi]
  exact h i hi
theorem lO {α : Type} {xs : List α} {f : α → Bool} : aGw xs (fun _ v => f v) = xs.all f := aCv fun i hi => by simp [hi]
theorem sR {α X : Type} {xs : List α} {G : Int → Option (Int ⊕ X)} (f : Nat → α → Bool) {d e : X} (hl : xs.length ≤ 9223372036854775807) (hG : ∀ (i : Nat) (hi : i < xs.length), G i = some (if f i xs[i] = true then .inl (w64 ((i : Int) + 1)) else .inr e)) :
  cO (fun s => (if s < (xs.length : Int) then G s else some (.inr d))) 0 = some (if aGw xs f = true then d else e) := by
 refine aJ5 (n := xs.length) (g := fun i => if hi : i < xs.length then f i xs[i] else true) (fun i hi => ?_) (by simp) hl
 have hi' : (i : Int) < xs.length := by omega
 have e1 : w64 ((i : Int) + 1) = i + 1 := aW (by omega) (by omega)
 simp only [if_pos hi', hG i hi, hi, dite_true, e1]
theorem aTa {α X : Type} {xs : List α} {G : Int → Option (Int ⊕ X)} (k : Nat) (f : Nat → α → Bool) {d e : X} (hk : k ≤ xs.length) (hl : xs.length ≤ 9223372036854775807) (hG : ∀ (i : Nat) (hi : i < xs.length), i < k → G i = some (if f i xs[i] = true then .inl (w64 ((i : Int) + 1)) else .inr e)) :
  cO (fun s => (if s < (k : Int) then G s else some (.inr d))) 0 = some (if aGw (xs.take k) f = true then d else e) := by
 have hlen : (xs.take k).length = k := by rw [List.length_take]; omega
 have := sR (xs := xs.take k) (G := G) f (d := d) (e := e) (by omega) (fun i hi => by
  rw [List.getElem_take]; exact hG i (by omega) (by omega))
 rwa [hlen] at this
def aJq {α : Type} (xs : List α) (p : α → Bool) : Int := match xs.findIdx? p with
 | some i => i
 | none => -1
theorem aPw {α : Type} {xs : List α} {G : Int → Option (Int ⊕ (Unit ⊕ Int))} (p : α → Bool) (hl : xs.length ≤ 9223372036854775807) (hG : ∀ (i : Nat) (hi : i < xs.length), G i = (if p xs[i] = true then some (.inr (.inr (i : Int))) else some (.inl (w64 ((i : Int) + 1))))) :
  ((cO (fun s => (if s < (xs.length : Int) then G s else some (.inr (.inl ())))) 0 : Option (Unit ⊕ Int)).bind fun x => orE x fun v => some (-1)) = some (aJq xs p) := by
 obtain ⟨x, hx, h⟩ := aNt (X := Unit ⊕ Int) (n := xs.length) (step := fun s => (if s < (xs.length : Int) then G s else some (.inr (.inl ())))) (g := fun i => if hi : i < xs.length then !p xs[i] else true) (d := .inl ()) (e := fun i => .inr (i : Int)) (fun i hi => by
  have hi' : (i : Int) < xs.length := by omega
  have e1 : w64 ((i : Int) + 1) = i + 1 := aW (by omega) (by omega)
  simp only [if_pos hi', hG i hi, hi, dite_true, e1]
  cases p xs[i] <;> rfl) (by simp) hl
 rw [hx]
 unfold aJq
 rcases h with ⟨h, rfl⟩ | ⟨i, hi, hg, hj, rfl⟩
 ·have : xs.findIdx? p = none := by
   rw [List.findIdx?_eq_none_iff]
   intro v hv
   obtain ⟨i, hi, rfl⟩ := List.getElem_of_mem hv
   have := h i hi
   simpa [hi] using this
  rw [this]; rfl
 ·have : xs.findIdx? p = some i := by
   rw [List.findIdx?_eq_some_iff_getElem]
   refine ⟨hi, by simpa [hi] using hg, fun j hji => ?_⟩
   have := hj j hji
   have hjl : j < xs.length := by omega
   simpa [hjl] using this
  rw [this]; rfl
theorem aFd {α : Type} {xs : List α} {p : α → Bool} : decide (0 ≤ aJq xs p) = xs.any p := by
 unfold aJq
 cases h : xs.findIdx? p with
 | none =>
  rw [List.findIdx?_eq_none_iff] at h
  have e : xs.any p = false := by
   rw [← Bool.not_eq_true, List.any_eq_true]
   rintro ⟨v, hv, hp⟩
   rw [h v hv] at hp; cases hp
  rw [e]; rfl
 | some i =>
  rw [List.findIdx?_eq_some_iff_getElem] at h
  obtain ⟨hi, hp, _⟩ := h
  rw [List.any_eq_true.2 ⟨_, List.getElem_mem hi, hp⟩]
  exact decide_eq_true (by show (0 : Int) ≤ (i : Int); omega)
theorem aLp {α : Type} {xs : List α} {p : α → Bool} {i : Nat} (hi : i < xs.length) (hp : p xs[i] = true) : decide (aJq xs p ≠ (i : Int)) = (xs.take i).any p := by
 unfold aJq
 cases h : xs.findIdx? p with
 | none =>
  rw [List.findIdx?_eq_none_iff] at h
  rw [h _ (List.getElem_mem hi)] at hp; cases hp
 | some j =>
  rw [List.findIdx?_eq_some_iff_getElem] at h
  obtain ⟨hj, hpj, hmin⟩ := h
  by_cases e : j = i
  ·subst e
   have e2 : (xs.take j).any p = false := by
    rw [← Bool.not_eq_true, List.any_eq_true]
    rintro ⟨v, hv, hq⟩
    obtain ⟨k, hk, rfl⟩ := List.getElem_of_mem hv
    rw [List.length_take] at hk
    rw [List.getElem_take] at hq
    exact hmin k (by omega) hq
   rw [e2]
   exact decide_eq_false (by simp)
  ·have hlt : j < i := by
    rcases Nat.lt_trichotomy j i with h | h | h
    ·exact h
    ·exact absurd h e
    ·exact absurd hp (hmin i h)
   have e2 : (xs.take i).any p = true := List.any_eq_true.2 ⟨xs[j], by
    rw [List.mem_iff_getElem]
    exact ⟨j, by rw [List.length_take]; omega, by rw [List.getElem_take]⟩, hpj⟩
   rw [e2]
   exact decide_eq_true (by show (j : Int) ≠ (i : Int); omega)
theorem aOk {α : Type} {xs : List α} {i : Nat} : aAv xs 0 (i : Int) = xs.take i := by simp [aAv]
theorem aI2 {α : Type} {xs : List α} {i : Nat} (h : i ≤ xs.length) : 0 ≤ (0 : Int) ∧ (0 : Int) ≤ (i : Int) ∧ (i : Int) ≤ (xs.length : Int) := by omega
def aM1 {α σ X : Type} (body : Nat → α → σ → Option (σ ⊕ X)) : List α → Nat → σ → Option (σ ⊕ X)
 | [], _, s => some (.inl s)
 | x :: xs, i, s => (body i x s).bind fun r => match r with
  | .inl s' => aM1 body xs (i + 1) s'
  | .inr y => some (.inr y)
theorem qF {S X : Type} (step : S → Option (S ⊕ X)) (n : Nat) (s : S) : sX step (n + 1) s = (step s).bind fun r => match r with
  | .inl s' => sX step n s'
  | .inr y => some y := by
 cases h : step s with
 | none => simp [sX, h]
 | some r => cases r <;> simp [sX, h]
theorem wI {α S σ X : Type} {xs : List α} {step : S → Option (S ⊕ X)} (mk : Int → σ → S) (body : Nat → α → σ → Option (σ ⊕ X)) (fin : σ → X) (hl : xs.length ≤ 9223372036854775807)
  (hS : ∀ (i : Nat) (hi : i < xs.length) s, step (mk i s) = (body i xs[i] s).map (Sum.map (mk ((i : Int) + 1)) id)) (hE : ∀ s, step (mk xs.length s) = some (.inr (fin s))) (s0 : σ) :
  cO step (mk 0 s0) = (aM1 body xs 0 s0).map (Sum.elim fin id) := by
 have key : ∀ (k : Nat) (ys : List α) (n : Nat) s, ys.length + k = xs.length → ys = xs.drop k → ys.length < n → sX step n (mk (k : Int) s) = (aM1 body ys k s).map (Sum.elim fin id) := by
  intro k ys
  induction ys generalizing k with
  | nil =>
   intro n s h1 h2 h3
   obtain ⟨n, rfl⟩ : ∃ m, n = m + 1 := ⟨n - 1, by simp at h3; omega⟩
   have : k = xs.length := by simpa using h1
   subst this
   rw [qF, hE]; rfl
  | cons y ys ih =>
   intro n s h1 h2 h3
   obtain ⟨n, rfl⟩ : ∃ m, n = m + 1 := ⟨n - 1, by simp at h3; omega⟩
   have hk : k < xs.length := by simp at h1; omega
   rw [List.drop_eq_getElem_cons hk] at h2
   injection h2 with h2 h4
   rw [qF, hS k hk, ← h2]
   show _ = ((body k y s).bind _).map _
   cases body k y s with
   | none => rfl
   | some r =>
    cases r with
    | inr z => rfl
    | inl s' => exact ih (k + 1) n s' (by simp at h1; omega) h4 (by simp at h3; omega)
 exact key 0 xs aBy s0 (by simp) (by simp) (by unfold aBy; omega)
theorem zF {α S σ X : Type} {xs : List α} {step : S → Option (S ⊕ X)} (mk : Int → σ → S) (body : Nat → α → σ → Option (σ ⊕ X)) (fin : σ → X) (I : σ → Prop) (hl : xs.length ≤ 9223372036854775807)
  (hS : ∀ (i : Nat) (hi : i < xs.length) s, I s → step (mk i s) = (body i xs[i] s).map (Sum.map (mk ((i : Int) + 1)) id)) (hI : ∀ (i : Nat) (hi : i < xs.length) s s', I s → body i xs[i] s = some (.inl s') → I s') (hE : ∀ s, I s → step (mk xs.length s) = some (.inr (fin s))) (s0 : σ) (h0 : I s0) :
  cO step (mk 0 s0) = (aM1 body xs 0 s0).map (Sum.elim fin id) := by
 have key : ∀ (k : Nat) (ys : List α) (n : Nat) s, I s → ys.length + k = xs.length → ys = xs.drop k → ys.length < n → sX step n (mk (k : Int) s) = (aM1 body ys k s).map (Sum.elim fin id) := by
  intro k ys
  induction ys generalizing k with
  | nil =>
   intro n s hs h1 h2 h3
   obtain ⟨n, rfl⟩ : ∃ m, n = m + 1 := ⟨n - 1, by simp at h3; omega⟩
   have : k = xs.length := by simpa using h1
   subst this
   rw [qF, hE s hs]; rfl
  | cons y ys ih =>
   intro n s hs h1 h2 h3
   obtain ⟨n, rfl⟩ : ∃ m, n = m + 1 := ⟨n - 1, by simp at h3; omega⟩
   have hk : k < xs.length := by simp at h1; omega
   rw [List.drop_eq_getElem_cons hk] at h2
   injection h2 with h2 h4
   rw [qF, hS k hk s hs, ← h2]
   show _ = ((body k y s).bind _).map _
   cases hb : body k y s with
   | none => rfl
   | some r =>
    cases r with
    | inr z => rfl
    | inl s' => exact ih (k + 1) n s' (hI k hk s s' hs (by rw [← h2]; exact hb)) (by simp at h1; omega) h4 (by simp at h3; omega)
 exact key 0 xs aBy s0 h0 (by simp) (by simp) (by unfold aBy; omega)
theorem rC {α σ X : Type} {body : Nat → α → σ → Option (σ ⊕ X)} (f : σ → α → σ) (h : ∀ i x s, body i x s = some (.inl (f s x))) : ∀ (xs : List α) (k : Nat) (s : σ), aM1 body xs k s = some (.inl (xs.foldl f s))
 | [], k, s => rfl
 | x :: xs, k, s => by
  show (body k x s).bind _ = _
  rw [h]
  exact rC f h xs (k + 1) (f s x)
theorem itA {a b : Bool} : (if a = true then some b else some false) = some (a && b) := by cases a <;> rfl
theorem itO {a b : Bool} : (if a = true then some true else some b) = some (a || b) := by cases a <;> rfl
theorem itF {a b : Bool} : (if a = true then some false else some b) = some (!a && b) := by cases a <;> rfl
theorem aUm {p : Prop} [Decidable p] {b : Bool} : (if p then some b else some false) = some (decide p && b) := by by_cases h : p <;> simp [h]
theorem aWi {p : Prop} [Decidable p] {b : Bool} : (if p then some true else some b) = some (decide p || b) := by by_cases h : p <;> simp [h]
theorem aK8 {a b : Bool} {k : Option Bool} (h : k = some b) : (orE (if a = true then (.inl () : Unit ⊕ Bool) else .inr false) fun _ => k) = some (a && b) := by cases a <;> simp [orE, h]
theorem aNb {S σ X : Type} {step : S → Option (S ⊕ X)} (mk : Int → σ → S) (a : Int) (n : Nat) (f : Nat → σ → σ) (fin : σ → X) (I : Nat → σ → Prop) (hn : n ≤ 9223372036854775807)
  (hS : ∀ (i : Nat) s, i < n → I i s → step (mk (a + i) s) = some (.inl (mk (a + ((i + 1 : Nat) : Int)) (f i s)))) (hI : ∀ (i : Nat) s, i < n → I i s → I (i + 1) (f i s)) (hE : ∀ s, I n s → step (mk (a + n) s) = some (.inr (fin s))) (s0 : σ) (h0 : I 0 s0) :
  cO step (mk a s0) = some (fin ((List.range n).foldl (fun s i => f i s) s0)) := by
 have key : ∀ (j i m : Nat) s, i + j = n → I i s → j < m → sX step m (mk (a + i) s) = some (fin ((List.range' i j).foldl (fun s i => f i s) s)) := by
  intro j
  induction j with
  | zero =>
   intro i m s h1 h2 h3
   obtain ⟨m, rfl⟩ : ∃ q, m = q + 1 := ⟨m - 1, by omega⟩
   have : i = n := by omega
   subst this
   rw [qF, hE s h2]; rfl
  | succ j ih =>
   intro i m s h1 h2 h3
   obtain ⟨m, rfl⟩ : ∃ q, m = q + 1 := ⟨m - 1, by omega⟩
   rw [qF, hS i s (by omega) h2, Option.bind_some]
   exact ih (i + 1) m (f i s) (by omega) (hI i s (by omega) h2) (by omega)
 have := key n 0 aBy s0 (by omega) h0 (by unfold aBy; omega)
 rw [List.range_eq_range']
 show sX step aBy (mk a s0) = _
 simpa using this
end Go.Proofs.YtgcdbbidmfdonaaGreat
namespace Go.Proofs.YtgcdbbidmfdonaaGreat
set_option linter.unusedVariables false
def hZ (t : Int) : Bool := btw t 6 240
theorem aA9 (t : Int) : nY t = some (hZ t) := by unfold nY; rw [fB]; rfl
theorem mX (t : Int) : gU t = some (hZ t) := by unfold gU; rw [eC]; rfl
def aE8 (a : cQ) : Bool := a.Wheels.all hZ && (lV a.Name && decide (a.Wheels.length ≤ 5))
theorem aC4 {a : cQ} (hl : a.Wheels.length ≤ 9223372036854775807) : lC a = some (aE8 a) := by
 unfold lC aE8
 rw [sR (fun _ v => hZ v) hl fun i hi => by rw [eE hi, Option.bind_some, aA9, Option.bind_some]; cases hZ a.Wheels[i] <;> rfl, lO, Option.bind_some, xF]
 cases a.Wheels.all hZ <;> cases lV a.Name <;> simp [orE]; omega
theorem aGs {a : cQ} (hl : a.Wheels.length ≤ 9223372036854775807) : pQ a = some (aE8 a) := by
 unfold pQ aE8
 rw [sR (fun _ v => hZ v) hl fun i hi => by rw [eE hi, Option.bind_some, mX, Option.bind_some]; cases hZ a.Wheels[i] <;> rfl, lO, Option.bind_some, qY]
 cases a.Wheels.all hZ <;> cases lV a.Name <;> simp [orE]; omega
def whB (w : bE) (a k : Int) : Bool := decide (0 ≤ a ∧ a < w.Arbors.length) && match w.Arbors[a.toNat]? with
 | some b => decide (0 ≤ k ∧ k < b.Wheels.length)
 | none => false
theorem tA {α : Type} {l : List α} {a : Int} (hl : l.length ≤ 9223372036854775807) : btw a 0 (w64 ((l.length : Int) - 1)) = decide (0 ≤ a ∧ a < l.length) := by
 rw [aW (by omega) (by omega)]
 unfold btw
 rw [decide_eq_decide]; omega
theorem aE4 {w : bE} {a k : Int} (hl : w.Arbors.length ≤ 9223372036854775807) (hw : ∀ b ∈ w.Arbors, b.Wheels.length ≤ 9223372036854775807) {f : cQ → Option Bool} (hf : ∀ b ∈ w.Arbors, f b = some (decide (0 ≤ k ∧ k < b.Wheels.length))) :
  (if decide (0 ≤ a ∧ a < w.Arbors.length) = true then ((atI w.Arbors a).bind f) else some false) = some (whB w a k) := by
 unfold whB
 by_cases h : 0 ≤ a ∧ a < w.Arbors.length
 ·obtain ⟨e, he, hm, hg⟩ := oM h.1 h.2
  rw [decide_eq_true h, if_pos rfl, he, Option.bind_some, hf e hm, hg]; rfl
 ·rw [decide_eq_false h]; rfl
theorem aFj {w : bE} (hl : w.Arbors.length ≤ 9223372036854775807) (hw : ∀ b ∈ w.Arbors, b.Wheels.length ≤ 9223372036854775807) (a k : Int) : mC w a k = some (whB w a k) := by
 unfold mC
 rw [fB, Option.bind_some, tA hl]
 exact aE4 hl hw fun b hb => by rw [fB, Option.bind_some, tA (hw b hb)]
theorem aGf {w : bE} (hl : w.Arbors.length ≤ 9223372036854775807) (hw : ∀ b ∈ w.Arbors, b.Wheels.length ≤ 9223372036854775807) (a k : Int) : mA w a k = some (whB w a k) := by
 unfold mA
 rw [eC, Option.bind_some, tA hl]
 exact aE4 hl hw fun b hb => by rw [eC, Option.bind_some, tA (hw b hb)]
def rM (w : bE) (m : cH) : Bool := decide (m.A ≠ m.B) && (whB w m.A m.WheelA && whB w m.B m.WheelB)
theorem aMt {w : bE} (hl : w.Arbors.length ≤ 9223372036854775807) (hw : ∀ b ∈ w.Arbors, b.Wheels.length ≤ 9223372036854775807) (m : cH) : vG w m = some (rM w m) := by
 unfold vG rM
 simp only [aFj hl hw, Option.bind_some]
 by_cases h : m.A = m.B <;> cases whB w m.A m.WheelA <;> simp [h]
theorem aIq {w : bE} (hl : w.Arbors.length ≤ 9223372036854775807) (hw : ∀ b ∈ w.Arbors, b.Wheels.length ≤ 9223372036854775807) (m : cH) : qH w m = some (rM w m) := by
 unfold qH rM
 simp only [aGf hl hw, Option.bind_some]
 by_cases h : m.A = m.B <;> cases whB w m.A m.WheelA <;> simp [h]
def qX (m n : cH) : Bool := decide (m = n ∨ m = ⟨n.B, n.WheelB, n.A, n.WheelA⟩)
theorem aMq (m n : cH) : qX m n = qX n m := by
 unfold qX
 rw [decide_eq_decide]
 obtain ⟨a, b, c, d⟩ := m
 obtain ⟨a', b', c', d'⟩ := n
 simp only [cH.mk.injEq]
 omega
theorem aGl (m n : cH) : pA m n = some (qX m n) := by
 unfold pA qX
 by_cases h : m = n
 ·simp [h]
 ·rw [if_neg h]; simp [h]
theorem aFe (m n : cH) : pB m n = some (qX m n) := by
 unfold pB qX
 by_cases h : m = n
 ·simp [h]
 ·rw [if_neg h]
  obtain ⟨a, b, c, d⟩ := m
  obtain ⟨a', b', c', d'⟩ := n
  have e : decide ((⟨a, b, c, d⟩ : cH) = ⟨a', b', c', d'⟩ ∨ (⟨a, b, c, d⟩ : cH) = ⟨c', d', a', b'⟩) = decide (a = c' ∧ b = d' ∧ c = a' ∧ d = b') := by
   rw [decide_eq_decide]
   simp only [h, false_or, cH.mk.injEq]
  dsimp only
  rw [e]
  by_cases h1 : a = c' <;> by_cases h2 : b = d' <;> by_cases h3 : c = a' <;> simp [h1, h2, h3]
def aAp (w : bE) : Bool := decide (w.Arbors.length ≤ 16) && (decide (w.Meshes.length ≤ 24) && (aGw w.Arbors (fun i a => aE8 a && !((w.Arbors.take i).any fun b => decide (b.Name = a.Name))) && aGw w.Meshes (fun i m => rM w m && !((w.Meshes.take i).any fun n => qX m n))))
theorem aD1 {xs : List cH} {m : cH} (hl : xs.length ≤ 9223372036854775807) : cC xs m = some (xs.any fun n => qX m n) := by
 unfold cC dD
 rw [aPw (fun n => qX m n) hl fun i hi => by rw [eE hi, Option.bind_some, lL, aGl, Option.bind_some, Option.bind_some], Option.bind_some, aFd]
theorem uU {w : bE} (hl : w.Arbors.length ≤ 9223372036854775807) (hw : ∀ b ∈ w.Arbors, b.Wheels.length ≤ 9223372036854775807) (hm : w.Meshes.length ≤ 9223372036854775807) : jI w = some (aAp w) := by
 unfold jI aAp
 by_cases h1 : w.Arbors.length ≤ 16
 ·by_cases h2 : w.Meshes.length ≤ 24
  ·rw [if_neg (by omega), Option.bind_some, decide_eq_false (by omega), if_neg (by decide), decide_eq_true h1, decide_eq_true h2,
    sR (e := .inr false) (fun i a => aE8 a && !((w.Arbors.take i).any fun b => decide (b.Name = a.Name))) hl fun i hi => ?_, Option.bind_some,
    sR (e := .inr false) (fun i m => rM w m && !((w.Meshes.take i).any fun n => qX m n)) hm fun i hi => ?_, Option.bind_some]
   ·cases aGw w.Arbors (fun i a => aE8 a && !((w.Arbors.take i).any fun b => decide (b.Name = a.Name))) <;> cases aGw w.Meshes (fun i m => rM w m && !((w.Meshes.take i).any fun n => qX m n)) <;> rfl
   ·rw [eE hi, Option.bind_some, aMt hl hw, Option.bind_some, gB (aI2 (by omega)), aOk, aD1 (by rw [List.length_take]; omega)]
    cases rM w w.Meshes[i] <;> cases ((w.Meshes.take i).any fun n => qX w.Meshes[i] n) <;> rfl
   ·rw [eE hi, Option.bind_some, aC4 (hw _ (List.getElem_mem hi)), Option.bind_some, gB (aI2 (by omega)), aOk,
     sR (fun _ b => !decide (b.Name = w.Arbors[i].Name)) (by rw [List.length_take]; omega) fun j hj => by
      rw [eE hj, Option.bind_some]
      by_cases q : w.Arbors[i].Name = (w.Arbors.take i)[j].Name
      ·rw [if_pos q, decide_eq_true q.symm]; rfl
      ·rw [if_neg q, decide_eq_false (Ne.symm q)]; rfl, lO]
    have e : ((w.Arbors.take i).all fun b => !decide (b.Name = w.Arbors[i].Name)) = !((w.Arbors.take i).any fun b => decide (b.Name = w.Arbors[i].Name)) := by rw [Bool.eq_iff_iff]; simp
    rw [e]
    cases aE8 w.Arbors[i] <;> cases ((w.Arbors.take i).any fun b => decide (b.Name = w.Arbors[i].Name)) <;> rfl
  ·rw [if_neg (by omega), Option.bind_some, decide_eq_true (by omega), if_pos rfl, decide_eq_false h2, decide_eq_true h1]; rfl
 ·rw [if_pos (by omega), Option.bind_some, if_pos rfl, decide_eq_false h1]; rfl
theorem aHs {w : bE} (hl : w.Arbors.length ≤ 9223372036854775807) (s : ByteArray) : qR w s = some (aJq w.Arbors fun a => decide (a.Name = s)) := by
 unfold qR
 rw [aPw (fun a => decide (a.Name = s)) hl fun i hi => by rw [eE hi, Option.bind_some]; by_cases q : w.Arbors[i].Name = s <;> simp [q]]
theorem aF2 {w : bE} (hm : w.Meshes.length ≤ 9223372036854775807) (m : cH) {k : Nat} (hk : k ≤ w.Meshes.length) : oS w m (k : Int) = some ((w.Meshes.take k).any fun n => qX m n) := by
 unfold oS
 rw [aTa k (fun _ n => !qX m n) hk hm fun i hi _ => by rw [eE hi, Option.bind_some, aFe, Option.bind_some, aMq]; cases qX m w.Meshes[i] <;> rfl, lO, Option.bind_some]
 have e : ((w.Meshes.take k).all fun n => !qX m n) = !((w.Meshes.take k).any fun n => qX m n) := by rw [Bool.eq_iff_iff]; simp
 rw [e]
 cases ((w.Meshes.take k).any fun n => qX m n) <;> rfl
theorem aMh {w : bE} (hl : w.Arbors.length ≤ 9223372036854775807) (hw : ∀ b ∈ w.Arbors, b.Wheels.length ≤ 9223372036854775807) (hm : w.Meshes.length ≤ 9223372036854775807) : uT w = some (aAp w) := by
 unfold uT aAp
 rw [sR (e := .inr false) (fun i a => aE8 a && !((w.Arbors.take i).any fun b => decide (b.Name = a.Name))) hl fun i hi => ?_, Option.bind_some,
   sR (e := .inr false) (fun i m => rM w m && !((w.Meshes.take i).any fun n => qX m n)) hm fun i hi => ?_, Option.bind_some]
 ·have e1 : decide ((w.Meshes.length : Int) ≤ 24) = decide (w.Meshes.length ≤ 24) := by rw [decide_eq_decide]; omega
  have e2 : (if (w.Arbors.length : Int) ≤ 16 then some (decide ((w.Meshes.length : Int) ≤ 24)) else some false) = some (decide (w.Arbors.length ≤ 16) && decide (w.Meshes.length ≤ 24)) := by
   rw [e1]
   by_cases h1 : w.Arbors.length ≤ 16
   ·rw [if_pos (by omega), decide_eq_true h1, Bool.true_and]
   ·rw [if_neg (by omega), decide_eq_false h1]; rfl
  rw [e2]
  cases aGw w.Arbors (fun i a => aE8 a && !((w.Arbors.take i).any fun b => decide (b.Name = a.Name))) <;> cases aGw w.Meshes (fun i m => rM w m && !((w.Meshes.take i).any fun n => qX m n)) <;> cases decide (w.Arbors.length ≤ 16) <;> cases decide (w.Meshes.length ≤ 24) <;> rfl
 ·simp only [eE hi, Option.bind_some, aIq hl hw, aF2 hm _ (Nat.le_of_lt hi)]
  cases rM w w.Meshes[i] <;> cases ((w.Meshes.take i).any fun n => qX w.Meshes[i] n) <;> rfl
 ·simp only [eE hi, Option.bind_some, aGs (hw _ (List.getElem_mem hi)), aHs hl, aLp (p := fun a => decide (a.Name = w.Arbors[i].Name)) hi (decide_eq_true rfl)]
  cases aE8 w.Arbors[i] <;> cases ((w.Arbors.take i).any fun b => decide (b.Name = w.Arbors[i].Name)) <;> rfl
end Go.Proofs.YtgcdbbidmfdonaaGreat
namespace Go.Proofs.YtgcdbbidmfdonaaGreat
set_option linter.unusedVariables false
def Ok {α : Type} (m : Option α) (P : α → Prop) : Prop := ∃ x, m = some x ∧ P x
theorem aQ {α : Type} {x : α} {P : α → Prop} (h : P x) : Ok (some x) P := ⟨x, rfl, h⟩
theorem bA {α β : Type} {m : Option α} {f : α → Option β} {P : α → Prop} {Q : β → Prop} (h : Ok m P) (k : ∀ x, P x → Ok (f x) Q) : Ok (m.bind f) Q := by
 obtain ⟨x, rfl, hx⟩ := h
 exact k x hx
theorem cX {α : Type} {p : Prop} [Decidable p] {a b : Option α} {P : α → Prop} (h : p → Ok a P) (k : ¬ p → Ok b P) : Ok (if p then a else b) P := by
 split
 ·exact h ‹_›
 ·exact k ‹_›
theorem jZ {α : Type} {p : Prop} [Decidable p] {a : Option α} {P : α → Prop} (hp : p) (h : Ok a P) : Ok (chk p a) P := by rw [gB hp]; exact h
theorem qJ {α : Type} {xs : List α} {i : Int} (h0 : 0 ≤ i) (h1 : i < xs.length) : Ok (atI xs i) (fun e => e ∈ xs ∧ xs[i.toNat]? = some e) := by
 obtain ⟨e, h, hm, hg⟩ := oM h0 h1
 exact ⟨e, h, hm, hg⟩
theorem aRt {α : Type} {m : Option α} {P Q : α → Prop} (h : Ok m P) (k : ∀ x, P x → Q x) : Ok m Q := by
 obtain ⟨x, e, hx⟩ := h
 exact ⟨x, e, k x hx⟩
theorem fZ {S X : Type} {step : S → Option (S ⊕ X)} {P : X → Prop} (I : S → Prop) (m : S → Nat) (hs : ∀ s, I s → Ok (step s) (fun y => (∃ s', y = .inl s' ∧ I s' ∧ m s' < m s) ∨ ∃ x, y = .inr x ∧ P x)) (s0 : S) (h0 : I s0) (hm : m s0 < 1180591620717411303424) : Ok (cO step s0) P :=
 tI I m P (fun s hI => by
  obtain ⟨y, e, ⟨s', rfl, h1, h2⟩ | ⟨x, rfl, h1⟩⟩ := hs s hI
  ·exact .inl ⟨s', e, h1, h2⟩
  ·exact .inr ⟨x, e, h1⟩) s0 h0 hm
end Go.Proofs.YtgcdbbidmfdonaaGreat
namespace Go.Proofs.YtgcdbbidmfdonaaGreat
set_option linter.unusedVariables false
def lU (n : Int) (s : bP) : Prop := 0 ≤ s.at_ ∧ s.at_ ≤ n ∧ s.code.length ≤ 1000000 ∧ ∀ b ∈ s.code, 0 ≤ b ∧ b ≤ 255
theorem aQ7 (x : Int) : 0 ≤ aS2 .u64 x 255 ∧ aS2 .u64 x 255 ≤ 255 := by
 unfold aS2
 have h : (BitVec.ofInt IntKind.u64.bits x &&& BitVec.ofInt IntKind.u64.bits 255).toNat ≤ 255 := by
  rw [BitVec.toNat_and]
  have : (BitVec.ofInt IntKind.u64.bits 255).toNat = 255 := by decide
  rw [this]
  exact Nat.and_le_right
 generalize (BitVec.ofInt IntKind.u64.bits x &&& BitVec.ofInt IntKind.u64.bits 255).toNat = v at h
 have e : IntKind.u64.wrap (v : Int) = v := by
  unfold IntKind.wrap
  simp [IntKind.bits, IntKind.signed]
  omega
 rw [e]; omega
theorem aRv {c : List Int} (h1 : c.length ≤ 1000000) (h2 : ∀ b ∈ c, 0 ≤ b ∧ b ≤ 255) : Ok (tH c) (lU 0) := aQ ⟨by simp, by simp, h1, h2⟩
theorem aN3 {n : Int} {s : bP} (h : lU n s) (hn : n ≤ 1000000000000) : Ok (iE s) (fun r => 0 ≤ r.1 ∧ r.1 ≤ 255 ∧ lU (n + 1) r.2) := by
 obtain ⟨h0, h1, h2, h3⟩ := h
 unfold iE
 refine bA (P := fun v => 0 ≤ v ∧ v ≤ 255) ?_ fun v hv => ?_
 ·refine cX (fun hc => ?_) fun _ => aQ (by omega)
  refine bA (qJ h0 hc) fun e he => aQ ?_
  have := h3 e he.1
  rw [aW (by omega) (by omega)]; exact this
 ·have e1 : w64 (s.at_ + 1) = s.at_ + 1 := aW (by omega) (by omega)
  rw [e1]
  refine cX (fun _ => aQ ⟨hv.1, hv.2, by dsimp only; omega, by dsimp only; omega, h2, h3⟩) fun _ => aQ ⟨?_, ?_, by dsimp only; omega, by dsimp only; omega, h2, h3⟩
  ·have := aQ7 (aTm .u64 (IntKind.u64.wrap ((IntKind.u64.wrap ((IntKind.u64.wrap (s.seed * 6364136223846793005)) + (IntKind.u64.wrap v))) + 1442695040888963407)) 40)
   dsimp only
   rw [aW (by omega) (by omega)]; omega
  ·have := aQ7 (aTm .u64 (IntKind.u64.wrap ((IntKind.u64.wrap ((IntKind.u64.wrap (s.seed * 6364136223846793005)) + (IntKind.u64.wrap v))) + 1442695040888963407)) 40)
   dsimp only
   rw [aW (by omega) (by omega)]; omega
theorem gC {n m : Int} {s : bP} (h : lU n s) (hm : n ≤ m) : lU m s := ⟨h.1, by have := h.2.1; omega, h.2.2⟩
theorem lA {n : Int} {s : bP} {k : Int} (h : lU n s) (hn : n ≤ 1000000000) : Ok (bS s k) (fun r => 0 ≤ r.1 ∧ (r.1 < k ∨ r.1 = 0) ∧ r.1 ≤ 65535 ∧ lU (n + 2) r.2) := by
 unfold bS
 refine cX (fun _ => aQ ⟨by simp, by simp, by simp, gC h (by omega)⟩) fun hk => ?_
 refine bA (aN3 h (by omega)) fun v hv => ?_
 refine bA (P := fun r => 0 ≤ r.1 ∧ r.1 ≤ 65535 ∧ lU (n + 2) r.2) ?_ fun r hr => ?_
 ·refine cX (fun _ => ?_) fun _ => aQ ⟨hv.1, by have := hv.2.1; dsimp only; omega, gC hv.2.2 (by omega)⟩
  refine bA (aN3 hv.2.2 (by omega)) fun u hu => aQ ?_
  have a := hv.1; have b := hv.2.1; have c := hu.1; have d := hu.2.1
  dsimp only
  rw [aW (x := v.1 * 256) (by omega) (by omega), aW (by omega) (by omega)]
  exact ⟨by omega, by omega, by have := hu.2.2; rwa [Int.add_assoc] at this⟩
 ·refine jZ (by omega) (aQ ?_)
  have e : r.1.tmod k = r.1 % k := Int.tmod_eq_emod_of_nonneg hr.1
  have h1 := Int.emod_nonneg r.1 (show k ≠ 0 by omega)
  have h2 := Int.emod_lt_of_pos r.1 (show 0 < k by omega)
  have h3 : r.1 % k ≤ r.1 := by
   have := Int.mul_nonneg (show 0 ≤ k by omega) (Int.ediv_nonneg hr.1 (show 0 ≤ k by omega))
   rw [Int.emod_def]; omega
  dsimp only
  rw [e]
  exact ⟨h1, .inl h2, by have := hr.2.1; omega, hr.2.2⟩
theorem aE7 {n : Int} {s : bP} {k : Int} (h : lU n s) (hn : n ≤ 1000000000) : Ok (fE s k) (fun r => lU (n + 2) r.2) :=
 bA (lA h hn) fun r hr => aQ hr.2.2.2
theorem yI {n : Int} {s : bP} {xs : List Int} (h : lU n s) (hn : n ≤ 1000000000) (hx : 0 < xs.length) : Ok (fA s xs) (fun r => r.1 ∈ xs ∧ lU (n + 2) r.2) := by
 refine bA (lA h hn) fun r hr => ?_
 refine bA (qJ hr.1 ?_) fun e he => aQ ⟨he.1, hr.2.2.2⟩
 rcases hr.2.1 with h1 | h1
 ·exact h1
 ·rw [h1]; omega
theorem aS0 {n : Int} {s : bP} {xs : List ByteArray} (h : lU n s) (hn : n ≤ 1000000000) (hx : 0 < xs.length) : Ok (mM s xs) (fun r => r.1 ∈ xs ∧ lU (n + 2) r.2) := by
 refine bA (lA h hn) fun r hr => ?_
 refine bA (qJ hr.1 ?_) fun e he => aQ ⟨he.1, hr.2.2.2⟩
 rcases hr.2.1 with h1 | h1
 ·exact h1
 ·rw [h1]; omega
end Go.Proofs.YtgcdbbidmfdonaaGreat
