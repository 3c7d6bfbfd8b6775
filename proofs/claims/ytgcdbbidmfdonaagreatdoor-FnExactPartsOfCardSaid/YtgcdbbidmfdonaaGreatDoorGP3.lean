/- Texts of this claim, one behind the other (merged by a program of mine). -/
import Derived.KernelRfl
import Derived.Test.YtgcdbbidmfdonaaGreatDoorGP2
set_option linter.unusedSimpArgs false
set_option linter.unusedVariables false
namespace Go.Proofs.YtgcdbbidmfdonaaGreatDoor
open Go.RowKit
set_option linter.unusedVariables false
set_option maxRecDepth 100000
set_option maxHeartbeats 2000000
structure bH where
 Name : ByteArray
 Wheels : List Int
deriving DecidableEq
def aJ (x : bH) : List DV := [.v (.string x.Name), .sl (List.map cI x.Wheels)]
structure bJ where
 A : Int
 WheelA : Int
 B : Int
 WheelB : Int
deriving DecidableEq
def bF (x : bJ) : List DV := [.v (.int .i64 x.A), .v (.int .i64 x.WheelA), .v (.int .i64 x.B), .v (.int .i64 x.WheelB)]
structure bQ where
 Arbors : List bH
 Meshes : List bJ
deriving DecidableEq
def gF (x : bQ) : List DV := [.sl (List.map aJ x.Arbors), .sl (List.map bF x.Meshes)]
structure aZ where
 Name : ByteArray
 Days : Int
 Leap : Int
deriving DecidableEq
def aN (x : aZ) : List DV := [.v (.string x.Name), .v (.int .i64 x.Days), .v (.int .i64 x.Leap)]
structure aH where
 Every : Int
 Rest : Int
 Leap : Bool
deriving DecidableEq
def aE (x : aH) : List DV := [.v (.int .i64 x.Every), .v (.int .i64 x.Rest), .v (.bool x.Leap)]
structure bP where
 Name : ByteArray
 Months : List aZ
 Rules : List aH
 Week : Int
deriving DecidableEq
def tZ (x : bP) : List DV := [.v (.string x.Name), .sl (List.map aN x.Months), .sl (List.map aE x.Rules), .v (.int .i64 x.Week)]
structure aV where
 Name : ByteArray
 Works : bQ
 Minute : Int
 Hour : Int
 Escape : Int
 Teeth : Int
 Beats : Int
 Calendar : bP
 Cam : List Int
 Strike : Int
deriving DecidableEq
def mX (x : aV) : List DV := [.v (.string x.Name), .sl (List.map aJ x.Works.Arbors), .sl (List.map bF x.Works.Meshes), .v (.int .i64 x.Minute), .v (.int .i64 x.Hour), .v (.int .i64 x.Escape), .v (.int .i64 x.Teeth), .v (.int .i64 x.Beats), .v (.string x.Calendar.Name), .sl (List.map aN x.Calendar.Months), .sl (List.map aE x.Calendar.Rules), .v (.int .i64 x.Calendar.Week), .sl (List.map cI x.Cam), .v (.int .i64 x.Strike)]
def gS (p0 : List Int) (p1 : Int) : Option Int :=
 (if (w64 (p1 - (p0.length : Int))) < 0 then
 some (-1)
 else
 some (w64 (p1 - (p0.length : Int))))
def kE (p0 : bH) (p1 : Int) : Option Int :=
 (if (w64 (p1 - (p0.Name.size : Int))) < 0 then
 some (-1)
 else
 ((gS p0.Wheels (w64 (p1 - (p0.Name.size : Int)))).bind fun v1 =>
 (if v1 < 0 then
 some (-1)
 else
 some v1)))
def jB (p0 : List bH) (p1 : Int) : Option Int :=
 (if (w64 (p1 - (p0.length : Int))) < 0 then
 some (-1)
 else
 ((bY (S := Int × Int) (X := Int ⊕ Int) (fun s4 =>
 (if s4.2 < (p0.length : Int) then
 ((atI p0 s4.2).bind fun v5 =>
 ((kE v5 s4.1).bind fun v6 =>
 (if v6 < 0 then
 some (.inr (.inr (-1)))
 else
 some (.inl (v6,w64 (s4.2 + 1))))))
 else
 some (.inr (.inl s4.1)))) (w64 (p1 - (p0.length : Int)),0) : Option (Int ⊕ Int)).bind fun v7x => orE v7x fun v7 =>
 some v7))
def jT (p0 : List bJ) (p1 : Int) : Option Int :=
 (if (w64 (p1 - (p0.length : Int))) < 0 then
 some (-1)
 else
 some (w64 (p1 - (p0.length : Int))))
def kJ (p0 : bQ) (p1 : Int) : Option Int :=
 ((jB p0.Arbors p1).bind fun v1 =>
 (if v1 < 0 then
 some (-1)
 else
 ((jT p0.Meshes v1).bind fun v2 =>
 (if v2 < 0 then
 some (-1)
 else
 some v2))))
def jW (p0 : aZ) (p1 : Int) : Option Int :=
 (if (w64 (p1 - (p0.Name.size : Int))) < 0 then
 some (-1)
 else
 some (w64 (p1 - (p0.Name.size : Int))))
def iZ (p0 : List aZ) (p1 : Int) : Option Int :=
 (if (w64 (p1 - (p0.length : Int))) < 0 then
 some (-1)
 else
 ((bY (S := Int × Int) (X := Int ⊕ Int) (fun s4 =>
 (if s4.2 < (p0.length : Int) then
 ((atI p0 s4.2).bind fun v5 =>
 ((jW v5 s4.1).bind fun v6 =>
 (if v6 < 0 then
 some (.inr (.inr (-1)))
 else
 some (.inl (v6,w64 (s4.2 + 1))))))
 else
 some (.inr (.inl s4.1)))) (w64 (p1 - (p0.length : Int)),0) : Option (Int ⊕ Int)).bind fun v7x => orE v7x fun v7 =>
 some v7))
def fF (p0 : List aH) (p1 : Int) : Option Int :=
 (if (w64 (p1 - (p0.length : Int))) < 0 then
 some (-1)
 else
 some (w64 (p1 - (p0.length : Int))))
def fS (p0 : bP) (p1 : Int) : Option Int :=
 (if (w64 (p1 - (p0.Name.size : Int))) < 0 then
 some (-1)
 else
 ((iZ p0.Months (w64 (p1 - (p0.Name.size : Int)))).bind fun v1 =>
 (if v1 < 0 then
 some (-1)
 else
 ((fF p0.Rules v1).bind fun v2 =>
 (if v2 < 0 then
 some (-1)
 else
 some v2)))))
def fQ (p0 : aV) (p1 : Int) : Option Int :=
 (if (w64 (p1 - (p0.Name.size : Int))) < 0 then
 some (-1)
 else
 ((kJ p0.Works (w64 (p1 - (p0.Name.size : Int)))).bind fun v1 =>
 (if v1 < 0 then
 some (-1)
 else
 ((fS p0.Calendar v1).bind fun v2 =>
 (if v2 < 0 then
 some (-1)
 else
 ((gS p0.Cam v2).bind fun v3 =>
 (if v3 < 0 then
 some (-1)
 else
 some v3)))))))
def gQ (p0 : List Int) : Option (List Int) :=
 (chk (0 ≤ (p0.length : Int) ∧ (p0.length : Int) = (p0.length : Int) ∧ (p0.length : Int).toNat * 1 * 64 ≤ 281474976710656) (
 ((bY (S := Int × List Int) (X := List Int) (fun s5 =>
 (if s5.1 < (p0.length : Int) then
 ((atI p0 s5.1).bind fun v6 =>
 ((atI s5.2 s5.1).bind fun v7 =>
 some (.inl (w64 (s5.1 + 1),List.set s5.2 s5.1.toNat v6))))
 else
 some (.inr s5.2))) (0,List.replicate (p0.length : Int).toNat 0) : Option (List Int)).bind fun v8 =>
 some v8)))
def kN (p0 : bH) : Option bH :=
 ((gQ p0.Wheels).bind fun v1 =>
 some (⟨p0.Name,v1⟩ : bH))
def jC (p0 : List bH) : Option (List bH) :=
 (chk (0 ≤ (p0.length : Int) ∧ (p0.length : Int) = (p0.length : Int) ∧ (p0.length : Int).toNat * 2 * 64 ≤ 281474976710656) (
 ((bY (S := Int × List bH) (X := List bH) (fun s6 =>
 (if s6.1 < (p0.length : Int) then
 ((atI p0 s6.1).bind fun v7 =>
 ((kN v7).bind fun v8 =>
 ((atI s6.2 s6.1).bind fun v9 =>
 some (.inl (w64 (s6.1 + 1),List.set s6.2 s6.1.toNat v8)))))
 else
 some (.inr s6.2))) (0,List.replicate (p0.length : Int).toNat (⟨(⟨#[]⟩ : ByteArray),[]⟩ : bH)) : Option (List bH)).bind fun v10 =>
 some v10)))
def nF (p0 : bJ) : Option bJ :=
 some p0
def kB (p0 : List bJ) : Option (List bJ) :=
 (chk (0 ≤ (p0.length : Int) ∧ (p0.length : Int) = (p0.length : Int) ∧ (p0.length : Int).toNat * 4 * 64 ≤ 281474976710656) (
 ((bY (S := Int × List bJ) (X := List bJ) (fun s6 =>
 (if s6.1 < (p0.length : Int) then
 ((atI p0 s6.1).bind fun v7 =>
 ((nF v7).bind fun v8 =>
 ((atI s6.2 s6.1).bind fun v9 =>
 some (.inl (w64 (s6.1 + 1),List.set s6.2 s6.1.toNat v8)))))
 else
 some (.inr s6.2))) (0,List.replicate (p0.length : Int).toNat (⟨0,0,0,0⟩ : bJ)) : Option (List bJ)).bind fun v10 =>
 some v10)))
def kL (p0 : bQ) : Option bQ :=
 ((jC p0.Arbors).bind fun v1 =>
 ((kB p0.Meshes).bind fun v2 =>
 some (⟨v1,v2⟩ : bQ)))
def mD (p0 : aZ) : Option aZ :=
 some p0
def jE (p0 : List aZ) : Option (List aZ) :=
 (chk (0 ≤ (p0.length : Int) ∧ (p0.length : Int) = (p0.length : Int) ∧ (p0.length : Int).toNat * 3 * 64 ≤ 281474976710656) (
 ((bY (S := Int × List aZ) (X := List aZ) (fun s6 =>
 (if s6.1 < (p0.length : Int) then
 ((atI p0 s6.1).bind fun v7 =>
 ((mD v7).bind fun v8 =>
 ((atI s6.2 s6.1).bind fun v9 =>
 some (.inl (w64 (s6.1 + 1),List.set s6.2 s6.1.toNat v8)))))
 else
 some (.inr s6.2))) (0,List.replicate (p0.length : Int).toNat (⟨(⟨#[]⟩ : ByteArray),0,0⟩ : aZ)) : Option (List aZ)).bind fun v10 =>
 some v10)))
def iN (p0 : aH) : Option aH :=
 some p0
def fL (p0 : List aH) : Option (List aH) :=
 (chk (0 ≤ (p0.length : Int) ∧ (p0.length : Int) = (p0.length : Int) ∧ (p0.length : Int).toNat * 3 * 64 ≤ 281474976710656) (
 ((bY (S := Int × List aH) (X := List aH) (fun s6 =>
 (if s6.1 < (p0.length : Int) then
 ((atI p0 s6.1).bind fun v7 =>
 ((iN v7).bind fun v8 =>
 ((atI s6.2 s6.1).bind fun v9 =>
 some (.inl (w64 (s6.1 + 1),List.set s6.2 s6.1.toNat v8)))))
 else
 some (.inr s6.2))) (0,List.replicate (p0.length : Int).toNat (⟨0,0,false⟩ : aH)) : Option (List aH)).bind fun v10 =>
 some v10)))
def fU (p0 : bP) : Option bP :=
 ((jE p0.Months).bind fun v1 =>
 ((fL p0.Rules).bind fun v2 =>
 some (⟨p0.Name,v1,v2,p0.Week⟩ : bP)))
def dG (p0 : aV) : Option aV :=
 ((kL p0.Works).bind fun v1 =>
 ((fU p0.Calendar).bind fun v2 =>
 ((gQ p0.Cam).bind fun v3 =>
 some (⟨p0.Name,v1,p0.Minute,p0.Hour,p0.Escape,p0.Teeth,p0.Beats,v2,v3,p0.Strike⟩ : aV))))
def gO (p0 : Int) : Option Bool :=
 (if 97 ≤ p0 then
 some (decide (p0 ≤ 122))
 else
 some false)
def jA (p0 : Int) : Option Bool :=
 (if 48 ≤ p0 then
 some (decide (p0 ≤ 57))
 else
 some false)
def gU (p0 : ByteArray) : Option Bool :=
 (((if p0 = (⟨#[]⟩ : ByteArray) then
 some true
 else
 (if 12 < (p0.size : Int) then
 some true
 else
 ((vL p0 0).bind fun v1 =>
 ((gO v1).bind fun v2 =>
 some (!v2))))) : Option Bool).bind fun v3 =>
 (if v3 = true then
 some false
 else
 ((bY (S := Int) (X := Unit ⊕ Bool) (fun s11 =>
 (if s11 < (p0.size : Int) then
 ((((vL p0 s11).bind fun v12 =>
 ((gO v12).bind fun v13 =>
 (if (!v13) = true then
 ((vL p0 s11).bind fun v14 =>
 ((jA v14).bind fun v15 =>
 (if (!v15) = true then
 ((vL p0 s11).bind fun v16 =>
 some (decide (v16 ≠ 45)))
 else
 some false)))
 else
 some false))) : Option Bool).bind fun v17 =>
 (if v17 = true then
 some (.inr (.inr false))
 else
 some (.inl (w64 (s11 + 1)))))
 else
 some (.inr (.inl ())))) 0 : Option (Unit ⊕ Bool)).bind fun v18x => orE v18x fun v18 =>
 some true)))
def cV (p0 : Int) (p1 : Int) (p2 : Int) : Option Bool :=
 (if p1 ≤ p0 then
 some (decide (p0 ≤ p2))
 else
 some false)
def gT (p0 : Int) : Option Bool :=
 ((cV p0 6 240).bind fun v1 =>
 some v1)
def jF (p0 : bH) : Option Bool :=
 ((bY (S := Int) (X := Unit ⊕ Bool) (fun s4 =>
 (if s4 < (p0.Wheels.length : Int) then
 ((atI p0.Wheels s4).bind fun v5 =>
 ((gT v5).bind fun v6 =>
 (if (!v6) = true then
 some (.inr (.inr false))
 else
 some (.inl (w64 (s4 + 1))))))
 else
 some (.inr (.inl ())))) 0 : Option (Unit ⊕ Bool)).bind fun v7x => orE v7x fun v7 =>
 ((gU p0.Name).bind fun v8 =>
 (if v8 = true then
 some (decide ((p0.Wheels.length : Int) ≤ 5))
 else
 some false)))
def kA (p0 : bQ) (p1 : ByteArray) : Option Int :=
 ((bY (S := Int) (X := Unit ⊕ Int) (fun s3 =>
 (if s3 < (p0.Arbors.length : Int) then
 ((atI p0.Arbors s3).bind fun v4 =>
 (if v4.Name = p1 then
 some (.inr (.inr s3))
 else
 some (.inl (w64 (s3 + 1)))))
 else
 some (.inr (.inl ())))) 0 : Option (Unit ⊕ Int)).bind fun v5x => orE v5x fun v5 =>
 some (-1))
def gM (p0 : bQ) (p1 : Int) (p2 : Int) : Option Bool :=
 ((cV p1 0 (w64 ((p0.Arbors.length : Int) - 1))).bind fun v1 =>
 (if v1 = true then
 ((atI p0.Arbors p1).bind fun v2 =>
 ((cV p2 0 (w64 ((v2.Wheels.length : Int) - 1))).bind fun v3 =>
 some v3))
 else
 some false))
def jS (p0 : bQ) (p1 : bJ) : Option Bool :=
 (if p1.A ≠ p1.B then
 ((gM p0 p1.A p1.WheelA).bind fun v1 =>
 (if v1 = true then
 ((gM p0 p1.B p1.WheelB).bind fun v2 =>
 some v2)
 else
 some false))
 else
 some false)
def iX (p0 : bJ) (p1 : bJ) : Option Bool :=
 (if p0 = p1 then
 some true
 else
 (if p0.A = p1.B then
 (if p0.WheelA = p1.WheelB then
 (if p0.B = p1.A then
 some (decide (p0.WheelB = p1.WheelA))
 else
 some false)
 else
 some false)
 else
 some false))
def jH (p0 : bQ) (p1 : bJ) (p2 : Int) : Option Bool :=
 ((bY (S := Int) (X := Unit ⊕ Bool) (fun s4 =>
 (if s4 < p2 then
 ((atI p0.Meshes s4).bind fun v5 =>
 ((iX v5 p1).bind fun v6 =>
 (if v6 = true then
 some (.inr (.inr true))
 else
 some (.inl (w64 (s4 + 1))))))
 else
 some (.inr (.inl ())))) 0 : Option (Unit ⊕ Bool)).bind fun v7x => orE v7x fun v7 =>
 some false)
def mU (p0 : bQ) : Option Bool :=
 ((bY (S := Int) (X := Unit ⊕ Bool) (fun s7 =>
 (if s7 < (p0.Arbors.length : Int) then
 ((((atI p0.Arbors s7).bind fun v8 =>
 ((jF v8).bind fun v9 =>
 (if (!v9) = true then
 some true
 else
 ((atI p0.Arbors s7).bind fun v10 =>
 ((kA p0 v10.Name).bind fun v11 =>
 some (decide (v11 ≠ s7))))))) : Option Bool).bind fun v12 =>
 (if v12 = true then
 some (.inr (.inr false))
 else
 some (.inl (w64 (s7 + 1)))))
 else
 some (.inr (.inl ())))) 0 : Option (Unit ⊕ Bool)).bind fun v13x => orE v13x fun v13 =>
 ((bY (S := Int) (X := Unit ⊕ Bool) (fun s20 =>
 (if s20 < (p0.Meshes.length : Int) then
 ((((atI p0.Meshes s20).bind fun v21 =>
 ((jS p0 v21).bind fun v22 =>
 (if (!v22) = true then
 some true
 else
 ((atI p0.Meshes s20).bind fun v23 =>
 ((jH p0 v23 s20).bind fun v24 =>
 some v24))))) : Option Bool).bind fun v25 =>
 (if v25 = true then
 some (.inr (.inr false))
 else
 some (.inl (w64 (s20 + 1)))))
 else
 some (.inr (.inl ())))) 0 : Option (Unit ⊕ Bool)).bind fun v26x => orE v26x fun v26 =>
 (if (p0.Arbors.length : Int) ≤ 16 then
 some (decide ((p0.Meshes.length : Int) ≤ 24))
 else
 some false)))
def gJ (p0 : bQ) (p1 : Int) : Option Bool :=
 ((cV p1 0 (w64 ((p0.Arbors.length : Int) - 1))).bind fun v1 =>
 some v1)
def lP (p0 : Int) (p1 : Int) : Option Int :=
 ((bY (S := Int × Int) (X := Int) (fun s3 =>
 (if 0 < s3.2 then
 (chk (s3.2 ≠ 0) (
 some (.inl (s3.2,s3.1.tmod s3.2))))
 else
 some (.inr s3.1))) (p0,p1) : Option Int).bind fun v5 =>
 some v5)
def iT (p0 : List aH) : Option (Int × Bool) :=
 ((bY (S := Int × Int) (X := Int ⊕ (Int × Bool)) (fun s12 =>
 (if s12.2 < (p0.length : Int) then
 ((((atI p0 s12.2).bind fun v13 =>
 ((cV v13.Every 1 1000).bind fun v14 =>
 (if (!v14) = true then
 some true
 else
 ((atI p0 s12.2).bind fun v15 =>
 ((atI p0 s12.2).bind fun v16 =>
 ((cV v15.Rest 0 (w64 (v16.Every - 1))).bind fun v17 =>
 some (!v17))))))) : Option Bool).bind fun v18 =>
 (if v18 = true then
 some (.inr (.inr (0,false)))
 else
 ((atI p0 s12.2).bind fun v19 =>
 ((atI p0 s12.2).bind fun v20 =>
 ((lP s12.1 v19.Every).bind fun v21 =>
 (chk (v21 ≠ 0) (
 (if 2000 < (w64 ((w64 (s12.1.tdiv v21)) * v20.Every)) then
 some (.inr (.inr (0,false)))
 else
 some (.inl (w64 ((w64 (s12.1.tdiv v21)) * v20.Every),w64 (s12.2 + 1)))))))))))
 else
 some (.inr (.inl s12.1)))) (1,0) : Option (Int ⊕ (Int × Bool))).bind fun v23x => orE v23x fun v23 =>
 some (v23,decide ((p0.length : Int) ≤ 6)))
def iG (p0 : List aZ) : Option Bool :=
 ((bY (S := Int) (X := Unit ⊕ Bool) (fun s16 =>
 (if s16 < (p0.length : Int) then
 ((((((atI p0 s16).bind fun v17 =>
 ((gU v17.Name).bind fun v18 =>
 (if (!v18) = true then
 some true
 else
 ((atI p0 s16).bind fun v19 =>
 ((cV v19.Days 1 60).bind fun v20 =>
 (if (!v20) = true then
 some true
 else
 ((atI p0 s16).bind fun v21 =>
 ((cV v21.Leap 1 60).bind fun v22 =>
 some (!v22))))))))) : Option Bool).bind fun v23 =>
 (if v23 = true then
 some (.inr (.inr (.inr false)))
 else
 bY (S := Int) (X := Unit ⊕ (Int ⊕ (Unit ⊕ Bool))) (fun s27 =>
 (if s27 < s16 then
 ((atI p0 s27).bind fun v28 =>
 ((atI p0 s16).bind fun v29 =>
 (if v28.Name = v29.Name then
 some (.inr (.inr (.inr (.inr false))))
 else
 some (.inl (w64 (s27 + 1))))))
 else
 some (.inr (.inl ())))) 0)) : Option (Unit ⊕ (Int ⊕ (Unit ⊕ Bool)))).bind fun v30x => orE v30x fun v30 =>
 some (.inl (w64 (s16 + 1))))
 else
 some (.inr (.inl ())))) 0 : Option (Unit ⊕ Bool)).bind fun v31x => orE v31x fun v31 =>
 ((cV (p0.length : Int) 1 20).bind fun v32 =>
 some v32))
def mP (p0 : bP) : Option Bool :=
 ((iT p0.Rules).bind fun v1 =>
 (if v1.2 = true then
 ((gU p0.Name).bind fun v2 =>
 (if v2 = true then
 ((iG p0.Months).bind fun v3 =>
 (if v3 = true then
 ((cV p0.Week 1 12).bind fun v4 =>
 some v4)
 else
 some false))
 else
 some false))
 else
 some false))
def lQ (p0 : List Int) : Option Bool :=
 ((bY (S := Int) (X := Unit ⊕ Bool) (fun s4 =>
 (if s4 < (p0.length : Int) then
 ((atI p0 s4).bind fun v5 =>
 ((cV v5 1 60).bind fun v6 =>
 (if (!v6) = true then
 some (.inr (.inr false))
 else
 some (.inl (w64 (s4 + 1))))))
 else
 some (.inr (.inl ())))) 0 : Option (Unit ⊕ Bool)).bind fun v7x => orE v7x fun v7 =>
 ((cV (p0.length : Int) 1 260).bind fun v8 =>
 some v8))
def mT (p0 : aV) : Option Bool :=
 ((((gU p0.Name).bind fun v1 =>
 (if (!v1) = true then
 some true
 else
 ((mU p0.Works).bind fun v2 =>
 (if (!v2) = true then
 some true
 else
 ((gJ p0.Works p0.Minute).bind fun v3 =>
 (if (!v3) = true then
 some true
 else
 ((gJ p0.Works p0.Hour).bind fun v4 =>
 (if (!v4) = true then
 some true
 else
 ((gJ p0.Works p0.Escape).bind fun v5 =>
 some (!v5)))))))))) : Option Bool).bind fun v6 =>
 (if v6 = true then
 some false
 else
 ((gT p0.Teeth).bind fun v7 =>
 (if v7 = true then
 ((cV p0.Beats 1 36000).bind fun v8 =>
 (if v8 = true then
 ((mP p0.Calendar).bind fun v9 =>
 (if v9 = true then
 ((lQ p0.Cam).bind fun v10 =>
 (if v10 = true then
 ((cV p0.Strike 0 2).bind fun v11 =>
 some v11)
 else
 some false))
 else
 some false))
 else
 some false))
 else
 some false))))
def lJ (p0 : List Int) : Option (List Int) :=
 (chk ((([] : List Int).length + p0.length) * 1 * 64 ≤ 140737488355328) (
 some (([] : List Int) ++ p0)))
def iH (p0 : List Int) : Option (List Int) :=
 ((bY (S := Int × List Int) (X := List Int) (fun s18 =>
 (if s18.1 < (p0.length : Int) then
 ((((bY (S := Int) (X := Int) (fun s23 =>
 (((if 0 < s23 then
 ((atI s18.2 (w64 (s23 - 1))).bind fun v24 =>
 ((atI p0 s18.1).bind fun v25 =>
 some (decide (v25 < v24))))
 else
 some false) : Option Bool).bind fun v26 =>
 (if v26 = true then
 some (.inl (w64 (s23 - 1)))
 else
 some (.inr s23)))) (s18.2.length : Int) : Option Int).bind fun v27 =>
 (chk (0 ≤ (0 : Int) ∧ (0 : Int) ≤ v27 ∧ v27 ≤ (s18.2.length : Int)) (
 ((atI p0 s18.1).bind fun v29 =>
 ((lJ (sX s18.2 (0 : Int) v27)).bind fun v30 =>
 (chk ((v30.length + [v29].length) * 1 * 64 ≤ 140737488355328) (
 (chk (0 ≤ v27 ∧ v27 ≤ (s18.2.length : Int) ∧ (s18.2.length : Int) ≤ (s18.2.length : Int)) (
 (chk (((v30 ++ [v29]).length + (sX s18.2 v27 (s18.2.length : Int)).length) * 1 * 64 ≤ 140737488355328) (
 some ((v30 ++ [v29]) ++ (sX s18.2 v27 (s18.2.length : Int)))))))))))))) : Option (List Int)).bind fun v34 =>
 some (.inl (w64 (s18.1 + 1),v34)))
 else
 some (.inr s18.2))) (0,([] : List Int)) : Option (List Int)).bind fun v35 =>
 some v35)
def gL (p0 : Int) : Option ByteArray :=
 ((bY (S := Int × List Int) (X := List Int) (fun s6 =>
 (if s6.1 ≠ 0 then
 (((if (s6.1.tmod 10) < 0 then
 some (w64 (-(s6.1.tmod 10)))
 else
 some (s6.1.tmod 10)) : Option Int).bind fun v8 =>
 (chk (([IntKind.u8.wrap (w64 (48 + v8))].length + s6.2.length) * 1 * 64 ≤ 140737488355328) (
 some (.inl (w64 (s6.1.tdiv 10),[IntKind.u8.wrap (w64 (48 + v8))] ++ s6.2)))))
 else
 some (.inr s6.2))) (p0,([] : List Int)) : Option (List Int)).bind fun v11 =>
 (if (v11.length : Int) = 0 then
 some (⟨#[48]⟩ : ByteArray)
 else
 (if p0 < 0 then
 (chk ((⟨#[45]⟩ : ByteArray).size + (strOfNums v11).size ≤ 9223372036854775807) (
 some ((⟨#[45]⟩ : ByteArray) ++ (strOfNums v11))))
 else
 some (strOfNums v11))))
def iI (p0 : List Int) : Option ByteArray :=
 ((bY (S := ByteArray × Int) (X := ByteArray) (fun s7 =>
 (if s7.2 < (p0.length : Int) then
 (((if 0 < s7.2 then
 (chk (s7.1.size + (⟨#[32]⟩ : ByteArray).size ≤ 9223372036854775807) (
 some (s7.1 ++ (⟨#[32]⟩ : ByteArray))))
 else
 some s7.1) : Option ByteArray).bind fun v9 =>
 ((atI p0 s7.2).bind fun v10 =>
 ((gL v10).bind fun v11 =>
 (chk (v9.size + v11.size ≤ 9223372036854775807) (
 some (.inl (v9 ++ v11,w64 (s7.2 + 1))))))))
 else
 some (.inr s7.1))) ((⟨#[]⟩ : ByteArray),0) : Option ByteArray).bind fun v13 =>
 some v13)
def jR (p0 : List Int) (p1 : Int) : Option (List Int) :=
 ((bY (S := Bool × Int × List Int) (X := Bool × List Int) (fun s9 =>
 (if s9.2.1 < (p0.length : Int) then
 (((((if (!s9.1) = true then
 ((atI p0 s9.2.1).bind fun v10 =>
 some (decide (p1 ≤ v10)))
 else
 some false) : Option Bool).bind fun v11 =>
 (if v11 = true then
 ((atI p0 s9.2.1).bind fun v12 =>
 (if p1 < v12 then
 (chk ((s9.2.2.length + [p1].length) * 1 * 64 ≤ 140737488355328) (
 some (true,s9.2.2 ++ [p1])))
 else
 some (true,s9.2.2)))
 else
 some (s9.1,s9.2.2))) : Option (Bool × List Int)).bind fun v14 =>
 ((atI p0 s9.2.1).bind fun v15 =>
 (chk ((v14.2.length + [v15].length) * 1 * 64 ≤ 140737488355328) (
 some (.inl (v14.1,w64 (s9.2.1 + 1),v14.2 ++ [v15]))))))
 else
 some (.inr (s9.1,s9.2.2)))) (false,0,([] : List Int)) : Option (Bool × List Int)).bind fun v17 =>
 (((if (!v17.1) = true then
 (chk ((v17.2.length + [p1].length) * 1 * 64 ≤ 140737488355328) (
 some (v17.2 ++ [p1])))
 else
 some v17.2) : Option (List Int)).bind fun v19 =>
 some v19))
def iF (p0 : List Int) : Option (List Int × Int) :=
 ((lQ p0).bind fun v1 =>
 (if (!v1) = true then
 some (([] : List Int),1)
 else
 ((bY (S := Int × List Int) (X := List Int) (fun s5 =>
 (if s5.1 < (p0.length : Int) then
 ((atI p0 s5.1).bind fun v6 =>
 ((jR s5.2 v6).bind fun v7 =>
 some (.inl (w64 (s5.1 + 1),v7))))
 else
 some (.inr s5.2))) (0,([] : List Int)) : Option (List Int)).bind fun v8 =>
 some (v8,0))))
def kO (p0 : aV) : Option (List ByteArray × Int) :=
 ((mT p0).bind fun v1 =>
 (if (!v1) = true then
 some (([] : List ByteArray),1)
 else
 ((bY (S := Int × List ByteArray) (X := List ByteArray) (fun s12 =>
 (if s12.1 < (p0.Works.Arbors.length : Int) then
 ((atI p0.Works.Arbors s12.1).bind fun v13 =>
 (chk ((⟨#[97,114,98,111,114,32]⟩ : ByteArray).size + v13.Name.size ≤ 9223372036854775807) (
 ((atI p0.Works.Arbors s12.1).bind fun v15 =>
 ((iH v15.Wheels).bind fun v16 =>
 (((if 0 < (v16.length : Int) then
 ((iI v16).bind fun v17 =>
 (chk ((⟨#[32]⟩ : ByteArray).size + v17.size ≤ 9223372036854775807) (
 (chk (((⟨#[97,114,98,111,114,32]⟩ : ByteArray) ++ v13.Name).size + ((⟨#[32]⟩ : ByteArray) ++ v17).size ≤ 9223372036854775807) (
 some (((⟨#[97,114,98,111,114,32]⟩ : ByteArray) ++ v13.Name) ++ ((⟨#[32]⟩ : ByteArray) ++ v17)))))))
 else
 some ((⟨#[97,114,98,111,114,32]⟩ : ByteArray) ++ v13.Name)) : Option ByteArray).bind fun v20 =>
 (chk ((s12.2.length + [v20].length) * 1 * 64 ≤ 140737488355328) (
 some (.inl (w64 (s12.1 + 1),s12.2 ++ [v20]))))))))))
 else
 some (.inr s12.2))) (0,([] : List ByteArray)) : Option (List ByteArray)).bind fun v22 =>
 ((iF p0.Cam).bind fun v23 =>
 ((gL p0.Teeth).bind fun v24 =>
 (chk ((⟨#[101,115,99,97,112,101,45,119,104,101,101,108,32]⟩ : ByteArray).size + v24.size ≤ 9223372036854775807) (
 (chk ((v22.length + [(⟨#[101,115,99,97,112,101,45,119,104,101,101,108,32]⟩ : ByteArray) ++ v24].length) * 1 * 64 ≤ 140737488355328) (
 ((gL (p0.Cam.length : Int)).bind fun v27 =>
 (chk ((⟨#[99,97,109,32]⟩ : ByteArray).size + v27.size ≤ 9223372036854775807) (
 (chk (((⟨#[99,97,109,32]⟩ : ByteArray) ++ v27).size + (⟨#[32]⟩ : ByteArray).size ≤ 9223372036854775807) (
 ((gL (v23.1.length : Int)).bind fun v30 =>
 (chk ((((⟨#[99,97,109,32]⟩ : ByteArray) ++ v27) ++ (⟨#[32]⟩ : ByteArray)).size + v30.size ≤ 9223372036854775807) (
 (chk (((v22 ++ [(⟨#[101,115,99,97,112,101,45,119,104,101,101,108,32]⟩ : ByteArray) ++ v24]).length + [(((⟨#[99,97,109,32]⟩ : ByteArray) ++ v27) ++ (⟨#[32]⟩ : ByteArray)) ++ v30].length) * 1 * 64 ≤ 140737488355328) (
 some ((v22 ++ [(⟨#[101,115,99,97,112,101,45,119,104,101,101,108,32]⟩ : ByteArray) ++ v24]) ++ [(((⟨#[99,97,109,32]⟩ : ByteArray) ++ v27) ++ (⟨#[32]⟩ : ByteArray)) ++ v30],0))))))))))))))))))))
def cR (p0 : Int) (p1 : Int) (p2 : Int) : Option Bool :=
 (if p1 ≤ p0 then
 some (decide (p0 ≤ p2))
 else
 some false)
def gH (p0 : bQ) (p1 : Int) : Option Bool :=
 ((cR p1 0 (w64 ((p0.Arbors.length : Int) - 1))).bind fun v1 =>
 some v1)
def iJ (p0 : Int) : Option Bool :=
 ((cR p0 6 240).bind fun v1 =>
 some v1)
def gN (p0 : ByteArray) : Option Bool :=
 (((if (p0.size : Int) < 1 then
 some true
 else
 some (decide (12 < (p0.size : Int)))) : Option Bool).bind fun v1 =>
 (if v1 = true then
 some false
 else
 (((chk (p0.size ≤ 140737488355328) (
 bY (S := Int) (X := Unit ⊕ Bool) (fun s8 =>
 (if s8 < ((cA p0).length : Int) then
 ((atI (cA p0) s8).bind fun v9 =>
 (((if 97 ≤ v9 then
 some (decide (v9 ≤ 122))
 else
 some false) : Option Bool).bind fun v10 =>
 (((if 48 ≤ v9 then
 (if v9 ≤ 57 then
 some true
 else
 some (decide (v9 = 45)))
 else
 some (decide (v9 = 45))) : Option Bool).bind fun v11 =>
 (((if (!v10) = true then
 (if s8 = 0 then
 some true
 else
 some (!v11))
 else
 some false) : Option Bool).bind fun v12 =>
 (if v12 = true then
 some (.inr (.inr false))
 else
 some (.inl (w64 (s8 + 1))))))))
 else
 some (.inr (.inl ())))) 0)) : Option (Unit ⊕ Bool)).bind fun v13x => orE v13x fun v13 =>
 some true)))
def fY (p0 : bH) : Option Bool :=
 ((bY (S := Int) (X := Unit ⊕ Bool) (fun s4 =>
 (if s4 < (p0.Wheels.length : Int) then
 ((atI p0.Wheels s4).bind fun v5 =>
 ((iJ v5).bind fun v6 =>
 (if (!v6) = true then
 some (.inr (.inr false))
 else
 some (.inl (w64 (s4 + 1))))))
 else
 some (.inr (.inl ())))) 0 : Option (Unit ⊕ Bool)).bind fun v7x => orE v7x fun v7 =>
 ((gN p0.Name).bind fun v8 =>
 (if v8 = true then
 some (decide ((p0.Wheels.length : Int) ≤ 5))
 else
 some false)))
def gP (p0 : bQ) (p1 : Int) (p2 : Int) : Option Bool :=
 ((cR p1 0 (w64 ((p0.Arbors.length : Int) - 1))).bind fun v1 =>
 (if v1 = true then
 ((atI p0.Arbors p1).bind fun v2 =>
 ((cR p2 0 (w64 ((v2.Wheels.length : Int) - 1))).bind fun v3 =>
 some v3))
 else
 some false))
def mQ (p0 : bQ) (p1 : bJ) : Option Bool :=
 (if p1.A ≠ p1.B then
 ((gP p0 p1.A p1.WheelA).bind fun v1 =>
 (if v1 = true then
 ((gP p0 p1.B p1.WheelB).bind fun v2 =>
 some v2)
 else
 some false))
 else
 some false)
def iW (p0 : bJ) (p1 : bJ) : Option Bool :=
 (if p0 = p1 then
 some true
 else
 some (decide (p0 = (⟨p1.B,p1.WheelB,p1.A,p1.WheelA⟩ : bJ))))
def gB (p0 : bJ) (p1 : bJ) : Option Bool :=
 ((iW p1 p0).bind fun v1 =>
 some v1)
def bK (p0 : List bJ) (p1_0 : bJ) : Option Int :=
 ((bY (S := Int) (X := Unit ⊕ Int) (fun s4 =>
 (if s4 < (p0.length : Int) then
 ((atI p0 s4).bind fun v5 =>
 ((gB v5 p1_0).bind fun v6 =>
 (if v6 = true then
 some (.inr (.inr s4))
 else
 some (.inl (w64 (s4 + 1))))))
 else
 some (.inr (.inl ())))) 0 : Option (Unit ⊕ Int)).bind fun v7x => orE v7x fun v7 =>
 some (-1))
def aT (p0 : List bJ) (p1_0 : bJ) : Option Bool :=
 ((bK p0 p1_0).bind fun v1 =>
 some (decide (0 ≤ v1)))
def fW (p0 : bQ) : Option Bool :=
 (((if 16 < (p0.Arbors.length : Int) then
 some true
 else
 some (decide (24 < (p0.Meshes.length : Int)))) : Option Bool).bind fun v1 =>
 (if v1 = true then
 some false
 else
 ((bY (S := Int) (X := Unit ⊕ Bool) (fun s11 =>
 (if s11 < (p0.Arbors.length : Int) then
 ((((atI p0.Arbors s11).bind fun v12 =>
 ((fY v12).bind fun v13 =>
 (if (!v13) = true then
 some (.inr (.inr (.inr false)))
 else
 (chk (0 ≤ (0 : Int) ∧ (0 : Int) ≤ s11 ∧ s11 ≤ (p0.Arbors.length : Int)) (
 bY (S := Int) (X := Unit ⊕ (Int ⊕ (Unit ⊕ Bool))) (fun s17 =>
 (if s17 < ((sX p0.Arbors (0 : Int) s11).length : Int) then
 ((atI (sX p0.Arbors (0 : Int) s11) s17).bind fun v18 =>
 (if v12.Name = v18.Name then
 some (.inr (.inr (.inr (.inr false))))
 else
 some (.inl (w64 (s17 + 1)))))
 else
 some (.inr (.inl ())))) 0))))) : Option (Unit ⊕ (Int ⊕ (Unit ⊕ Bool)))).bind fun v19x => orE v19x fun v19 =>
 some (.inl (w64 (s11 + 1))))
 else
 some (.inr (.inl ())))) 0 : Option (Unit ⊕ Bool)).bind fun v20x => orE v20x fun v20 =>
 ((bY (S := Int) (X := Unit ⊕ Bool) (fun s27 =>
 (if s27 < (p0.Meshes.length : Int) then
 ((atI p0.Meshes s27).bind fun v28 =>
 ((((mQ p0 v28).bind fun v29 =>
 (if (!v29) = true then
 some true
 else
 (chk (0 ≤ (0 : Int) ∧ (0 : Int) ≤ s27 ∧ s27 ≤ (p0.Meshes.length : Int)) (
 ((aT (sX p0.Meshes (0 : Int) s27) v28).bind fun v31 =>
 some v31))))) : Option Bool).bind fun v32 =>
 (if v32 = true then
 some (.inr (.inr false))
 else
 some (.inl (w64 (s27 + 1))))))
 else
 some (.inr (.inl ())))) 0 : Option (Unit ⊕ Bool)).bind fun v33x => orE v33x fun v33 =>
 some true))))
def eU (p0 : aZ) (p1 : aZ) : Option Bool :=
 some (decide (p0.Name = p1.Name))
def bD (p0 : List aZ) (p1_0 : aZ) : Option Int :=
 ((bY (S := Int) (X := Unit ⊕ Int) (fun s4 =>
 (if s4 < (p0.length : Int) then
 ((atI p0 s4).bind fun v5 =>
 ((eU v5 p1_0).bind fun v6 =>
 (if v6 = true then
 some (.inr (.inr s4))
 else
 some (.inl (w64 (s4 + 1))))))
 else
 some (.inr (.inl ())))) 0 : Option (Unit ⊕ Int)).bind fun v7x => orE v7x fun v7 =>
 some (-1))
def aO (p0 : List aZ) (p1_0 : aZ) : Option Bool :=
 ((bD p0 p1_0).bind fun v1 =>
 some (decide (0 ≤ v1)))
def pR (p0 : Int) (p1 : Int) : Option Int :=
 ((bY (S := Int × Int) (X := Int) (fun s3 =>
 (if s3.2 ≠ 0 then
 (chk (s3.2 ≠ 0) (
 some (.inl (s3.2,s3.1.tmod s3.2))))
 else
 some (.inr s3.1))) (p0,p1) : Option Int).bind fun v5 =>
 (if v5 < 0 then
 some (w64 (-v5))
 else
 some v5))
def fX (p0 : List aH) : Option Int :=
 ((bY (S := Int × Int) (X := Int) (fun s6 =>
 (if s6.2 < (p0.length : Int) then
 ((((atI p0 s6.2).bind fun v7 =>
 (if s6.1 ≤ 2000 then
 ((pR s6.1 v7.Every).bind fun v8 =>
 (chk (v8 ≠ 0) (
 some (w64 ((w64 (s6.1.tdiv v8)) * v7.Every)))))
 else
 some s6.1)) : Option Int).bind fun v10 =>
 some (.inl (v10,w64 (s6.2 + 1))))
 else
 some (.inr s6.1))) (1,0) : Option Int).bind fun v11 =>
 some v11)
def eJ (p0 : bP) : Option Bool :=
 ((((gN p0.Name).bind fun v1 =>
 (if (!v1) = true then
 some true
 else
 (if (p0.Months.length : Int) < 1 then
 some true
 else
 (if 20 < (p0.Months.length : Int) then
 some true
 else
 (if 6 < (p0.Rules.length : Int) then
 some true
 else
 ((cR p0.Week 1 12).bind fun v2 =>
 some (!v2))))))) : Option Bool).bind fun v3 =>
 (if v3 = true then
 some false
 else
 ((bY (S := Int) (X := Unit ⊕ Bool) (fun s12 =>
 (if s12 < (p0.Months.length : Int) then
 ((atI p0.Months s12).bind fun v13 =>
 ((((gN v13.Name).bind fun v14 =>
 (if (!v14) = true then
 some true
 else
 ((cR v13.Days 1 60).bind fun v15 =>
 (if (!v15) = true then
 some true
 else
 ((cR v13.Leap 1 60).bind fun v16 =>
 some (!v16)))))) : Option Bool).bind fun v17 =>
 (if v17 = true then
 some (.inr (.inr false))
 else
 (chk (0 ≤ (0 : Int) ∧ (0 : Int) ≤ s12 ∧ s12 ≤ (p0.Months.length : Int)) (
 ((aO (sX p0.Months (0 : Int) s12) v13).bind fun v19 =>
 (if v19 = true then
 some (.inr (.inr false))
 else
 some (.inl (w64 (s12 + 1))))))))))
 else
 some (.inr (.inl ())))) 0 : Option (Unit ⊕ Bool)).bind fun v20x => orE v20x fun v20 =>
 ((bY (S := Int) (X := Unit ⊕ Bool) (fun s26 =>
 (if s26 < (p0.Rules.length : Int) then
 ((atI p0.Rules s26).bind fun v27 =>
 ((((cR v27.Every 1 1000).bind fun v28 =>
 (if (!v28) = true then
 some true
 else
 ((cR v27.Rest 0 (w64 (v27.Every - 1))).bind fun v29 =>
 some (!v29)))) : Option Bool).bind fun v30 =>
 (if v30 = true then
 some (.inr (.inr false))
 else
 some (.inl (w64 (s26 + 1))))))
 else
 some (.inr (.inl ())))) 0 : Option (Unit ⊕ Bool)).bind fun v31x => orE v31x fun v31 =>
 ((fX p0.Rules).bind fun v32 =>
 some (decide (v32 ≤ 2000)))))))
def gV (p0 : List Int) : Option Bool :=
 ((bY (S := Int) (X := Unit ⊕ Bool) (fun s4 =>
 (if s4 < (p0.length : Int) then
 ((atI p0 s4).bind fun v5 =>
 ((cR v5 1 60).bind fun v6 =>
 (if (!v6) = true then
 some (.inr (.inr false))
 else
 some (.inl (w64 (s4 + 1))))))
 else
 some (.inr (.inl ())))) 0 : Option (Unit ⊕ Bool)).bind fun v7x => orE v7x fun v7 =>
 (if 1 ≤ (p0.length : Int) then
 some (decide ((p0.length : Int) ≤ 260))
 else
 some false))
def eG (p0 : aV) : Option Bool :=
 ((((gH p0.Works p0.Minute).bind fun v1 =>
 (if v1 = true then
 ((gH p0.Works p0.Hour).bind fun v2 =>
 (if v2 = true then
 ((gH p0.Works p0.Escape).bind fun v3 =>
 some v3)
 else
 some false))
 else
 some false)) : Option Bool).bind fun v4 =>
 ((((iJ p0.Teeth).bind fun v5 =>
 (if v5 = true then
 ((cR p0.Beats 1 36000).bind fun v6 =>
 (if v6 = true then
 ((cR p0.Strike 0 2).bind fun v7 =>
 some v7)
 else
 some false))
 else
 some false)) : Option Bool).bind fun v8 =>
 (if v4 = true then
 (if v8 = true then
 ((gN p0.Name).bind fun v9 =>
 (if v9 = true then
 ((fW p0.Works).bind fun v10 =>
 (if v10 = true then
 ((eJ p0.Calendar).bind fun v11 =>
 (if v11 = true then
 ((gV p0.Cam).bind fun v12 =>
 some v12)
 else
 some false))
 else
 some false))
 else
 some false))
 else
 some false)
 else
 some false)))
def cN (p0 : List Int) : Option (List Int) :=
 some p0
def fB (p0 : List Int) : Option (List Int) := (chk (p0.length ≤ 1048576) (some p0))
def dF (p0 : List Int) : Option (List Int) := (chk (p0.length ≤ 140737488355328) (some (eO p0)))
def bB (p0_0 : List Int) : Option (List Int) :=
 ((fB p0_0).bind fun v1 =>
 ((dF v1).bind fun v2 =>
 (chk (v2.length = v1.length) (
 some v2))))
def gI (p0 p1 : Int) : Option ByteArray := (chk (-9223372036854775808 ≤ p0 ∧ p0 ≤ 9223372036854775807 ∧ p1 = 10) (some ⟨(Lib.itoa p0).toArray⟩))
def fJ (p0 : Int) : Option ByteArray :=
 ((gI p0 10).bind fun v1 =>
 some v1)
def lH (p0 : List ByteArray) (p1 : ByteArray) : Option ByteArray := (chk (p0.length ≤ 140737488355328 ∧ (jK p0 p1).size ≤ 140737488355328) (some (jK p0 p1)))
def hU (p0 : List Int) : Option (List Int × Int) :=
 ((gV p0).bind fun v1 => (chk (p0.length ≤ 1048576 ∧ (v1 = true → p0 ≠ [])) (some (if v1 = true then fO p0 else [],if v1 = true then 0 else 1))))
def iK (p0 : aV) : Option (List ByteArray × Int) :=
 ((eG p0).bind fun v1 =>
 (if (!v1) = true then
 some (([] : List ByteArray),1)
 else
 ((bY (S := Int × List ByteArray) (X := List ByteArray) (fun s18 =>
 (if s18.1 < (p0.Works.Arbors.length : Int) then
 ((((atI p0.Works.Arbors s18.1).bind fun v19 =>
 ((((cN v19.Wheels).bind fun v20 =>
 ((bB v20).bind fun v21 =>
 bY (S := Int × List ByteArray) (X := List ByteArray) (fun s26 =>
 (if s26.1 < (v21.length : Int) then
 ((atI v21 s26.1).bind fun v27 =>
 ((fJ v27).bind fun v28 =>
 (chk ((s26.2.length + [v28].length) * 1 * 64 ≤ 140737488355328) (
 some (.inl (w64 (s26.1 + 1),s26.2 ++ [v28]))))))
 else
 some (.inr s26.2))) (0,[(⟨#[97,114,98,111,114]⟩ : ByteArray),v19.Name]))) : Option (List ByteArray)).bind fun v30 =>
 ((lH v30 (⟨#[32]⟩ : ByteArray)).bind fun v31 =>
 (chk ((s18.2.length + [v31].length) * 1 * 64 ≤ 140737488355328) (
 some (s18.2 ++ [v31])))))) : Option (List ByteArray)).bind fun v33 =>
 some (.inl (w64 (s18.1 + 1),v33)))
 else
 some (.inr s18.2))) (0,([] : List ByteArray)) : Option (List ByteArray)).bind fun v34 =>
 ((hU p0.Cam).bind fun v35 =>
 ((fJ p0.Teeth).bind fun v36 =>
 (chk ((⟨#[101,115,99,97,112,101,45,119,104,101,101,108,32]⟩ : ByteArray).size + v36.size ≤ 9223372036854775807) (
 (chk ((v34.length + [(⟨#[101,115,99,97,112,101,45,119,104,101,101,108,32]⟩ : ByteArray) ++ v36].length) * 1 * 64 ≤ 140737488355328) (
 ((fJ (p0.Cam.length : Int)).bind fun v39 =>
 (chk ((⟨#[99,97,109,32]⟩ : ByteArray).size + v39.size ≤ 9223372036854775807) (
 (chk (((⟨#[99,97,109,32]⟩ : ByteArray) ++ v39).size + (⟨#[32]⟩ : ByteArray).size ≤ 9223372036854775807) (
 ((fJ (v35.1.length : Int)).bind fun v42 =>
 (chk ((((⟨#[99,97,109,32]⟩ : ByteArray) ++ v39) ++ (⟨#[32]⟩ : ByteArray)).size + v42.size ≤ 9223372036854775807) (
 (chk (((v34 ++ [(⟨#[101,115,99,97,112,101,45,119,104,101,101,108,32]⟩ : ByteArray) ++ v36]).length + [(((⟨#[99,97,109,32]⟩ : ByteArray) ++ v39) ++ (⟨#[32]⟩ : ByteArray)) ++ v42].length) * 1 * 64 ≤ 140737488355328) (
 some ((v34 ++ [(⟨#[101,115,99,97,112,101,45,119,104,101,101,108,32]⟩ : ByteArray) ++ v36]) ++ [(((⟨#[99,97,109,32]⟩ : ByteArray) ++ v39) ++ (⟨#[32]⟩ : ByteArray)) ++ v42],0))))))))))))))))))))
def eR (p0 : List ByteArray) (p1 : List ByteArray) : Option Bool :=
 (if (p0.length : Int) ≠ (p1.length : Int) then
 some false
 else
 ((bY (S := Int) (X := Unit ⊕ Bool) (fun s4 =>
 (if s4 < (p0.length : Int) then
 ((atI p0 s4).bind fun v5 =>
 ((atI p1 s4).bind fun v6 =>
 (if v5 ≠ v6 then
 some (.inr (.inr false))
 else
 some (.inl (w64 (s4 + 1))))))
 else
 some (.inr (.inl ())))) 0 : Option (Unit ⊕ Bool)).bind fun v7x => orE v7x fun v7 =>
 some true))
def gW (p0 : List Int) (p1 : List Int) : Option Bool :=
 (if (p0.length : Int) ≠ (p1.length : Int) then
 some false
 else
 ((bY (S := Int) (X := Unit ⊕ Bool) (fun s4 =>
 (if s4 < (p0.length : Int) then
 ((atI p0 s4).bind fun v5 =>
 ((atI p1 s4).bind fun v6 =>
 (if v5 ≠ v6 then
 some (.inr (.inr false))
 else
 some (.inl (w64 (s4 + 1))))))
 else
 some (.inr (.inl ())))) 0 : Option (Unit ⊕ Bool)).bind fun v7x => orE v7x fun v7 =>
 some true))
def jZ (p0 : bH) (p1 : bH) : Option Bool :=
 (if p0.Name ≠ p1.Name then
 some false
 else
 ((gW p0.Wheels p1.Wheels).bind fun v1 =>
 (if (!v1) = true then
 some false
 else
 some true)))
def jG (p0 : List bH) (p1 : List bH) : Option Bool :=
 (if (p0.length : Int) ≠ (p1.length : Int) then
 some false
 else
 ((bY (S := Int) (X := Unit ⊕ Bool) (fun s5 =>
 (if s5 < (p0.length : Int) then
 ((atI p0 s5).bind fun v6 =>
 ((atI p1 s5).bind fun v7 =>
 ((jZ v6 v7).bind fun v8 =>
 (if (!v8) = true then
 some (.inr (.inr false))
 else
 some (.inl (w64 (s5 + 1)))))))
 else
 some (.inr (.inl ())))) 0 : Option (Unit ⊕ Bool)).bind fun v9x => orE v9x fun v9 =>
 some true))
def lK (p0 : bJ) (p1 : bJ) : Option Bool :=
 (if p0.A ≠ p1.A then
 some false
 else
 (if p0.WheelA ≠ p1.WheelA then
 some false
 else
 (if p0.B ≠ p1.B then
 some false
 else
 (if p0.WheelB ≠ p1.WheelB then
 some false
 else
 some true))))
def jY (p0 : List bJ) (p1 : List bJ) : Option Bool :=
 (if (p0.length : Int) ≠ (p1.length : Int) then
 some false
 else
 ((bY (S := Int) (X := Unit ⊕ Bool) (fun s5 =>
 (if s5 < (p0.length : Int) then
 ((atI p0 s5).bind fun v6 =>
 ((atI p1 s5).bind fun v7 =>
 ((lK v6 v7).bind fun v8 =>
 (if (!v8) = true then
 some (.inr (.inr false))
 else
 some (.inl (w64 (s5 + 1)))))))
 else
 some (.inr (.inl ())))) 0 : Option (Unit ⊕ Bool)).bind fun v9x => orE v9x fun v9 =>
 some true))
def kG (p0 : bQ) (p1 : bQ) : Option Bool :=
 ((jG p0.Arbors p1.Arbors).bind fun v1 =>
 (if (!v1) = true then
 some false
 else
 ((jY p0.Meshes p1.Meshes).bind fun v2 =>
 (if (!v2) = true then
 some false
 else
 some true))))
def kM (p0 : aZ) (p1 : aZ) : Option Bool :=
 (if p0.Name ≠ p1.Name then
 some false
 else
 (if p0.Days ≠ p1.Days then
 some false
 else
 (if p0.Leap ≠ p1.Leap then
 some false
 else
 some true)))
def iY (p0 : List aZ) (p1 : List aZ) : Option Bool :=
 (if (p0.length : Int) ≠ (p1.length : Int) then
 some false
 else
 ((bY (S := Int) (X := Unit ⊕ Bool) (fun s5 =>
 (if s5 < (p0.length : Int) then
 ((atI p0 s5).bind fun v6 =>
 ((atI p1 s5).bind fun v7 =>
 ((kM v6 v7).bind fun v8 =>
 (if (!v8) = true then
 some (.inr (.inr false))
 else
 some (.inl (w64 (s5 + 1)))))))
 else
 some (.inr (.inl ())))) 0 : Option (Unit ⊕ Bool)).bind fun v9x => orE v9x fun v9 =>
 some true))
def fR (p0 : aH) (p1 : aH) : Option Bool :=
 (if p0.Every ≠ p1.Every then
 some false
 else
 (if p0.Rest ≠ p1.Rest then
 some false
 else
 (if (p0.Leap != p1.Leap) = true then
 some false
 else
 some true)))
def fE (p0 : List aH) (p1 : List aH) : Option Bool :=
 (if (p0.length : Int) ≠ (p1.length : Int) then
 some false
 else
 ((bY (S := Int) (X := Unit ⊕ Bool) (fun s5 =>
 (if s5 < (p0.length : Int) then
 ((atI p0 s5).bind fun v6 =>
 ((atI p1 s5).bind fun v7 =>
 ((fR v6 v7).bind fun v8 =>
 (if (!v8) = true then
 some (.inr (.inr false))
 else
 some (.inl (w64 (s5 + 1)))))))
 else
 some (.inr (.inl ())))) 0 : Option (Unit ⊕ Bool)).bind fun v9x => orE v9x fun v9 =>
 some true))
def gA (p0 : bP) (p1 : bP) : Option Bool :=
 (if p0.Name ≠ p1.Name then
 some false
 else
 ((iY p0.Months p1.Months).bind fun v1 =>
 (if (!v1) = true then
 some false
 else
 ((fE p0.Rules p1.Rules).bind fun v2 =>
 (if (!v2) = true then
 some false
 else
 (if p0.Week ≠ p1.Week then
 some false
 else
 some true))))))
def fZ (p0 : aV) (p1 : aV) : Option Bool :=
 (if p0.Name ≠ p1.Name then
 some false
 else
 ((kG p0.Works p1.Works).bind fun v1 =>
 (if (!v1) = true then
 some false
 else
 (if p0.Minute ≠ p1.Minute then
 some false
 else
 (if p0.Hour ≠ p1.Hour then
 some false
 else
 (if p0.Escape ≠ p1.Escape then
 some false
 else
 (if p0.Teeth ≠ p1.Teeth then
 some false
 else
 (if p0.Beats ≠ p1.Beats then
 some false
 else
 ((gA p0.Calendar p1.Calendar).bind fun v2 =>
 (if (!v2) = true then
 some false
 else
 ((gW p0.Cam p1.Cam).bind fun v3 =>
 (if (!v3) = true then
 some false
 else
 (if p0.Strike ≠ p1.Strike then
 some false
 else
 some true)))))))))))))
def dH (p0 : Int) : Option ByteArray :=
 (if p0 ≤ 0 then
 some (⟨#[109,48]⟩ : ByteArray)
 else
 ((bY (S := Int × ByteArray) (X := ByteArray) (fun s5 =>
 (if 0 < s5.1 then
 (chk ((strOfNums [IntKind.u8.wrap (w64 (48 + (s5.1.tmod 10)))]).size + s5.2.size ≤ 9223372036854775807) (
 some (.inl (w64 (s5.1.tdiv 10),(strOfNums [IntKind.u8.wrap (w64 (48 + (s5.1.tmod 10)))]) ++ s5.2))))
 else
 some (.inr s5.2))) (p0,(⟨#[]⟩ : ByteArray)) : Option ByteArray).bind fun v9 =>
 (chk ((⟨#[109]⟩ : ByteArray).size + v9.size ≤ 9223372036854775807) (
 some ((⟨#[109]⟩ : ByteArray) ++ v9)))))
def dT (p0 : List Int) (p1 : Int) : Option (Int × List Int) :=
 ((bY (S := Int × Int × List Int) (X := Int × List Int) (fun s3 =>
 (if s3.2.1 < (s3.2.2.length : Int) then
 ((atI s3.2.2 s3.2.1).bind fun v4 =>
 some (.inl (w64 (s3.1 + 1),w64 (s3.2.1 + 1),List.set s3.2.2 s3.2.1.toNat s3.1)))
 else
 some (.inr (s3.1,s3.2.2)))) (p1,0,p0) : Option (Int × List Int)).bind fun v5 =>
 some (v5.1,v5.2))
def eV (p0 : List bH) (p1 : Int) : Option (Int × List bH) :=
 ((bY (S := Int × Int × List bH) (X := Int × List bH) (fun s7 =>
 (if s7.2.1 < (s7.2.2.length : Int) then
 ((dH s7.1).bind fun v8 =>
 ((atI s7.2.2 s7.2.1).bind fun v9 =>
 ((atI (List.set s7.2.2 s7.2.1.toNat (⟨v8,v9.Wheels⟩ : bH)) s7.2.1).bind fun v10 =>
 ((dT v10.Wheels (w64 (s7.1 + 1))).bind fun v11 =>
 (chk (v11.2.length = v10.Wheels.length) (
 some (.inl (v11.1,w64 (s7.2.1 + 1),List.set (List.set s7.2.2 s7.2.1.toNat (⟨v8,v9.Wheels⟩ : bH)) s7.2.1.toNat (⟨v10.Name,v11.2⟩ : bH)))))))))
 else
 some (.inr (s7.1,s7.2.2)))) (p1,0,p0) : Option (Int × List bH)).bind fun v13 =>
 some (v13.1,v13.2))
def fI (p0 : List bJ) (p1 : Int) : Option (Int × List bJ) :=
 ((bY (S := Int × Int × List bJ) (X := Int × List bJ) (fun s6 =>
 (if s6.2.1 < (s6.2.2.length : Int) then
 ((atI s6.2.2 s6.2.1).bind fun v7 =>
 ((atI (List.set s6.2.2 s6.2.1.toNat (⟨s6.1,v7.WheelA,v7.B,v7.WheelB⟩ : bJ)) s6.2.1).bind fun v8 =>
 ((atI (List.set (List.set s6.2.2 s6.2.1.toNat (⟨s6.1,v7.WheelA,v7.B,v7.WheelB⟩ : bJ)) s6.2.1.toNat (⟨v8.A,w64 (s6.1 + 1),v8.B,v8.WheelB⟩ : bJ)) s6.2.1).bind fun v9 =>
 ((atI (List.set (List.set (List.set s6.2.2 s6.2.1.toNat (⟨s6.1,v7.WheelA,v7.B,v7.WheelB⟩ : bJ)) s6.2.1.toNat (⟨v8.A,w64 (s6.1 + 1),v8.B,v8.WheelB⟩ : bJ)) s6.2.1.toNat (⟨v9.A,v9.WheelA,w64 ((w64 (s6.1 + 1)) + 1),v9.WheelB⟩ : bJ)) s6.2.1).bind fun v10 =>
 some (.inl (w64 ((w64 ((w64 ((w64 (s6.1 + 1)) + 1)) + 1)) + 1),w64 (s6.2.1 + 1),List.set (List.set (List.set (List.set s6.2.2 s6.2.1.toNat (⟨s6.1,v7.WheelA,v7.B,v7.WheelB⟩ : bJ)) s6.2.1.toNat (⟨v8.A,w64 (s6.1 + 1),v8.B,v8.WheelB⟩ : bJ)) s6.2.1.toNat (⟨v9.A,v9.WheelA,w64 ((w64 (s6.1 + 1)) + 1),v9.WheelB⟩ : bJ)) s6.2.1.toNat (⟨v10.A,v10.WheelA,v10.B,w64 ((w64 ((w64 (s6.1 + 1)) + 1)) + 1)⟩ : bJ)))))))
 else
 some (.inr (s6.1,s6.2.2)))) (p1,0,p0) : Option (Int × List bJ)).bind fun v11 =>
 some (v11.1,v11.2))
def fH (p0 : bQ) (p1 : Int) : Option (Int × List bH × List bJ) :=
 ((eV p0.Arbors p1).bind fun v1 =>
 (chk (v1.2.length = p0.Arbors.length) (
 ((fI p0.Meshes v1.1).bind fun v3 =>
 (chk (v3.2.length = p0.Meshes.length) (
 some (v3.1,v1.2,v3.2)))))))
def eY (p0 : List aZ) (p1 : Int) : Option (Int × List aZ) :=
 ((bY (S := Int × Int × List aZ) (X := Int × List aZ) (fun s6 =>
 (if s6.2.1 < (s6.2.2.length : Int) then
 ((dH s6.1).bind fun v7 =>
 ((atI s6.2.2 s6.2.1).bind fun v8 =>
 ((atI (List.set s6.2.2 s6.2.1.toNat (⟨v7,v8.Days,v8.Leap⟩ : aZ)) s6.2.1).bind fun v9 =>
 ((atI (List.set (List.set s6.2.2 s6.2.1.toNat (⟨v7,v8.Days,v8.Leap⟩ : aZ)) s6.2.1.toNat (⟨v9.Name,w64 (s6.1 + 1),v9.Leap⟩ : aZ)) s6.2.1).bind fun v10 =>
 some (.inl (w64 ((w64 ((w64 (s6.1 + 1)) + 1)) + 1),w64 (s6.2.1 + 1),List.set (List.set (List.set s6.2.2 s6.2.1.toNat (⟨v7,v8.Days,v8.Leap⟩ : aZ)) s6.2.1.toNat (⟨v9.Name,w64 (s6.1 + 1),v9.Leap⟩ : aZ)) s6.2.1.toNat (⟨v10.Name,v10.Days,w64 ((w64 (s6.1 + 1)) + 1)⟩ : aZ)))))))
 else
 some (.inr (s6.1,s6.2.2)))) (p1,0,p0) : Option (Int × List aZ)).bind fun v11 =>
 some (v11.1,v11.2))
def dO (p0 : List aH) (p1 : Int) : Option (Int × List aH) :=
 ((bY (S := Int × Int × List aH) (X := Int × List aH) (fun s6 =>
 (if s6.2.1 < (s6.2.2.length : Int) then
 ((atI s6.2.2 s6.2.1).bind fun v7 =>
 ((atI (List.set s6.2.2 s6.2.1.toNat (⟨s6.1,v7.Rest,v7.Leap⟩ : aH)) s6.2.1).bind fun v8 =>
 ((atI (List.set (List.set s6.2.2 s6.2.1.toNat (⟨s6.1,v7.Rest,v7.Leap⟩ : aH)) s6.2.1.toNat (⟨v8.Every,w64 (s6.1 + 1),v8.Leap⟩ : aH)) s6.2.1).bind fun v10 =>
 some (.inl (w64 ((w64 ((w64 (s6.1 + 1)) + 1)) + 1),w64 (s6.2.1 + 1),List.set (List.set (List.set s6.2.2 s6.2.1.toNat (⟨s6.1,v7.Rest,v7.Leap⟩ : aH)) s6.2.1.toNat (⟨v8.Every,w64 (s6.1 + 1),v8.Leap⟩ : aH)) s6.2.1.toNat (⟨v10.Every,v10.Rest,decide (((w64 ((w64 (s6.1 + 1)) + 1)).tmod 3) = 0)⟩ : aH))))))
 else
 some (.inr (s6.1,s6.2.2)))) (p1,0,p0) : Option (Int × List aH)).bind fun v11 =>
 some (v11.1,v11.2))
def eA (p0 : bP) (p1 : Int) : Option (Int × List aZ × List aH) :=
 ((eY p0.Months p1).bind fun v1 =>
 (chk (v1.2.length = p0.Months.length) (
 ((dO p0.Rules v1.1).bind fun v3 =>
 (chk (v3.2.length = p0.Rules.length) (
 some (v3.1,v1.2,v3.2)))))))
def dY (p0 : aV) (p1 : Int) : Option (Int × List bH × List bJ × List aZ × List aH × List Int) :=
 ((fH p0.Works p1).bind fun v1 =>
 (chk (v1.2.1.length = p0.Works.Arbors.length) (
 (chk (v1.2.2.length = p0.Works.Meshes.length) (
 ((eA p0.Calendar v1.1).bind fun v4 =>
 (chk (v4.2.1.length = p0.Calendar.Months.length) (
 (chk (v4.2.2.length = p0.Calendar.Rules.length) (
 ((dT p0.Cam v4.1).bind fun v7 =>
 (chk (v7.2.length = p0.Cam.length) (
 some (v7.1,v1.2.1,v1.2.2,v4.2.1,v4.2.2,v7.2))))))))))))))
def eM (p0 : List ByteArray) (p1 : Int) : Option (Int × List ByteArray) :=
 ((bY (S := Int × Int × List ByteArray) (X := Int × List ByteArray) (fun s4 =>
 (if s4.2.1 < (s4.2.2.length : Int) then
 ((dH s4.1).bind fun v5 =>
 ((atI s4.2.2 s4.2.1).bind fun v6 =>
 some (.inl (w64 (s4.1 + 1),w64 (s4.2.1 + 1),List.set s4.2.2 s4.2.1.toNat v5))))
 else
 some (.inr (s4.1,s4.2.2)))) (p1,0,p0) : Option (Int × List ByteArray)).bind fun v7 =>
 some (v7.1,v7.2))
def eK (p0 : List ByteArray) (p1 : Int) : Option Int :=
 ((bY (S := Int × Int) (X := Int ⊕ Int) (fun s4 =>
 (if s4.2 < (p0.length : Int) then
 ((atI p0 s4.2).bind fun v5 =>
 ((dH s4.1).bind fun v6 =>
 (if v5 ≠ v6 then
 some (.inr (.inr (-1)))
 else
 some (.inl (w64 (s4.1 + 1),w64 (s4.2 + 1))))))
 else
 some (.inr (.inl s4.1)))) (p1,0) : Option (Int ⊕ Int)).bind fun v7x => orE v7x fun v7 =>
 some v7)
def fD (p0 : aV) : Option Bool :=
 ((fQ p0 1048576).bind fun v1 =>
 (if v1 < 0 then
 some true
 else
 ((dG p0).bind fun v2 =>
 ((kO v2).bind fun v3 =>
 ((dG p0).bind fun v4 =>
 ((iK v4).bind fun v5 =>
 ((((eR v5.1 v3.1).bind fun v6 =>
 (if (!v6) = true then
 some true
 else
 some (decide (v5.2 ≠ v3.2)))) : Option Bool).bind fun v7 =>
 (if v7 = true then
 some false
 else
 ((dG p0).bind fun v8 =>
 ((fZ v4 v8).bind fun v9 =>
 (if (!v9) = true then
 some false
 else
 ((dY v4 1).bind fun v10 =>
 (chk (v10.2.1.length = v4.Works.Arbors.length) (
 (chk (v10.2.2.1.length = v4.Works.Meshes.length) (
 (chk (v10.2.2.2.1.length = v4.Calendar.Months.length) (
 (chk (v10.2.2.2.2.1.length = v4.Calendar.Rules.length) (
 (chk (v10.2.2.2.2.2.length = v4.Cam.length) (
 (((if v10.1 < 0 then
 some true
 else
 ((eR v5.1 v3.1).bind fun v16 =>
 (if (!v16) = true then
 some true
 else
 some (decide (v5.2 ≠ v3.2))))) : Option Bool).bind fun v17 =>
 (if v17 = true then
 some false
 else
 ((eM v5.1 1).bind fun v18 =>
 (chk (v18.2.length = v5.1.length) (
 ((eK v18.2 1).bind fun v20 =>
 (if v20 < 0 then
 some false
 else
 (if v20 ≠ v18.1 then
 some false
 else
 ((dG p0).bind fun v21 =>
 ((iK v21).bind fun v22 =>
 ((((eR v22.1 v3.1).bind fun v23 =>
 (if (!v23) = true then
 some true
 else
 some (decide (v22.2 ≠ v3.2)))) : Option Bool).bind fun v24 =>
 (if v24 = true then
 some false
 else
 ((eK v18.2 1).bind fun v25 =>
 (if v25 < 0 then
 some false
 else
 (if v25 ≠ v18.1 then
 some false
 else
 some true)))))))))))))))))))))))))))))))))))))
end Go.Proofs.YtgcdbbidmfdonaaGreatDoor
namespace Go.Proofs.YtgcdbbidmfdonaaGreatDoor
open Go.RowKit
set_option linter.unusedVariables false
set_option maxRecDepth 100000
abbrev dI (x : Int) : AV := .d (.v (.int .i64 x))
abbrev z0 : AV := dI 0
abbrev dB (x : Bool) : AV := .d (.v (.bool x))
abbrev dS (x : ByteArray) : AV := .d (.v (.string x))
abbrev dL {α : Type} (c : α → List DV) (x : List α) : AV := .d (.sl (List.map c x))
abbrev zl : AV := .d (.v (.slice none 0 0))
abbrev ze : AV := .d (.v (.string (⟨#[]⟩ : ByteArray)))
section
variable {P : Program} {T : Tab} {L N : Nat} {ops : Array Oper} {E : Env} {K : List (Nat × Cls) → AS → Prop} {i : Nat} {is : List Nat} {t : Nat → AV} {h h' : bZ} {d : Tmp} {dst : Option Tmp} {op : Op} {ty : TypeId} {pos : String} {aft : Array Edge} {g : Option (Nat × Bool)} {Q : kT → AS → Prop} {σ : AS} {c : Code} {x y : Operand}
theorem fi (N : Nat) (hT : TOk P T) {f : FuncId} {fn : Func} {body : Code} {hin hout : List cY} {as : List AV} {r : AV} (hf : P.funcs[f]? = some fn) (hw : AW 3 P N body (aIe T N fn hin.length hout r) ⟨aD1 as 0,lks hin⟩) (hb : fn.body = some body := by exact rfl) (hN : fn.ntmps = N := by exact rfl) (hc : yQ P f = true := by kernel_rfl) (hl : Nat.ble as.length N = true := by exact rfl) (hm : Nat.ble hin.length 3 = true := by exact rfl) : FnC P f hin as hout r := aDc hT hf hb hN hc hl hm hw
theorem bst (hT : TOk P T) {bt bt' : TypeId} {kk j sz : Nat} {c1 : AV} {cells cs cells' : List AV} {ti : TI} (k : RA L P N ops is Q ⟨t,upd h kk (.live [⟨bt',sz, .av [cells']⟩])⟩) (ho : ops[i]? = some ⟨none, .store bt x y,ty,pos,aft,none⟩ := by exact rfl) (hx : evA N ⟨t,h⟩ x = .ptr kk 0 1 0 j := by exact rfl) (hy : lL (evA N ⟨t,h⟩ y) = c1 :: cs := by exact rfl) (hk1 : okL (c1 :: cs) = true := by exact rfl) (h1 : T bt = some ti := by exact rfl)
  (hl : Nat.beq (c1 :: cs).length ti.size = true := by exact rfl) (hpos : Nat.blt 0 ti.size = true := by exact rfl) (hk : h kk = .live [⟨bt',sz, .av [cells]⟩] := by exact rfl) (hs : Spl j (c1 :: cs) cells cells' := by repeat (first | exact Spl.z _ | apply Spl.t | apply Spl.d)) : RA L P N ops (i :: is) Q ⟨t,h⟩ := rw0 ho w0 (wK hT hx hy hk1 h1 hl hpos hk hs) k
theorem bs1 (hT : TOk P T) {bt bt' : TypeId} {kk j sz : Nat} {c1 : DV} {cells cells' : List AV} {ti : TI} (k : RA L P N ops is Q ⟨t,upd h kk (.live [⟨bt',sz, .av [cells']⟩])⟩) (ho : ops[i]? = some ⟨none, .store bt x y,ty,pos,aft,none⟩ := by exact rfl) (hx : evA N ⟨t,h⟩ x = .ptr kk 0 1 0 j := by exact rfl) (hy : lL (evA N ⟨t,h⟩ y) = [.d c1] := by exact rfl) (hk1 : okL [.d c1] = true := by exact rfl) (h1 : T bt = some ti := by exact rfl)
  (hl : Nat.beq [AV.d c1].length ti.size = true := by exact rfl) (hpos : Nat.blt 0 ti.size = true := by exact rfl) (hk : h kk = .live [⟨bt',sz, .av [cells]⟩] := by exact rfl) (hs : Spl j [.d c1] cells cells' := by repeat (first | exact Spl.z _ | apply Spl.t | apply Spl.d)) : RA L P N ops (i :: is) Q ⟨t,h⟩ := rw0 ho w0 (wK hT hx hy hk1 h1 hl hpos hk hs) k
theorem al (k : Nat) (cs : List AV) (hT : TOk P T) {bt : TypeId} {ti : TI} (H : RA L P N ops is Q ⟨aF t d (.ptr k 0 1 0 0),upd h k (.live [⟨bt,cs.length, .av [cs]⟩])⟩) (ho : ops[i]? = some ⟨some d, .alloc bt,ty,pos,aft,none⟩ := by exact rfl) (hd : Nat.blt d N = true := by exact rfl) (h1 : T bt = some ti := by exact rfl) (hc : nN ti.zero.cells.toList = cs := by exact rfl) (hk : h k = .no := by exact rfl) : RA L P N ops (i :: is) Q ⟨t,h⟩ := rs ho w0 hd (aEp k hT h1 hc hk) H
theorem bxx (k : Nat) {bt : TypeId} {c1 : AV} {cs : List AV} (H : RA L P N ops is Q ⟨aF t d (.ptr k 0 1 0 0),upd h k (.live [⟨bt,(c1 :: cs).length, .av [c1 :: cs]⟩])⟩) (ho : ops[i]? = some ⟨some d, .box bt x,ty,pos,aft,none⟩ := by exact rfl) (hd : Nat.blt d N = true := by exact rfl) (hc : lL (evA N ⟨t,h⟩ x) = c1 :: cs := by exact rfl) (hk1 : okL (c1 :: cs) = true := by exact rfl) (hk : h k = .no := by exact rfl) : RA L P N ops (i :: is) Q ⟨t,h⟩ := rs ho w0 hd (aFk k hc hk1 hk) H
theorem tfa (hT : TOk P T) {s bt : TypeId} {q kk e sz : Nat} {cells : List AV} {ti fj : TI} {fs : Array Field} {fld : Field} (H : RT P N ops is (fun l σ' => K ((i, .lk kk) :: l) σ') ⟨aF t d (.ptr kk 0 1 0 (e + fld.offset)),h⟩) (ho : ops[i]? = some ⟨some d, .fieldAddr s x q,ty,pos,aft,none⟩ := by exact rfl) (hd : Nat.blt d N = true := by exact rfl) (hx : evA N ⟨t,h⟩ x = .ptr kk 0 1 0 e := by exact rfl) (h1 : T s = some ti := by exact rfl) (h2 : ti.desc = .struct fs := by exact rfl) (h3 : fs[q]? = some fld := by exact rfl) (h4 : T fld.type = some fj := by exact rfl) (h5 : Nat.beq fj.size 0 = false := by exact rfl) (hk : h kk = .live [⟨bt,sz, .av [cells]⟩] := by exact rfl) : RT P N ops (i :: is) K ⟨t,h⟩ := zA ho w0 hd (aGd hT hx h1 h2 h3 h4 h5 hk) rfl (by rw [hx]; rfl) (by simp only [Op.operands,List.all_cons,List.all_nil,hx]; simp [AV.key]) H
theorem tld (hT : TOk P T) {lt bt : TypeId} {kk e sz : Nat} {cells : List AV} {c0 : AV} {ti : TI} (H : RT P N ops is (fun l σ' => K ((i, .lk kk) :: l) σ') ⟨aF t d c0,h⟩) (ho : ops[i]? = some ⟨some d, .load lt x,ty,pos,aft,none⟩ := by exact rfl) (hd : Nat.blt d N = true := by exact rfl) (hx : evA N ⟨t,h⟩ x = .ptr kk 0 1 0 e := by exact rfl) (h1 : T lt = some ti := by exact rfl) (h2 : lN ti.desc = false := by exact rfl) (hk : h kk = .live [⟨bt,sz, .av [cells]⟩] := by exact rfl) (hc : cells[e]? = some c0 := by exact rfl) : RT P N ops (i :: is) K ⟨t,h⟩ := zA ho w0 hd (aDt hT hx h1 h2 hk hc) rfl (by rw [hx]; rfl) (by simp only [Op.operands,List.all_cons,List.all_nil,hx]; simp [AV.key]) H
theorem r0t {fn : Func} (i : Nat) {as : List AV} {r : AV} (hrs : fn.results.toList = [.tmp i])
  (R : jI T N ⟨t,h⟩ [.tmp i] as := by repeat (first | exact jI.nil | apply jI.tmp (a := .d _) rfl | apply jI.tmp (a := .own _ _ _) rfl | apply jI.tmp (a := .agg _) rfl | apply jI.tmp (a := .ref _) rfl | apply jI.tmp (a := .fn _ _) rfl | apply jI.tmp (a := .ptr _ _ _ _ _) rfl | apply jI.cell1 rfl rfl rfl rfl (by first | rfl) (by first | rfl) rfl | apply jI.cellN rfl rfl rfl rfl (by first | rfl) (by first | rfl) (by repeat (first | exact Seg.z _ | apply Seg.t | apply Seg.d))))
  (hB : Abv h 300 := by repeat (first | exact kC _ | exact kF rfl | refine kI ?_ rfl)) (e : aE4 as = r := by rfl) (hf : r.free = true := by rfl) : tB T N fn 0 [] r ⟨t,h⟩ := aJp 300 hrs R hB hf e
theorem rP {r : AV} (ho : (ops[i]?,Nat.blt d N) = (some ⟨some d,op,ty,pos,aft,none⟩,true)) (hp : dE P N ⟨some d,op,ty,pos,aft,none⟩ ⟨t,h⟩ r) (k : RA L P N ops is Q ⟨aF t d r,h⟩) : RA L P N ops (i :: is) Q ⟨t,h⟩ := rp (Prod.mk.inj ho).1 w0 (Prod.mk.inj ho).2 hp k
theorem rL {r : AV} (ho : (ops[i]?,Nat.blt d N) = (some ⟨some d,op,ty,pos,aft,none⟩,true)) (hp : fK P N ⟨some d,op,ty,pos,aft,none⟩ ⟨t,h⟩ r) (k : RA L P N ops is Q ⟨aF t d r,h⟩) : RA L P N ops (i :: is) Q ⟨t,h⟩ := rl (Prod.mk.inj ho).1 w0 (Prod.mk.inj ho).2 hp k
theorem rS {r : AV} (ho : (ops[i]?,Nat.blt d N) = (some ⟨some d,op,ty,pos,aft,none⟩,true)) (hp : bS P N ⟨some d,op,ty,pos,aft,none⟩ ⟨t,h⟩ r h' ∧ ∀ k,h k ≠ .no → h' k = h k) (k : RA L P N ops is Q ⟨aF t d r,h'⟩) : RA L P N ops (i :: is) Q ⟨t,h⟩ := rs (Prod.mk.inj ho).1 w0 (Prod.mk.inj ho).2 hp k
theorem tP {r : AV} (ho : (ops[i]?,Nat.blt d N) = (some ⟨some d,op,ty,pos,aft,none⟩,true)) (hp : dE P N ⟨some d,op,ty,pos,aft,none⟩ ⟨t,h⟩ r) (k : RT P N ops is (fun l σ' => K ((i, .pu) :: l) σ') ⟨aF t d r,h⟩) : RT P N ops (i :: is) K ⟨t,h⟩ := pM (Prod.mk.inj ho).1 w0 (Prod.mk.inj ho).2 hp k
end
end Go.Proofs.YtgcdbbidmfdonaaGreatDoor
namespace Go.Proofs.YtgcdbbidmfdonaaGreatDoor
set_option linter.unusedVariables false
theorem iE {α : Type} {xs : List α} {i : Int} (h0 : 0 ≤ i) (h1 : i < xs.length) : ∃ e,atI xs i = some e ∧ e ∈ xs ∧ xs[i.toNat]? = some e := by
 have hl : i.toNat < xs.length := by omega
 refine ⟨xs[i.toNat],?_,List.getElem_mem hl,List.getElem?_eq_getElem hl⟩
 unfold atI; rw [if_pos h0]; exact List.getElem?_eq_getElem hl
theorem rU {α : Type} {xs : List α} {i : Int} {x : α} (h0 : 0 ≤ i) (h1 : i < xs.length) : atI (List.set xs i.toNat x) i = some x := by
 unfold atI; rw [if_pos h0]; exact List.getElem?_set_self (by omega)
theorem qS {α : Type} {k : Option α} : chk True k = k := if_pos trivial
theorem vR {i : Int} {n : Nat} (h0 : 0 ≤ i) (h1 : i < n) (hn : n ≤ 9223372036854775807) : w64 (i + 1) = i + 1 := cG (by omega) (by omega)
theorem aEb {α : Type} {xs ys : List α} {k : Nat} {e : α} (h : xs[k]? = some e) (hl : ys.length = xs.length) (hy : ys.take k = xs.take k) : (ys.set k e).take (k + 1) = xs.take (k + 1) := by
 have hk : k < xs.length := (List.getElem?_eq_some_iff.1 h).1
 rw [List.take_add_one,List.take_add_one,h,List.getElem?_set_self (by omega),List.take_set_of_le (Nat.le_refl _),hy]
theorem qP {α : Type} {f : α → α → Option Bool} {xs : List α} (hl : xs.length ≤ 9223372036854775807) (h : ∀ v ∈ xs,f v v = some true) :
  bY (S := Int) (X := Unit ⊕ Bool) (fun s => (if s < (xs.length : Int) then ((atI xs s).bind fun v => ((atI xs s).bind fun u => ((f v u).bind fun b => (if (!b) = true then some (.inr (.inr false)) else some (.inl (w64 (s + 1))))))) else some (.inr (.inl ())))) 0 = some (.inl ()) := by
 refine lB (fun (s : Int) => 0 ≤ s ∧ s ≤ xs.length) (fun (s : Int) => ((xs.length : Int) - s).toNat) (fun s hI => ?_) (by omega) (by omega)
 by_cases hs : s < xs.length
 ·obtain ⟨e,he,hm,_⟩ := iE hI.1 hs
  left
  refine ⟨s + 1,?_,by omega,by omega⟩
  simp [hs,he,h e hm,vR hI.1 hs hl]
 ·right; simp [hs]
theorem wX {α : Type} [DecidableEq α] {xs : List α} (hl : xs.length ≤ 9223372036854775807) :
  bY (S := Int) (X := Unit ⊕ Bool) (fun s => (if s < (xs.length : Int) then ((atI xs s).bind fun v => ((atI xs s).bind fun u => (if v ≠ u then some (.inr (.inr false)) else some (.inl (w64 (s + 1)))))) else some (.inr (.inl ())))) 0 = some (.inl ()) := by
 refine lB (fun (s : Int) => 0 ≤ s ∧ s ≤ xs.length) (fun (s : Int) => ((xs.length : Int) - s).toNat) (fun s hI => ?_) (by omega) (by omega)
 by_cases hs : s < xs.length
 ·obtain ⟨e,he,hm,_⟩ := iE hI.1 hs
  left
  refine ⟨s + 1,?_,by omega,by omega⟩
  simp [hs,he,vR hI.1 hs hl]
 ·right; simp [hs]
theorem xD {α : Type} {f : α → Option α} {xs : List α} {z : α} (hl : xs.length ≤ 9223372036854775807) (h : ∀ v ∈ xs,f v = some v) :
  bY (S := Int × List α) (X := List α) (fun s => (if s.1 < (xs.length : Int) then ((atI xs s.1).bind fun v => ((f v).bind fun u => ((atI s.2 s.1).bind fun _ => some (.inl (w64 (s.1 + 1),List.set s.2 (s.1).toNat u))))) else some (.inr s.2))) (0,List.replicate ((xs.length : Int)).toNat z) = some xs := by
 refine lB (fun (s : Int × List α) => 0 ≤ s.1 ∧ s.1 ≤ xs.length ∧ s.2.length = xs.length ∧ s.2.take s.1.toNat = xs.take s.1.toNat) (fun (s : Int × List α) => ((xs.length : Int) - s.1).toNat) (fun s hI => ?_) (by simp) (by simp; omega)
 obtain ⟨i,ys⟩ := s
 obtain ⟨h0,h1,h2,h3⟩ := hI
 dsimp only at h0 h1 h2 h3 ⊢
 by_cases hs : i < xs.length
 ·obtain ⟨e,he,hm,hg⟩ := iE h0 hs
  obtain ⟨e2,he2,_,_⟩ := iE (xs := ys) h0 (by omega)
  left
  refine ⟨(i + 1,ys.set i.toNat e),?_,⟨by omega,by omega,by simpa using h2,?_⟩,by dsimp only; omega⟩
  ·simp [hs,he,he2,h e hm,vR h0 hs hl]
  ·have : (i + 1).toNat = i.toNat + 1 := by omega
   dsimp only
   rw [this]
   exact aEb hg h2 h3
 ·right
  have hi : i.toNat = xs.length := by omega
  rw [hi,List.take_length,List.take_of_length_le (by omega)] at h3
  simp [hs,h3]
theorem aGw {α : Type} {xs : List α} {z : α} (hl : xs.length ≤ 9223372036854775807) :
  bY (S := Int × List α) (X := List α) (fun s => (if s.1 < (xs.length : Int) then ((atI xs s.1).bind fun v => ((atI s.2 s.1).bind fun _ => some (.inl (w64 (s.1 + 1),List.set s.2 (s.1).toNat v)))) else some (.inr s.2))) (0,List.replicate ((xs.length : Int)).toNat z) = some xs := by
 have := xD (f := fun x => some x) (z := z) hl (fun v _ => rfl)
 simpa using this
theorem aFo {α : Type} {f : α → Int → Option Int} {sm : α → Prop} {xs : List α} (hl : xs.length ≤ 9223372036854775807) (h : ∀ v ∈ xs, ∀ l,0 ≤ l → l ≤ 1048576 → ∃ r,f v l = some r ∧ r ≤ l ∧ (0 ≤ r → sm v)) (l0 : Int) (h0 : 0 ≤ l0) (h1 : l0 ≤ 1048576) :
  ∃ x,bY (S := Int × Int) (X := Int ⊕ Int) (fun s => (if s.2 < (xs.length : Int) then ((atI xs s.2).bind fun v => ((f v s.1).bind fun u => (if u < 0 then some (.inr (.inr (-1))) else some (.inl (u,w64 (s.2 + 1)))))) else some (.inr (.inl s.1)))) (l0,0) = some x ∧ (x = .inr (-1) ∨ ∃ r,x = .inl r ∧ 0 ≤ r ∧ r ≤ l0 ∧ ∀ v ∈ xs,sm v) := by
 refine lY (fun (s : Int × Int) => 0 ≤ s.2 ∧ s.2 ≤ xs.length ∧ 0 ≤ s.1 ∧ s.1 ≤ l0 ∧ ∀ v ∈ xs.take s.2.toNat,sm v) (fun (s : Int × Int) => ((xs.length : Int) - s.2).toNat) _ (fun s hI => ?_) _ (by simp; omega) (by simp; omega)
 obtain ⟨l,i⟩ := s
 obtain ⟨q0,q1,q2,q3,q4⟩ := hI
 dsimp only at q0 q1 q2 q3 q4 ⊢
 by_cases hs : i < xs.length
 ·obtain ⟨e,he,hm,hg⟩ := iE q0 hs
  obtain ⟨r,hr,hrl,hsm⟩ := h e hm l q2 (by omega)
  by_cases hneg : r < 0
  ·right
   exact ⟨.inr (-1),by simp [hs,he,hr,hneg], .inl rfl⟩
  ·left
   refine ⟨(r,i + 1),by simp [hs,he,hr,hneg,vR q0 hs hl],⟨by omega,by omega,by omega,by omega,fun v hv => ?_⟩,by dsimp only; omega⟩
   have : (i + 1).toNat = i.toNat + 1 := by omega
   dsimp only at hv
   rw [this,List.take_add_one,hg] at hv
   simp only [Option.toList_some,List.mem_append,List.mem_singleton] at hv
   rcases hv with hv | rfl
   ·exact q4 v hv
   ·exact hsm (by omega)
 ·right
  have hi : i.toNat = xs.length := by omega
  rw [hi,List.take_length] at q4
  exact ⟨.inl l,by simp [hs], .inr ⟨l,rfl,q2,q3,q4⟩⟩
theorem oP {α : Type} {c : Int} {B : Int} {M : Int → α} {step : Int × Int × List α → Option ((Int × Int × List α) ⊕ (Int × List α))} (hc : 0 ≤ c)
  (hM : ∀ k i ys,0 ≤ k → k ≤ B → 0 ≤ i → i < ys.length → ys.length ≤ 1048576 → step (k,i,ys) = some (.inl (k + c,i + 1,List.set ys i.toNat (M k)))) (hE : ∀ k i ys, ¬ i < ys.length → step (k,i,ys) = some (.inr (k,ys)))
  {xs : List α} {k0 : Int} (h0 : 0 ≤ k0) (hl : xs.length ≤ 1048576) (hB : k0 + c * xs.length ≤ B) : bY step (k0,0,xs) = some (k0 + c * xs.length,(List.range xs.length).map fun (j : Nat) => M (k0 + c * (j : Int))) := by
 refine lB (fun (s : Int × Int × List α) => 0 ≤ s.2.1 ∧ s.2.1 ≤ xs.length ∧ s.1 = k0 + c * s.2.1 ∧ s.2.2 = ((List.range s.2.1.toNat).map fun (j : Nat) => M (k0 + c * (j : Int))) ++ xs.drop s.2.1.toNat) (fun (s : Int × Int × List α) => ((xs.length : Int) - s.2.1).toNat) (fun s hI => ?_) (by simp) (by simp; omega)
 obtain ⟨k,i,ys⟩ := s
 obtain ⟨q0,q1,q2,q3⟩ := hI
 dsimp only at q0 q1 q2 q3 ⊢
 have hyl : ys.length = xs.length := by rw [q3]; simp; omega
 by_cases hs : i < xs.length
 ·left
  have hci : 0 ≤ c * i := Int.mul_nonneg hc q0
  have hcl : c * i ≤ c * xs.length := Int.mul_le_mul_of_nonneg_left (by omega) hc
  refine ⟨_,hM k i ys (by omega) (by omega) q0 (by omega) (by omega),⟨by dsimp only; omega,by dsimp only; omega,?_,?_⟩,by dsimp only; omega⟩
  ·dsimp only
   rw [q2,Int.mul_add]; omega
  ·have e1 : (i + 1).toNat = i.toNat + 1 := by omega
   dsimp only
   rw [e1,q3,List.set_append_right _ _ (by simp),List.range_succ,List.map_append,List.length_map,List.length_range,Nat.sub_self,List.drop_eq_getElem_cons (show i.toNat < xs.length by omega),List.set_cons_zero]
   have e2 : ((i.toNat : Nat) : Int) = i := by omega
   simp [q2,e2]
 ·right
  have hi : i = xs.length := by omega
  rw [hE k i ys (by omega),q3,q2,hi]
  simp
theorem aEr {α : Type} {c : Int} {B : Int} {M : Int → α} {n : Nat} {step : Int × Int → Option ((Int × Int) ⊕ (Int ⊕ Int))} (hc : 0 ≤ c)
  {k0 : Int} (hM : ∀ k i : Int,0 ≤ k → k ≤ B → 0 ≤ i → i < n → k = k0 + c * i → step (k,i) = some (.inl (k + c,i + 1))) (hE : ∀ k i, ¬ i < (n : Int) → step (k,i) = some (.inr (.inl k)))
  (h0 : 0 ≤ k0) (hl : n ≤ 1048576) (hB : k0 + c * n ≤ B) : bY step (k0,0) = some (.inl (k0 + c * n)) := by
 refine lB (fun (s : Int × Int) => 0 ≤ s.2 ∧ s.2 ≤ n ∧ s.1 = k0 + c * s.2) (fun (s : Int × Int) => ((n : Int) - s.2).toNat) (fun s hI => ?_) (by simp) (by simp; omega)
 obtain ⟨k,i⟩ := s
 obtain ⟨q0,q1,q2⟩ := hI
 dsimp only at q0 q1 q2 ⊢
 by_cases hs : i < n
 ·left
  have hci : 0 ≤ c * i := Int.mul_nonneg hc q0
  have hcl : c * i ≤ c * n := Int.mul_le_mul_of_nonneg_left (by omega) hc
  refine ⟨_,hM k i (by omega) (by omega) q0 hs q2,⟨by dsimp only; omega,by dsimp only; omega,by dsimp only; rw [q2,Int.mul_add]; omega⟩,by dsimp only; omega⟩
 ·right
  have hi : i = n := by omega
  rw [hE k i (by omega),q2,hi]
theorem aB4 {α : Type} {M : Int → α} {k0 c : Int} {n : Nat} {i : Int} (h0 : 0 ≤ i) (h1 : i < n) : atI ((List.range n).map fun (j : Nat) => M (k0 + c * (j : Int))) i = some (M (k0 + c * i)) := by
 unfold atI
 rw [if_pos h0,List.getElem?_map,List.getElem?_range (by omega)]
 have : ((i.toNat : Nat) : Int) = i := by omega
 simp [this]
theorem aC3 {X : Type} {n : Nat} {g : Nat → Bool} {d : X} {e : Nat → X} {step : Int → Option (Int ⊕ X)} (hS : ∀ i : Nat,i < n → step (i : Int) = some (if g i = true then .inl ((i : Int) + 1) else .inr (e i))) (hE : step (n : Int) = some (.inr d)) (hn : n ≤ 9223372036854775807) :
  ∃ x,bY step 0 = some x ∧ (((∀ j,j < n → g j = true) ∧ x = d) ∨ ∃ i,i < n ∧ g i = false ∧ (∀ j,j < i → g j = true) ∧ x = e i) := by
 refine lY (fun (s : Int) => 0 ≤ s ∧ s ≤ n ∧ ∀ j : Nat,(j : Int) < s → g j = true) (fun (s : Int) => ((n : Int) - s).toNat) _ (fun s hI => ?_) 0 ⟨by omega,by omega,fun j hj => by omega⟩ (by omega)
 obtain ⟨q0,q1,q2⟩ := hI
 obtain ⟨i,rfl⟩ : ∃ i : Nat,s = i := ⟨s.toNat,by omega⟩
 by_cases hs : i < n
 ·cases hg : g i
  ·right
   exact ⟨e i,by rw [hS i hs,hg]; rfl, .inr ⟨i,hs,hg,fun j hj => q2 j (by omega),rfl⟩⟩
  ·left
   refine ⟨(i : Int) + 1,by rw [hS i hs,hg]; rfl,⟨by omega,by omega,fun j hj => ?_⟩,by omega⟩
   rcases Nat.lt_or_ge j i with h | h
   ·exact q2 j (by omega)
   ·have : j = i := by omega
    rw [this]; exact hg
 ·right
  have : i = n := by omega
  subst this
  exact ⟨d,hE, .inl ⟨fun j hj => q2 j (by omega),rfl⟩⟩
theorem aAg {X : Type} {n : Nat} {g : Nat → Bool} {d e : X} {step : Int → Option (Int ⊕ X)} (hS : ∀ i : Nat,i < n → step (i : Int) = some (if g i = true then .inl ((i : Int) + 1) else .inr e)) (hE : step (n : Int) = some (.inr d)) (hn : n ≤ 9223372036854775807) :
  bY step 0 = some (if (List.range n).all g = true then d else e) := by
 obtain ⟨x,hx,⟨h,rfl⟩ | ⟨i,hi,hg,_,rfl⟩⟩ := aC3 (e := fun _ => e) hS hE hn
 ·rw [hx,if_pos (by simpa using h)]
 ·rw [hx,if_neg (by simp only [List.all_eq_true,List.mem_range]; intro h; rw [h i hi] at hg; cases hg)]
theorem dX {α : Type} {xs : List α} {i : Nat} (h : i < xs.length) : atI xs (i : Int) = some xs[i] := by rw [zT]; exact List.getElem?_eq_getElem h
theorem rT {α : Type} {xs : List α} {f : α → Bool} {g : Nat → Bool} (h : ∀ (i : Nat) (hi : i < xs.length),g i = f xs[i]) : (List.range xs.length).all g = xs.all f := by
 rw [Bool.eq_iff_iff,List.all_eq_true,List.all_eq_true]
 constructor
 ·intro q v hv
  obtain ⟨i,hi,rfl⟩ := List.getElem_of_mem hv
  rw [← h i hi]; exact q i (List.mem_range.2 hi)
 ·intro q i hi
  have hi := List.mem_range.1 hi
  rw [h i hi]; exact q _ (List.getElem_mem hi)
theorem aEy {α X : Type} {xs : List α} {f : α → Bool} {d e : X} {step : Int → Option (Int ⊕ X)} (hS : ∀ (i : Nat) (hi : i < xs.length),step (i : Int) = some (if f xs[i] = true then .inl ((i : Int) + 1) else .inr e)) (hE : step (xs.length : Int) = some (.inr d)) (hn : xs.length ≤ 9223372036854775807) :
  bY step 0 = some (if xs.all f = true then d else e) := by
 rw [aAg (n := xs.length) (d := d) (e := e) (g := fun i => if hi : i < xs.length then f xs[i] else true) (fun i hi => by rw [hS i hi]; simp [hi]) hE hn,rT (f := f) fun i hi => by simp [hi]]
theorem rI {α β : Type} {xs : List α} {f : α → List β} {c : Nat} {init : List β} {step : Int × List β → Option ((Int × List β) ⊕ List β)} (hc : ∀ v ∈ xs,(f v).length ≤ c) (hS : ∀ (i : Nat) (hi : i < xs.length) ys,ys.length ≤ init.length + c * i → step ((i : Int),ys) = some (.inl ((i : Int) + 1,ys ++ f xs[i]))) (hE : ∀ ys,step ((xs.length : Int),ys) = some (.inr ys)) (hn : xs.length ≤ 9223372036854775807) :
  bY step (0,init) = some (init ++ xs.flatMap f) := by
 refine lB (fun (s : Int × List β) => 0 ≤ s.1 ∧ s.1 ≤ xs.length ∧ s.2 = init ++ (xs.take s.1.toNat).flatMap f ∧ s.2.length ≤ init.length + c * s.1.toNat) (fun (s : Int × List β) => ((xs.length : Int) - s.1).toNat) (fun s hI => ?_) (by simp) (by simp; omega)
 obtain ⟨i,ys⟩ := s
 obtain ⟨q0,q1,q2,q3⟩ := hI
 dsimp only at q0 q1 q2 q3 ⊢
 obtain ⟨j,rfl⟩ : ∃ j : Nat,i = j := ⟨i.toNat,by omega⟩
 have e2 : ((j : Int)).toNat = j := by omega
 rw [e2] at q2 q3
 by_cases hs : j < xs.length
 ·left
  have e : ((j : Int) + 1).toNat = j + 1 := by omega
  refine ⟨_,hS j hs ys q3,⟨by dsimp only; omega,by dsimp only; omega,?_,?_⟩,by dsimp only; omega⟩
  ·dsimp only
   rw [e,q2,List.take_succ_eq_append_getElem hs,List.flatMap_append, ← List.append_assoc]; simp
  ·dsimp only
   rw [e,List.length_append,Nat.mul_add]
   have := hc xs[j] (List.getElem_mem hs)
   omega
 ·right
  have : j = xs.length := by omega
  subst this
  rw [hE ys,q2,List.take_length]
end Go.Proofs.YtgcdbbidmfdonaaGreatDoor
namespace Go.Proofs.YtgcdbbidmfdonaaGreatDoor
set_option linter.unusedVariables false
def btw (x a b : Int) : Bool := decide (a ≤ x ∧ x ≤ b)
theorem gK (x a b : Int) : cR x a b = some (btw x a b) := by unfold cR btw; split <;> simp_all <;> omega
theorem eF (x a b : Int) : cV x a b = some (btw x a b) := by unfold cV btw; split <;> simp_all <;> omega
structure aKv (r k n : Int) : Prop where
 p0 : 0 ≤ 2 * k * (n - 2 * k)
 p1 : 2 * k * (n - 2 * k) ≤ 64000000
 r0 : 0 ≤ r * 16 * (2 * k * (n - 2 * k))
 r1 : r * 16 * (2 * k * (n - 2 * k)) ≤ 102400000000000
 n0 : 1 ≤ 5 * n * n - 4 * (2 * k * (n - 2 * k))
 n1 : 5 * n * n ≤ 1280000000
end Go.Proofs.YtgcdbbidmfdonaaGreatDoor
namespace Go.Proofs.YtgcdbbidmfdonaaGreatDoor
set_option linter.unusedVariables false
def smB (c : Int) : Bool := decide (97 ≤ c ∧ c ≤ 122)
def dgB (c : Int) : Bool := decide (48 ≤ c ∧ c ≤ 57)
def okB (c : Int) : Bool := smB c || (dgB c || decide (c = 45))
theorem sF (s : ByteArray) (i : Int) : vL s i = atI (cA s) i := by
 unfold vL atI cA
 split
 ·rename_i h
  rw [List.getElem?_map]
  congr 1
  rw [Array.getElem?_toList]
  by_cases hi : i.toNat < s.size
  ·rw [getElem?_pos s i.toNat hi,getElem?_pos s.data i.toNat hi]; rfl
  ·rw [getElem?_neg s i.toNat hi,getElem?_neg s.data i.toNat hi]
 ·rfl
def lX (s : ByteArray) : Bool := decide (1 ≤ s.size ∧ s.size ≤ 12) && ((cA s).take 1).all smB && (cA s).all okB
theorem oM (c : Int) : gO c = some (smB c) := by unfold gO smB; split <;> simp_all <;> omega
theorem vD (c : Int) : jA c = some (dgB c) := by unfold jA dgB; split <;> simp_all <;> omega
theorem aJo {s : ByteArray} : s = ⟨#[]⟩ ↔ s.size = 0 := by
 constructor
 ·rintro rfl; rfl
 ·intro h
  cases s with | mk d =>
  have : d = #[] := Array.eq_empty_of_size_eq_zero h
  rw [this]
theorem mC (s : ByteArray) : gU s = some (lX s) := by
 have hl := pL s
 unfold gU lX
 by_cases h0 : s = ⟨#[]⟩
 ·have := aJo.1 h0
  simp [h0]
  intro h; exact absurd h (by decide)
 ·have h1 : s.size ≠ 0 := fun h => h0 (aJo.2 h)
  rw [if_neg h0]
  by_cases h2 : 12 < (s.size : Int)
  ·rw [if_pos h2]
   simp
   intro a b; omega
  ·rw [if_neg h2]
   obtain ⟨c,cs,hc⟩ : ∃ c cs,cA s = c :: cs := by
    cases hb : cA s with
    | nil => rw [hb] at hl; simp at hl; omega
    | cons c cs => exact ⟨c,cs,rfl⟩
   have e0 : vL s 0 = some c := by rw [sF,hc]; rfl
   rw [e0]
   simp only [Option.bind_some,oM]
   have ht : ((cA s).take 1).all smB = smB c := by rw [hc]; simp
   have hd : decide (1 ≤ s.size ∧ s.size ≤ 12) = true := decide_eq_true ⟨by omega,by omega⟩
   rw [ht,hd]
   cases hs : smB c
   ·simp
   ·simp only [Bool.not_true,Bool.false_eq_true,if_false,Bool.true_and]
    have hz : (s.size : Int) = ((cA s).length : Int) := by rw [hl]
    rw [hz,aEy (xs := cA s) (f := okB) (d := .inl ()) (e := .inr false) (fun i hi => ?_) (by simp) (by omega)]
    ·cases (cA s).all okB <;> simp [orE]
    ·have hi' : (i : Int) < ((cA s).length : Int) := by omega
     have e1 : w64 ((i : Int) + 1) = i + 1 := cG (by omega) (by omega)
     rw [if_pos hi',sF,dX hi]
     simp only [Option.bind_some,oM,vD,e1,okB]
     generalize (cA s)[i] = c
     rcases Bool.eq_false_or_eq_true (smB c) with g1 | g1 <;> rcases Bool.eq_false_or_eq_true (dgB c) with g2 | g2 <;> by_cases h45 : c = 45 <;> simp [g1,g2,h45]
theorem nS (s : ByteArray) : gN s = some (lX s) := by
 have hl := pL s
 unfold gN lX
 by_cases h1 : (s.size : Int) < 1
 ·rw [if_pos h1]; simp
  intro a b; omega
 ·rw [if_neg h1]
  by_cases h2 : 12 < (s.size : Int)
  ·simp [h2]
   intro a b; omega
  ·have hd : decide (1 ≤ s.size ∧ s.size ≤ 12) = true := decide_eq_true ⟨by omega,by omega⟩
   simp only [h2,decide_false,Option.bind_some,Bool.false_eq_true,if_false,hd,Bool.true_and]
   rw [cW (by omega),aAg (n := (cA s).length) (d := .inl ()) (e := .inr false) (g := fun i => smB ((cA s).getD i 0) || (decide (i ≠ 0) && (dgB ((cA s).getD i 0) || decide ((cA s).getD i 0 = 45)))) (fun i hi => ?_) (by simp) (by omega)]
   ·obtain ⟨c,cs,hc⟩ : ∃ c cs,cA s = c :: cs := by
     cases hb : cA s with
     | nil => rw [hb] at hl; simp at hl; omega
     | cons c cs => exact ⟨c,cs,rfl⟩
    have key : (List.range (cA s).length).all (fun i => smB ((cA s).getD i 0) || (decide (i ≠ 0) && (dgB ((cA s).getD i 0) || decide ((cA s).getD i 0 = 45)))) = (((cA s).take 1).all smB && (cA s).all okB) := by
     rw [hc]
     simp only [List.length_cons,List.range_succ_eq_map,List.all_cons,List.all_map,List.take_succ_cons,List.take_zero,List.all_nil,Bool.and_true]
     have : (List.range cs.length).all ((fun i => smB ((c :: cs).getD i 0) || (decide (i ≠ 0) && (dgB ((c :: cs).getD i 0) || decide ((c :: cs).getD i 0 = 45)))) ∘ Nat.succ) = cs.all okB := rT (f := okB) fun i hi => by simp [okB,hi]
     rw [this]
     simp [okB]
     cases smB c <;> simp
    rw [key]
    cases ((cA s).take 1).all smB && (cA s).all okB <;> simp [orE]
   ·have hi' : (i : Int) < ((cA s).length : Int) := by omega
    have e1 : w64 ((i : Int) + 1) = i + 1 := cG (by omega) (by omega)
    have e2 : (cA s).getD i 0 = (cA s)[i] := by simp [hi]
    rw [if_pos hi',dX hi,e2]
    simp only [Option.bind_some,e1]
    generalize (cA s)[i] = c
    have A : (if 97 ≤ c then some (decide (c ≤ 122)) else some false) = some (smB c) := by unfold smB; split <;> simp_all <;> omega
    have B : (if 48 ≤ c then (if c ≤ 57 then some true else some (decide (c = 45))) else some (decide (c = 45))) = some (dgB c || decide (c = 45)) := by
     unfold dgB
     split
     ·split <;> simp_all <;> omega
     ·simp_all; omega
    rw [A,B]
    simp only [Option.bind_some]
    have hz : ((i : Int) = 0) ↔ i = 0 := by omega
    cases smB c <;> cases (dgB c || decide (c = 45)) <;> by_cases h0 : i = 0 <;> simp [h0]
end Go.Proofs.YtgcdbbidmfdonaaGreatDoor
namespace Go.Proofs.YtgcdbbidmfdonaaGreatDoor
set_option linter.unusedVariables false
def yU {α : Type} (xs : List α) (f : Nat → α → Bool) : Bool := (List.range xs.length).all fun i => if hi : i < xs.length then f i xs[i] else true
theorem aD9 {α : Type} {xs : List α} {f : Nat → α → Bool} : yU xs f = true ↔ ∀ (i : Nat) (hi : i < xs.length),f i xs[i] = true := by
 unfold yU
 rw [List.all_eq_true]
 constructor
 ·intro h i hi
  have := h i (List.mem_range.2 hi)
  rwa [dif_pos hi] at this
 ·intro h i hi
  have hi := List.mem_range.1 hi
  rw [dif_pos hi]
  exact h i hi
theorem lE {α : Type} {xs : List α} {f : α → Bool} : yU xs (fun _ v => f v) = xs.all f := rT fun i hi => by simp [hi]
theorem pE {α X : Type} {xs : List α} {G : Int → Option (Int ⊕ X)} (f : Nat → α → Bool) {d e : X} (hl : xs.length ≤ 9223372036854775807) (hG : ∀ (i : Nat) (hi : i < xs.length),G i = some (if f i xs[i] = true then .inl (w64 ((i : Int) + 1)) else .inr e)) :
  bY (fun s => (if s < (xs.length : Int) then G s else some (.inr d))) 0 = some (if yU xs f = true then d else e) := by
 refine aAg (n := xs.length) (g := fun i => if hi : i < xs.length then f i xs[i] else true) (fun i hi => ?_) (by simp) hl
 have hi' : (i : Int) < xs.length := by omega
 have e1 : w64 ((i : Int) + 1) = i + 1 := cG (by omega) (by omega)
 simp only [if_pos hi',hG i hi,hi,dite_true,e1]
theorem aHb {α X : Type} {xs : List α} {G : Int → Option (Int ⊕ X)} (k : Nat) (f : Nat → α → Bool) {d e : X} (hk : k ≤ xs.length) (hl : xs.length ≤ 9223372036854775807) (hG : ∀ (i : Nat) (hi : i < xs.length),i < k → G i = some (if f i xs[i] = true then .inl (w64 ((i : Int) + 1)) else .inr e)) :
  bY (fun s => (if s < (k : Int) then G s else some (.inr d))) 0 = some (if yU (xs.take k) f = true then d else e) := by
 have hlen : (xs.take k).length = k := by rw [List.length_take]; omega
 have := pE (xs := xs.take k) (G := G) f (d := d) (e := e) (by omega) (fun i hi => by
  rw [List.getElem_take]; exact hG i (by omega) (by omega))
 rwa [hlen] at this
def zR {α : Type} (xs : List α) (p : α → Bool) : Int := match xs.findIdx? p with
 | some i => i
 | none => -1
theorem aFt {α : Type} {xs : List α} {G : Int → Option (Int ⊕ (Unit ⊕ Int))} (p : α → Bool) (hl : xs.length ≤ 9223372036854775807) (hG : ∀ (i : Nat) (hi : i < xs.length),G i = (if p xs[i] = true then some (.inr (.inr (i : Int))) else some (.inl (w64 ((i : Int) + 1))))) :
  ((bY (fun s => (if s < (xs.length : Int) then G s else some (.inr (.inl ())))) 0 : Option (Unit ⊕ Int)).bind fun x => orE x fun v => some (-1)) = some (zR xs p) := by
 obtain ⟨x,hx,h⟩ := aC3 (X := Unit ⊕ Int) (n := xs.length) (step := fun s => (if s < (xs.length : Int) then G s else some (.inr (.inl ())))) (g := fun i => if hi : i < xs.length then !p xs[i] else true) (d := .inl ()) (e := fun i => .inr (i : Int)) (fun i hi => by
  have hi' : (i : Int) < xs.length := by omega
  have e1 : w64 ((i : Int) + 1) = i + 1 := cG (by omega) (by omega)
  simp only [if_pos hi',hG i hi,hi,dite_true,e1]
  cases p xs[i] <;> rfl) (by simp) hl
 rw [hx]
 unfold zR
 rcases h with ⟨h,rfl⟩ | ⟨i,hi,hg,hj,rfl⟩
 ·have : xs.findIdx? p = none := by
   rw [List.findIdx?_eq_none_iff]
   intro v hv
   obtain ⟨i,hi,rfl⟩ := List.getElem_of_mem hv
   have := h i hi
   simpa [hi] using this
  rw [this]; rfl
 ·have : xs.findIdx? p = some i := by
   rw [List.findIdx?_eq_some_iff_getElem]
   refine ⟨hi,by simpa [hi] using hg,fun j hji => ?_⟩
   have := hj j hji
   have hjl : j < xs.length := by omega
   simpa [hjl] using this
  rw [this]; rfl
theorem aAt {α : Type} {xs : List α} {p : α → Bool} : decide (0 ≤ zR xs p) = xs.any p := by
 unfold zR
 cases h : xs.findIdx? p with
 | none =>
  rw [List.findIdx?_eq_none_iff] at h
  have e : xs.any p = false := by
   rw [← Bool.not_eq_true,List.any_eq_true]
   rintro ⟨v,hv,hp⟩
   rw [h v hv] at hp; cases hp
  rw [e]; rfl
 | some i =>
  rw [List.findIdx?_eq_some_iff_getElem] at h
  obtain ⟨hi,hp,_⟩ := h
  rw [List.any_eq_true.2 ⟨_,List.getElem_mem hi,hp⟩]
  exact decide_eq_true (by show (0 : Int) ≤ (i : Int); omega)
theorem aBk {α : Type} {xs : List α} {p : α → Bool} {i : Nat} (hi : i < xs.length) (hp : p xs[i] = true) : decide (zR xs p ≠ (i : Int)) = (xs.take i).any p := by
 unfold zR
 cases h : xs.findIdx? p with
 | none =>
  rw [List.findIdx?_eq_none_iff] at h
  rw [h _ (List.getElem_mem hi)] at hp; cases hp
 | some j =>
  rw [List.findIdx?_eq_some_iff_getElem] at h
  obtain ⟨hj,hpj,hmin⟩ := h
  by_cases e : j = i
  ·subst e
   have e2 : (xs.take j).any p = false := by
    rw [← Bool.not_eq_true,List.any_eq_true]
    rintro ⟨v,hv,hq⟩
    obtain ⟨k,hk,rfl⟩ := List.getElem_of_mem hv
    rw [List.length_take] at hk
    rw [List.getElem_take] at hq
    exact hmin k (by omega) hq
   rw [e2]
   exact decide_eq_false (by simp)
  ·have hlt : j < i := by
    rcases Nat.lt_trichotomy j i with h | h | h
    ·exact h
    ·exact absurd h e
    ·exact absurd hp (hmin i h)
   have e2 : (xs.take i).any p = true := List.any_eq_true.2 ⟨xs[j],by
    rw [List.mem_iff_getElem]
    exact ⟨j,by rw [List.length_take]; omega,by rw [List.getElem_take]⟩,hpj⟩
   rw [e2]
   exact decide_eq_true (by show (j : Int) ≠ (i : Int); omega)
theorem aEn {α : Type} {xs : List α} {i : Nat} : sX xs 0 (i : Int) = xs.take i := by simp [sX]
theorem yO {α : Type} {xs : List α} {i : Nat} (h : i ≤ xs.length) : 0 ≤ (0 : Int) ∧ (0 : Int) ≤ (i : Int) ∧ (i : Int) ≤ (xs.length : Int) := by omega
def aGu {α σ X : Type} (body : Nat → α → σ → Option (σ ⊕ X)) : List α → Nat → σ → Option (σ ⊕ X)
 | [],_,s => some (.inl s)
 | x :: xs,i,s => (body i x s).bind fun r => match r with
  | .inl s' => aGu body xs (i + 1) s'
  | .inr y => some (.inr y)
theorem uM {S X : Type} (step : S → Option (S ⊕ X)) (n : Nat) (s : S) : oL step (n + 1) s = (step s).bind fun r => match r with
  | .inl s' => oL step n s'
  | .inr y => some y := by
 cases h : step s with
 | none => simp [oL,h]
 | some r => cases r <;> simp [oL,h]
theorem xV {α S σ X : Type} {xs : List α} {step : S → Option (S ⊕ X)} (mk : Int → σ → S) (body : Nat → α → σ → Option (σ ⊕ X)) (fin : σ → X) (I : σ → Prop) (hl : xs.length ≤ 9223372036854775807)
  (hS : ∀ (i : Nat) (hi : i < xs.length) s,I s → step (mk i s) = (body i xs[i] s).map (Sum.map (mk ((i : Int) + 1)) id)) (hI : ∀ (i : Nat) (hi : i < xs.length) s s',I s → body i xs[i] s = some (.inl s') → I s') (hE : ∀ s,I s → step (mk xs.length s) = some (.inr (fin s))) (s0 : σ) (h0 : I s0) :
  bY step (mk 0 s0) = (aGu body xs 0 s0).map (Sum.elim fin id) := by
 have key : ∀ (k : Nat) (ys : List α) (n : Nat) s,I s → ys.length + k = xs.length → ys = xs.drop k → ys.length < n → oL step n (mk (k : Int) s) = (aGu body ys k s).map (Sum.elim fin id) := by
  intro k ys
  induction ys generalizing k with
  | nil =>
   intro n s hs h1 h2 h3
   obtain ⟨n,rfl⟩ : ∃ m,n = m + 1 := ⟨n - 1,by simp at h3; omega⟩
   have : k = xs.length := by simpa using h1
   subst this
   rw [uM,hE s hs]; rfl
  | cons y ys ih =>
   intro n s hs h1 h2 h3
   obtain ⟨n,rfl⟩ : ∃ m,n = m + 1 := ⟨n - 1,by simp at h3; omega⟩
   have hk : k < xs.length := by simp at h1; omega
   rw [List.drop_eq_getElem_cons hk] at h2
   injection h2 with h2 h4
   rw [uM,hS k hk s hs, ← h2]
   show _ = ((body k y s).bind _).map _
   cases hb : body k y s with
   | none => rfl
   | some r =>
    cases r with
    | inr z => rfl
    | inl s' => exact ih (k + 1) n s' (hI k hk s s' hs (by rw [← h2]; exact hb)) (by simp at h1; omega) h4 (by simp at h3; omega)
 exact key 0 xs jN s0 h0 (by simp) (by simp) (by unfold jN; omega)
theorem xW {α σ X : Type} {body : Nat → α → σ → Option (σ ⊕ X)} (f : σ → α → σ) (h : ∀ i x s,body i x s = some (.inl (f s x))) : ∀ (xs : List α) (k : Nat) (s : σ),aGu body xs k s = some (.inl (xs.foldl f s))
 | [],k,s => rfl
 | x :: xs,k,s => by
  show (body k x s).bind _ = _
  rw [h]
  exact xW f h xs (k + 1) (f s x)
theorem itA {a b : Bool} : (if a = true then some b else some false) = some (a && b) := by cases a <;> rfl
theorem itO {a b : Bool} : (if a = true then some true else some b) = some (a || b) := by cases a <;> rfl
theorem itF {a b : Bool} : (if a = true then some false else some b) = some (!a && b) := by cases a <;> rfl
theorem aJ5 {p : Prop} [Decidable p] {b : Bool} : (if p then some b else some false) = some (decide p && b) := by by_cases h : p <;> simp [h]
theorem aKe {p : Prop} [Decidable p] {b : Bool} : (if p then some true else some b) = some (decide p || b) := by by_cases h : p <;> simp [h]
theorem aBa {a b : Bool} {k : Option Bool} (h : k = some b) : (orE (if a = true then (.inl () : Unit ⊕ Bool) else .inr false) fun _ => k) = some (a && b) := by cases a <;> simp [orE,h]
end Go.Proofs.YtgcdbbidmfdonaaGreatDoor
namespace Go.Proofs.YtgcdbbidmfdonaaGreatDoor
set_option linter.unusedVariables false
def mG (t : Int) : Bool := btw t 6 240
theorem qD (t : Int) : iJ t = some (mG t) := by unfold iJ; rw [gK]; rfl
theorem oW (t : Int) : gT t = some (mG t) := by unfold gT; rw [eF]; rfl
def aAi (a : bH) : Bool := a.Wheels.all mG && (lX a.Name && decide (a.Wheels.length ≤ 5))
theorem rA {a : bH} (hl : a.Wheels.length ≤ 9223372036854775807) : fY a = some (aAi a) := by
 unfold fY aAi
 rw [pE (fun _ v => mG v) hl fun i hi => by rw [dX hi,Option.bind_some,qD,Option.bind_some]; cases mG a.Wheels[i] <;> rfl,lE,Option.bind_some,nS]
 cases a.Wheels.all mG <;> cases lX a.Name <;> simp [orE]; omega
theorem vK {a : bH} (hl : a.Wheels.length ≤ 9223372036854775807) : jF a = some (aAi a) := by
 unfold jF aAi
 rw [pE (fun _ v => mG v) hl fun i hi => by rw [dX hi,Option.bind_some,oW,Option.bind_some]; cases mG a.Wheels[i] <;> rfl,lE,Option.bind_some,mC]
 cases a.Wheels.all mG <;> cases lX a.Name <;> simp [orE]; omega
def whB (w : bQ) (a k : Int) : Bool := decide (0 ≤ a ∧ a < w.Arbors.length) && match w.Arbors[a.toNat]? with
 | some b => decide (0 ≤ k ∧ k < b.Wheels.length)
 | none => false
theorem pG {α : Type} {l : List α} {a : Int} (hl : l.length ≤ 9223372036854775807) : btw a 0 (w64 ((l.length : Int) - 1)) = decide (0 ≤ a ∧ a < l.length) := by
 rw [cG (by omega) (by omega)]
 unfold btw
 rw [decide_eq_decide]; omega
theorem uN {w : bQ} {a k : Int} (hl : w.Arbors.length ≤ 9223372036854775807) (hw : ∀ b ∈ w.Arbors,b.Wheels.length ≤ 9223372036854775807) {f : bH → Option Bool} (hf : ∀ b ∈ w.Arbors,f b = some (decide (0 ≤ k ∧ k < b.Wheels.length))) :
  (if decide (0 ≤ a ∧ a < w.Arbors.length) = true then ((atI w.Arbors a).bind f) else some false) = some (whB w a k) := by
 unfold whB
 by_cases h : 0 ≤ a ∧ a < w.Arbors.length
 ·obtain ⟨e,he,hm,hg⟩ := iE h.1 h.2
  rw [decide_eq_true h,if_pos rfl,he,Option.bind_some,hf e hm,hg]; rfl
 ·rw [decide_eq_false h]; rfl
theorem vV {w : bQ} (hl : w.Arbors.length ≤ 9223372036854775807) (hw : ∀ b ∈ w.Arbors,b.Wheels.length ≤ 9223372036854775807) (a k : Int) : gP w a k = some (whB w a k) := by
 unfold gP
 rw [gK,Option.bind_some,pG hl]
 exact uN hl hw fun b hb => by rw [gK,Option.bind_some,pG (hw b hb)]
theorem uR {w : bQ} (hl : w.Arbors.length ≤ 9223372036854775807) (hw : ∀ b ∈ w.Arbors,b.Wheels.length ≤ 9223372036854775807) (a k : Int) : gM w a k = some (whB w a k) := by
 unfold gM
 rw [eF,Option.bind_some,pG hl]
 exact uN hl hw fun b hb => by rw [eF,Option.bind_some,pG (hw b hb)]
def sG (w : bQ) (m : bJ) : Bool := decide (m.A ≠ m.B) && (whB w m.A m.WheelA && whB w m.B m.WheelB)
theorem aBv {w : bQ} (hl : w.Arbors.length ≤ 9223372036854775807) (hw : ∀ b ∈ w.Arbors,b.Wheels.length ≤ 9223372036854775807) (m : bJ) : mQ w m = some (sG w m) := by
 unfold mQ sG
 simp only [vV hl hw,Option.bind_some]
 by_cases h : m.A = m.B <;> cases whB w m.A m.WheelA <;> simp [h]
theorem yK {w : bQ} (hl : w.Arbors.length ≤ 9223372036854775807) (hw : ∀ b ∈ w.Arbors,b.Wheels.length ≤ 9223372036854775807) (m : bJ) : jS w m = some (sG w m) := by
 unfold jS sG
 simp only [uR hl hw,Option.bind_some]
 by_cases h : m.A = m.B <;> cases whB w m.A m.WheelA <;> simp [h]
def kU (m n : bJ) : Bool := decide (m = n ∨ m = ⟨n.B,n.WheelB,n.A,n.WheelA⟩)
theorem aBt (m n : bJ) : kU m n = kU n m := by
 unfold kU
 rw [decide_eq_decide]
 obtain ⟨a,b,c,d⟩ := m
 obtain ⟨a',b',c',d'⟩ := n
 simp only [bJ.mk.injEq]
 omega
theorem vY (m n : bJ) : iW m n = some (kU m n) := by
 unfold iW kU
 by_cases h : m = n
 ·simp [h]
 ·rw [if_neg h]; simp [h]
theorem wD (m n : bJ) : iX m n = some (kU m n) := by
 unfold iX kU
 by_cases h : m = n
 ·simp [h]
 ·rw [if_neg h]
  obtain ⟨a,b,c,d⟩ := m
  obtain ⟨a',b',c',d'⟩ := n
  have e : decide ((⟨a,b,c,d⟩ : bJ) = ⟨a',b',c',d'⟩ ∨ (⟨a,b,c,d⟩ : bJ) = ⟨c',d',a',b'⟩) = decide (a = c' ∧ b = d' ∧ c = a' ∧ d = b') := by
   rw [decide_eq_decide]
   simp only [h,false_or,bJ.mk.injEq]
  dsimp only
  rw [e]
  by_cases h1 : a = c' <;> by_cases h2 : b = d' <;> by_cases h3 : c = a' <;> simp [h1,h2,h3]
def aGz (w : bQ) : Bool := decide (w.Arbors.length ≤ 16) && (decide (w.Meshes.length ≤ 24) && (yU w.Arbors (fun i a => aAi a && !((w.Arbors.take i).any fun b => decide (b.Name = a.Name))) && yU w.Meshes (fun i m => sG w m && !((w.Meshes.take i).any fun n => kU m n))))
theorem tU {xs : List bJ} {m : bJ} (hl : xs.length ≤ 9223372036854775807) : aT xs m = some (xs.any fun n => kU m n) := by
 unfold aT bK
 rw [aFt (fun n => kU m n) hl fun i hi => by rw [dX hi,Option.bind_some,gB,vY,Option.bind_some,Option.bind_some],Option.bind_some,aAt]
theorem sQ {w : bQ} (hl : w.Arbors.length ≤ 9223372036854775807) (hw : ∀ b ∈ w.Arbors,b.Wheels.length ≤ 9223372036854775807) (hm : w.Meshes.length ≤ 9223372036854775807) : fW w = some (aGz w) := by
 unfold fW aGz
 by_cases h1 : w.Arbors.length ≤ 16
 ·by_cases h2 : w.Meshes.length ≤ 24
  ·rw [if_neg (by omega),Option.bind_some,decide_eq_false (by omega),if_neg (by decide),decide_eq_true h1,decide_eq_true h2,
    pE (e := .inr false) (fun i a => aAi a && !((w.Arbors.take i).any fun b => decide (b.Name = a.Name))) hl fun i hi => ?_,Option.bind_some,
    pE (e := .inr false) (fun i m => sG w m && !((w.Meshes.take i).any fun n => kU m n)) hm fun i hi => ?_,Option.bind_some]
   ·cases yU w.Arbors (fun i a => aAi a && !((w.Arbors.take i).any fun b => decide (b.Name = a.Name))) <;> cases yU w.Meshes (fun i m => sG w m && !((w.Meshes.take i).any fun n => kU m n)) <;> rfl
   ·rw [dX hi,Option.bind_some,aBv hl hw,Option.bind_some,cW (yO (by omega)),aEn,tU (by rw [List.length_take]; omega)]
    cases sG w w.Meshes[i] <;> cases ((w.Meshes.take i).any fun n => kU w.Meshes[i] n) <;> rfl
   ·rw [dX hi,Option.bind_some,rA (hw _ (List.getElem_mem hi)),Option.bind_some,cW (yO (by omega)),aEn,
     pE (fun _ b => !decide (b.Name = w.Arbors[i].Name)) (by rw [List.length_take]; omega) fun j hj => by
      rw [dX hj,Option.bind_some]
      by_cases q : w.Arbors[i].Name = (w.Arbors.take i)[j].Name
      ·rw [if_pos q,decide_eq_true q.symm]; rfl
      ·rw [if_neg q,decide_eq_false (Ne.symm q)]; rfl,lE]
    have e : ((w.Arbors.take i).all fun b => !decide (b.Name = w.Arbors[i].Name)) = !((w.Arbors.take i).any fun b => decide (b.Name = w.Arbors[i].Name)) := by rw [Bool.eq_iff_iff]; simp
    rw [e]
    cases aAi w.Arbors[i] <;> cases ((w.Arbors.take i).any fun b => decide (b.Name = w.Arbors[i].Name)) <;> rfl
  ·rw [if_neg (by omega),Option.bind_some,decide_eq_true (by omega),if_pos rfl,decide_eq_false h2,decide_eq_true h1]; rfl
 ·rw [if_pos (by omega),Option.bind_some,if_pos rfl,decide_eq_false h1]; rfl
theorem wJ {w : bQ} (hl : w.Arbors.length ≤ 9223372036854775807) (s : ByteArray) : kA w s = some (zR w.Arbors fun a => decide (a.Name = s)) := by
 unfold kA
 rw [aFt (fun a => decide (a.Name = s)) hl fun i hi => by rw [dX hi,Option.bind_some]; by_cases q : w.Arbors[i].Name = s <;> simp [q]]
theorem wF {w : bQ} (hm : w.Meshes.length ≤ 9223372036854775807) (m : bJ) {k : Nat} (hk : k ≤ w.Meshes.length) : jH w m (k : Int) = some ((w.Meshes.take k).any fun n => kU m n) := by
 unfold jH
 rw [aHb k (fun _ n => !kU m n) hk hm fun i hi _ => by rw [dX hi,Option.bind_some,wD,Option.bind_some,aBt]; cases kU m w.Meshes[i] <;> rfl,lE,Option.bind_some]
 have e : ((w.Meshes.take k).all fun n => !kU m n) = !((w.Meshes.take k).any fun n => kU m n) := by rw [Bool.eq_iff_iff]; simp
 rw [e]
 cases ((w.Meshes.take k).any fun n => kU m n) <;> rfl
theorem aB5 {w : bQ} (hl : w.Arbors.length ≤ 9223372036854775807) (hw : ∀ b ∈ w.Arbors,b.Wheels.length ≤ 9223372036854775807) (hm : w.Meshes.length ≤ 9223372036854775807) : mU w = some (aGz w) := by
 unfold mU aGz
 rw [pE (e := .inr false) (fun i a => aAi a && !((w.Arbors.take i).any fun b => decide (b.Name = a.Name))) hl fun i hi => ?_,Option.bind_some,
   pE (e := .inr false) (fun i m => sG w m && !((w.Meshes.take i).any fun n => kU m n)) hm fun i hi => ?_,Option.bind_some]
 ·have e1 : decide ((w.Meshes.length : Int) ≤ 24) = decide (w.Meshes.length ≤ 24) := by rw [decide_eq_decide]; omega
  have e2 : (if (w.Arbors.length : Int) ≤ 16 then some (decide ((w.Meshes.length : Int) ≤ 24)) else some false) = some (decide (w.Arbors.length ≤ 16) && decide (w.Meshes.length ≤ 24)) := by
   rw [e1]
   by_cases h1 : w.Arbors.length ≤ 16
   ·rw [if_pos (by omega),decide_eq_true h1,Bool.true_and]
   ·rw [if_neg (by omega),decide_eq_false h1]; rfl
  rw [e2]
  cases yU w.Arbors (fun i a => aAi a && !((w.Arbors.take i).any fun b => decide (b.Name = a.Name))) <;> cases yU w.Meshes (fun i m => sG w m && !((w.Meshes.take i).any fun n => kU m n)) <;> cases decide (w.Arbors.length ≤ 16) <;> cases decide (w.Meshes.length ≤ 24) <;> rfl
 ·simp only [dX hi,Option.bind_some,yK hl hw,wF hm _ (Nat.le_of_lt hi)]
  cases sG w w.Meshes[i] <;> cases ((w.Meshes.take i).any fun n => kU w.Meshes[i] n) <;> rfl
 ·simp only [dX hi,Option.bind_some,vK (hw _ (List.getElem_mem hi)),wJ hl,aBk (p := fun a => decide (a.Name = w.Arbors[i].Name)) hi (decide_eq_true rfl)]
  cases aAi w.Arbors[i] <;> cases ((w.Arbors.take i).any fun b => decide (b.Name = w.Arbors[i].Name)) <;> rfl
end Go.Proofs.YtgcdbbidmfdonaaGreatDoor
namespace Go.Proofs.YtgcdbbidmfdonaaGreatDoor
set_option linter.unusedVariables false
def Ok {α : Type} (m : Option α) (P : α → Prop) : Prop := ∃ x,m = some x ∧ P x
theorem dR {α : Type} {x : α} {P : α → Prop} (h : P x) : Ok (some x) P := ⟨x,rfl,h⟩
theorem mS {α β : Type} {m : Option α} {f : α → Option β} {P : α → Prop} {Q : β → Prop} (h : Ok m P) (k : ∀ x,P x → Ok (f x) Q) : Ok (m.bind f) Q := by
 obtain ⟨x,rfl,hx⟩ := h
 exact k x hx
theorem sS {α : Type} {p : Prop} [Decidable p] {a b : Option α} {P : α → Prop} (h : p → Ok a P) (k : ¬ p → Ok b P) : Ok (if p then a else b) P := by
 split
 ·exact h ‹_›
 ·exact k ‹_›
theorem aA9 {α : Type} {p : Prop} [Decidable p] {a : Option α} {P : α → Prop} (hp : p) (h : Ok a P) : Ok (chk p a) P := by rw [cW hp]; exact h
theorem qY {S X : Type} {step : S → Option (S ⊕ X)} {P : X → Prop} (I : S → Prop) (m : S → Nat) (hs : ∀ s,I s → Ok (step s) (fun y => (∃ s',y = .inl s' ∧ I s' ∧ m s' < m s) ∨ ∃ x,y = .inr x ∧ P x)) (s0 : S) (h0 : I s0) (hm : m s0 < 1180591620717411303424) : Ok (bY step s0) P :=
 lY I m P (fun s hI => by
  obtain ⟨y,e,⟨s',rfl,h1,h2⟩ | ⟨x,rfl,h1⟩⟩ := hs s hI
  ·exact .inl ⟨s',e,h1,h2⟩
  ·exact .inr ⟨x,e,h1⟩) s0 h0 hm
end Go.Proofs.YtgcdbbidmfdonaaGreatDoor
namespace Go.Proofs.YtgcdbbidmfdonaaGreatDoor
set_option linter.unusedVariables false
set_option maxRecDepth 100000
theorem aH2 {xs : List Int} (hl : xs.length ≤ 1048576) : lJ xs = some xs := by
 unfold lJ
 rw [cW (by simp; omega),List.nil_append]
theorem aDh {α : Type} {xs : List α} {k : Nat} : sX xs (k : Int) (xs.length : Int) = xs.drop k := by
 unfold sX
 rw [List.take_of_length_le (by simp)]; simp
theorem xY {α : Type} {xs : List α} {k : Nat} (h : k < xs.length) : xs.drop k = xs[k] :: xs.drop (k + 1) := List.drop_eq_getElem_cons h
theorem oC {α : Type} {xs : List α} {k : Nat} (h : k < xs.length) : xs.take (k + 1) = xs.take k ++ [xs[k]] := by rw [List.take_succ_eq_append_getElem h]
theorem aEw {out : List Int} {x : Int} {k : Nat} (hs : out.Pairwise (· ≤ ·)) (h1 : ∀ a ∈ out.take k,a ≤ x) (h2 : ∀ b ∈ out.drop k,x < b) : ((out.take k ++ [x]) ++ out.drop k).Pairwise (· ≤ ·) ∧ ((out.take k ++ [x]) ++ out.drop k).Perm (out ++ [x]) := by
 have hs' := hs
 rw [← List.take_append_drop k out,List.pairwise_append] at hs'
 obtain ⟨p1,p2,p3⟩ := hs'
 constructor
 ·rw [List.pairwise_append,List.pairwise_append]
  refine ⟨⟨p1,by simp,fun a ha b hb => by rw [List.mem_singleton.1 hb]; exact h1 a ha⟩,p2,fun a ha b hb => ?_⟩
  rcases List.mem_append.1 ha with ha | ha
  ·exact p3 a ha b hb
  ·rw [List.mem_singleton.1 ha]; have := h2 b hb; omega
 ·rw [List.append_assoc]
  have e : (out.take k ++ ([x] ++ out.drop k)).Perm (out.take k ++ (out.drop k ++ [x])) := List.Perm.append_left _ List.perm_append_comm
  rw [← List.append_assoc (List.take k out) (List.drop k out),List.take_append_drop] at e
  exact e
theorem aF8 {xs : List Int} (hl : xs.length ≤ 1000) : Ok (iH xs) (fun ys => ys.Perm xs ∧ ys.Pairwise (· ≤ ·)) := by
 unfold iH
 refine mS (P := fun (ys : List Int) => ys.Perm xs ∧ ys.Pairwise (· ≤ ·)) ?_ fun v h => dR h
 refine qY (I := fun (s : Int × List Int) => (0 ≤ s.1 ∧ s.1 ≤ xs.length) ∧ s.2.Perm (xs.take s.1.toNat) ∧ s.2.Pairwise (· ≤ ·)) (m := fun s => (xs.length - s.1).toNat) ?_ _ ⟨⟨by dsimp only; omega,by dsimp only; omega⟩,by simp, .nil⟩ (by dsimp only; omega)
 rintro ⟨i,out⟩ ⟨⟨i0,i1⟩,ip,is⟩
 dsimp only at i0 i1 ip is ⊢
 refine sS (fun hi => ?_) fun hi => dR (.inr ⟨_,rfl,?_,is⟩)
 ·obtain ⟨n,rfl⟩ : ∃ n : Nat,i = n := ⟨i.toNat,by omega⟩
  have hn : n < xs.length := by omega
  rw [Int.toNat_natCast] at ip
  have hol : out.length = n := by have := ip.length_eq; simp at this; omega
  simp only [dX hn,Option.bind_some]
  refine mS (P := fun (zs : List Int) => zs.Perm (out ++ [xs[n]]) ∧ zs.Pairwise (· ≤ ·)) ?_ fun v34 h34 => dR (.inl ⟨_,rfl,⟨⟨?_,?_⟩,?_,h34.2⟩,?_⟩)
  ·refine mS (P := fun (k : Int) => (0 ≤ k ∧ k ≤ out.length) ∧ (∀ b ∈ out.drop k.toNat,xs[n] < b) ∧ ∀ a ∈ out.take k.toNat,a ≤ xs[n]) ?_ fun k hk => ?_
   ·refine qY (I := fun (k : Int) => (0 ≤ k ∧ k ≤ out.length) ∧ ∀ b ∈ out.drop k.toNat,xs[n] < b) (m := fun k => k.toNat) ?_ _ ⟨⟨by omega,by omega⟩,by simp⟩ (by omega)
    rintro k ⟨⟨k0,k1⟩,kd⟩
    refine mS (P := fun b => b = decide (0 < k ∧ xs[n] < out.getD (k - 1).toNat 0)) (sS (fun hk => ?_) fun hk => dR (by symm; exact decide_eq_false fun h => hk h.1)) fun b hb => ?_
    ·rw [cG (x := k - 1) (by omega) (by omega),show k - 1 = ((k - 1).toNat : Int) by omega,dX (show (k - 1).toNat < out.length by omega),Option.bind_some]
     refine dR ?_
     rw [show ((k - 1).toNat : Int).toNat = (k - 1).toNat by omega,List.getD_eq_getElem?_getD,List.getElem?_eq_getElem (show (k - 1).toNat < out.length by omega),Option.getD_some,decide_eq_decide]
     omega
    ·subst hb
     refine sS (fun hb => ?_) fun hb => dR (.inr ⟨_,rfl,⟨k0,k1⟩,kd,?_⟩)
     ·have hb' := of_decide_eq_true hb
      refine dR (.inl ⟨_,rfl,⟨⟨?_,?_⟩,?_⟩,?_⟩)
      all_goals try rw [cG (x := k - 1) (by omega) (by omega)]
      ·omega
      ·omega
      ·have hlt : (k - 1).toNat < out.length := by omega
       rw [xY hlt]
       intro b hb2
       rcases List.mem_cons.1 hb2 with rfl | hb2
       ·have := hb'.2
        rwa [List.getD_eq_getElem?_getD,List.getElem?_eq_getElem hlt,Option.getD_some] at this
       ·rw [show (k - 1).toNat + 1 = k.toNat by omega] at hb2; exact kd b hb2
      ·omega
     ·intro a ha
      have hk : k ≠ 0 := by
       intro e; subst e; simp at ha
      have hlt : (k - 1).toNat < out.length := by omega
      have hx : out[(k - 1).toNat] ≤ xs[n] := by
       have : ¬ (0 < k ∧ xs[n] < out.getD (k - 1).toNat 0) := by simpa using hb
       rw [List.getD_eq_getElem?_getD,List.getElem?_eq_getElem hlt,Option.getD_some] at this
       omega
      rw [show k.toNat = (k - 1).toNat + 1 by omega,oC hlt] at ha
      rcases List.mem_append.1 ha with ha | ha
      ·have hp := is
       rw [← List.take_append_drop (k - 1).toNat out,List.pairwise_append] at hp
       have := hp.2.2 a ha out[(k - 1).toNat] (by rw [xY hlt]; exact List.mem_cons_self ..)
       omega
      ·rw [List.mem_singleton.1 ha]; exact hx
   ·obtain ⟨⟨k0,k1⟩,kd,ka⟩ := hk
    obtain ⟨m,rfl⟩ : ∃ m : Nat,k = m := ⟨k.toNat,by omega⟩
    rw [Int.toNat_natCast] at kd ka
    refine aA9 (by omega) ?_
    rw [aEn,aDh,aH2 (by rw [List.length_take]; omega),Option.bind_some]
    refine aA9 (by simp; omega) (aA9 (by omega) (aA9 (by simp; omega) (dR ?_)))
    have := aEw is ka kd
    exact ⟨this.2,this.1⟩
  all_goals (dsimp only; try rw [cG (x := (n : Int) + 1) (by omega) (by omega)])
  ·omega
  ·omega
  ·rw [show ((n : Int) + 1).toNat = n + 1 by omega,oC hn]
   exact h34.1.trans (ip.append_right _)
  ·omega
 ·rw [show i.toNat = xs.length by omega,List.take_length] at ip
  exact ip
end Go.Proofs.YtgcdbbidmfdonaaGreatDoor
