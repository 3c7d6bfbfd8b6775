/- models -/
import Derived.Test.YtkgeenglafchhaaDoorAmY
namespace Go.Proofs.YtkgeenglafchhaaDoor
open Go.RowKit
set_option linter.unusedVariables false
set_option maxRecDepth 100000
set_option maxHeartbeats 2000000
structure Divider_ where
  Worm : Int
  Circles : List Int
deriving DecidableEq
def cDivider_ (x : Divider_) : List DV := [.v (.int .i64 x.Worm), .sl (List.map cI x.Circles)]
structure Index_ where
  Turns : Int
  Holes : Int
  Circle : Int
deriving DecidableEq
def cIndex_ (x : Index_) : List DV := [.v (.int .i64 x.Turns), .v (.int .i64 x.Holes), .v (.int .i64 x.Circle)]
def s_l00In_m (p0 : Int) (p1 : Int) (p2 : Int) : Option Bool :=
  (if p1 ≤ p0 then
  some (decide (p0 ≤ p2))
  else
  some false)

def s_l01Dec_m (p0 : Int) : Option ByteArray :=
  ((loopM (S := Int × List Int) (X := List Int) (fun s6 =>
  (if s6.1 ≠ 0 then
  (((if (s6.1.tmod 10) < 0 then
  some (w64 (-(s6.1.tmod 10)))
  else
  some (s6.1.tmod 10)) : Option Int).bind fun v8 =>
  (chk (([IntKind.u8.wrap (w64 (48 + v8))].length + s6.2.length) * 1 * 64 ≤ 140737488355328) (
  some (.inl (w64 (s6.1.tdiv 10), [IntKind.u8.wrap (w64 (48 + v8))] ++ s6.2)))))
  else
  some (.inr s6.2))) (p0, ([] : List Int)) : Option (List Int)).bind fun v11 =>
  (if (v11.length : Int) = 0 then
  some (⟨#[48]⟩ : ByteArray)
  else
  (if p0 < 0 then
  (chk ((⟨#[45]⟩ : ByteArray).size + (strOfNums v11).size ≤ 9223372036854775807) (
  some ((⟨#[45]⟩ : ByteArray) ++ (strOfNums v11))))
  else
  some (strOfNums v11))))

def s_l27Two_m (p0 : Int) : Option ByteArray :=
  ((s_l01Dec_m (w64 (p0.tdiv 10))).bind fun v2 =>
  ((s_l01Dec_m (p0.tmod 10)).bind fun v4 =>
  (chk (v2.size + v4.size ≤ 9223372036854775807) (
  some (v2 ++ v4)))))

def s_l27Clock_m (p0 : Int) : Option ByteArray :=
  ((s_l27Two_m (w64 ((p0.tmod 86400).tdiv 3600))).bind fun v3 =>
  (chk (v3.size + (⟨#[58]⟩ : ByteArray).size ≤ 9223372036854775807) (
  ((s_l27Two_m ((w64 ((p0.tmod 86400).tdiv 60)).tmod 60)).bind fun v7 =>
  (chk ((v3 ++ (⟨#[58]⟩ : ByteArray)).size + v7.size ≤ 9223372036854775807) (
  (chk (((v3 ++ (⟨#[58]⟩ : ByteArray)) ++ v7).size + (⟨#[58]⟩ : ByteArray).size ≤ 9223372036854775807) (
  ((s_l27Two_m ((p0.tmod 86400).tmod 60)).bind fun v11 =>
  (chk ((((v3 ++ (⟨#[58]⟩ : ByteArray)) ++ v7) ++ (⟨#[58]⟩ : ByteArray)).size + v11.size ≤ 9223372036854775807) (
  some ((((v3 ++ (⟨#[58]⟩ : ByteArray)) ++ v7) ++ (⟨#[58]⟩ : ByteArray)) ++ v11))))))))))))

def s_ClockText_m (p0 : Int) : Option ByteArray :=
  ((s_l00In_m p0 0 1000000000).bind fun v1 =>
  (if (!v1) = true then
  some (⟨#[]⟩ : ByteArray)
  else
  ((s_l27Clock_m p0).bind fun v2 =>
  some v2)))

def i_within_m (p0 : Int) (p1 : Int) (p2 : Int) : Option Bool :=
  (if p1 ≤ p0 then
  some (decide (p0 ≤ p2))
  else
  some false)

def strconv_FormatInt_m (p0 p1 : Int) : Option ByteArray := (chk (-9223372036854775808 ≤ p0 ∧ p0 ≤ 9223372036854775807 ∧ p1 = 10) (some ⟨(Lib.itoa p0).toArray⟩))

def i_Decimal_m (p0 : Int) : Option ByteArray :=
  ((strconv_FormatInt_m p0 10).bind fun v1 =>
  some v1)

def i_twoDigits_m (p0 : Int) : Option ByteArray :=
  ((i_Decimal_m (w64 (p0.tdiv 10))).bind fun v2 =>
  ((i_Decimal_m (p0.tmod 10)).bind fun v4 =>
  (chk (v2.size + v4.size ≤ 9223372036854775807) (
  some (v2 ++ v4)))))

def i_ClockText_m (p0 : Int) : Option ByteArray :=
  ((i_within_m p0 0 1000000000).bind fun v1 =>
  (if (!v1) = true then
  some (⟨#[]⟩ : ByteArray)
  else
  ((i_twoDigits_m (w64 ((p0.tmod 86400).tdiv 3600))).bind fun v4 =>
  (chk (v4.size + (⟨#[58]⟩ : ByteArray).size ≤ 9223372036854775807) (
  ((i_twoDigits_m ((w64 ((p0.tmod 86400).tdiv 60)).tmod 60)).bind fun v8 =>
  (chk ((v4 ++ (⟨#[58]⟩ : ByteArray)).size + v8.size ≤ 9223372036854775807) (
  (chk (((v4 ++ (⟨#[58]⟩ : ByteArray)) ++ v8).size + (⟨#[58]⟩ : ByteArray).size ≤ 9223372036854775807) (
  ((i_twoDigits_m ((p0.tmod 86400).tmod 60)).bind fun v12 =>
  (chk ((((v4 ++ (⟨#[58]⟩ : ByteArray)) ++ v8) ++ (⟨#[58]⟩ : ByteArray)).size + v12.size ≤ 9223372036854775807) (
  some ((((v4 ++ (⟨#[58]⟩ : ByteArray)) ++ v8) ++ (⟨#[58]⟩ : ByteArray)) ++ v12))))))))))))))

def l_FnExactClockText_m (p0 : Int) : Option Bool :=
  ((s_ClockText_m p0).bind fun v1 =>
  ((i_ClockText_m p0).bind fun v2 =>
  (if v2 ≠ v1 then
  some false
  else
  some true)))

def l_szInt64S_m (p0 : List Int) (p1 : Int) : Option Int :=
  (if (w64 (p1 - (p0.length : Int))) < 0 then
  some (-1)
  else
  some (w64 (p1 - (p0.length : Int))))

def l_szDivider_m (p0 : Divider_) (p1 : Int) : Option Int :=
  ((l_szInt64S_m p0.Circles p1).bind fun v1 =>
  (if v1 < 0 then
  some (-1)
  else
  some v1))

def l_toInt64S_m (p0 : List Int) : Option (List Int) :=
  (chk (0 ≤ (p0.length : Int) ∧ (p0.length : Int) = (p0.length : Int) ∧ (p0.length : Int).toNat * 1 * 64 ≤ 281474976710656) (
  ((loopM (S := Int × List Int) (X := List Int) (fun s5 =>
  (if s5.1 < (p0.length : Int) then
  ((atI p0 s5.1).bind fun v6 =>
  ((atI s5.2 s5.1).bind fun v7 =>
  some (.inl (w64 (s5.1 + 1), List.set s5.2 s5.1.toNat v6))))
  else
  some (.inr s5.2))) (0, List.replicate (p0.length : Int).toNat 0) : Option (List Int)).bind fun v8 =>
  some v8)))

def l_toDivider_m (p0 : Divider_) : Option Divider_ :=
  ((l_toInt64S_m p0.Circles).bind fun v1 =>
  some (⟨p0.Worm, v1⟩ : Divider_))

def l_toIndex_m (p0 : Index_) : Option Index_ :=
  some p0

def s_l00Rises_m (p0 : List Int) (p1 : Int) (p2 : Int) : Option Bool :=
  ((loopM (S := Int) (X := Unit ⊕ Bool) (fun s7 =>
  (if s7 < (p0.length : Int) then
  ((((atI p0 s7).bind fun v8 =>
  ((s_l00In_m v8 p1 p2).bind fun v9 =>
  (if (!v9) = true then
  some true
  else
  (if 0 < s7 then
  ((atI p0 (w64 (s7 - 1))).bind fun v10 =>
  ((atI p0 s7).bind fun v11 =>
  some (decide (v11 ≤ v10))))
  else
  some false)))) : Option Bool).bind fun v12 =>
  (if v12 = true then
  some (.inr (.inr false))
  else
  some (.inl (w64 (s7 + 1)))))
  else
  some (.inr (.inl ())))) 0 : Option (Unit ⊕ Bool)).bind fun v13x => orE v13x fun v13 =>
  some true)

def s_l24Ok_m (p0 : Divider_) : Option Bool :=
  ((s_l00In_m p0.Worm 1 360).bind fun v1 =>
  (if v1 = true then
  ((s_l00In_m (p0.Circles.length : Int) 1 20).bind fun v2 =>
  (if v2 = true then
  ((s_l00Rises_m p0.Circles 2 200).bind fun v3 =>
  some v3)
  else
  some false))
  else
  some false))

def s_l00Has_m (p0 : List Int) (p1 : Int) : Option Bool :=
  ((loopM (S := Int) (X := Unit ⊕ Bool) (fun s3 =>
  (if s3 < (p0.length : Int) then
  ((atI p0 s3).bind fun v4 =>
  (if v4 = p1 then
  some (.inr (.inr true))
  else
  some (.inl (w64 (s3 + 1)))))
  else
  some (.inr (.inl ())))) 0 : Option (Unit ⊕ Bool)).bind fun v5x => orE v5x fun v5 =>
  some false)

def s_l24Step_m (p0 : Index_) : Option Int :=
  some (w64 ((w64 (p0.Turns * p0.Circle)) + p0.Holes))

def s_l24Index_m (p0 : Divider_) (p1 : Index_) : Option Bool :=
  ((((s_l24Ok_m p0).bind fun v1 =>
  (if (!v1) = true then
  some true
  else
  ((s_l00Has_m p0.Circles p1.Circle).bind fun v2 =>
  some (!v2)))) : Option Bool).bind fun v3 =>
  (if v3 = true then
  some false
  else
  ((s_l00In_m p1.Turns 0 p0.Worm).bind fun v4 =>
  (if v4 = true then
  ((s_l00In_m p1.Holes 0 (w64 (p1.Circle - 1))).bind fun v5 =>
  (if v5 = true then
  ((s_l24Step_m p1).bind fun v6 =>
  ((s_l00In_m v6 1 (w64 (p0.Worm * p1.Circle))).bind fun v7 =>
  some v7))
  else
  some false))
  else
  some false))))

def s_l24Text_m (p0 : Index_) : Option ByteArray :=
  ((s_l01Dec_m p0.Turns).bind fun v1 =>
  (chk (v1.size + (⟨#[43]⟩ : ByteArray).size ≤ 9223372036854775807) (
  ((s_l01Dec_m p0.Holes).bind fun v3 =>
  (chk ((v1 ++ (⟨#[43]⟩ : ByteArray)).size + v3.size ≤ 9223372036854775807) (
  (chk (((v1 ++ (⟨#[43]⟩ : ByteArray)) ++ v3).size + (⟨#[47]⟩ : ByteArray).size ≤ 9223372036854775807) (
  ((s_l01Dec_m p0.Circle).bind fun v6 =>
  (chk ((((v1 ++ (⟨#[43]⟩ : ByteArray)) ++ v3) ++ (⟨#[47]⟩ : ByteArray)).size + v6.size ≤ 9223372036854775807) (
  some ((((v1 ++ (⟨#[43]⟩ : ByteArray)) ++ v3) ++ (⟨#[47]⟩ : ByteArray)) ++ v6))))))))))))

def s_IndexText_m (p0 : Divider_) (p1 : Index_) : Option ByteArray :=
  ((s_l24Index_m p0 p1).bind fun v1 =>
  (if (!v1) = true then
  some (⟨#[]⟩ : ByteArray)
  else
  ((s_l24Text_m p1).bind fun v2 =>
  some v2)))

def i_ValidDivider_m (p0 : Divider_) : Option Bool :=
  ((loopM (S := Int) (X := Unit ⊕ Bool) (fun s6 =>
  (if s6 < (p0.Circles.length : Int) then
  ((atI p0.Circles s6).bind fun v7 =>
  ((((i_within_m v7 2 200).bind fun v8 =>
  (if (!v8) = true then
  some true
  else
  (if 0 < s6 then
  ((atI p0.Circles (w64 (s6 - 1))).bind fun v9 =>
  some (decide (v7 ≤ v9)))
  else
  some false))) : Option Bool).bind fun v10 =>
  (if v10 = true then
  some (.inr (.inr false))
  else
  some (.inl (w64 (s6 + 1))))))
  else
  some (.inr (.inl ())))) 0 : Option (Unit ⊕ Bool)).bind fun v11x => orE v11x fun v11 =>
  ((i_within_m p0.Worm 1 360).bind fun v12 =>
  (if v12 = true then
  (if 1 ≤ (p0.Circles.length : Int) then
  some (decide ((p0.Circles.length : Int) ≤ 20))
  else
  some false)
  else
  some false)))

def slices_Index_Lint64_int64_m (p0 : List Int) (p1 : Int) : Option Int :=
  ((loopM (S := Int) (X := Unit ⊕ Int) (fun s3 =>
  (if s3 < (p0.length : Int) then
  ((atI p0 s3).bind fun v4 =>
  (if p1 = v4 then
  some (.inr (.inr s3))
  else
  some (.inl (w64 (s3 + 1)))))
  else
  some (.inr (.inl ())))) 0 : Option (Unit ⊕ Int)).bind fun v5x => orE v5x fun v5 =>
  some (-1))

def slices_Contains_Lint64_int64_m (p0 : List Int) (p1 : Int) : Option Bool :=
  ((slices_Index_Lint64_int64_m p0 p1).bind fun v1 =>
  some (decide (0 ≤ v1)))

def i_stepOf_m (p0 : Index_) : Option Int :=
  some (w64 ((w64 (p0.Turns * p0.Circle)) + p0.Holes))

def i_ValidIndex_m (p0 : Divider_) (p1 : Index_) : Option Bool :=
  ((((i_ValidDivider_m p0).bind fun v1 =>
  (if (!v1) = true then
  some true
  else
  ((slices_Contains_Lint64_int64_m p0.Circles p1.Circle).bind fun v2 =>
  (if (!v2) = true then
  some true
  else
  ((i_within_m p1.Turns 0 p0.Worm).bind fun v3 =>
  (if (!v3) = true then
  some true
  else
  ((i_within_m p1.Holes 0 (w64 (p1.Circle - 1))).bind fun v4 =>
  some (!v4)))))))) : Option Bool).bind fun v5 =>
  (if v5 = true then
  some false
  else
  ((i_stepOf_m p1).bind fun v6 =>
  ((i_within_m v6 1 (w64 (p0.Worm * p1.Circle))).bind fun v7 =>
  some v7))))

def i_IndexText_m (p0 : Divider_) (p1 : Index_) : Option ByteArray :=
  ((i_ValidIndex_m p0 p1).bind fun v1 =>
  (if (!v1) = true then
  some (⟨#[]⟩ : ByteArray)
  else
  ((i_Decimal_m p1.Turns).bind fun v2 =>
  (chk (v2.size + (⟨#[43]⟩ : ByteArray).size ≤ 9223372036854775807) (
  ((i_Decimal_m p1.Holes).bind fun v4 =>
  (chk ((v2 ++ (⟨#[43]⟩ : ByteArray)).size + v4.size ≤ 9223372036854775807) (
  (chk (((v2 ++ (⟨#[43]⟩ : ByteArray)) ++ v4).size + (⟨#[47]⟩ : ByteArray).size ≤ 9223372036854775807) (
  ((i_Decimal_m p1.Circle).bind fun v7 =>
  (chk ((((v2 ++ (⟨#[43]⟩ : ByteArray)) ++ v4) ++ (⟨#[47]⟩ : ByteArray)).size + v7.size ≤ 9223372036854775807) (
  some ((((v2 ++ (⟨#[43]⟩ : ByteArray)) ++ v4) ++ (⟨#[47]⟩ : ByteArray)) ++ v7))))))))))))))

def l_eqInt64S_m (p0 : List Int) (p1 : List Int) : Option Bool :=
  (if (p0.length : Int) ≠ (p1.length : Int) then
  some false
  else
  ((loopM (S := Int) (X := Unit ⊕ Bool) (fun s4 =>
  (if s4 < (p0.length : Int) then
  ((atI p0 s4).bind fun v5 =>
  ((atI p1 s4).bind fun v6 =>
  (if v5 ≠ v6 then
  some (.inr (.inr false))
  else
  some (.inl (w64 (s4 + 1))))))
  else
  some (.inr (.inl ())))) 0 : Option (Unit ⊕ Bool)).bind fun v7x => orE v7x fun v7 =>
  some true))

def l_eqDivider_m (p0 : Divider_) (p1 : Divider_) : Option Bool :=
  (if p0.Worm ≠ p1.Worm then
  some false
  else
  ((l_eqInt64S_m p0.Circles p1.Circles).bind fun v1 =>
  (if (!v1) = true then
  some false
  else
  some true)))

def l_FnExactIndexText_m (p0 : Divider_) (p1 : Index_) : Option Bool :=
  ((l_szDivider_m p0 1048576).bind fun v1 =>
  (if v1 < 0 then
  some true
  else
  ((l_toDivider_m p0).bind fun v2 =>
  ((l_toIndex_m p1).bind fun v3 =>
  ((s_IndexText_m v2 v3).bind fun v4 =>
  ((l_toDivider_m p0).bind fun v5 =>
  ((l_toIndex_m p1).bind fun v6 =>
  ((i_IndexText_m v5 v6).bind fun v7 =>
  (if v7 ≠ v4 then
  some false
  else
  ((l_toDivider_m p0).bind fun v8 =>
  ((l_eqDivider_m v5 v8).bind fun v9 =>
  (if (!v9) = true then
  some false
  else
  some true))))))))))))

def internal_strconv_small_m (p0 : Int) : Option ByteArray :=
  (if p0 < 10 then
  (chk (0 ≤ p0 ∧ p0 ≤ (w64 (p0 + 1)) ∧ (w64 (p0 + 1)) ≤ ((⟨#[48, 49, 50, 51, 52, 53, 54, 55, 56, 57, 97, 98, 99, 100, 101, 102, 103, 104, 105, 106, 107, 108, 109, 110, 111, 112, 113, 114, 115, 116, 117, 118, 119, 120, 121, 122]⟩ : ByteArray).size : Int)) (
  some ((⟨#[48, 49, 50, 51, 52, 53, 54, 55, 56, 57, 97, 98, 99, 100, 101, 102, 103, 104, 105, 106, 107, 108, 109, 110, 111, 112, 113, 114, 115, 116, 117, 118, 119, 120, 121, 122]⟩ : ByteArray).extract p0.toNat (w64 (p0 + 1)).toNat)))
  else
  (chk (0 ≤ (w64 (p0 * 2)) ∧ (w64 (p0 * 2)) ≤ (w64 ((w64 (p0 * 2)) + 2)) ∧ (w64 ((w64 (p0 * 2)) + 2)) ≤ ((⟨#[48, 48, 48, 49, 48, 50, 48, 51, 48, 52, 48, 53, 48, 54, 48, 55, 48, 56, 48, 57, 49, 48, 49, 49, 49, 50, 49, 51, 49, 52, 49, 53, 49, 54, 49, 55, 49, 56, 49, 57, 50, 48, 50, 49, 50, 50, 50, 51, 50, 52, 50, 53, 50, 54, 50, 55, 50, 56, 50, 57, 51, 48, 51, 49, 51, 50, 51, 51, 51, 52, 51, 53, 51, 54, 51, 55, 51, 56, 51, 57, 52, 48, 52, 49, 52, 50, 52, 51, 52, 52, 52, 53, 52, 54, 52, 55, 52, 56, 52, 57, 53, 48, 53, 49, 53, 50, 53, 51, 53, 52, 53, 53, 53, 54, 53, 55, 53, 56, 53, 57, 54, 48, 54, 49, 54, 50, 54, 51, 54, 52, 54, 53, 54, 54, 54, 55, 54, 56, 54, 57, 55, 48, 55, 49, 55, 50, 55, 51, 55, 52, 55, 53, 55, 54, 55, 55, 55, 56, 55, 57, 56, 48, 56, 49, 56, 50, 56, 51, 56, 52, 56, 53, 56, 54, 56, 55, 56, 56, 56, 57, 57, 48, 57, 49, 57, 50, 57, 51, 57, 52, 57, 53, 57, 54, 57, 55, 57, 56, 57, 57]⟩ : ByteArray).size : Int)) (
  some ((⟨#[48, 48, 48, 49, 48, 50, 48, 51, 48, 52, 48, 53, 48, 54, 48, 55, 48, 56, 48, 57, 49, 48, 49, 49, 49, 50, 49, 51, 49, 52, 49, 53, 49, 54, 49, 55, 49, 56, 49, 57, 50, 48, 50, 49, 50, 50, 50, 51, 50, 52, 50, 53, 50, 54, 50, 55, 50, 56, 50, 57, 51, 48, 51, 49, 51, 50, 51, 51, 51, 52, 51, 53, 51, 54, 51, 55, 51, 56, 51, 57, 52, 48, 52, 49, 52, 50, 52, 51, 52, 52, 52, 53, 52, 54, 52, 55, 52, 56, 52, 57, 53, 48, 53, 49, 53, 50, 53, 51, 53, 52, 53, 53, 53, 54, 53, 55, 53, 56, 53, 57, 54, 48, 54, 49, 54, 50, 54, 51, 54, 52, 54, 53, 54, 54, 54, 55, 54, 56, 54, 57, 55, 48, 55, 49, 55, 50, 55, 51, 55, 52, 55, 53, 55, 54, 55, 55, 55, 56, 55, 57, 56, 48, 56, 49, 56, 50, 56, 51, 56, 52, 56, 53, 56, 54, 56, 55, 56, 56, 56, 57, 57, 48, 57, 49, 57, 50, 57, 51, 57, 52, 57, 53, 57, 54, 57, 55, 57, 56, 57, 57]⟩ : ByteArray).extract (w64 (p0 * 2)).toNat (w64 ((w64 (p0 * 2)) + 2)).toNat))))

def internal_strconv_FormatInt_m (p0 : Int) (p1 : Int) : Option ByteArray :=
  (if p1 = 10 then
  (((if 0 ≤ p0 then
  some (decide (p0 < 100))
  else
  some false) : Option Bool).bind fun v1 =>
  (if v1 = true then
  ((internal_strconv_small_m p0).bind fun v2 =>
  some v2)
  else
  none))
  else
  none)

def math_bits_Len64_m (p0 : Int) : Option Int :=
  (((if 4294967296 ≤ p0 then
  some (shrK .u64 p0 32, 32)
  else
  some (p0, 0)) : Option (Int × Int)).bind fun v2 =>
  (((if 65536 ≤ v2.1 then
  some (shrK .u64 v2.1 16, w64 (v2.2 + 16))
  else
  some (v2.1, v2.2)) : Option (Int × Int)).bind fun v4 =>
  (((if 256 ≤ v4.1 then
  some (shrK .u64 v4.1 8, w64 (v4.2 + 8))
  else
  some (v4.1, v4.2)) : Option (Int × Int)).bind fun v6 =>
  ((strAt (⟨#[0, 1, 2, 2, 3, 3, 3, 3, 4, 4, 4, 4, 4, 4, 4, 4, 5, 5, 5, 5, 5, 5, 5, 5, 5, 5, 5, 5, 5, 5, 5, 5, 6, 6, 6, 6, 6, 6, 6, 6, 6, 6, 6, 6, 6, 6, 6, 6, 6, 6, 6, 6, 6, 6, 6, 6, 6, 6, 6, 6, 6, 6, 6, 6, 7, 7, 7, 7, 7, 7, 7, 7, 7, 7, 7, 7, 7, 7, 7, 7, 7, 7, 7, 7, 7, 7, 7, 7, 7, 7, 7, 7, 7, 7, 7, 7, 7, 7, 7, 7, 7, 7, 7, 7, 7, 7, 7, 7, 7, 7, 7, 7, 7, 7, 7, 7, 7, 7, 7, 7, 7, 7, 7, 7, 7, 7, 7, 7, 8, 8, 8, 8, 8, 8, 8, 8, 8, 8, 8, 8, 8, 8, 8, 8, 8, 8, 8, 8, 8, 8, 8, 8, 8, 8, 8, 8, 8, 8, 8, 8, 8, 8, 8, 8, 8, 8, 8, 8, 8, 8, 8, 8, 8, 8, 8, 8, 8, 8, 8, 8, 8, 8, 8, 8, 8, 8, 8, 8, 8, 8, 8, 8, 8, 8, 8, 8, 8, 8, 8, 8, 8, 8, 8, 8, 8, 8, 8, 8, 8, 8, 8, 8, 8, 8, 8, 8, 8, 8, 8, 8, 8, 8, 8, 8, 8, 8, 8, 8, 8, 8, 8, 8, 8, 8, 8, 8, 8, 8, 8, 8, 8, 8, 8, 8, 8, 8, 8, 8, 8, 8, 8, 8, 8, 8, 8, 8]⟩ : ByteArray) (IntKind.u8.wrap v6.1)).bind fun v7 =>
  some (w64 (v6.2 + (w64 v7)))))))

def internal_strconv_log10Pow2_m (p0 : Int) : Option Int :=
  some (shrK .i64 (w64 (p0 * 78913)) 18)

def internal_strconv_bool2_int_m (p0 : Bool) : Option Int :=
  (if p0 = true then
  some 1
  else
  some 0)

def internal_strconv_isPowerOfTwo_m (p0 : Int) : Option Bool :=
  some (decide ((andK .i64 p0 (w64 (p0 - 1))) = 0))

def math_bits_TrailingZeros64_m (p0 : Int) : Option Int :=
  (if p0 = 0 then
  some 64
  else
  none)

def math_bits_TrailingZeros_m (p0 : Int) : Option Int :=
  ((math_bits_TrailingZeros64_m p0).bind fun v1 =>
  some v1)

def math_bits_TrailingZeros32_m (p0 : Int) : Option Int :=
  (if p0 = 0 then
  some 32
  else
  none)
end Go.Proofs.YtkgeenglafchhaaDoor
