/- arguments -/
import Derived.Test.YtkgeenglafchhaaXOK
import Derived.Test.YtkgeenglafchhaaProg
namespace Go.Proofs.Ytkgeenglafchhaa
open Go.ChangeShapes Go.WideShapes Go.ChangeAt Go.RowKit Go.Deep
set_option linter.unusedVariables false
set_option maxRecDepth 100000
set_option maxHeartbeats 2000000
theorem lst2 {α : Type} (l : List α) (h : l.length = 2) : ∃ a0 a1, l = [a0, a1] := by
  match l, h with
  | [a0, a1], _ => exact ⟨a0, a1, rfl⟩
theorem lst3 {α : Type} (l : List α) (h : l.length = 3) : ∃ a0 a1 a2, l = [a0, a1, a2] := by
  match l, h with
  | [a0, a1, a2], _ => exact ⟨a0, a1, a2, rfl⟩
theorem lst4 {α : Type} (l : List α) (h : l.length = 4) : ∃ a0 a1 a2 a3, l = [a0, a1, a2, a3] := by
  match l, h with
  | [a0, a1, a2, a3], _ => exact ⟨a0, a1, a2, a3, rfl⟩
theorem lst7 {α : Type} (l : List α) (h : l.length = 7) : ∃ a0 a1 a2 a3 a4 a5 a6, l = [a0, a1, a2, a3, a4, a5, a6] := by
  match l, h with
  | [a0, a1, a2, a3, a4, a5, a6], _ => exact ⟨a0, a1, a2, a3, a4, a5, a6, rfl⟩
theorem lst14 {α : Type} (l : List α) (h : l.length = 14) : ∃ a0 a1 a2 a3 a4 a5 a6 a7 a8 a9 a10 a11 a12 a13, l = [a0, a1, a2, a3, a4, a5, a6, a7, a8, a9, a10, a11, a12, a13] := by
  match l, h with
  | [a0, a1, a2, a3, a4, a5, a6, a7, a8, a9, a10, a11, a12, a13], _ => exact ⟨a0, a1, a2, a3, a4, a5, a6, a7, a8, a9, a10, a11, a12, a13, rfl⟩
theorem lst26 {α : Type} (l : List α) (h : l.length = 26) : ∃ a0 a1 a2 a3 a4 a5 a6 a7 a8 a9 a10 a11 a12 a13 a14 a15 a16 a17 a18 a19 a20 a21 a22 a23 a24 a25, l = [a0, a1, a2, a3, a4, a5, a6, a7, a8, a9, a10, a11, a12, a13, a14, a15, a16, a17, a18, a19, a20, a21, a22, a23, a24, a25] := by
  match l, h with
  | [a0, a1, a2, a3, a4, a5, a6, a7, a8, a9, a10, a11, a12, a13, a14, a15, a16, a17, a18, a19, a20, a21, a22, a23, a24, a25], _ => exact ⟨a0, a1, a2, a3, a4, a5, a6, a7, a8, a9, a10, a11, a12, a13, a14, a15, a16, a17, a18, a19, a20, a21, a22, a23, a24, a25, rfl⟩
theorem rd_2 {H : Type} {enc : TypeId × Value → H} {W : World} {b0 : Nat} {spare : Nat → Bool} {held : Bool} {fuel : Nat} {cs : List Value} {x : DataW H × List MemPlace} (h : DataW.trod enc Try.prog W b0 spare held fuel 2 cs = some x) : ∃ v : Int, RepL W cs (cI v) ∧ osI v := by
  obtain ⟨z, rfl, _, hw⟩ := DataW.trod_int Try.underlying2 h
  exact ⟨z, repL_cons (repL_int _ _) repL_nil, by simpa [osI, Lit.wf, IntKind.min, IntKind.max, IntKind.bits, IntKind.signed] using hw⟩
theorem rd_22 {H : Type} {enc : TypeId × Value → H} {W : World} {b0 : Nat} {spare : Nat → Bool} {held : Bool} {fuel : Nat} {cs : List Value} {x : DataW H × List MemPlace} (h : DataW.trod enc Try.prog W b0 spare held fuel 22 cs = some x) : ∃ v : List Int, RepL W cs ((cL cI) v) ∧ (osL osI) v := by
  obtain ⟨v, hv⟩ : ∃ v, cs = [v] := sl_one (t := 22) Try.underlying22 h
  subst hv
  obtain ⟨xs, hr, hm, hok⟩ := sliceX cI osI 1 (fun _ => rfl) (by omega) Try.underlying22 (by kernel_rfl) (fun fuel cs x h => rd_2 h) ⟨_, _, h⟩
  exact ⟨xs, repL_cons hr repL_nil, hm, hok⟩
theorem rd_24 {H : Type} {enc : TypeId × Value → H} {W : World} {b0 : Nat} {spare : Nat → Bool} {held : Bool} {fuel : Nat} {cs : List Value} {x : DataW H × List MemPlace} (h : DataW.trod enc Try.prog W b0 spare held fuel 24 cs = some x) : ∃ v : Divider_, RepL W cs (cDivider_ v) ∧ okDivider_ v := by
  obtain ⟨a0, a1, rfl⟩ := lst2 cs ((cellsR Try.underlying24 h).trans (by kernel_rfl))
  obtain ⟨n0, y0, h0⟩ := fieldR Try.underlying24 h 0 2 [a0] (by kernel_rfl)
  obtain ⟨v0, r0, o0⟩ := rd_2 h0
  obtain ⟨n1, y1, h1⟩ := fieldR Try.underlying24 h 1 22 [a1] (by kernel_rfl)
  obtain ⟨v1, r1, o1⟩ := rd_22 h1
  exact ⟨⟨v0, v1⟩, (repL_app r0 (repL_app r1 repL_nil)), ⟨o0, o1⟩⟩
theorem rd_26 {H : Type} {enc : TypeId × Value → H} {W : World} {b0 : Nat} {spare : Nat → Bool} {held : Bool} {fuel : Nat} {cs : List Value} {x : DataW H × List MemPlace} (h : DataW.trod enc Try.prog W b0 spare held fuel 26 cs = some x) : ∃ v : Index_, RepL W cs (cIndex_ v) ∧ okIndex_ v := by
  obtain ⟨a0, a1, a2, rfl⟩ := lst3 cs ((cellsR Try.underlying26 h).trans (by kernel_rfl))
  obtain ⟨n0, y0, h0⟩ := fieldR Try.underlying26 h 0 2 [a0] (by kernel_rfl)
  obtain ⟨v0, r0, o0⟩ := rd_2 h0
  obtain ⟨n1, y1, h1⟩ := fieldR Try.underlying26 h 1 2 [a1] (by kernel_rfl)
  obtain ⟨v1, r1, o1⟩ := rd_2 h1
  obtain ⟨n2, y2, h2⟩ := fieldR Try.underlying26 h 2 2 [a2] (by kernel_rfl)
  obtain ⟨v2, r2, o2⟩ := rd_2 h2
  exact ⟨⟨v0, v1, v2⟩, (repL_app r0 (repL_app r1 (repL_app r2 repL_nil))), ⟨o0, o1, o2⟩⟩
theorem rd_5 {H : Type} {enc : TypeId × Value → H} {W : World} {b0 : Nat} {spare : Nat → Bool} {held : Bool} {fuel : Nat} {cs : List Value} {x : DataW H × List MemPlace} (h : DataW.trod enc Try.prog W b0 spare held fuel 5 cs = some x) : ∃ v : Int, RepL W cs (cU8 v) ∧ osU8 v := by
  obtain ⟨z, rfl, _, hw⟩ := DataW.trod_int Try.underlying5 h
  exact ⟨z, repL_cons (repL_int _ _) repL_nil, by simpa [osU8, Lit.wf, IntKind.min, IntKind.max, IntKind.bits, IntKind.signed] using hw⟩
theorem rd_39 {H : Type} {enc : TypeId × Value → H} {W : World} {b0 : Nat} {spare : Nat → Bool} {held : Bool} {fuel : Nat} {cs : List Value} {x : DataW H × List MemPlace} (h : DataW.trod enc Try.prog W b0 spare held fuel 39 cs = some x) : ∃ v : List Int, RepL W cs ((cL cU8) v) ∧ (osL osU8) v := by
  obtain ⟨v, hv⟩ : ∃ v, cs = [v] := sl_one (t := 39) Try.underlying39 h
  subst hv
  obtain ⟨xs, hr, hm, hok⟩ := sliceX cU8 osU8 1 (fun _ => rfl) (by omega) Try.underlying39 (by kernel_rfl) (fun fuel cs x h => rd_5 h) ⟨_, _, h⟩
  exact ⟨xs, repL_cons hr repL_nil, hm, hok⟩
theorem rd_9 {H : Type} {enc : TypeId × Value → H} {W : World} {b0 : Nat} {spare : Nat → Bool} {held : Bool} {fuel : Nat} {cs : List Value} {x : DataW H × List MemPlace} (h : DataW.trod enc Try.prog W b0 spare held fuel 9 cs = some x) : ∃ v : ByteArray, RepL W cs (cS v) ∧ osS v := by
  obtain ⟨z, rfl, _, hw⟩ := DataW.trod_string Try.underlying9 h
  exact ⟨z, repL_cons (repL_str _) repL_nil, by unfold osS; unfold maxLen at hw; exact hw⟩
theorem rd_204 {H : Type} {enc : TypeId × Value → H} {W : World} {b0 : Nat} {spare : Nat → Bool} {held : Bool} {fuel : Nat} {cs : List Value} {x : DataW H × List MemPlace} (h : DataW.trod enc Try.prog W b0 spare held fuel 204 cs = some x) : ∃ v : Arbor_, RepL W cs (cArbor_ v) ∧ okArbor_ v := by
  obtain ⟨a0, a1, rfl⟩ := lst2 cs ((cellsR Try.underlying204 h).trans (by kernel_rfl))
  obtain ⟨n0, y0, h0⟩ := fieldR Try.underlying204 h 0 9 [a0] (by kernel_rfl)
  obtain ⟨v0, r0, o0⟩ := rd_9 h0
  obtain ⟨n1, y1, h1⟩ := fieldR Try.underlying204 h 1 22 [a1] (by kernel_rfl)
  obtain ⟨v1, r1, o1⟩ := rd_22 h1
  exact ⟨⟨v0, v1⟩, (repL_app r0 (repL_app r1 repL_nil)), ⟨o0, o1⟩⟩
theorem rd_56 {H : Type} {enc : TypeId × Value → H} {W : World} {b0 : Nat} {spare : Nat → Bool} {held : Bool} {fuel : Nat} {cs : List Value} {x : DataW H × List MemPlace} (h : DataW.trod enc Try.prog W b0 spare held fuel 56 cs = some x) : ∃ v : List Arbor_, RepL W cs ((cL cArbor_) v) ∧ (osL okArbor_) v := by
  obtain ⟨v, hv⟩ : ∃ v, cs = [v] := sl_one (t := 56) Try.underlying56 h
  subst hv
  obtain ⟨xs, hr, hm, hok⟩ := sliceX cArbor_ okArbor_ 2 (fun _ => rfl) (by omega) Try.underlying56 (by kernel_rfl) (fun fuel cs x h => rd_204 h) ⟨_, _, h⟩
  exact ⟨xs, repL_cons hr repL_nil, hm, hok⟩
theorem rd_209 {H : Type} {enc : TypeId × Value → H} {W : World} {b0 : Nat} {spare : Nat → Bool} {held : Bool} {fuel : Nat} {cs : List Value} {x : DataW H × List MemPlace} (h : DataW.trod enc Try.prog W b0 spare held fuel 209 cs = some x) : ∃ v : Mesh_, RepL W cs (cMesh_ v) ∧ okMesh_ v := by
  obtain ⟨a0, a1, a2, a3, rfl⟩ := lst4 cs ((cellsR Try.underlying209 h).trans (by kernel_rfl))
  obtain ⟨n0, y0, h0⟩ := fieldR Try.underlying209 h 0 2 [a0] (by kernel_rfl)
  obtain ⟨v0, r0, o0⟩ := rd_2 h0
  obtain ⟨n1, y1, h1⟩ := fieldR Try.underlying209 h 1 2 [a1] (by kernel_rfl)
  obtain ⟨v1, r1, o1⟩ := rd_2 h1
  obtain ⟨n2, y2, h2⟩ := fieldR Try.underlying209 h 2 2 [a2] (by kernel_rfl)
  obtain ⟨v2, r2, o2⟩ := rd_2 h2
  obtain ⟨n3, y3, h3⟩ := fieldR Try.underlying209 h 3 2 [a3] (by kernel_rfl)
  obtain ⟨v3, r3, o3⟩ := rd_2 h3
  exact ⟨⟨v0, v1, v2, v3⟩, (repL_app r0 (repL_app r1 (repL_app r2 (repL_app r3 repL_nil)))), ⟨o0, o1, o2, o3⟩⟩
theorem rd_57 {H : Type} {enc : TypeId × Value → H} {W : World} {b0 : Nat} {spare : Nat → Bool} {held : Bool} {fuel : Nat} {cs : List Value} {x : DataW H × List MemPlace} (h : DataW.trod enc Try.prog W b0 spare held fuel 57 cs = some x) : ∃ v : List Mesh_, RepL W cs ((cL cMesh_) v) ∧ (osL okMesh_) v := by
  obtain ⟨v, hv⟩ : ∃ v, cs = [v] := sl_one (t := 57) Try.underlying57 h
  subst hv
  obtain ⟨xs, hr, hm, hok⟩ := sliceX cMesh_ okMesh_ 4 (fun _ => rfl) (by omega) Try.underlying57 (by kernel_rfl) (fun fuel cs x h => rd_209 h) ⟨_, _, h⟩
  exact ⟨xs, repL_cons hr repL_nil, hm, hok⟩
theorem rd_59 {H : Type} {enc : TypeId × Value → H} {W : World} {b0 : Nat} {spare : Nat → Bool} {held : Bool} {fuel : Nat} {cs : List Value} {x : DataW H × List MemPlace} (h : DataW.trod enc Try.prog W b0 spare held fuel 59 cs = some x) : ∃ v : Works_, RepL W cs (cWorks_ v) ∧ okWorks_ v := by
  obtain ⟨a0, a1, rfl⟩ := lst2 cs ((cellsR Try.underlying59 h).trans (by kernel_rfl))
  obtain ⟨n0, y0, h0⟩ := fieldR Try.underlying59 h 0 56 [a0] (by kernel_rfl)
  obtain ⟨v0, r0, o0⟩ := rd_56 h0
  obtain ⟨n1, y1, h1⟩ := fieldR Try.underlying59 h 1 57 [a1] (by kernel_rfl)
  obtain ⟨v1, r1, o1⟩ := rd_57 h1
  exact ⟨⟨v0, v1⟩, (repL_app r0 (repL_app r1 repL_nil)), ⟨o0, o1⟩⟩
theorem rd_206 {H : Type} {enc : TypeId × Value → H} {W : World} {b0 : Nat} {spare : Nat → Bool} {held : Bool} {fuel : Nat} {cs : List Value} {x : DataW H × List MemPlace} (h : DataW.trod enc Try.prog W b0 spare held fuel 206 cs = some x) : ∃ v : Month_, RepL W cs (cMonth_ v) ∧ okMonth_ v := by
  obtain ⟨a0, a1, a2, rfl⟩ := lst3 cs ((cellsR Try.underlying206 h).trans (by kernel_rfl))
  obtain ⟨n0, y0, h0⟩ := fieldR Try.underlying206 h 0 9 [a0] (by kernel_rfl)
  obtain ⟨v0, r0, o0⟩ := rd_9 h0
  obtain ⟨n1, y1, h1⟩ := fieldR Try.underlying206 h 1 2 [a1] (by kernel_rfl)
  obtain ⟨v1, r1, o1⟩ := rd_2 h1
  obtain ⟨n2, y2, h2⟩ := fieldR Try.underlying206 h 2 2 [a2] (by kernel_rfl)
  obtain ⟨v2, r2, o2⟩ := rd_2 h2
  exact ⟨⟨v0, v1, v2⟩, (repL_app r0 (repL_app r1 (repL_app r2 repL_nil))), ⟨o0, o1, o2⟩⟩
theorem rd_60 {H : Type} {enc : TypeId × Value → H} {W : World} {b0 : Nat} {spare : Nat → Bool} {held : Bool} {fuel : Nat} {cs : List Value} {x : DataW H × List MemPlace} (h : DataW.trod enc Try.prog W b0 spare held fuel 60 cs = some x) : ∃ v : List Month_, RepL W cs ((cL cMonth_) v) ∧ (osL okMonth_) v := by
  obtain ⟨v, hv⟩ : ∃ v, cs = [v] := sl_one (t := 60) Try.underlying60 h
  subst hv
  obtain ⟨xs, hr, hm, hok⟩ := sliceX cMonth_ okMonth_ 3 (fun _ => rfl) (by omega) Try.underlying60 (by kernel_rfl) (fun fuel cs x h => rd_206 h) ⟨_, _, h⟩
  exact ⟨xs, repL_cons hr repL_nil, hm, hok⟩
theorem rd_4 {H : Type} {enc : TypeId × Value → H} {W : World} {b0 : Nat} {spare : Nat → Bool} {held : Bool} {fuel : Nat} {cs : List Value} {x : DataW H × List MemPlace} (h : DataW.trod enc Try.prog W b0 spare held fuel 4 cs = some x) : ∃ v : Bool, RepL W cs (cB v) ∧ (fun _ => True) v := by
  obtain ⟨z, rfl, _⟩ := DataW.trod_bool Try.underlying4 h
  exact ⟨z, repL_cons (repL_bool _) repL_nil, trivial⟩
theorem rd_212 {H : Type} {enc : TypeId × Value → H} {W : World} {b0 : Nat} {spare : Nat → Bool} {held : Bool} {fuel : Nat} {cs : List Value} {x : DataW H × List MemPlace} (h : DataW.trod enc Try.prog W b0 spare held fuel 212 cs = some x) : ∃ v : LeapRule_, RepL W cs (cLeapRule_ v) ∧ okLeapRule_ v := by
  obtain ⟨a0, a1, a2, rfl⟩ := lst3 cs ((cellsR Try.underlying212 h).trans (by kernel_rfl))
  obtain ⟨n0, y0, h0⟩ := fieldR Try.underlying212 h 0 2 [a0] (by kernel_rfl)
  obtain ⟨v0, r0, o0⟩ := rd_2 h0
  obtain ⟨n1, y1, h1⟩ := fieldR Try.underlying212 h 1 2 [a1] (by kernel_rfl)
  obtain ⟨v1, r1, o1⟩ := rd_2 h1
  obtain ⟨n2, y2, h2⟩ := fieldR Try.underlying212 h 2 4 [a2] (by kernel_rfl)
  obtain ⟨v2, r2, o2⟩ := rd_4 h2
  exact ⟨⟨v0, v1, v2⟩, (repL_app r0 (repL_app r1 (repL_app r2 repL_nil))), ⟨o0, o1, o2⟩⟩
theorem rd_61 {H : Type} {enc : TypeId × Value → H} {W : World} {b0 : Nat} {spare : Nat → Bool} {held : Bool} {fuel : Nat} {cs : List Value} {x : DataW H × List MemPlace} (h : DataW.trod enc Try.prog W b0 spare held fuel 61 cs = some x) : ∃ v : List LeapRule_, RepL W cs ((cL cLeapRule_) v) ∧ (osL okLeapRule_) v := by
  obtain ⟨v, hv⟩ : ∃ v, cs = [v] := sl_one (t := 61) Try.underlying61 h
  subst hv
  obtain ⟨xs, hr, hm, hok⟩ := sliceX cLeapRule_ okLeapRule_ 3 (fun _ => rfl) (by omega) Try.underlying61 (by kernel_rfl) (fun fuel cs x h => rd_212 h) ⟨_, _, h⟩
  exact ⟨xs, repL_cons hr repL_nil, hm, hok⟩
theorem rd_63 {H : Type} {enc : TypeId × Value → H} {W : World} {b0 : Nat} {spare : Nat → Bool} {held : Bool} {fuel : Nat} {cs : List Value} {x : DataW H × List MemPlace} (h : DataW.trod enc Try.prog W b0 spare held fuel 63 cs = some x) : ∃ v : Calendar_, RepL W cs (cCalendar_ v) ∧ okCalendar_ v := by
  obtain ⟨a0, a1, a2, a3, rfl⟩ := lst4 cs ((cellsR Try.underlying63 h).trans (by kernel_rfl))
  obtain ⟨n0, y0, h0⟩ := fieldR Try.underlying63 h 0 9 [a0] (by kernel_rfl)
  obtain ⟨v0, r0, o0⟩ := rd_9 h0
  obtain ⟨n1, y1, h1⟩ := fieldR Try.underlying63 h 1 60 [a1] (by kernel_rfl)
  obtain ⟨v1, r1, o1⟩ := rd_60 h1
  obtain ⟨n2, y2, h2⟩ := fieldR Try.underlying63 h 2 61 [a2] (by kernel_rfl)
  obtain ⟨v2, r2, o2⟩ := rd_61 h2
  obtain ⟨n3, y3, h3⟩ := fieldR Try.underlying63 h 3 2 [a3] (by kernel_rfl)
  obtain ⟨v3, r3, o3⟩ := rd_2 h3
  exact ⟨⟨v0, v1, v2, v3⟩, (repL_app r0 (repL_app r1 (repL_app r2 (repL_app r3 repL_nil)))), ⟨o0, o1, o2, o3⟩⟩
theorem rd_65 {H : Type} {enc : TypeId × Value → H} {W : World} {b0 : Nat} {spare : Nat → Bool} {held : Bool} {fuel : Nat} {cs : List Value} {x : DataW H × List MemPlace} (h : DataW.trod enc Try.prog W b0 spare held fuel 65 cs = some x) : ∃ v : Movement_, RepL W cs (cMovement_ v) ∧ okMovement_ v := by
  obtain ⟨a0, a1, a2, a3, a4, a5, a6, a7, a8, a9, a10, a11, a12, a13, rfl⟩ := lst14 cs ((cellsR Try.underlying65 h).trans (by kernel_rfl))
  obtain ⟨n0, y0, h0⟩ := fieldR Try.underlying65 h 0 9 [a0] (by kernel_rfl)
  obtain ⟨v0, r0, o0⟩ := rd_9 h0
  obtain ⟨n1, y1, h1⟩ := fieldR Try.underlying65 h 1 59 [a1, a2] (by kernel_rfl)
  obtain ⟨v1, r1, o1⟩ := rd_59 h1
  obtain ⟨n2, y2, h2⟩ := fieldR Try.underlying65 h 2 2 [a3] (by kernel_rfl)
  obtain ⟨v2, r2, o2⟩ := rd_2 h2
  obtain ⟨n3, y3, h3⟩ := fieldR Try.underlying65 h 3 2 [a4] (by kernel_rfl)
  obtain ⟨v3, r3, o3⟩ := rd_2 h3
  obtain ⟨n4, y4, h4⟩ := fieldR Try.underlying65 h 4 2 [a5] (by kernel_rfl)
  obtain ⟨v4, r4, o4⟩ := rd_2 h4
  obtain ⟨n5, y5, h5⟩ := fieldR Try.underlying65 h 5 2 [a6] (by kernel_rfl)
  obtain ⟨v5, r5, o5⟩ := rd_2 h5
  obtain ⟨n6, y6, h6⟩ := fieldR Try.underlying65 h 6 2 [a7] (by kernel_rfl)
  obtain ⟨v6, r6, o6⟩ := rd_2 h6
  obtain ⟨n7, y7, h7⟩ := fieldR Try.underlying65 h 7 63 [a8, a9, a10, a11] (by kernel_rfl)
  obtain ⟨v7, r7, o7⟩ := rd_63 h7
  obtain ⟨n8, y8, h8⟩ := fieldR Try.underlying65 h 8 22 [a12] (by kernel_rfl)
  obtain ⟨v8, r8, o8⟩ := rd_22 h8
  obtain ⟨n9, y9, h9⟩ := fieldR Try.underlying65 h 9 2 [a13] (by kernel_rfl)
  obtain ⟨v9, r9, o9⟩ := rd_2 h9
  exact ⟨⟨v0, v1, v2, v3, v4, v5, v6, v7, v8, v9⟩, (repL_app r0 (repL_app r1 (repL_app r2 (repL_app r3 (repL_app r4 (repL_app r5 (repL_app r6 (repL_app r7 (repL_app r8 (repL_app r9 repL_nil)))))))))), ⟨o0, o1, o2, o3, o4, o5, o6, o7, o8, o9⟩⟩
theorem rd_81 {H : Type} {enc : TypeId × Value → H} {W : World} {b0 : Nat} {spare : Nat → Bool} {held : Bool} {fuel : Nat} {cs : List Value} {x : DataW H × List MemPlace} (h : DataW.trod enc Try.prog W b0 spare held fuel 81 cs = some x) : ∃ v : Date_, RepL W cs (cDate_ v) ∧ okDate_ v := by
  obtain ⟨a0, a1, a2, rfl⟩ := lst3 cs ((cellsR Try.underlying81 h).trans (by kernel_rfl))
  obtain ⟨n0, y0, h0⟩ := fieldR Try.underlying81 h 0 2 [a0] (by kernel_rfl)
  obtain ⟨v0, r0, o0⟩ := rd_2 h0
  obtain ⟨n1, y1, h1⟩ := fieldR Try.underlying81 h 1 2 [a1] (by kernel_rfl)
  obtain ⟨v1, r1, o1⟩ := rd_2 h1
  obtain ⟨n2, y2, h2⟩ := fieldR Try.underlying81 h 2 2 [a2] (by kernel_rfl)
  obtain ⟨v2, r2, o2⟩ := rd_2 h2
  exact ⟨⟨v0, v1, v2⟩, (repL_app r0 (repL_app r1 (repL_app r2 repL_nil))), ⟨o0, o1, o2⟩⟩
theorem rd_83 {H : Type} {enc : TypeId × Value → H} {W : World} {b0 : Nat} {spare : Nat → Bool} {held : Bool} {fuel : Nat} {cs : List Value} {x : DataW H × List MemPlace} (h : DataW.trod enc Try.prog W b0 spare held fuel 83 cs = some x) : ∃ v : Perpetual_, RepL W cs (cPerpetual_ v) ∧ okPerpetual_ v := by
  obtain ⟨a0, a1, a2, a3, a4, a5, a6, rfl⟩ := lst7 cs ((cellsR Try.underlying83 h).trans (by kernel_rfl))
  obtain ⟨n0, y0, h0⟩ := fieldR Try.underlying83 h 0 22 [a0] (by kernel_rfl)
  obtain ⟨v0, r0, o0⟩ := rd_22 h0
  obtain ⟨n1, y1, h1⟩ := fieldR Try.underlying83 h 1 2 [a1] (by kernel_rfl)
  obtain ⟨v1, r1, o1⟩ := rd_2 h1
  obtain ⟨n2, y2, h2⟩ := fieldR Try.underlying83 h 2 2 [a2] (by kernel_rfl)
  obtain ⟨v2, r2, o2⟩ := rd_2 h2
  obtain ⟨n3, y3, h3⟩ := fieldR Try.underlying83 h 3 2 [a3] (by kernel_rfl)
  obtain ⟨v3, r3, o3⟩ := rd_2 h3
  obtain ⟨n4, y4, h4⟩ := fieldR Try.underlying83 h 4 2 [a4] (by kernel_rfl)
  obtain ⟨v4, r4, o4⟩ := rd_2 h4
  obtain ⟨n5, y5, h5⟩ := fieldR Try.underlying83 h 5 2 [a5] (by kernel_rfl)
  obtain ⟨v5, r5, o5⟩ := rd_2 h5
  obtain ⟨n6, y6, h6⟩ := fieldR Try.underlying83 h 6 2 [a6] (by kernel_rfl)
  obtain ⟨v6, r6, o6⟩ := rd_2 h6
  exact ⟨⟨v0, v1, v2, v3, v4, v5, v6⟩, (repL_app r0 (repL_app r1 (repL_app r2 (repL_app r3 (repL_app r4 (repL_app r5 (repL_app r6 repL_nil))))))), ⟨o0, o1, o2, o3, o4, o5, o6⟩⟩
theorem rd_85 {H : Type} {enc : TypeId × Value → H} {W : World} {b0 : Nat} {spare : Nat → Bool} {held : Bool} {fuel : Nat} {cs : List Value} {x : DataW H × List MemPlace} (h : DataW.trod enc Try.prog W b0 spare held fuel 85 cs = some x) : ∃ v : Sim_, RepL W cs (cSim_ v) ∧ okSim_ v := by
  obtain ⟨a0, a1, a2, a3, a4, a5, a6, a7, a8, a9, a10, a11, a12, a13, a14, a15, a16, a17, a18, a19, a20, a21, a22, a23, a24, a25, rfl⟩ := lst26 cs ((cellsR Try.underlying85 h).trans (by kernel_rfl))
  obtain ⟨n0, y0, h0⟩ := fieldR Try.underlying85 h 0 65 [a0, a1, a2, a3, a4, a5, a6, a7, a8, a9, a10, a11, a12, a13] (by kernel_rfl)
  obtain ⟨v0, r0, o0⟩ := rd_65 h0
  obtain ⟨n1, y1, h1⟩ := fieldR Try.underlying85 h 1 81 [a14, a15, a16] (by kernel_rfl)
  obtain ⟨v1, r1, o1⟩ := rd_81 h1
  obtain ⟨n2, y2, h2⟩ := fieldR Try.underlying85 h 2 2 [a17] (by kernel_rfl)
  obtain ⟨v2, r2, o2⟩ := rd_2 h2
  obtain ⟨n3, y3, h3⟩ := fieldR Try.underlying85 h 3 2 [a18] (by kernel_rfl)
  obtain ⟨v3, r3, o3⟩ := rd_2 h3
  obtain ⟨n4, y4, h4⟩ := fieldR Try.underlying85 h 4 83 [a19, a20, a21, a22, a23, a24, a25] (by kernel_rfl)
  obtain ⟨v4, r4, o4⟩ := rd_83 h4
  exact ⟨⟨v0, v1, v2, v3, v4⟩, (repL_app r0 (repL_app r1 (repL_app r2 (repL_app r3 (repL_app r4 repL_nil))))), ⟨o0, o1, o2, o3, o4⟩⟩
theorem rd_95 {H : Type} {enc : TypeId × Value → H} {W : World} {b0 : Nat} {spare : Nat → Bool} {held : Bool} {fuel : Nat} {cs : List Value} {x : DataW H × List MemPlace} (h : DataW.trod enc Try.prog W b0 spare held fuel 95 cs = some x) : ∃ v : Desk_, RepL W cs (cDesk_ v) ∧ okDesk_ v := by
  obtain ⟨a0, a1, a2, a3, a4, a5, a6, a7, a8, a9, a10, a11, a12, a13, a14, a15, a16, a17, a18, a19, a20, a21, a22, a23, a24, a25, rfl⟩ := lst26 cs ((cellsR Try.underlying95 h).trans (by kernel_rfl))
  obtain ⟨n0, y0, h0⟩ := fieldR Try.underlying95 h 0 85 [a0, a1, a2, a3, a4, a5, a6, a7, a8, a9, a10, a11, a12, a13, a14, a15, a16, a17, a18, a19, a20, a21, a22, a23, a24, a25] (by kernel_rfl)
  obtain ⟨v0, r0, o0⟩ := rd_85 h0
  exact ⟨⟨v0⟩, (repL_app r0 repL_nil), o0⟩
theorem open_24 {H : Type} {enc : TypeId × Value → H} {W : World} {b0 base : Nat} {spare : Nat → Bool} {held : Bool} {v : Value} {d : DataW H} {p : List MemPlace} (hv : Value.okWide Try.prog W .any base 24 v) (h : DataW.Trod enc Try.prog W b0 spare held 24 v d p) : ∃ x : Divider_, ARep W (fun b => b < W.heap.size) (fun _ _ => none) (lks []) v (.agg [.d (.v (.int .i64 x.Worm)), .d (.sl (List.map cI x.Circles))]) ∧ okDivider_ x := by
  obtain ⟨cs, rfl, hsz⟩ := okWide_struct Try.underlying24 hv
  obtain ⟨fuel, hf⟩ := h
  obtain ⟨x, hr, hok⟩ := rd_24 hf
  exact ⟨x, agg_rep (ds := cDivider_ x) (by simpa [Value.cells] using hr), hok⟩
theorem open_26 {H : Type} {enc : TypeId × Value → H} {W : World} {b0 base : Nat} {spare : Nat → Bool} {held : Bool} {v : Value} {d : DataW H} {p : List MemPlace} (hv : Value.okWide Try.prog W .any base 26 v) (h : DataW.Trod enc Try.prog W b0 spare held 26 v d p) : ∃ x : Index_, ARep W (fun b => b < W.heap.size) (fun _ _ => none) (lks []) v (.agg [.d (.v (.int .i64 x.Turns)), .d (.v (.int .i64 x.Holes)), .d (.v (.int .i64 x.Circle))]) ∧ okIndex_ x := by
  obtain ⟨cs, rfl, hsz⟩ := okWide_struct Try.underlying26 hv
  obtain ⟨fuel, hf⟩ := h
  obtain ⟨x, hr, hok⟩ := rd_26 hf
  exact ⟨x, agg_rep (ds := cIndex_ x) (by simpa [Value.cells] using hr), hok⟩
theorem open_39 {H : Type} {enc : TypeId × Value → H} {W : World} {b0 base : Nat} {spare : Nat → Bool} {held : Bool} {v : Value} {d : DataW H} {p : List MemPlace} (hv : Value.okWide Try.prog W .any base 39 v) (h : DataW.Trod enc Try.prog W b0 spare held 39 v d p) : ∃ x : List Int, ARep W (fun b => b < W.heap.size) (fun _ _ => none) (lks []) v (.d (.sl (List.map cU8 x))) ∧ (osL osU8) x := by
  obtain ⟨a, len, cap, rfl⟩ := okWide_slice Try.underlying39 hv
  obtain ⟨fuel, hf⟩ := h
  obtain ⟨x, hr, hok⟩ := rd_39 hf
  exact ⟨x, .d _ _ (hr.2 0 _ _ rfl rfl), hok⟩
theorem open_65 {H : Type} {enc : TypeId × Value → H} {W : World} {b0 base : Nat} {spare : Nat → Bool} {held : Bool} {v : Value} {d : DataW H} {p : List MemPlace} (hv : Value.okWide Try.prog W .any base 65 v) (h : DataW.Trod enc Try.prog W b0 spare held 65 v d p) : ∃ x : Movement_, ARep W (fun b => b < W.heap.size) (fun _ _ => none) (lks []) v (.agg [.d (.v (.string x.Name)), .d (.sl (List.map cArbor_ x.Works.Arbors)), .d (.sl (List.map cMesh_ x.Works.Meshes)), .d (.v (.int .i64 x.Minute)), .d (.v (.int .i64 x.Hour)), .d (.v (.int .i64 x.Escape)), .d (.v (.int .i64 x.Teeth)), .d (.v (.int .i64 x.Beats)), .d (.v (.string x.Calendar.Name)), .d (.sl (List.map cMonth_ x.Calendar.Months)), .d (.sl (List.map cLeapRule_ x.Calendar.Rules)), .d (.v (.int .i64 x.Calendar.Week)), .d (.sl (List.map cI x.Cam)), .d (.v (.int .i64 x.Strike))]) ∧ okMovement_ x := by
  obtain ⟨cs, rfl, hsz⟩ := okWide_struct Try.underlying65 hv
  obtain ⟨fuel, hf⟩ := h
  obtain ⟨x, hr, hok⟩ := rd_65 hf
  exact ⟨x, agg_rep (ds := cMovement_ x) (by simpa [Value.cells] using hr), hok⟩
theorem open_85 {H : Type} {enc : TypeId × Value → H} {W : World} {b0 base : Nat} {spare : Nat → Bool} {held : Bool} {v : Value} {d : DataW H} {p : List MemPlace} (hv : Value.okWide Try.prog W .any base 85 v) (h : DataW.Trod enc Try.prog W b0 spare held 85 v d p) : ∃ x : Sim_, ARep W (fun b => b < W.heap.size) (fun _ _ => none) (lks []) v (.agg [.d (.v (.string x.Movement.Name)), .d (.sl (List.map cArbor_ x.Movement.Works.Arbors)), .d (.sl (List.map cMesh_ x.Movement.Works.Meshes)), .d (.v (.int .i64 x.Movement.Minute)), .d (.v (.int .i64 x.Movement.Hour)), .d (.v (.int .i64 x.Movement.Escape)), .d (.v (.int .i64 x.Movement.Teeth)), .d (.v (.int .i64 x.Movement.Beats)), .d (.v (.string x.Movement.Calendar.Name)), .d (.sl (List.map cMonth_ x.Movement.Calendar.Months)), .d (.sl (List.map cLeapRule_ x.Movement.Calendar.Rules)), .d (.v (.int .i64 x.Movement.Calendar.Week)), .d (.sl (List.map cI x.Movement.Cam)), .d (.v (.int .i64 x.Movement.Strike)), .d (.v (.int .i64 x.Start.Year)), .d (.v (.int .i64 x.Start.Month)), .d (.v (.int .i64 x.Start.Day)), .d (.v (.int .i64 x.First)), .d (.v (.int .i64 x.Clock)), .d (.sl (List.map cI x.Dial.Cam)), .d (.v (.int .i64 x.Dial.Months)), .d (.v (.int .i64 x.Dial.Teeth)), .d (.v (.int .i64 x.Dial.At)), .d (.v (.int .i64 x.Dial.Day)), .d (.v (.int .i64 x.Dial.Week)), .d (.v (.int .i64 x.Dial.Weekday))]) ∧ okSim_ x := by
  obtain ⟨cs, rfl, hsz⟩ := okWide_struct Try.underlying85 hv
  obtain ⟨fuel, hf⟩ := h
  obtain ⟨x, hr, hok⟩ := rd_85 hf
  exact ⟨x, agg_rep (ds := cSim_ x) (by simpa [Value.cells] using hr), hok⟩
theorem open_95 {H : Type} {enc : TypeId × Value → H} {W : World} {b0 base : Nat} {spare : Nat → Bool} {held : Bool} {v : Value} {d : DataW H} {p : List MemPlace} (hv : Value.okWide Try.prog W .any base 95 v) (h : DataW.Trod enc Try.prog W b0 spare held 95 v d p) : ∃ x : Desk_, ARep W (fun b => b < W.heap.size) (fun _ _ => none) (lks []) v (.agg [.d (.v (.string x.Sim.Movement.Name)), .d (.sl (List.map cArbor_ x.Sim.Movement.Works.Arbors)), .d (.sl (List.map cMesh_ x.Sim.Movement.Works.Meshes)), .d (.v (.int .i64 x.Sim.Movement.Minute)), .d (.v (.int .i64 x.Sim.Movement.Hour)), .d (.v (.int .i64 x.Sim.Movement.Escape)), .d (.v (.int .i64 x.Sim.Movement.Teeth)), .d (.v (.int .i64 x.Sim.Movement.Beats)), .d (.v (.string x.Sim.Movement.Calendar.Name)), .d (.sl (List.map cMonth_ x.Sim.Movement.Calendar.Months)), .d (.sl (List.map cLeapRule_ x.Sim.Movement.Calendar.Rules)), .d (.v (.int .i64 x.Sim.Movement.Calendar.Week)), .d (.sl (List.map cI x.Sim.Movement.Cam)), .d (.v (.int .i64 x.Sim.Movement.Strike)), .d (.v (.int .i64 x.Sim.Start.Year)), .d (.v (.int .i64 x.Sim.Start.Month)), .d (.v (.int .i64 x.Sim.Start.Day)), .d (.v (.int .i64 x.Sim.First)), .d (.v (.int .i64 x.Sim.Clock)), .d (.sl (List.map cI x.Sim.Dial.Cam)), .d (.v (.int .i64 x.Sim.Dial.Months)), .d (.v (.int .i64 x.Sim.Dial.Teeth)), .d (.v (.int .i64 x.Sim.Dial.At)), .d (.v (.int .i64 x.Sim.Dial.Day)), .d (.v (.int .i64 x.Sim.Dial.Week)), .d (.v (.int .i64 x.Sim.Dial.Weekday))]) ∧ okDesk_ x := by
  obtain ⟨cs, rfl, hsz⟩ := okWide_struct Try.underlying95 hv
  obtain ⟨fuel, hf⟩ := h
  obtain ⟨x, hr, hok⟩ := rd_95 hf
  exact ⟨x, agg_rep (ds := cDesk_ x) (by simpa [Value.cells] using hr), hok⟩
end Go.Proofs.Ytkgeenglafchhaa
