/- arguments -/
import Derived.Test.YtjhadibjjldpdaaGreatXOK
import Derived.Test.YtjhadibjjldpdaaGreatProg
namespace Go.Proofs.YtjhadibjjldpdaaGreat
open Go.ChangeShapes Go.WideShapes Go.ChangeAt Go.RowKit Go.Deep
set_option linter.unusedVariables false
set_option maxRecDepth 100000
set_option maxHeartbeats 2000000
theorem lst2 {α : Type} (l : List α) (h : l.length = 2) : ∃ a0 a1, l = [a0, a1] := by
  match l, h with
  | [a0, a1], _ => exact ⟨a0, a1, rfl⟩
theorem lst3 {α : Type} (l : List α) (h : l.length = 3) : ∃ a0 a1 a2, l = [a0, a1, a2] := by
  match l, h with
  | [a0, a1, a2], _ => exact ⟨a0, a1, a2, rfl⟩
theorem lst4 {α : Type} (l : List α) (h : l.length = 4) : ∃ a0 a1 a2 a3, l = [a0, a1, a2, a3] := by
  match l, h with
  | [a0, a1, a2, a3], _ => exact ⟨a0, a1, a2, a3, rfl⟩
theorem lst7 {α : Type} (l : List α) (h : l.length = 7) : ∃ a0 a1 a2 a3 a4 a5 a6, l = [a0, a1, a2, a3, a4, a5, a6] := by
  match l, h with
  | [a0, a1, a2, a3, a4, a5, a6], _ => exact ⟨a0, a1, a2, a3, a4, a5, a6, rfl⟩
theorem lst14 {α : Type} (l : List α) (h : l.length = 14) : ∃ a0 a1 a2 a3 a4 a5 a6 a7 a8 a9 a10 a11 a12 a13, l = [a0, a1, a2, a3, a4, a5, a6, a7, a8, a9, a10, a11, a12, a13] := by
  match l, h with
  | [a0, a1, a2, a3, a4, a5, a6, a7, a8, a9, a10, a11, a12, a13], _ => exact ⟨a0, a1, a2, a3, a4, a5, a6, a7, a8, a9, a10, a11, a12, a13, rfl⟩
theorem lst26 {α : Type} (l : List α) (h : l.length = 26) : ∃ a0 a1 a2 a3 a4 a5 a6 a7 a8 a9 a10 a11 a12 a13 a14 a15 a16 a17 a18 a19 a20 a21 a22 a23 a24 a25, l = [a0, a1, a2, a3, a4, a5, a6, a7, a8, a9, a10, a11, a12, a13, a14, a15, a16, a17, a18, a19, a20, a21, a22, a23, a24, a25] := by
  match l, h with
  | [a0, a1, a2, a3, a4, a5, a6, a7, a8, a9, a10, a11, a12, a13, a14, a15, a16, a17, a18, a19, a20, a21, a22, a23, a24, a25], _ => exact ⟨a0, a1, a2, a3, a4, a5, a6, a7, a8, a9, a10, a11, a12, a13, a14, a15, a16, a17, a18, a19, a20, a21, a22, a23, a24, a25, rfl⟩
theorem rd_9 {H : Type} {enc : TypeId × Value → H} {W : World} {b0 : Nat} {spare : Nat → Bool} {held : Bool} {fuel : Nat} {cs : List Value} {x : DataW H × List MemPlace} (h : DataW.trod enc Tryz.prog W b0 spare held fuel 9 cs = some x) : ∃ v : ByteArray, RepL W cs (cS v) ∧ osS v := by
  obtain ⟨z, rfl, _, hw⟩ := DataW.trod_string Tryz.underlying9 h
  exact ⟨z, repL_cons (repL_str _) repL_nil, by unfold osS; unfold maxLen at hw; exact hw⟩
theorem rd_2 {H : Type} {enc : TypeId × Value → H} {W : World} {b0 : Nat} {spare : Nat → Bool} {held : Bool} {fuel : Nat} {cs : List Value} {x : DataW H × List MemPlace} (h : DataW.trod enc Tryz.prog W b0 spare held fuel 2 cs = some x) : ∃ v : Int, RepL W cs (cI v) ∧ osI v := by
  obtain ⟨z, rfl, _, hw⟩ := DataW.trod_int Tryz.underlying2 h
  exact ⟨z, repL_cons (repL_int _ _) repL_nil, by simpa [osI, Lit.wf, IntKind.min, IntKind.max, IntKind.bits, IntKind.signed] using hw⟩
theorem rd_30 {H : Type} {enc : TypeId × Value → H} {W : World} {b0 : Nat} {spare : Nat → Bool} {held : Bool} {fuel : Nat} {cs : List Value} {x : DataW H × List MemPlace} (h : DataW.trod enc Tryz.prog W b0 spare held fuel 30 cs = some x) : ∃ v : List Int, RepL W cs ((cL cI) v) ∧ (osL osI) v := by
  obtain ⟨v, hv⟩ : ∃ v, cs = [v] := sl_one (t := 30) Tryz.underlying30 h
  subst hv
  obtain ⟨xs, hr, hm, hok⟩ := sliceX cI osI 1 (fun _ => rfl) (by omega) Tryz.underlying30 (by kernel_rfl) (fun fuel cs x h => rd_2 h) ⟨_, _, h⟩
  exact ⟨xs, repL_cons hr repL_nil, hm, hok⟩
theorem rd_150 {H : Type} {enc : TypeId × Value → H} {W : World} {b0 : Nat} {spare : Nat → Bool} {held : Bool} {fuel : Nat} {cs : List Value} {x : DataW H × List MemPlace} (h : DataW.trod enc Tryz.prog W b0 spare held fuel 150 cs = some x) : ∃ v : Arbor_, RepL W cs (cArbor_ v) ∧ okArbor_ v := by
  obtain ⟨a0, a1, rfl⟩ := lst2 cs ((cellsR Tryz.underlying150 h).trans (by kernel_rfl))
  obtain ⟨n0, y0, h0⟩ := fieldR Tryz.underlying150 h 0 9 [a0] (by kernel_rfl)
  obtain ⟨v0, r0, o0⟩ := rd_9 h0
  obtain ⟨n1, y1, h1⟩ := fieldR Tryz.underlying150 h 1 30 [a1] (by kernel_rfl)
  obtain ⟨v1, r1, o1⟩ := rd_30 h1
  exact ⟨⟨v0, v1⟩, (repL_app r0 (repL_app r1 repL_nil)), ⟨o0, o1⟩⟩
theorem rd_22 {H : Type} {enc : TypeId × Value → H} {W : World} {b0 : Nat} {spare : Nat → Bool} {held : Bool} {fuel : Nat} {cs : List Value} {x : DataW H × List MemPlace} (h : DataW.trod enc Tryz.prog W b0 spare held fuel 22 cs = some x) : ∃ v : List Arbor_, RepL W cs ((cL cArbor_) v) ∧ (osL okArbor_) v := by
  obtain ⟨v, hv⟩ : ∃ v, cs = [v] := sl_one (t := 22) Tryz.underlying22 h
  subst hv
  obtain ⟨xs, hr, hm, hok⟩ := sliceX cArbor_ okArbor_ 2 (fun _ => rfl) (by omega) Tryz.underlying22 (by kernel_rfl) (fun fuel cs x h => rd_150 h) ⟨_, _, h⟩
  exact ⟨xs, repL_cons hr repL_nil, hm, hok⟩
theorem rd_171 {H : Type} {enc : TypeId × Value → H} {W : World} {b0 : Nat} {spare : Nat → Bool} {held : Bool} {fuel : Nat} {cs : List Value} {x : DataW H × List MemPlace} (h : DataW.trod enc Tryz.prog W b0 spare held fuel 171 cs = some x) : ∃ v : Mesh_, RepL W cs (cMesh_ v) ∧ okMesh_ v := by
  obtain ⟨a0, a1, a2, a3, rfl⟩ := lst4 cs ((cellsR Tryz.underlying171 h).trans (by kernel_rfl))
  obtain ⟨n0, y0, h0⟩ := fieldR Tryz.underlying171 h 0 2 [a0] (by kernel_rfl)
  obtain ⟨v0, r0, o0⟩ := rd_2 h0
  obtain ⟨n1, y1, h1⟩ := fieldR Tryz.underlying171 h 1 2 [a1] (by kernel_rfl)
  obtain ⟨v1, r1, o1⟩ := rd_2 h1
  obtain ⟨n2, y2, h2⟩ := fieldR Tryz.underlying171 h 2 2 [a2] (by kernel_rfl)
  obtain ⟨v2, r2, o2⟩ := rd_2 h2
  obtain ⟨n3, y3, h3⟩ := fieldR Tryz.underlying171 h 3 2 [a3] (by kernel_rfl)
  obtain ⟨v3, r3, o3⟩ := rd_2 h3
  exact ⟨⟨v0, v1, v2, v3⟩, (repL_app r0 (repL_app r1 (repL_app r2 (repL_app r3 repL_nil)))), ⟨o0, o1, o2, o3⟩⟩
theorem rd_23 {H : Type} {enc : TypeId × Value → H} {W : World} {b0 : Nat} {spare : Nat → Bool} {held : Bool} {fuel : Nat} {cs : List Value} {x : DataW H × List MemPlace} (h : DataW.trod enc Tryz.prog W b0 spare held fuel 23 cs = some x) : ∃ v : List Mesh_, RepL W cs ((cL cMesh_) v) ∧ (osL okMesh_) v := by
  obtain ⟨v, hv⟩ : ∃ v, cs = [v] := sl_one (t := 23) Tryz.underlying23 h
  subst hv
  obtain ⟨xs, hr, hm, hok⟩ := sliceX cMesh_ okMesh_ 4 (fun _ => rfl) (by omega) Tryz.underlying23 (by kernel_rfl) (fun fuel cs x h => rd_171 h) ⟨_, _, h⟩
  exact ⟨xs, repL_cons hr repL_nil, hm, hok⟩
theorem rd_25 {H : Type} {enc : TypeId × Value → H} {W : World} {b0 : Nat} {spare : Nat → Bool} {held : Bool} {fuel : Nat} {cs : List Value} {x : DataW H × List MemPlace} (h : DataW.trod enc Tryz.prog W b0 spare held fuel 25 cs = some x) : ∃ v : Works_, RepL W cs (cWorks_ v) ∧ okWorks_ v := by
  obtain ⟨a0, a1, rfl⟩ := lst2 cs ((cellsR Tryz.underlying25 h).trans (by kernel_rfl))
  obtain ⟨n0, y0, h0⟩ := fieldR Tryz.underlying25 h 0 22 [a0] (by kernel_rfl)
  obtain ⟨v0, r0, o0⟩ := rd_22 h0
  obtain ⟨n1, y1, h1⟩ := fieldR Tryz.underlying25 h 1 23 [a1] (by kernel_rfl)
  obtain ⟨v1, r1, o1⟩ := rd_23 h1
  exact ⟨⟨v0, v1⟩, (repL_app r0 (repL_app r1 repL_nil)), ⟨o0, o1⟩⟩
theorem rd_153 {H : Type} {enc : TypeId × Value → H} {W : World} {b0 : Nat} {spare : Nat → Bool} {held : Bool} {fuel : Nat} {cs : List Value} {x : DataW H × List MemPlace} (h : DataW.trod enc Tryz.prog W b0 spare held fuel 153 cs = some x) : ∃ v : Month_, RepL W cs (cMonth_ v) ∧ okMonth_ v := by
  obtain ⟨a0, a1, a2, rfl⟩ := lst3 cs ((cellsR Tryz.underlying153 h).trans (by kernel_rfl))
  obtain ⟨n0, y0, h0⟩ := fieldR Tryz.underlying153 h 0 9 [a0] (by kernel_rfl)
  obtain ⟨v0, r0, o0⟩ := rd_9 h0
  obtain ⟨n1, y1, h1⟩ := fieldR Tryz.underlying153 h 1 2 [a1] (by kernel_rfl)
  obtain ⟨v1, r1, o1⟩ := rd_2 h1
  obtain ⟨n2, y2, h2⟩ := fieldR Tryz.underlying153 h 2 2 [a2] (by kernel_rfl)
  obtain ⟨v2, r2, o2⟩ := rd_2 h2
  exact ⟨⟨v0, v1, v2⟩, (repL_app r0 (repL_app r1 (repL_app r2 repL_nil))), ⟨o0, o1, o2⟩⟩
theorem rd_26 {H : Type} {enc : TypeId × Value → H} {W : World} {b0 : Nat} {spare : Nat → Bool} {held : Bool} {fuel : Nat} {cs : List Value} {x : DataW H × List MemPlace} (h : DataW.trod enc Tryz.prog W b0 spare held fuel 26 cs = some x) : ∃ v : List Month_, RepL W cs ((cL cMonth_) v) ∧ (osL okMonth_) v := by
  obtain ⟨v, hv⟩ : ∃ v, cs = [v] := sl_one (t := 26) Tryz.underlying26 h
  subst hv
  obtain ⟨xs, hr, hm, hok⟩ := sliceX cMonth_ okMonth_ 3 (fun _ => rfl) (by omega) Tryz.underlying26 (by kernel_rfl) (fun fuel cs x h => rd_153 h) ⟨_, _, h⟩
  exact ⟨xs, repL_cons hr repL_nil, hm, hok⟩
theorem rd_4 {H : Type} {enc : TypeId × Value → H} {W : World} {b0 : Nat} {spare : Nat → Bool} {held : Bool} {fuel : Nat} {cs : List Value} {x : DataW H × List MemPlace} (h : DataW.trod enc Tryz.prog W b0 spare held fuel 4 cs = some x) : ∃ v : Bool, RepL W cs (cB v) ∧ (fun _ => True) v := by
  obtain ⟨z, rfl, _⟩ := DataW.trod_bool Tryz.underlying4 h
  exact ⟨z, repL_cons (repL_bool _) repL_nil, trivial⟩
theorem rd_177 {H : Type} {enc : TypeId × Value → H} {W : World} {b0 : Nat} {spare : Nat → Bool} {held : Bool} {fuel : Nat} {cs : List Value} {x : DataW H × List MemPlace} (h : DataW.trod enc Tryz.prog W b0 spare held fuel 177 cs = some x) : ∃ v : LeapRule_, RepL W cs (cLeapRule_ v) ∧ okLeapRule_ v := by
  obtain ⟨a0, a1, a2, rfl⟩ := lst3 cs ((cellsR Tryz.underlying177 h).trans (by kernel_rfl))
  obtain ⟨n0, y0, h0⟩ := fieldR Tryz.underlying177 h 0 2 [a0] (by kernel_rfl)
  obtain ⟨v0, r0, o0⟩ := rd_2 h0
  obtain ⟨n1, y1, h1⟩ := fieldR Tryz.underlying177 h 1 2 [a1] (by kernel_rfl)
  obtain ⟨v1, r1, o1⟩ := rd_2 h1
  obtain ⟨n2, y2, h2⟩ := fieldR Tryz.underlying177 h 2 4 [a2] (by kernel_rfl)
  obtain ⟨v2, r2, o2⟩ := rd_4 h2
  exact ⟨⟨v0, v1, v2⟩, (repL_app r0 (repL_app r1 (repL_app r2 repL_nil))), ⟨o0, o1, o2⟩⟩
theorem rd_27 {H : Type} {enc : TypeId × Value → H} {W : World} {b0 : Nat} {spare : Nat → Bool} {held : Bool} {fuel : Nat} {cs : List Value} {x : DataW H × List MemPlace} (h : DataW.trod enc Tryz.prog W b0 spare held fuel 27 cs = some x) : ∃ v : List LeapRule_, RepL W cs ((cL cLeapRule_) v) ∧ (osL okLeapRule_) v := by
  obtain ⟨v, hv⟩ : ∃ v, cs = [v] := sl_one (t := 27) Tryz.underlying27 h
  subst hv
  obtain ⟨xs, hr, hm, hok⟩ := sliceX cLeapRule_ okLeapRule_ 3 (fun _ => rfl) (by omega) Tryz.underlying27 (by kernel_rfl) (fun fuel cs x h => rd_177 h) ⟨_, _, h⟩
  exact ⟨xs, repL_cons hr repL_nil, hm, hok⟩
theorem rd_29 {H : Type} {enc : TypeId × Value → H} {W : World} {b0 : Nat} {spare : Nat → Bool} {held : Bool} {fuel : Nat} {cs : List Value} {x : DataW H × List MemPlace} (h : DataW.trod enc Tryz.prog W b0 spare held fuel 29 cs = some x) : ∃ v : Calendar_, RepL W cs (cCalendar_ v) ∧ okCalendar_ v := by
  obtain ⟨a0, a1, a2, a3, rfl⟩ := lst4 cs ((cellsR Tryz.underlying29 h).trans (by kernel_rfl))
  obtain ⟨n0, y0, h0⟩ := fieldR Tryz.underlying29 h 0 9 [a0] (by kernel_rfl)
  obtain ⟨v0, r0, o0⟩ := rd_9 h0
  obtain ⟨n1, y1, h1⟩ := fieldR Tryz.underlying29 h 1 26 [a1] (by kernel_rfl)
  obtain ⟨v1, r1, o1⟩ := rd_26 h1
  obtain ⟨n2, y2, h2⟩ := fieldR Tryz.underlying29 h 2 27 [a2] (by kernel_rfl)
  obtain ⟨v2, r2, o2⟩ := rd_27 h2
  obtain ⟨n3, y3, h3⟩ := fieldR Tryz.underlying29 h 3 2 [a3] (by kernel_rfl)
  obtain ⟨v3, r3, o3⟩ := rd_2 h3
  exact ⟨⟨v0, v1, v2, v3⟩, (repL_app r0 (repL_app r1 (repL_app r2 (repL_app r3 repL_nil)))), ⟨o0, o1, o2, o3⟩⟩
theorem rd_32 {H : Type} {enc : TypeId × Value → H} {W : World} {b0 : Nat} {spare : Nat → Bool} {held : Bool} {fuel : Nat} {cs : List Value} {x : DataW H × List MemPlace} (h : DataW.trod enc Tryz.prog W b0 spare held fuel 32 cs = some x) : ∃ v : Movement_, RepL W cs (cMovement_ v) ∧ okMovement_ v := by
  obtain ⟨a0, a1, a2, a3, a4, a5, a6, a7, a8, a9, a10, a11, a12, a13, rfl⟩ := lst14 cs ((cellsR Tryz.underlying32 h).trans (by kernel_rfl))
  obtain ⟨n0, y0, h0⟩ := fieldR Tryz.underlying32 h 0 9 [a0] (by kernel_rfl)
  obtain ⟨v0, r0, o0⟩ := rd_9 h0
  obtain ⟨n1, y1, h1⟩ := fieldR Tryz.underlying32 h 1 25 [a1, a2] (by kernel_rfl)
  obtain ⟨v1, r1, o1⟩ := rd_25 h1
  obtain ⟨n2, y2, h2⟩ := fieldR Tryz.underlying32 h 2 2 [a3] (by kernel_rfl)
  obtain ⟨v2, r2, o2⟩ := rd_2 h2
  obtain ⟨n3, y3, h3⟩ := fieldR Tryz.underlying32 h 3 2 [a4] (by kernel_rfl)
  obtain ⟨v3, r3, o3⟩ := rd_2 h3
  obtain ⟨n4, y4, h4⟩ := fieldR Tryz.underlying32 h 4 2 [a5] (by kernel_rfl)
  obtain ⟨v4, r4, o4⟩ := rd_2 h4
  obtain ⟨n5, y5, h5⟩ := fieldR Tryz.underlying32 h 5 2 [a6] (by kernel_rfl)
  obtain ⟨v5, r5, o5⟩ := rd_2 h5
  obtain ⟨n6, y6, h6⟩ := fieldR Tryz.underlying32 h 6 2 [a7] (by kernel_rfl)
  obtain ⟨v6, r6, o6⟩ := rd_2 h6
  obtain ⟨n7, y7, h7⟩ := fieldR Tryz.underlying32 h 7 29 [a8, a9, a10, a11] (by kernel_rfl)
  obtain ⟨v7, r7, o7⟩ := rd_29 h7
  obtain ⟨n8, y8, h8⟩ := fieldR Tryz.underlying32 h 8 30 [a12] (by kernel_rfl)
  obtain ⟨v8, r8, o8⟩ := rd_30 h8
  obtain ⟨n9, y9, h9⟩ := fieldR Tryz.underlying32 h 9 2 [a13] (by kernel_rfl)
  obtain ⟨v9, r9, o9⟩ := rd_2 h9
  exact ⟨⟨v0, v1, v2, v3, v4, v5, v6, v7, v8, v9⟩, (repL_app r0 (repL_app r1 (repL_app r2 (repL_app r3 (repL_app r4 (repL_app r5 (repL_app r6 (repL_app r7 (repL_app r8 (repL_app r9 repL_nil)))))))))), ⟨o0, o1, o2, o3, o4, o5, o6, o7, o8, o9⟩⟩
theorem rd_53 {H : Type} {enc : TypeId × Value → H} {W : World} {b0 : Nat} {spare : Nat → Bool} {held : Bool} {fuel : Nat} {cs : List Value} {x : DataW H × List MemPlace} (h : DataW.trod enc Tryz.prog W b0 spare held fuel 53 cs = some x) : ∃ v : Date_, RepL W cs (cDate_ v) ∧ okDate_ v := by
  obtain ⟨a0, a1, a2, rfl⟩ := lst3 cs ((cellsR Tryz.underlying53 h).trans (by kernel_rfl))
  obtain ⟨n0, y0, h0⟩ := fieldR Tryz.underlying53 h 0 2 [a0] (by kernel_rfl)
  obtain ⟨v0, r0, o0⟩ := rd_2 h0
  obtain ⟨n1, y1, h1⟩ := fieldR Tryz.underlying53 h 1 2 [a1] (by kernel_rfl)
  obtain ⟨v1, r1, o1⟩ := rd_2 h1
  obtain ⟨n2, y2, h2⟩ := fieldR Tryz.underlying53 h 2 2 [a2] (by kernel_rfl)
  obtain ⟨v2, r2, o2⟩ := rd_2 h2
  exact ⟨⟨v0, v1, v2⟩, (repL_app r0 (repL_app r1 (repL_app r2 repL_nil))), ⟨o0, o1, o2⟩⟩
theorem rd_55 {H : Type} {enc : TypeId × Value → H} {W : World} {b0 : Nat} {spare : Nat → Bool} {held : Bool} {fuel : Nat} {cs : List Value} {x : DataW H × List MemPlace} (h : DataW.trod enc Tryz.prog W b0 spare held fuel 55 cs = some x) : ∃ v : Perpetual_, RepL W cs (cPerpetual_ v) ∧ okPerpetual_ v := by
  obtain ⟨a0, a1, a2, a3, a4, a5, a6, rfl⟩ := lst7 cs ((cellsR Tryz.underlying55 h).trans (by kernel_rfl))
  obtain ⟨n0, y0, h0⟩ := fieldR Tryz.underlying55 h 0 30 [a0] (by kernel_rfl)
  obtain ⟨v0, r0, o0⟩ := rd_30 h0
  obtain ⟨n1, y1, h1⟩ := fieldR Tryz.underlying55 h 1 2 [a1] (by kernel_rfl)
  obtain ⟨v1, r1, o1⟩ := rd_2 h1
  obtain ⟨n2, y2, h2⟩ := fieldR Tryz.underlying55 h 2 2 [a2] (by kernel_rfl)
  obtain ⟨v2, r2, o2⟩ := rd_2 h2
  obtain ⟨n3, y3, h3⟩ := fieldR Tryz.underlying55 h 3 2 [a3] (by kernel_rfl)
  obtain ⟨v3, r3, o3⟩ := rd_2 h3
  obtain ⟨n4, y4, h4⟩ := fieldR Tryz.underlying55 h 4 2 [a4] (by kernel_rfl)
  obtain ⟨v4, r4, o4⟩ := rd_2 h4
  obtain ⟨n5, y5, h5⟩ := fieldR Tryz.underlying55 h 5 2 [a5] (by kernel_rfl)
  obtain ⟨v5, r5, o5⟩ := rd_2 h5
  obtain ⟨n6, y6, h6⟩ := fieldR Tryz.underlying55 h 6 2 [a6] (by kernel_rfl)
  obtain ⟨v6, r6, o6⟩ := rd_2 h6
  exact ⟨⟨v0, v1, v2, v3, v4, v5, v6⟩, (repL_app r0 (repL_app r1 (repL_app r2 (repL_app r3 (repL_app r4 (repL_app r5 (repL_app r6 repL_nil))))))), ⟨o0, o1, o2, o3, o4, o5, o6⟩⟩
theorem rd_57 {H : Type} {enc : TypeId × Value → H} {W : World} {b0 : Nat} {spare : Nat → Bool} {held : Bool} {fuel : Nat} {cs : List Value} {x : DataW H × List MemPlace} (h : DataW.trod enc Tryz.prog W b0 spare held fuel 57 cs = some x) : ∃ v : Sim_, RepL W cs (cSim_ v) ∧ okSim_ v := by
  obtain ⟨a0, a1, a2, a3, a4, a5, a6, a7, a8, a9, a10, a11, a12, a13, a14, a15, a16, a17, a18, a19, a20, a21, a22, a23, a24, a25, rfl⟩ := lst26 cs ((cellsR Tryz.underlying57 h).trans (by kernel_rfl))
  obtain ⟨n0, y0, h0⟩ := fieldR Tryz.underlying57 h 0 32 [a0, a1, a2, a3, a4, a5, a6, a7, a8, a9, a10, a11, a12, a13] (by kernel_rfl)
  obtain ⟨v0, r0, o0⟩ := rd_32 h0
  obtain ⟨n1, y1, h1⟩ := fieldR Tryz.underlying57 h 1 53 [a14, a15, a16] (by kernel_rfl)
  obtain ⟨v1, r1, o1⟩ := rd_53 h1
  obtain ⟨n2, y2, h2⟩ := fieldR Tryz.underlying57 h 2 2 [a17] (by kernel_rfl)
  obtain ⟨v2, r2, o2⟩ := rd_2 h2
  obtain ⟨n3, y3, h3⟩ := fieldR Tryz.underlying57 h 3 2 [a18] (by kernel_rfl)
  obtain ⟨v3, r3, o3⟩ := rd_2 h3
  obtain ⟨n4, y4, h4⟩ := fieldR Tryz.underlying57 h 4 55 [a19, a20, a21, a22, a23, a24, a25] (by kernel_rfl)
  obtain ⟨v4, r4, o4⟩ := rd_55 h4
  exact ⟨⟨v0, v1, v2, v3, v4⟩, (repL_app r0 (repL_app r1 (repL_app r2 (repL_app r3 (repL_app r4 repL_nil))))), ⟨o0, o1, o2, o3, o4⟩⟩
theorem open_32 {H : Type} {enc : TypeId × Value → H} {W : World} {b0 base : Nat} {spare : Nat → Bool} {held : Bool} {v : Value} {d : DataW H} {p : List MemPlace} (hv : Value.okWide Tryz.prog W .any base 32 v) (h : DataW.Trod enc Tryz.prog W b0 spare held 32 v d p) : ∃ x : Movement_, ARep W (fun b => b < W.heap.size) (fun _ _ => none) (lks []) v (.agg [.d (.v (.string x.Name)), .d (.sl (List.map cArbor_ x.Works.Arbors)), .d (.sl (List.map cMesh_ x.Works.Meshes)), .d (.v (.int .i64 x.Minute)), .d (.v (.int .i64 x.Hour)), .d (.v (.int .i64 x.Escape)), .d (.v (.int .i64 x.Teeth)), .d (.v (.int .i64 x.Beats)), .d (.v (.string x.Calendar.Name)), .d (.sl (List.map cMonth_ x.Calendar.Months)), .d (.sl (List.map cLeapRule_ x.Calendar.Rules)), .d (.v (.int .i64 x.Calendar.Week)), .d (.sl (List.map cI x.Cam)), .d (.v (.int .i64 x.Strike))]) ∧ okMovement_ x := by
  obtain ⟨cs, rfl, hsz⟩ := okWide_struct Tryz.underlying32 hv
  obtain ⟨fuel, hf⟩ := h
  obtain ⟨x, hr, hok⟩ := rd_32 hf
  exact ⟨x, agg_rep (ds := cMovement_ x) (by simpa [Value.cells] using hr), hok⟩
theorem open_57 {H : Type} {enc : TypeId × Value → H} {W : World} {b0 base : Nat} {spare : Nat → Bool} {held : Bool} {v : Value} {d : DataW H} {p : List MemPlace} (hv : Value.okWide Tryz.prog W .any base 57 v) (h : DataW.Trod enc Tryz.prog W b0 spare held 57 v d p) : ∃ x : Sim_, ARep W (fun b => b < W.heap.size) (fun _ _ => none) (lks []) v (.agg [.d (.v (.string x.Movement.Name)), .d (.sl (List.map cArbor_ x.Movement.Works.Arbors)), .d (.sl (List.map cMesh_ x.Movement.Works.Meshes)), .d (.v (.int .i64 x.Movement.Minute)), .d (.v (.int .i64 x.Movement.Hour)), .d (.v (.int .i64 x.Movement.Escape)), .d (.v (.int .i64 x.Movement.Teeth)), .d (.v (.int .i64 x.Movement.Beats)), .d (.v (.string x.Movement.Calendar.Name)), .d (.sl (List.map cMonth_ x.Movement.Calendar.Months)), .d (.sl (List.map cLeapRule_ x.Movement.Calendar.Rules)), .d (.v (.int .i64 x.Movement.Calendar.Week)), .d (.sl (List.map cI x.Movement.Cam)), .d (.v (.int .i64 x.Movement.Strike)), .d (.v (.int .i64 x.Start.Year)), .d (.v (.int .i64 x.Start.Month)), .d (.v (.int .i64 x.Start.Day)), .d (.v (.int .i64 x.First)), .d (.v (.int .i64 x.Clock)), .d (.sl (List.map cI x.Dial.Cam)), .d (.v (.int .i64 x.Dial.Months)), .d (.v (.int .i64 x.Dial.Teeth)), .d (.v (.int .i64 x.Dial.At)), .d (.v (.int .i64 x.Dial.Day)), .d (.v (.int .i64 x.Dial.Week)), .d (.v (.int .i64 x.Dial.Weekday))]) ∧ okSim_ x := by
  obtain ⟨cs, rfl, hsz⟩ := okWide_struct Tryz.underlying57 hv
  obtain ⟨fuel, hf⟩ := h
  obtain ⟨x, hr, hok⟩ := rd_57 hf
  exact ⟨x, agg_rep (ds := cSim_ x) (by simpa [Value.cells] using hr), hok⟩
end Go.Proofs.YtjhadibjjldpdaaGreat
