/- arguments -/
import Derived.Test.YtkgeenglafchhaaDoorXOK
import Derived.Test.YtkgeenglafchhaaDoorProg
namespace Go.Proofs.YtkgeenglafchhaaDoor
open Go.ChangeShapes Go.WideShapes Go.ChangeAt Go.RowKit Go.Deep
set_option linter.unusedVariables false
set_option maxRecDepth 100000
set_option maxHeartbeats 2000000
theorem lst2 {α : Type} (l : List α) (h : l.length = 2) : ∃ a0 a1, l = [a0, a1] := by
  match l, h with
  | [a0, a1], _ => exact ⟨a0, a1, rfl⟩
theorem lst3 {α : Type} (l : List α) (h : l.length = 3) : ∃ a0 a1 a2, l = [a0, a1, a2] := by
  match l, h with
  | [a0, a1, a2], _ => exact ⟨a0, a1, a2, rfl⟩
theorem rd_2 {H : Type} {enc : TypeId × Value → H} {W : World} {b0 : Nat} {spare : Nat → Bool} {held : Bool} {fuel : Nat} {cs : List Value} {x : DataW H × List MemPlace} (h : DataW.trod enc Tryd.prog W b0 spare held fuel 2 cs = some x) : ∃ v : Int, RepL W cs (cI v) ∧ osI v := by
  obtain ⟨z, rfl, _, hw⟩ := DataW.trod_int Tryd.underlying2 h
  exact ⟨z, repL_cons (repL_int _ _) repL_nil, by simpa [osI, Lit.wf, IntKind.min, IntKind.max, IntKind.bits, IntKind.signed] using hw⟩
theorem rd_24 {H : Type} {enc : TypeId × Value → H} {W : World} {b0 : Nat} {spare : Nat → Bool} {held : Bool} {fuel : Nat} {cs : List Value} {x : DataW H × List MemPlace} (h : DataW.trod enc Tryd.prog W b0 spare held fuel 24 cs = some x) : ∃ v : List Int, RepL W cs ((cL cI) v) ∧ (osL osI) v := by
  obtain ⟨v, hv⟩ : ∃ v, cs = [v] := sl_one (t := 24) Tryd.underlying24 h
  subst hv
  obtain ⟨xs, hr, hm, hok⟩ := sliceX cI osI 1 (fun _ => rfl) (by omega) Tryd.underlying24 (by kernel_rfl) (fun fuel cs x h => rd_2 h) ⟨_, _, h⟩
  exact ⟨xs, repL_cons hr repL_nil, hm, hok⟩
theorem rd_26 {H : Type} {enc : TypeId × Value → H} {W : World} {b0 : Nat} {spare : Nat → Bool} {held : Bool} {fuel : Nat} {cs : List Value} {x : DataW H × List MemPlace} (h : DataW.trod enc Tryd.prog W b0 spare held fuel 26 cs = some x) : ∃ v : Divider_, RepL W cs (cDivider_ v) ∧ okDivider_ v := by
  obtain ⟨a0, a1, rfl⟩ := lst2 cs ((cellsR Tryd.underlying26 h).trans (by kernel_rfl))
  obtain ⟨n0, y0, h0⟩ := fieldR Tryd.underlying26 h 0 2 [a0] (by kernel_rfl)
  obtain ⟨v0, r0, o0⟩ := rd_2 h0
  obtain ⟨n1, y1, h1⟩ := fieldR Tryd.underlying26 h 1 24 [a1] (by kernel_rfl)
  obtain ⟨v1, r1, o1⟩ := rd_24 h1
  exact ⟨⟨v0, v1⟩, (repL_app r0 (repL_app r1 repL_nil)), ⟨o0, o1⟩⟩
theorem rd_28 {H : Type} {enc : TypeId × Value → H} {W : World} {b0 : Nat} {spare : Nat → Bool} {held : Bool} {fuel : Nat} {cs : List Value} {x : DataW H × List MemPlace} (h : DataW.trod enc Tryd.prog W b0 spare held fuel 28 cs = some x) : ∃ v : Index_, RepL W cs (cIndex_ v) ∧ okIndex_ v := by
  obtain ⟨a0, a1, a2, rfl⟩ := lst3 cs ((cellsR Tryd.underlying28 h).trans (by kernel_rfl))
  obtain ⟨n0, y0, h0⟩ := fieldR Tryd.underlying28 h 0 2 [a0] (by kernel_rfl)
  obtain ⟨v0, r0, o0⟩ := rd_2 h0
  obtain ⟨n1, y1, h1⟩ := fieldR Tryd.underlying28 h 1 2 [a1] (by kernel_rfl)
  obtain ⟨v1, r1, o1⟩ := rd_2 h1
  obtain ⟨n2, y2, h2⟩ := fieldR Tryd.underlying28 h 2 2 [a2] (by kernel_rfl)
  obtain ⟨v2, r2, o2⟩ := rd_2 h2
  exact ⟨⟨v0, v1, v2⟩, (repL_app r0 (repL_app r1 (repL_app r2 repL_nil))), ⟨o0, o1, o2⟩⟩
theorem open_26 {H : Type} {enc : TypeId × Value → H} {W : World} {b0 base : Nat} {spare : Nat → Bool} {held : Bool} {v : Value} {d : DataW H} {p : List MemPlace} (hv : Value.okWide Tryd.prog W .any base 26 v) (h : DataW.Trod enc Tryd.prog W b0 spare held 26 v d p) : ∃ x : Divider_, ARep W (fun b => b < W.heap.size) (fun _ _ => none) (lks []) v (.agg [.d (.v (.int .i64 x.Worm)), .d (.sl (List.map cI x.Circles))]) ∧ okDivider_ x := by
  obtain ⟨cs, rfl, hsz⟩ := okWide_struct Tryd.underlying26 hv
  obtain ⟨fuel, hf⟩ := h
  obtain ⟨x, hr, hok⟩ := rd_26 hf
  exact ⟨x, agg_rep (ds := cDivider_ x) (by simpa [Value.cells] using hr), hok⟩
theorem open_28 {H : Type} {enc : TypeId × Value → H} {W : World} {b0 base : Nat} {spare : Nat → Bool} {held : Bool} {v : Value} {d : DataW H} {p : List MemPlace} (hv : Value.okWide Tryd.prog W .any base 28 v) (h : DataW.Trod enc Tryd.prog W b0 spare held 28 v d p) : ∃ x : Index_, ARep W (fun b => b < W.heap.size) (fun _ _ => none) (lks []) v (.agg [.d (.v (.int .i64 x.Turns)), .d (.v (.int .i64 x.Holes)), .d (.v (.int .i64 x.Circle))]) ∧ okIndex_ x := by
  obtain ⟨cs, rfl, hsz⟩ := okWide_struct Tryd.underlying28 hv
  obtain ⟨fuel, hf⟩ := h
  obtain ⟨x, hr, hok⟩ := rd_28 hf
  exact ⟨x, agg_rep (ds := cIndex_ x) (by simpa [Value.cells] using hr), hok⟩
end Go.Proofs.YtkgeenglafchhaaDoor
