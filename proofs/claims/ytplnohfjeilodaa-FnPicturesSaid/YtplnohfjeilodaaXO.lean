/- arguments -/
import Derived.Test.YtplnohfjeilodaaXOK
import Derived.Test.YtplnohfjeilodaaProg
namespace Go.Proofs.Ytplnohfjeilodaa
open Go.ChangeShapes Go.WideShapes Go.ChangeAt Go.RowKit Go.Deep
set_option linter.unusedVariables false
set_option maxRecDepth 100000
set_option maxHeartbeats 2000000
theorem lst1 {α : Type} (l : List α) (h : l.length = 1) : ∃ a0, l = [a0] := by
  match l, h with
  | [a0], _ => exact ⟨a0, rfl⟩
theorem lst2 {α : Type} (l : List α) (h : l.length = 2) : ∃ a0 a1, l = [a0, a1] := by
  match l, h with
  | [a0, a1], _ => exact ⟨a0, a1, rfl⟩
theorem lst3 {α : Type} (l : List α) (h : l.length = 3) : ∃ a0 a1 a2, l = [a0, a1, a2] := by
  match l, h with
  | [a0, a1, a2], _ => exact ⟨a0, a1, a2, rfl⟩
theorem lst5 {α : Type} (l : List α) (h : l.length = 5) : ∃ a0 a1 a2 a3 a4, l = [a0, a1, a2, a3, a4] := by
  match l, h with
  | [a0, a1, a2, a3, a4], _ => exact ⟨a0, a1, a2, a3, a4, rfl⟩
theorem lst6 {α : Type} (l : List α) (h : l.length = 6) : ∃ a0 a1 a2 a3 a4 a5, l = [a0, a1, a2, a3, a4, a5] := by
  match l, h with
  | [a0, a1, a2, a3, a4, a5], _ => exact ⟨a0, a1, a2, a3, a4, a5, rfl⟩
theorem lst7 {α : Type} (l : List α) (h : l.length = 7) : ∃ a0 a1 a2 a3 a4 a5 a6, l = [a0, a1, a2, a3, a4, a5, a6] := by
  match l, h with
  | [a0, a1, a2, a3, a4, a5, a6], _ => exact ⟨a0, a1, a2, a3, a4, a5, a6, rfl⟩
theorem rd_2 {H : Type} {enc : TypeId × Value → H} {W : World} {b0 : Nat} {spare : Nat → Bool} {held : Bool} {fuel : Nat} {cs : List Value} {x : DataW H × List MemPlace} (h : DataW.trod enc Try.prog W b0 spare held fuel 2 cs = some x) : ∃ v : Int, RepL W cs (cI v) ∧ osI v := by
  obtain ⟨z, rfl, _, hw⟩ := DataW.trod_int Try.underlying2 h
  exact ⟨z, repL_cons (repL_int _ _) repL_nil, by simpa [osI, Lit.wf, IntKind.min, IntKind.max, IntKind.bits, IntKind.signed] using hw⟩
theorem rd_55 {H : Type} {enc : TypeId × Value → H} {W : World} {b0 : Nat} {spare : Nat → Bool} {held : Bool} {fuel : Nat} {cs : List Value} {x : DataW H × List MemPlace} (h : DataW.trod enc Try.prog W b0 spare held fuel 55 cs = some x) : ∃ v : Spot_, RepL W cs (cSpot_ v) ∧ okSpot_ v := by
  obtain ⟨a0, a1, rfl⟩ := lst2 cs ((cellsR Try.underlying55 h).trans (by kernel_rfl))
  obtain ⟨n0, y0, h0⟩ := fieldR Try.underlying55 h 0 2 [a0] (by kernel_rfl)
  obtain ⟨v0, r0, o0⟩ := rd_2 h0
  obtain ⟨n1, y1, h1⟩ := fieldR Try.underlying55 h 1 2 [a1] (by kernel_rfl)
  obtain ⟨v1, r1, o1⟩ := rd_2 h1
  exact ⟨⟨v0, v1⟩, (repL_app r0 (repL_app r1 repL_nil)), ⟨o0, o1⟩⟩
theorem rd_9 {H : Type} {enc : TypeId × Value → H} {W : World} {b0 : Nat} {spare : Nat → Bool} {held : Bool} {fuel : Nat} {cs : List Value} {x : DataW H × List MemPlace} (h : DataW.trod enc Try.prog W b0 spare held fuel 9 cs = some x) : ∃ v : ByteArray, RepL W cs (cS v) ∧ osS v := by
  obtain ⟨z, rfl, _, hw⟩ := DataW.trod_string Try.underlying9 h
  exact ⟨z, repL_cons (repL_str _) repL_nil, by unfold osS; unfold maxLen at hw; exact hw⟩
theorem rd_125 {H : Type} {enc : TypeId × Value → H} {W : World} {b0 : Nat} {spare : Nat → Bool} {held : Bool} {fuel : Nat} {cs : List Value} {x : DataW H × List MemPlace} (h : DataW.trod enc Try.prog W b0 spare held fuel 125 cs = some x) : ∃ v : Shape_, RepL W cs (cShape_ v) ∧ okShape_ v := by
  obtain ⟨a0, a1, a2, a3, a4, a5, a6, rfl⟩ := lst7 cs ((cellsR Try.underlying125 h).trans (by kernel_rfl))
  obtain ⟨n0, y0, h0⟩ := fieldR Try.underlying125 h 0 2 [a0] (by kernel_rfl)
  obtain ⟨v0, r0, o0⟩ := rd_2 h0
  obtain ⟨n1, y1, h1⟩ := fieldR Try.underlying125 h 1 55 [a1, a2] (by kernel_rfl)
  obtain ⟨v1, r1, o1⟩ := rd_55 h1
  obtain ⟨n2, y2, h2⟩ := fieldR Try.underlying125 h 2 55 [a3, a4] (by kernel_rfl)
  obtain ⟨v2, r2, o2⟩ := rd_55 h2
  obtain ⟨n3, y3, h3⟩ := fieldR Try.underlying125 h 3 2 [a5] (by kernel_rfl)
  obtain ⟨v3, r3, o3⟩ := rd_2 h3
  obtain ⟨n4, y4, h4⟩ := fieldR Try.underlying125 h 4 9 [a6] (by kernel_rfl)
  obtain ⟨v4, r4, o4⟩ := rd_9 h4
  exact ⟨⟨v0, v1, v2, v3, v4⟩, (repL_app r0 (repL_app r1 (repL_app r2 (repL_app r3 (repL_app r4 repL_nil))))), ⟨o0, o1, o2, o3, o4⟩⟩
theorem rd_22 {H : Type} {enc : TypeId × Value → H} {W : World} {b0 : Nat} {spare : Nat → Bool} {held : Bool} {fuel : Nat} {cs : List Value} {x : DataW H × List MemPlace} (h : DataW.trod enc Try.prog W b0 spare held fuel 22 cs = some x) : ∃ v : List Shape_, RepL W cs ((cL cShape_) v) ∧ (osL okShape_) v := by
  obtain ⟨v, hv⟩ : ∃ v, cs = [v] := sl_one (t := 22) Try.underlying22 h
  subst hv
  obtain ⟨xs, hr, hm, hok⟩ := sliceX cShape_ okShape_ 7 (fun _ => rfl) (by omega) Try.underlying22 (by kernel_rfl) (fun fuel cs x h => rd_125 h) ⟨_, _, h⟩
  exact ⟨xs, repL_cons hr repL_nil, hm, hok⟩
theorem rd_24 {H : Type} {enc : TypeId × Value → H} {W : World} {b0 : Nat} {spare : Nat → Bool} {held : Bool} {fuel : Nat} {cs : List Value} {x : DataW H × List MemPlace} (h : DataW.trod enc Try.prog W b0 spare held fuel 24 cs = some x) : ∃ v : Drawing_, RepL W cs (cDrawing_ v) ∧ okDrawing_ v := by
  obtain ⟨a0, rfl⟩ := lst1 cs ((cellsR Try.underlying24 h).trans (by kernel_rfl))
  obtain ⟨n0, y0, h0⟩ := fieldR Try.underlying24 h 0 22 [a0] (by kernel_rfl)
  obtain ⟨v0, r0, o0⟩ := rd_22 h0
  exact ⟨⟨v0⟩, (repL_app r0 repL_nil), o0⟩
theorem rd_44 {H : Type} {enc : TypeId × Value → H} {W : World} {b0 : Nat} {spare : Nat → Bool} {held : Bool} {fuel : Nat} {cs : List Value} {x : DataW H × List MemPlace} (h : DataW.trod enc Try.prog W b0 spare held fuel 44 cs = some x) : ∃ v : Angle_, RepL W cs (cAngle_ v) ∧ okAngle_ v := by
  obtain ⟨a0, a1, a2, rfl⟩ := lst3 cs ((cellsR Try.underlying44 h).trans (by kernel_rfl))
  obtain ⟨n0, y0, h0⟩ := fieldR Try.underlying44 h 0 2 [a0] (by kernel_rfl)
  obtain ⟨v0, r0, o0⟩ := rd_2 h0
  obtain ⟨n1, y1, h1⟩ := fieldR Try.underlying44 h 1 2 [a1] (by kernel_rfl)
  obtain ⟨v1, r1, o1⟩ := rd_2 h1
  obtain ⟨n2, y2, h2⟩ := fieldR Try.underlying44 h 2 2 [a2] (by kernel_rfl)
  obtain ⟨v2, r2, o2⟩ := rd_2 h2
  exact ⟨⟨v0, v1, v2⟩, (repL_app r0 (repL_app r1 (repL_app r2 repL_nil))), ⟨o0, o1, o2⟩⟩
theorem rd_46 {H : Type} {enc : TypeId × Value → H} {W : World} {b0 : Nat} {spare : Nat → Bool} {held : Bool} {fuel : Nat} {cs : List Value} {x : DataW H × List MemPlace} (h : DataW.trod enc Try.prog W b0 spare held fuel 46 cs = some x) : ∃ v : Profile_, RepL W cs (cProfile_ v) ∧ okProfile_ v := by
  obtain ⟨a0, a1, a2, a3, a4, a5, rfl⟩ := lst6 cs ((cellsR Try.underlying46 h).trans (by kernel_rfl))
  obtain ⟨n0, y0, h0⟩ := fieldR Try.underlying46 h 0 2 [a0] (by kernel_rfl)
  obtain ⟨v0, r0, o0⟩ := rd_2 h0
  obtain ⟨n1, y1, h1⟩ := fieldR Try.underlying46 h 1 2 [a1] (by kernel_rfl)
  obtain ⟨v1, r1, o1⟩ := rd_2 h1
  obtain ⟨n2, y2, h2⟩ := fieldR Try.underlying46 h 2 2 [a2] (by kernel_rfl)
  obtain ⟨v2, r2, o2⟩ := rd_2 h2
  obtain ⟨n3, y3, h3⟩ := fieldR Try.underlying46 h 3 44 [a3, a4, a5] (by kernel_rfl)
  obtain ⟨v3, r3, o3⟩ := rd_44 h3
  exact ⟨⟨v0, v1, v2, v3⟩, (repL_app r0 (repL_app r1 (repL_app r2 (repL_app r3 repL_nil)))), ⟨o0, o1, o2, o3⟩⟩
theorem rd_5 {H : Type} {enc : TypeId × Value → H} {W : World} {b0 : Nat} {spare : Nat → Bool} {held : Bool} {fuel : Nat} {cs : List Value} {x : DataW H × List MemPlace} (h : DataW.trod enc Try.prog W b0 spare held fuel 5 cs = some x) : ∃ v : Int, RepL W cs (cU8 v) ∧ osU8 v := by
  obtain ⟨z, rfl, _, hw⟩ := DataW.trod_int Try.underlying5 h
  exact ⟨z, repL_cons (repL_int _ _) repL_nil, by simpa [osU8, Lit.wf, IntKind.min, IntKind.max, IntKind.bits, IntKind.signed] using hw⟩
theorem rd_59 {H : Type} {enc : TypeId × Value → H} {W : World} {b0 : Nat} {spare : Nat → Bool} {held : Bool} {fuel : Nat} {cs : List Value} {x : DataW H × List MemPlace} (h : DataW.trod enc Try.prog W b0 spare held fuel 59 cs = some x) : ∃ v : List Int, RepL W cs ((cL cU8) v) ∧ (osL osU8) v := by
  obtain ⟨v, hv⟩ : ∃ v, cs = [v] := sl_one (t := 59) Try.underlying59 h
  subst hv
  obtain ⟨xs, hr, hm, hok⟩ := sliceX cU8 osU8 1 (fun _ => rfl) (by omega) Try.underlying59 (by kernel_rfl) (fun fuel cs x h => rd_5 h) ⟨_, _, h⟩
  exact ⟨xs, repL_cons hr repL_nil, hm, hok⟩
theorem rd_142 {H : Type} {enc : TypeId × Value → H} {W : World} {b0 : Nat} {spare : Nat → Bool} {held : Bool} {fuel : Nat} {cs : List Value} {x : DataW H × List MemPlace} (h : DataW.trod enc Try.prog W b0 spare held fuel 142 cs = some x) : ∃ v : Point_, RepL W cs (cPoint_ v) ∧ okPoint_ v := by
  obtain ⟨a0, a1, rfl⟩ := lst2 cs ((cellsR Try.underlying142 h).trans (by kernel_rfl))
  obtain ⟨n0, y0, h0⟩ := fieldR Try.underlying142 h 0 2 [a0] (by kernel_rfl)
  obtain ⟨v0, r0, o0⟩ := rd_2 h0
  obtain ⟨n1, y1, h1⟩ := fieldR Try.underlying142 h 1 2 [a1] (by kernel_rfl)
  obtain ⟨v1, r1, o1⟩ := rd_2 h1
  exact ⟨⟨v0, v1⟩, (repL_app r0 (repL_app r1 repL_nil)), ⟨o0, o1⟩⟩
theorem rd_144 {H : Type} {enc : TypeId × Value → H} {W : World} {b0 : Nat} {spare : Nat → Bool} {held : Bool} {fuel : Nat} {cs : List Value} {x : DataW H × List MemPlace} (h : DataW.trod enc Try.prog W b0 spare held fuel 144 cs = some x) : ∃ v : Site_, RepL W cs (cSite_ v) ∧ okSite_ v := by
  obtain ⟨a0, a1, a2, a3, a4, rfl⟩ := lst5 cs ((cellsR Try.underlying144 h).trans (by kernel_rfl))
  obtain ⟨n0, y0, h0⟩ := fieldR Try.underlying144 h 0 9 [a0] (by kernel_rfl)
  obtain ⟨v0, r0, o0⟩ := rd_9 h0
  obtain ⟨n1, y1, h1⟩ := fieldR Try.underlying144 h 1 142 [a1, a2] (by kernel_rfl)
  obtain ⟨v1, r1, o1⟩ := rd_142 h1
  obtain ⟨n2, y2, h2⟩ := fieldR Try.underlying144 h 2 2 [a3] (by kernel_rfl)
  obtain ⟨v2, r2, o2⟩ := rd_2 h2
  obtain ⟨n3, y3, h3⟩ := fieldR Try.underlying144 h 3 2 [a4] (by kernel_rfl)
  obtain ⟨v3, r3, o3⟩ := rd_2 h3
  exact ⟨⟨v0, v1, v2, v3⟩, (repL_app r0 (repL_app r1 (repL_app r2 (repL_app r3 repL_nil)))), ⟨o0, o1, o2, o3⟩⟩
theorem rd_63 {H : Type} {enc : TypeId × Value → H} {W : World} {b0 : Nat} {spare : Nat → Bool} {held : Bool} {fuel : Nat} {cs : List Value} {x : DataW H × List MemPlace} (h : DataW.trod enc Try.prog W b0 spare held fuel 63 cs = some x) : ∃ v : List Site_, RepL W cs ((cL cSite_) v) ∧ (osL okSite_) v := by
  obtain ⟨v, hv⟩ : ∃ v, cs = [v] := sl_one (t := 63) Try.underlying63 h
  subst hv
  obtain ⟨xs, hr, hm, hok⟩ := sliceX cSite_ okSite_ 5 (fun _ => rfl) (by omega) Try.underlying63 (by kernel_rfl) (fun fuel cs x h => rd_144 h) ⟨_, _, h⟩
  exact ⟨xs, repL_cons hr repL_nil, hm, hok⟩
theorem rd_65 {H : Type} {enc : TypeId × Value → H} {W : World} {b0 : Nat} {spare : Nat → Bool} {held : Bool} {fuel : Nat} {cs : List Value} {x : DataW H × List MemPlace} (h : DataW.trod enc Try.prog W b0 spare held fuel 65 cs = some x) : ∃ v : Plate_, RepL W cs (cPlate_ v) ∧ okPlate_ v := by
  obtain ⟨a0, a1, a2, a3, a4, rfl⟩ := lst5 cs ((cellsR Try.underlying65 h).trans (by kernel_rfl))
  obtain ⟨n0, y0, h0⟩ := fieldR Try.underlying65 h 0 2 [a0] (by kernel_rfl)
  obtain ⟨v0, r0, o0⟩ := rd_2 h0
  obtain ⟨n1, y1, h1⟩ := fieldR Try.underlying65 h 1 2 [a1] (by kernel_rfl)
  obtain ⟨v1, r1, o1⟩ := rd_2 h1
  obtain ⟨n2, y2, h2⟩ := fieldR Try.underlying65 h 2 2 [a2] (by kernel_rfl)
  obtain ⟨v2, r2, o2⟩ := rd_2 h2
  obtain ⟨n3, y3, h3⟩ := fieldR Try.underlying65 h 3 2 [a3] (by kernel_rfl)
  obtain ⟨v3, r3, o3⟩ := rd_2 h3
  obtain ⟨n4, y4, h4⟩ := fieldR Try.underlying65 h 4 63 [a4] (by kernel_rfl)
  obtain ⟨v4, r4, o4⟩ := rd_63 h4
  exact ⟨⟨v0, v1, v2, v3, v4⟩, (repL_app r0 (repL_app r1 (repL_app r2 (repL_app r3 (repL_app r4 repL_nil))))), ⟨o0, o1, o2, o3, o4⟩⟩
theorem open_24 {H : Type} {enc : TypeId × Value → H} {W : World} {b0 base : Nat} {spare : Nat → Bool} {held : Bool} {v : Value} {d : DataW H} {p : List MemPlace} (hv : Value.okWide Try.prog W .any base 24 v) (h : DataW.Trod enc Try.prog W b0 spare held 24 v d p) : ∃ x : Drawing_, ARep W (fun b => b < W.heap.size) (fun _ _ => none) (lks []) v (.agg [.d (.sl (List.map cShape_ x.Shapes))]) ∧ okDrawing_ x := by
  obtain ⟨cs, rfl, hsz⟩ := okWide_struct Try.underlying24 hv
  obtain ⟨fuel, hf⟩ := h
  obtain ⟨x, hr, hok⟩ := rd_24 hf
  exact ⟨x, agg_rep (ds := cDrawing_ x) (by simpa [Value.cells] using hr), hok⟩
theorem open_46 {H : Type} {enc : TypeId × Value → H} {W : World} {b0 base : Nat} {spare : Nat → Bool} {held : Bool} {v : Value} {d : DataW H} {p : List MemPlace} (hv : Value.okWide Try.prog W .any base 46 v) (h : DataW.Trod enc Try.prog W b0 spare held 46 v d p) : ∃ x : Profile_, ARep W (fun b => b < W.heap.size) (fun _ _ => none) (lks []) v (.agg [.d (.v (.int .i64 x.Teeth)), .d (.v (.int .i64 x.Module)), .d (.v (.int .i64 x.Addendum)), .d (.v (.int .i64 x.Angle.Sin)), .d (.v (.int .i64 x.Angle.Cos)), .d (.v (.int .i64 x.Angle.Hyp))]) ∧ okProfile_ x := by
  obtain ⟨cs, rfl, hsz⟩ := okWide_struct Try.underlying46 hv
  obtain ⟨fuel, hf⟩ := h
  obtain ⟨x, hr, hok⟩ := rd_46 hf
  exact ⟨x, agg_rep (ds := cProfile_ x) (by simpa [Value.cells] using hr), hok⟩
theorem open_55 {H : Type} {enc : TypeId × Value → H} {W : World} {b0 base : Nat} {spare : Nat → Bool} {held : Bool} {v : Value} {d : DataW H} {p : List MemPlace} (hv : Value.okWide Try.prog W .any base 55 v) (h : DataW.Trod enc Try.prog W b0 spare held 55 v d p) : ∃ x : Spot_, ARep W (fun b => b < W.heap.size) (fun _ _ => none) (lks []) v (.agg [.d (.v (.int .i64 x.X)), .d (.v (.int .i64 x.Y))]) ∧ okSpot_ x := by
  obtain ⟨cs, rfl, hsz⟩ := okWide_struct Try.underlying55 hv
  obtain ⟨fuel, hf⟩ := h
  obtain ⟨x, hr, hok⟩ := rd_55 hf
  exact ⟨x, agg_rep (ds := cSpot_ x) (by simpa [Value.cells] using hr), hok⟩
theorem open_59 {H : Type} {enc : TypeId × Value → H} {W : World} {b0 base : Nat} {spare : Nat → Bool} {held : Bool} {v : Value} {d : DataW H} {p : List MemPlace} (hv : Value.okWide Try.prog W .any base 59 v) (h : DataW.Trod enc Try.prog W b0 spare held 59 v d p) : ∃ x : List Int, ARep W (fun b => b < W.heap.size) (fun _ _ => none) (lks []) v (.d (.sl (List.map cU8 x))) ∧ (osL osU8) x := by
  obtain ⟨a, len, cap, rfl⟩ := okWide_slice Try.underlying59 hv
  obtain ⟨fuel, hf⟩ := h
  obtain ⟨x, hr, hok⟩ := rd_59 hf
  exact ⟨x, .d _ _ (hr.2 0 _ _ rfl rfl), hok⟩
theorem open_65 {H : Type} {enc : TypeId × Value → H} {W : World} {b0 base : Nat} {spare : Nat → Bool} {held : Bool} {v : Value} {d : DataW H} {p : List MemPlace} (hv : Value.okWide Try.prog W .any base 65 v) (h : DataW.Trod enc Try.prog W b0 spare held 65 v d p) : ∃ x : Plate_, ARep W (fun b => b < W.heap.size) (fun _ _ => none) (lks []) v (.agg [.d (.v (.int .i64 x.Width)), .d (.v (.int .i64 x.Height)), .d (.v (.int .i64 x.Margin)), .d (.v (.int .i64 x.Gap)), .d (.sl (List.map cSite_ x.Sites))]) ∧ okPlate_ x := by
  obtain ⟨cs, rfl, hsz⟩ := okWide_struct Try.underlying65 hv
  obtain ⟨fuel, hf⟩ := h
  obtain ⟨x, hr, hok⟩ := rd_65 hf
  exact ⟨x, agg_rep (ds := cPlate_ x) (by simpa [Value.cells] using hr), hok⟩
end Go.Proofs.Ytplnohfjeilodaa
