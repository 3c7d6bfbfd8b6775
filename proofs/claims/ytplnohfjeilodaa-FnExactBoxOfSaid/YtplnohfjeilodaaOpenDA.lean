/- Drawings that came in, over the machine. -/
import Derived.Test.YtplnohfjeilodaaOpenA
import Derived.Test.YtplnohfjeilodaaM25
namespace Go.Proofs.Ytplnohfjeilodaa
open Go.ChangeShapes Go.WideShapes Go.ChangeAt Go.RowKit Go.Deep
set_option linter.unusedVariables false
set_option maxRecDepth 100000
section
variable {H : Type} {enc : TypeId × Value → H} {W : World} {b0 : Nat} {spare : Nat → Bool} {held : Bool} {fuel : Nat} {cs : List Value} {x : DataW H × List MemPlace}
theorem read_LSpot (h : DataW.trod enc Try.prog W b0 spare held fuel 55 cs = some x) : ∃ a b : Int, cs = [.int .i64 a, .int .i64 b] := by
  obtain ⟨a, b, rfl⟩ := list2 cs ((cellsR Try.underlying55 h).trans (by kernel_rfl))
  obtain ⟨a, rfl, _⟩ := intR Try.underlying2 (fieldR Try.underlying55 h 0 2 [a] (by kernel_rfl))
  obtain ⟨b, rfl, _⟩ := intR Try.underlying2 (fieldR Try.underlying55 h 1 2 [b] (by kernel_rfl))
  exact ⟨a, b, rfl⟩
theorem read_LShape (h : DataW.trod enc Try.prog W b0 spare held fuel 125 cs = some x) : ∃ s : Shp, RepL W cs (shpD s) ∧ s.N.size ≤ 9223372036854775807 := by
  obtain ⟨a, b, c, d, e, f, g, rfl⟩ := list7 cs ((cellsR Try.underlying125 h).trans (by kernel_rfl))
  obtain ⟨K, rfl, _⟩ := intR Try.underlying2 (fieldR Try.underlying125 h 0 2 [a] (by kernel_rfl))
  obtain ⟨n1, y1, h1⟩ := fieldR Try.underlying125 h 1 55 [b, c] (by kernel_rfl)
  obtain ⟨AX, AY, e1⟩ := read_LSpot h1
  simp at e1
  obtain ⟨rfl, rfl⟩ := e1
  obtain ⟨n2, y2, h2⟩ := fieldR Try.underlying125 h 2 55 [d, e] (by kernel_rfl)
  obtain ⟨BX, BY, e2⟩ := read_LSpot h2
  simp at e2
  obtain ⟨rfl, rfl⟩ := e2
  obtain ⟨R, rfl, _⟩ := intR Try.underlying2 (fieldR Try.underlying125 h 3 2 [f] (by kernel_rfl))
  obtain ⟨N, rfl, hN⟩ := strR Try.underlying9 (fieldR Try.underlying125 h 4 9 [g] (by kernel_rfl))
  exact ⟨⟨K, AX, AY, BX, BY, R, N⟩, repL_cons (repL_int _ _) (repL_cons (repL_int _ _) (repL_cons (repL_int _ _) (repL_cons (repL_int _ _) (repL_cons (repL_int _ _) (repL_cons (repL_int _ _) (repL_cons (repL_str _) repL_nil)))))), hN⟩
instance : Inhabited Shp := ⟨⟨0, 0, 0, 0, 0, 0, ⟨#[]⟩⟩⟩
theorem read_LDrawing (h : DataW.trod enc Try.prog W b0 spare held fuel 24 cs = some x) :
    ∃ xs : List Shp, RepL W cs [.sl (shpsD xs)] ∧ xs.length ≤ 9223372036854775807 ∧ ∀ s ∈ xs, s.N.size ≤ 9223372036854775807 := by
  obtain ⟨a, rfl⟩ := list1 cs ((cellsR Try.underlying24 h).trans (by kernel_rfl))
  obtain ⟨xs, hr, hm, hok⟩ := sliceA shpD (fun s => s.N.size ≤ 9223372036854775807) 7 (fun _ => rfl) (by omega) Try.underlying22 (by kernel_rfl) (fun fuel cs x h => read_LShape h)
    (fieldR Try.underlying24 h 0 22 [a] (by kernel_rfl))
  exact ⟨xs, repL_cons hr repL_nil, hm, hok⟩
theorem open_LDrawing {base : Nat} {v : Value} {d : DataW H} {p : List MemPlace} (hv : Value.okWide Try.prog W .any base 24 v) (h : DataW.Trod enc Try.prog W b0 spare held 24 v d p) :
    ∃ xs : List Shp, ARep W (fun b => b < W.heap.size) (fun _ _ => none) (lks []) v (.agg [.d (.sl (shpsD xs))]) ∧ xs.length ≤ 9223372036854775807 ∧ ∀ s ∈ xs, s.N.size ≤ 9223372036854775807 := by
  obtain ⟨cs, rfl, hsz⟩ := okWide_struct Try.underlying24 hv
  obtain ⟨fuel, hf⟩ := h
  obtain ⟨xs, hr, hm, hok⟩ := read_LDrawing hf
  exact ⟨xs, agg_rep (by simpa [Value.cells] using hr), hm, hok⟩
theorem open_LSpot {base : Nat} {v : Value} {d : DataW H} {p : List MemPlace} (hv : Value.okWide Try.prog W .any base 55 v) (h : DataW.Trod enc Try.prog W b0 spare held 55 v d p) :
    ∃ a b : Int, ARep W (fun b => b < W.heap.size) (fun _ _ => none) (lks []) v (.agg [.d (.v (.int .i64 a)), .d (.v (.int .i64 b))]) := by
  obtain ⟨cs, rfl, hsz⟩ := okWide_struct Try.underlying55 hv
  obtain ⟨fuel, hf⟩ := h
  obtain ⟨a, b, e⟩ := read_LSpot hf
  exact ⟨a, b, agg_rep (ds := [.v (.int .i64 a), .v (.int .i64 b)]) (by rw [show cs.toList = _ from e]; exact repL_cons (repL_int _ _) (repL_cons (repL_int _ _) repL_nil))⟩
end
end Go.Proofs.Ytplnohfjeilodaa
