/- How drawings that came in read. -/
import Derived.Test.YtplnohfjeilodaaOpen
import Derived.Test.YtplnohfjeilodaaShape
import Derived.Deep.Slices
namespace Go.Proofs.Ytplnohfjeilodaa
open Go.ChangeShapes Go.WideShapes Go.ChangeAt Go.RowKit Go.Deep
set_option linter.unusedVariables false
set_option maxRecDepth 100000
theorem list2 {α : Type} (l : List α) (h : l.length = 2) : ∃ a b, l = [a, b] := by
  match l, h with
  | [a, b], _ => exact ⟨a, b, rfl⟩
theorem list7 {α : Type} (l : List α) (h : l.length = 7) : ∃ a b c d e f g, l = [a, b, c, d, e, f, g] := by
  match l, h with
  | [a, b, c, d, e, f, g], _ => exact ⟨a, b, c, d, e, f, g, rfl⟩
section
variable {H : Type} {enc : TypeId × Value → H} {W : World} {b0 : Nat} {spare : Nat → Bool} {held : Bool} {fuel : Nat} {cs : List Value} {x : DataW H × List MemPlace}
/-- a field of a struct reads as its type -/
theorem fieldR {P : Program} {t : TypeId} {fs : Array Field} (ht : P.underlying t = some (.struct fs)) (h : DataW.trod enc P W b0 spare held fuel t cs = some x) (i : Nat) (T : TypeId) (sub : List Value)
    (hk : (fs[i]?).map (fun f => (f.type, (cs.drop f.offset).take (P.cellsOf f.type))) = some (T, sub)) : ∃ n y, DataW.trod enc P W b0 spare held n T sub = some y := by
  obtain ⟨xs, n, _, _, hl, hxl, hf⟩ := DataW.trod_struct ht h
  cases hfi : fs[i]? with
  | none => rw [hfi] at hk; cases hk
  | some f =>
    rw [hfi] at hk
    simp only [Option.map_some, Option.some.injEq, Prod.mk.injEq] at hk
    obtain ⟨rfl, rfl⟩ := hk
    have hi : i < fs.size := (Array.getElem?_eq_some_iff.1 hfi).1
    refine ⟨n, xs[i]'(by omega), (hf i f hfi).trans (List.getElem?_eq_getElem (by omega))⟩
theorem intR {P : Program} {t : TypeId} {k : IntKind} {a : Value} (ht : P.underlying t = some (.int k)) (h : ∃ n y, DataW.trod enc P W b0 spare held n t [a] = some y) : ∃ z, a = .int k z ∧ (Lit.int k z).wf = true := by
  obtain ⟨n, y, h⟩ := h
  obtain ⟨z, e, _, hw⟩ := DataW.trod_int ht h
  simp at e
  exact ⟨z, e, hw⟩
theorem strR {P : Program} {t : TypeId} {a : Value} (ht : P.underlying t = some .string) (h : ∃ n y, DataW.trod enc P W b0 spare held n t [a] = some y) : ∃ s : ByteArray, a = .string s ∧ s.size ≤ 9223372036854775807 := by
  obtain ⟨n, y, h⟩ := h
  obtain ⟨z, e, _, hw⟩ := DataW.trod_string ht h
  simp at e
  exact ⟨z, e, by unfold maxLen at hw; exact hw⟩
theorem cellsR {P : Program} {t : TypeId} {fs : Array Field} (ht : P.underlying t = some (.struct fs)) (h : DataW.trod enc P W b0 spare held fuel t cs = some x) : cs.length = P.cellsOf t := by
  obtain ⟨xs, n, _, _, hl, hxl, hf⟩ := DataW.trod_struct ht h
  exact hl
theorem read_LSpot (h : DataW.trod enc Try.prog W b0 spare held fuel 55 cs = some x) : ∃ a b : Int, cs = [.int .i64 a, .int .i64 b] := by
  obtain ⟨a, b, rfl⟩ := list2 cs ((cellsR Try.underlying55 h).trans (by kernel_rfl))
  obtain ⟨a, rfl, _⟩ := intR Try.underlying2 (fieldR Try.underlying55 h 0 2 [a] (by kernel_rfl))
  obtain ⟨b, rfl, _⟩ := intR Try.underlying2 (fieldR Try.underlying55 h 1 2 [b] (by kernel_rfl))
  exact ⟨a, b, rfl⟩
theorem read_LShape (h : DataW.trod enc Try.prog W b0 spare held fuel 125 cs = some x) : ∃ s : Shp, cs = s.arr.toList ∧ s.N.size ≤ 9223372036854775807 := by
  obtain ⟨a, b, c, d, e, f, g, rfl⟩ := list7 cs ((cellsR Try.underlying125 h).trans (by kernel_rfl))
  obtain ⟨K, rfl, _⟩ := intR Try.underlying2 (fieldR Try.underlying125 h 0 2 [a] (by kernel_rfl))
  obtain ⟨n1, y1, h1⟩ := fieldR Try.underlying125 h 1 55 [b, c] (by kernel_rfl)
  obtain ⟨AX, AY, e1⟩ := read_LSpot h1
  simp at e1
  obtain ⟨rfl, rfl⟩ := e1
  obtain ⟨n2, y2, h2⟩ := fieldR Try.underlying125 h 2 55 [d, e] (by kernel_rfl)
  obtain ⟨BX, BY, e2⟩ := read_LSpot h2
  simp at e2
  obtain ⟨rfl, rfl⟩ := e2
  obtain ⟨R, rfl, _⟩ := intR Try.underlying2 (fieldR Try.underlying125 h 3 2 [f] (by kernel_rfl))
  obtain ⟨N, rfl, hN⟩ := strR Try.underlying9 (fieldR Try.underlying125 h 4 9 [g] (by kernel_rfl))
  exact ⟨⟨K, AX, AY, BX, BY, R, N⟩, rfl, hN⟩
/-- a slice of elements that read as a model -/
theorem sliceR {P : Program} {t e : TypeId} {α : Type} [Inhabited α] {a : Value} (f : α → List Value) (ok : α → Prop) (sz : Nat) (hf : ∀ a, (f a).length = sz) (hsz : 0 < sz) (ht : P.underlying t = some (.slice e)) (hC : P.cellsOf e = sz)
    (rd : ∀ (fuel : Nat) (cs : List Value) (x : DataW H × List MemPlace), DataW.trod enc P W b0 spare held fuel e cs = some x → ∃ m, cs = f m ∧ ok m)
    (h : ∃ n y, DataW.trod enc P W b0 spare held n t [a] = some y) :
    ∃ (A : Option Addr) (c : Nat) (xs : List α), a = .slice A xs.length c ∧ Row W A (xs.flatMap f) ∧ xs.length ≤ 9223372036854775807 ∧ ∀ m ∈ xs, ok m := by
  obtain ⟨n, y, h⟩ := h
  rcases open_slice ht h with ⟨h0, _⟩ | ⟨ad, len, cap, m, n', D, Pl, hcs, hb, hl, hm, hmm, _, hi⟩
  · simp at h0
    subst h0
    exact ⟨none, 0, [], rfl, .inl rfl, by simp, fun m hm => by simp at hm⟩
  · simp at hcs
    subst hcs
    have hlm : len ≤ m := by rw [hmm]; split <;> omega
    rw [hC] at hi
    obtain ⟨q, hq⟩ := choose_lt (α := α) (n := len) (p := fun k q => (∃ cs', W.cells? b0 (ad.add (k * sz)) sz = some cs' ∧ cs' = f q) ∧ ok q) (fun k hk => by
      obtain ⟨cs', hc, htr⟩ := hi k (by omega)
      obtain ⟨q, hq, hok⟩ := rd _ _ _ htr
      exact ⟨q, ⟨cs', hc, hq⟩, hok⟩)
    have hxl : ((List.range len).map q).length = len := by simp
    refine ⟨some ad, cap, (List.range len).map q, by rw [hxl], ?_, by rw [hxl]; unfold maxLen at hm; omega, ?_⟩
    · rcases Nat.eq_zero_or_pos len with h0 | h0
      · subst h0; exact .inl rfl
      · have hcell : ∀ k, k < len → ∀ j, j < sz → W.cell? (ad.add (k * sz + j)) = (f (q k))[j]? := by
          intro k hk j hj
          obtain ⟨⟨cs', hc, rfl⟩, _⟩ := hq k hk
          obtain ⟨_, _, hat⟩ := World.cells?_some hc
          rw [← Go.Deep.add_add]
          exact hat j hj
        have h00 := hcell 0 h0 0 hsz
        rw [Nat.zero_mul, Nat.zero_add, List.getElem?_eq_getElem (by rw [hf]; exact hsz)] at h00
        obtain ⟨b, off, spot⟩ := ad
        have hspot : spot = none := by
          have := World.cell?_spot h00
          simpa [Addr.add] using this
        subst hspot
        refine .inr ⟨b, off, rfl, fun j hj => ?_⟩
        have hlen : (((List.range len).map q).flatMap f).length = len * sz := by rw [flat_len f sz hf, hxl]
        have hk : j / sz < len := by
          rw [Nat.div_lt_iff_lt_mul hsz]; omega
        have hr : j % sz < sz := Nat.mod_lt _ hsz
        have hj2 : j / sz * sz + j % sz = j := by rw [Nat.mul_comm]; exact Nat.div_add_mod j sz
        have h1 := hcell (j / sz) hk (j % sz) hr
        have h2 := flat_get f sz hf ((List.range len).map q) (j / sz) (j % sz) (by rw [hxl]; exact hk) hr
        rw [hj2] at h1 h2
        rw [← add_plain, h1, ← List.getElem?_eq_getElem hj, h2]
        simp
    · intro m hm'
      obtain ⟨k, hk, rfl⟩ := List.mem_map.1 hm'
      exact (hq k (by simpa using hk)).2
instance : Inhabited Shp := ⟨⟨0, 0, 0, 0, 0, 0, ⟨#[]⟩⟩⟩
theorem read_LDrawing (h : DataW.trod enc Try.prog W b0 spare held fuel 24 cs = some x) :
    ∃ (A : Option Addr) (c : Nat) (xs : List Shp), cs = [.slice A xs.length c] ∧ Row W A (shpsV xs) ∧ xs.length ≤ 9223372036854775807 ∧ ∀ s ∈ xs, s.N.size ≤ 9223372036854775807 := by
  have hl : cs.length = 1 := (cellsR Try.underlying24 h).trans (by kernel_rfl)
  obtain ⟨a, rfl⟩ := List.length_eq_one_iff.1 hl
  obtain ⟨A, c, xs, rfl, hr, hm, hok⟩ := sliceR (α := Shp) (fun s => s.arr.toList) (fun s => s.N.size ≤ 9223372036854775807) 7 (fun _ => rfl) (by omega) Try.underlying22 (by kernel_rfl) (fun fuel cs x h => read_LShape h)
    (fieldR Try.underlying24 h 0 22 [a] (by kernel_rfl))
  exact ⟨A, c, xs, rfl, hr, hm, hok⟩
theorem open_LDrawing {base : Nat} {v : Value} {d : DataW H} {p : List MemPlace} (hv : Value.okWide Try.prog W .any base 24 v) (h : DataW.Trod enc Try.prog W b0 spare held 24 v d p) :
    ∃ (A : Option Addr) (n c : Nat) (xs : List Shp), v = drwV A n c ∧ xs.length = n ∧ Row W A (shpsV xs) ∧ n ≤ 9223372036854775807 ∧ ∀ s ∈ xs, s.N.size ≤ 9223372036854775807 := by
  obtain ⟨cs, rfl, hsz⟩ := okWide_struct Try.underlying24 hv
  obtain ⟨fuel, hf⟩ := h
  obtain ⟨A, c, xs, hcs, hr, hm, hok⟩ := read_LDrawing hf
  have : cs = #[.slice A xs.length c] := by
    apply Array.toList_inj.1; simpa [Value.cells] using hcs
  exact ⟨A, _, c, xs, by rw [this], rfl, hr, hm, hok⟩
end
end Go.Proofs.Ytplnohfjeilodaa
