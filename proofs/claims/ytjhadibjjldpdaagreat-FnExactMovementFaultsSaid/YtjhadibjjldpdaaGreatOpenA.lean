/- How the arguments of a law read over the machine. -/
import Derived.Test.YtjhadibjjldpdaaGreatOpen
import Derived.Test.YtjhadibjjldpdaaGreatAmO
import Derived.Deep.Slices
namespace Go.Proofs.YtjhadibjjldpdaaGreat
open Go.ChangeShapes Go.WideShapes Go.ChangeAt Go.RowKit Go.Deep
set_option linter.unusedVariables false
set_option maxRecDepth 100000
theorem cell_ltA {w : World} {a : Addr} {v : Value} (h : w.cell? a = some v) : a.block < w.heap.size := by
  unfold World.cell? at h
  cases hb : w.heap[a.block]? with
  | none => simp [hb] at h
  | some b => exact (Array.getElem?_eq_some_iff.1 hb).1
/-- a row of cells reads as a row of data -/
def RepL (w : World) (cs : List Value) (ds : List DV) : Prop := cs.length = ds.length ∧ ∀ (j : Nat) v x, cs[j]? = some v → ds[j]? = some x → DRep w (fun b => b < w.heap.size) v x
theorem repL_nil {w : World} : RepL w [] [] := ⟨rfl, fun j v x h => by simp at h⟩
theorem repL_cons {w : World} {v : Value} {x : DV} {cs : List Value} {ds : List DV} (h : DRep w (fun b => b < w.heap.size) v x) (k : RepL w cs ds) : RepL w (v :: cs) (x :: ds) := by
  refine ⟨by simp [k.1], fun j a b h1 h2 => ?_⟩
  cases j with
  | zero => simp at h1 h2; subst h1 h2; exact h
  | succ j => simp at h1 h2; exact k.2 j a b h1 h2
theorem repL_app {w : World} {cs : List Value} {ds : List DV} {cs2 : List Value} {ds2 : List DV} (h : RepL w cs ds) (k : RepL w cs2 ds2) : RepL w (cs ++ cs2) (ds ++ ds2) := by
  refine ⟨by simp [h.1, k.1], fun j a b h1 h2 => ?_⟩
  rw [List.getElem?_append] at h1 h2
  rw [← h.1] at h2
  split at h1
  · rename_i hj; rw [if_pos hj] at h2; exact h.2 j a b h1 h2
  · rename_i hj; rw [if_neg hj] at h2; exact k.2 _ a b h1 h2
theorem repL_int {w : World} (k : IntKind) (z : Int) : DRep w (fun b => b < w.heap.size) (.int k z) (.v (.int k z)) := .v _ rfl
theorem repL_str {w : World} (s : ByteArray) : DRep w (fun b => b < w.heap.size) (.string s) (.v (.string s)) := .v _ rfl
theorem repL_bool {w : World} (s : Bool) : DRep w (fun b => b < w.heap.size) (.bool s) (.v (.bool s)) := .v _ rfl
theorem agg_rep {w : World} {μ : Places} {h : Heap} {cs : Array Value} {ds : List DV} (r : RepL w cs.toList ds) : ARep w (fun b => b < w.heap.size) μ h (.agg cs) (.agg (ds.map .d)) := by
  refine .agg _ _ (by simpa using r.1) fun i v c h1 h2 => ?_
  rw [List.getElem?_map] at h2
  obtain ⟨x, hx, rfl⟩ := Option.map_eq_some_iff.1 h2
  exact .d _ _ (r.2 i v x (by simpa using h1) hx)
theorem args_nil {w : World} : ∀ (i : Nat) v a, (List.toArray ([] : List Value))[i]? = some v → ([] : List AV)[i]? = some a → ARep w (fun b => b < w.heap.size) (fun _ _ => none) (lks []) v a := fun i v a h => by simp at h
theorem args_cons {w : World} {v0 : Value} {a0 : AV} {vs : List Value} {bs : List AV} (h : ARep w (fun b => b < w.heap.size) (fun _ _ => none) (lks []) v0 a0) (k : ∀ (i : Nat) v a, vs.toArray[i]? = some v → bs[i]? = some a → ARep w (fun b => b < w.heap.size) (fun _ _ => none) (lks []) v a) :
    ∀ (i : Nat) v a, (v0 :: vs).toArray[i]? = some v → (a0 :: bs)[i]? = some a → ARep w (fun b => b < w.heap.size) (fun _ _ => none) (lks []) v a := fun i v a h1 h2 => by
  cases i with
  | zero => simp at h1 h2; subst h1 h2; exact h
  | succ i =>
    simp at h1 h2
    exact k i v a (by simpa using h1) h2
theorem int_rep {w : World} {μ : Places} {h : Heap} {F : Nat → Prop} (k : IntKind) (z : Int) : ARep w F μ h (.int k z) (.d (.v (.int k z))) := .d _ _ (.v _ rfl)
theorem list1 {α : Type} (l : List α) (h : l.length = 1) : ∃ a, l = [a] := List.length_eq_one_iff.1 h
theorem list2 {α : Type} (l : List α) (h : l.length = 2) : ∃ a b, l = [a, b] := by
  match l, h with
  | [a, b], _ => exact ⟨a, b, rfl⟩
theorem list3 {α : Type} (l : List α) (h : l.length = 3) : ∃ a b c, l = [a, b, c] := by
  match l, h with
  | [a, b, c], _ => exact ⟨a, b, c, rfl⟩
theorem list4 {α : Type} (l : List α) (h : l.length = 4) : ∃ a b c d, l = [a, b, c, d] := by
  match l, h with
  | [a, b, c, d], _ => exact ⟨a, b, c, d, rfl⟩
theorem list5 {α : Type} (l : List α) (h : l.length = 5) : ∃ a b c d e, l = [a, b, c, d, e] := by
  match l, h with
  | [a, b, c, d, e], _ => exact ⟨a, b, c, d, e, rfl⟩
theorem list6 {α : Type} (l : List α) (h : l.length = 6) : ∃ a b c d e f, l = [a, b, c, d, e, f] := by
  match l, h with
  | [a, b, c, d, e, f], _ => exact ⟨a, b, c, d, e, f, rfl⟩
theorem list7 {α : Type} (l : List α) (h : l.length = 7) : ∃ a b c d e f g, l = [a, b, c, d, e, f, g] := by
  match l, h with
  | [a, b, c, d, e, f, g], _ => exact ⟨a, b, c, d, e, f, g, rfl⟩
section
variable {H : Type} {enc : TypeId × Value → H} {W : World} {b0 : Nat} {spare : Nat → Bool} {held : Bool} {fuel : Nat} {cs : List Value} {x : DataW H × List MemPlace}
/-- a field of a struct reads as its type -/
theorem fieldR {P : Program} {t : TypeId} {fs : Array Field} (ht : P.underlying t = some (.struct fs)) (h : DataW.trod enc P W b0 spare held fuel t cs = some x) (i : Nat) (T : TypeId) (sub : List Value)
    (hk : (fs[i]?).map (fun f => (f.type, (cs.drop f.offset).take (P.cellsOf f.type))) = some (T, sub)) : ∃ n y, DataW.trod enc P W b0 spare held n T sub = some y := by
  obtain ⟨xs, n, _, _, hl, hxl, hf⟩ := DataW.trod_struct ht h
  cases hfi : fs[i]? with
  | none => rw [hfi] at hk; cases hk
  | some f =>
    rw [hfi] at hk
    simp only [Option.map_some, Option.some.injEq, Prod.mk.injEq] at hk
    obtain ⟨rfl, rfl⟩ := hk
    have hi : i < fs.size := (Array.getElem?_eq_some_iff.1 hfi).1
    refine ⟨n, xs[i]'(by omega), (hf i f hfi).trans (List.getElem?_eq_getElem (by omega))⟩
theorem intR {P : Program} {t : TypeId} {k : IntKind} {a : Value} (ht : P.underlying t = some (.int k)) (h : ∃ n y, DataW.trod enc P W b0 spare held n t [a] = some y) : ∃ z, a = .int k z ∧ (Lit.int k z).wf = true := by
  obtain ⟨n, y, h⟩ := h
  obtain ⟨z, e, _, hw⟩ := DataW.trod_int ht h
  simp at e
  exact ⟨z, e, hw⟩
theorem strR {P : Program} {t : TypeId} {a : Value} (ht : P.underlying t = some .string) (h : ∃ n y, DataW.trod enc P W b0 spare held n t [a] = some y) : ∃ s : ByteArray, a = .string s ∧ s.size ≤ 9223372036854775807 := by
  obtain ⟨n, y, h⟩ := h
  obtain ⟨z, e, _, hw⟩ := DataW.trod_string ht h
  simp at e
  exact ⟨z, e, by unfold maxLen at hw; exact hw⟩
theorem cellsR {P : Program} {t : TypeId} {fs : Array Field} (ht : P.underlying t = some (.struct fs)) (h : DataW.trod enc P W b0 spare held fuel t cs = some x) : cs.length = P.cellsOf t := by
  obtain ⟨xs, n, _, _, hl, hxl, hf⟩ := DataW.trod_struct ht h
  exact hl
/-- a slice of elements that read as a model -/
theorem sliceA {P : Program} {t e : TypeId} {α : Type} [Inhabited α] {a : Value} (f : α → List DV) (ok : α → Prop) (sz : Nat) (hf : ∀ a, (f a).length = sz) (hsz : 0 < sz) (ht : P.underlying t = some (.slice e)) (hC : P.cellsOf e = sz)
    (rd : ∀ (fuel : Nat) (cs : List Value) (x : DataW H × List MemPlace), DataW.trod enc P W b0 spare held fuel e cs = some x → ∃ m, RepL W cs (f m) ∧ ok m)
    (h : ∃ n y, DataW.trod enc P W b0 spare held n t [a] = some y) :
    ∃ xs : List α, DRep W (fun b => b < W.heap.size) a (.sl (xs.map f)) ∧ xs.length ≤ 9223372036854775807 ∧ ∀ m ∈ xs, ok m := by
  obtain ⟨n, y, h⟩ := h
  rcases DataW.trod_slice ht h with ⟨h0, _⟩ | ⟨ad, len, cap, elems, rest, n', _, hcs, _, hb, hl, hm, hel, hi, _, _⟩
  · simp at h0
    subst h0
    exact ⟨[], .nil, by simp, fun m hm => by simp at hm⟩
  · simp at hcs
    subst hcs
    rw [hC] at hi
    obtain ⟨q, hq⟩ := choose_lt (α := α) (n := len) (p := fun k q => (∃ cs', W.cells? b0 (ad.add (k * sz)) sz = some cs' ∧ RepL W cs' (f q)) ∧ ok q) (fun k hk => by
      have h1 := hi k hk
      rw [List.getElem?_eq_getElem (by omega)] at h1
      obtain ⟨cs', hc, htr⟩ := Option.bind_eq_some_iff.1 h1
      obtain ⟨m, hm1, hm2⟩ := rd _ _ _ htr
      exact ⟨m, ⟨cs', hc, hm1⟩, hm2⟩)
    have hxl : ((List.range len).map q).length = len := by simp
    refine ⟨(List.range len).map q, ?_, by rw [hxl]; unfold maxLen at hm; omega, fun m hm' => ?_⟩
    · have hcell : ∀ k, k < len → ∀ j, j < sz → ∃ v, W.cell? (ad.add (k * sz + j)) = some v ∧ ∀ x, (f (q k))[j]? = some x → DRep W (fun b => b < W.heap.size) v x := by
        intro k hk j hj
        obtain ⟨⟨cs', hc, hr⟩, _⟩ := hq k hk
        obtain ⟨_, hl', hat⟩ := World.cells?_some hc
        have hjl : j < cs'.length := by rw [hr.1, hf]; exact hj
        refine ⟨cs'[j], ?_, fun x hx => hr.2 j _ x (List.getElem?_eq_getElem hjl) hx⟩
        rw [← Go.Deep.add_add, ← List.getElem?_eq_getElem hjl]
        exact hat j hj
      rcases Nat.eq_zero_or_pos len with h0 | h0
      · subst h0
        exact .emp _ _ hm
      · obtain ⟨v0, h00, _⟩ := hcell 0 h0 0 hsz
        obtain ⟨b, off, spot⟩ := ad
        have hspot : spot = none := by
          have := World.cell?_spot h00
          simpa [Addr.add] using this
        subst hspot
        have hdd : DRep W (fun b => b < W.heap.size) (.slice (some ⟨b, off, none⟩) ((List.range len).map (fun k => f (q k))).length cap) (.sl ((List.range len).map fun k => f (q k))) := by
          refine .sl b off cap sz _ (fun i j => (W.cell? ⟨b, off + i * sz + j, none⟩).getD undef) ?_ (by simpa using hl) hm (fun i e he => ?_) (fun i e j x he hx => ?_) (fun i e j x he hx => ?_)
          · have h01 := cell_ltA h00
            simp only [Addr.add] at h01
            split at h01 <;> exact h01
          · rw [List.getElem?_map] at he
            obtain ⟨k, _, rfl⟩ := Option.map_eq_some_iff.1 he
            exact hf _
          all_goals
            rw [List.getElem?_map] at he
            obtain ⟨k, hk, rfl⟩ := Option.map_eq_some_iff.1 he
            obtain ⟨hil, rfl⟩ := List.getElem?_eq_some_iff.1 hk
            simp only [List.length_range] at hil
            simp only [List.getElem_range] at hx
            have hjl : j < sz := by have := (List.getElem?_eq_some_iff.1 hx).1; rw [hf] at this; exact this
            obtain ⟨v, hv, hr⟩ := hcell i hil j hjl
            rw [add_plain, ← Nat.add_assoc] at hv
            rw [hv]
          · rfl
          · exact hr x hx
        simpa [List.map_map, Function.comp_def] using hdd
    · obtain ⟨k, hk, rfl⟩ := List.mem_map.1 hm'
      exact (hq k (by simpa using hk)).2
end
end Go.Proofs.YtjhadibjjldpdaaGreat
