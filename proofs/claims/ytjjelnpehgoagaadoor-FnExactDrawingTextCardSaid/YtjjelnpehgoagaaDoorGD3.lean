/- Texts of this claim, one behind the other (merged by a program of mine). -/
import Derived.Test.YtjjelnpehgoagaaDoorRows
import Derived.ProofKit
import Derived.OpenShut
import Derived.ShutString
import Derived.ChangeOld
import Derived.Below
import Derived.Deep.Slices
import Derived.Test.YtjjelnpehgoagaaDoorProg
import Derived.Shelf.Strconv.Itoa4
import Derived.Ground.NamesProg
import Derived.Lib.AppendIntMem
import Derived.StillTailTactics
import Derived.Laws.OwnMore
import Derived.Deep.AppendLies
import Derived.Deep.Draws
import Derived.Laws.Rows
import Derived.Shelf.Strings.Builder1
import Derived.BigCall
import Derived.Lib.ItoaLen
import Derived.Test.YtjjelnpehgoagaaDoorTie
import Derived.Lib.LaidTab
import Derived.Stop.LaidErr
import Derived.SevenTiedAt
import Derived.Test.YtjjelnpehgoagaaDoorGD2
set_option linter.unusedSimpArgs false
set_option linter.unusedVariables false
namespace Go.Proofs.YtjjelnpehgoagaaDoor
open Go.ChangeShapes Go.WideShapes Go.ChangeAt Go.RowKit
open Go.ChangeMaps (open_string shut_string)
set_option maxRecDepth 100000

theorem own : ownKnob Tryd.prog.godebug = none := by kernel_rfl
theorem laidOut : laidOutB Tryd.prog = true := by kernel_rfl

end Go.Proofs.YtjjelnpehgoagaaDoor
namespace Go.Proofs.YtjjelnpehgoagaaDoor
open Go.ChangeShapes Go.WideShapes Go.ChangeAt Go.RowKit Go.Deep
set_option linter.unusedVariables false
set_option maxRecDepth 100000
theorem cell_ltA {w : World} {a : Addr} {v : Value} (h : w.cell? a = some v) : a.block < w.heap.size := by
  unfold World.cell? at h
  cases hb : w.heap[a.block]? with
  | none => simp [hb] at h
  | some b => exact (Array.getElem?_eq_some_iff.1 hb).1
def RepL (w : World) (cs : List Value) (ds : List DV) : Prop := cs.length = ds.length ∧ ∀ (j : Nat) v x, cs[j]? = some v → ds[j]? = some x → DRep w (fun b => b < w.heap.size) v x
theorem repL_nil {w : World} : RepL w [] [] := ⟨rfl, fun j v x h => by simp at h⟩
theorem repL_cons {w : World} {v : Value} {x : DV} {cs : List Value} {ds : List DV} (h : DRep w (fun b => b < w.heap.size) v x) (k : RepL w cs ds) : RepL w (v :: cs) (x :: ds) := by
  refine ⟨by simp [k.1], fun j a b h1 h2 => ?_⟩
  cases j with
  | zero => simp at h1 h2; subst h1 h2; exact h
  | succ j => simp at h1 h2; exact k.2 j a b h1 h2
theorem repL_app {w : World} {cs : List Value} {ds : List DV} {cs2 : List Value} {ds2 : List DV} (h : RepL w cs ds) (k : RepL w cs2 ds2) : RepL w (cs ++ cs2) (ds ++ ds2) := by
  refine ⟨by simp [h.1, k.1], fun j a b h1 h2 => ?_⟩
  rw [List.getElem?_append] at h1 h2
  rw [← h.1] at h2
  split at h1
  · rename_i hj; rw [if_pos hj] at h2; exact h.2 j a b h1 h2
  · rename_i hj; rw [if_neg hj] at h2; exact k.2 _ a b h1 h2
theorem repL_int {w : World} (k : IntKind) (z : Int) : DRep w (fun b => b < w.heap.size) (.int k z) (.v (.int k z)) := .v _ rfl
theorem repL_str {w : World} (s : ByteArray) : DRep w (fun b => b < w.heap.size) (.string s) (.v (.string s)) := .v _ rfl
theorem agg_rep {w : World} {μ : Places} {h : Heap} {cs : Array Value} {ds : List DV} (r : RepL w cs.toList ds) : ARep w (fun b => b < w.heap.size) μ h (.agg cs) (.agg (ds.map .d)) := by
  refine .agg _ _ (by simpa using r.1) fun i v c h1 h2 => ?_
  rw [List.getElem?_map] at h2
  obtain ⟨x, hx, rfl⟩ := Option.map_eq_some_iff.1 h2
  exact .d _ _ (r.2 i v x (by simpa using h1) hx)
theorem args_nil {w : World} : ∀ (i : Nat) v a, (List.toArray ([] : List Value))[i]? = some v → ([] : List AV)[i]? = some a → ARep w (fun b => b < w.heap.size) (fun _ _ => none) (lks []) v a := fun i v a h => by simp at h
theorem args_cons {w : World} {v0 : Value} {a0 : AV} {vs : List Value} {bs : List AV} (h : ARep w (fun b => b < w.heap.size) (fun _ _ => none) (lks []) v0 a0) (k : ∀ (i : Nat) v a, vs.toArray[i]? = some v → bs[i]? = some a → ARep w (fun b => b < w.heap.size) (fun _ _ => none) (lks []) v a) :
    ∀ (i : Nat) v a, (v0 :: vs).toArray[i]? = some v → (a0 :: bs)[i]? = some a → ARep w (fun b => b < w.heap.size) (fun _ _ => none) (lks []) v a := fun i v a h1 h2 => by
  cases i with
  | zero => simp at h1 h2; subst h1 h2; exact h
  | succ i =>
    simp at h1 h2
    exact k i v a (by simpa using h1) h2
section
variable {H : Type} {enc : TypeId × Value → H} {W : World} {b0 : Nat} {spare : Nat → Bool} {held : Bool} {fuel : Nat} {cs : List Value} {x : DataW H × List MemPlace}
theorem fieldR {P : Program} {t : TypeId} {fs : Array Field} (ht : P.underlying t = some (.struct fs)) (h : DataW.trod enc P W b0 spare held fuel t cs = some x) (i : Nat) (T : TypeId) (sub : List Value)
    (hk : (fs[i]?).map (fun f => (f.type, (cs.drop f.offset).take (P.cellsOf f.type))) = some (T, sub)) : ∃ n y, DataW.trod enc P W b0 spare held n T sub = some y := by
  obtain ⟨xs, n, _, _, hl, hxl, hf⟩ := DataW.trod_struct ht h
  cases hfi : fs[i]? with
  | none => rw [hfi] at hk; cases hk
  | some f =>
    rw [hfi] at hk
    simp only [Option.map_some, Option.some.injEq, Prod.mk.injEq] at hk
    obtain ⟨rfl, rfl⟩ := hk
    have hi : i < fs.size := (Array.getElem?_eq_some_iff.1 hfi).1
    refine ⟨n, xs[i]'(by omega), (hf i f hfi).trans (List.getElem?_eq_getElem (by omega))⟩
theorem cellsR {P : Program} {t : TypeId} {fs : Array Field} (ht : P.underlying t = some (.struct fs)) (h : DataW.trod enc P W b0 spare held fuel t cs = some x) : cs.length = P.cellsOf t := by
  obtain ⟨xs, n, _, _, hl, hxl, hf⟩ := DataW.trod_struct ht h
  exact hl
theorem sliceA {P : Program} {t e : TypeId} {α : Type} [Inhabited α] {a : Value} (f : α → List DV) (ok : α → Prop) (sz : Nat) (hf : ∀ a, (f a).length = sz) (hsz : 0 < sz) (ht : P.underlying t = some (.slice e)) (hC : P.cellsOf e = sz)
    (rd : ∀ (fuel : Nat) (cs : List Value) (x : DataW H × List MemPlace), DataW.trod enc P W b0 spare held fuel e cs = some x → ∃ m, RepL W cs (f m) ∧ ok m)
    (h : ∃ n y, DataW.trod enc P W b0 spare held n t [a] = some y) :
    ∃ xs : List α, DRep W (fun b => b < W.heap.size) a (.sl (xs.map f)) ∧ xs.length ≤ 9223372036854775807 ∧ ∀ m ∈ xs, ok m := by
  obtain ⟨n, y, h⟩ := h
  rcases DataW.trod_slice ht h with ⟨h0, _⟩ | ⟨ad, len, cap, elems, rest, n', _, hcs, _, hb, hl, hm, hel, hi, _, _⟩
  · simp at h0
    subst h0
    exact ⟨[], .nil, by simp, fun m hm => by simp at hm⟩
  · simp at hcs
    subst hcs
    rw [hC] at hi
    obtain ⟨q, hq⟩ := choose_lt (α := α) (n := len) (p := fun k q => (∃ cs', W.cells? b0 (ad.add (k * sz)) sz = some cs' ∧ RepL W cs' (f q)) ∧ ok q) (fun k hk => by
      have h1 := hi k hk
      rw [List.getElem?_eq_getElem (by omega)] at h1
      obtain ⟨cs', hc, htr⟩ := Option.bind_eq_some_iff.1 h1
      obtain ⟨m, hm1, hm2⟩ := rd _ _ _ htr
      exact ⟨m, ⟨cs', hc, hm1⟩, hm2⟩)
    have hxl : ((List.range len).map q).length = len := by simp
    refine ⟨(List.range len).map q, ?_, by rw [hxl]; unfold maxLen at hm; omega, fun m hm' => ?_⟩
    · have hcell : ∀ k, k < len → ∀ j, j < sz → ∃ v, W.cell? (ad.add (k * sz + j)) = some v ∧ ∀ x, (f (q k))[j]? = some x → DRep W (fun b => b < W.heap.size) v x := by
        intro k hk j hj
        obtain ⟨⟨cs', hc, hr⟩, _⟩ := hq k hk
        obtain ⟨_, hl', hat⟩ := World.cells?_some hc
        have hjl : j < cs'.length := by rw [hr.1, hf]; exact hj
        refine ⟨cs'[j], ?_, fun x hx => hr.2 j _ x (List.getElem?_eq_getElem hjl) hx⟩
        rw [← Go.Deep.add_add, ← List.getElem?_eq_getElem hjl]
        exact hat j hj
      rcases Nat.eq_zero_or_pos len with h0 | h0
      · subst h0
        exact .emp _ _ hm
      · obtain ⟨v0, h00, _⟩ := hcell 0 h0 0 hsz
        obtain ⟨b, off, spot⟩ := ad
        have hspot : spot = none := by
          have := World.cell?_spot h00
          simpa [Addr.add] using this
        subst hspot
        have hdd : DRep W (fun b => b < W.heap.size) (.slice (some ⟨b, off, none⟩) ((List.range len).map (fun k => f (q k))).length cap) (.sl ((List.range len).map fun k => f (q k))) := by
          refine .sl b off cap sz _ (fun i j => (W.cell? ⟨b, off + i * sz + j, none⟩).getD undef) ?_ (by simpa using hl) hm (fun i e he => ?_) (fun i e j x he hx => ?_) (fun i e j x he hx => ?_)
          · have h01 := cell_ltA h00
            simp only [Addr.add] at h01
            split at h01 <;> exact h01
          · rw [List.getElem?_map] at he
            obtain ⟨k, _, rfl⟩ := Option.map_eq_some_iff.1 he
            exact hf _
          all_goals
            rw [List.getElem?_map] at he
            obtain ⟨k, hk, rfl⟩ := Option.map_eq_some_iff.1 he
            obtain ⟨hil, rfl⟩ := List.getElem?_eq_some_iff.1 hk
            simp only [List.length_range] at hil
            simp only [List.getElem_range] at hx
            have hjl : j < sz := by have := (List.getElem?_eq_some_iff.1 hx).1; rw [hf] at this; exact this
            obtain ⟨v, hv, hr⟩ := hcell i hil j hjl
            rw [add_plain, ← Nat.add_assoc] at hv
            rw [hv]
          · rfl
          · exact hr x hx
        simpa [List.map_map, Function.comp_def] using hdd
    · obtain ⟨k, hk, rfl⟩ := List.mem_map.1 hm'
      exact (hq k (by simpa using hk)).2
end
end Go.Proofs.YtjjelnpehgoagaaDoor
namespace Go.Proofs.YtjjelnpehgoagaaDoor
open Go.ChangeShapes Go.WideShapes Go.ChangeAt Go.RowKit Go.Deep
set_option linter.unusedVariables false
set_option maxRecDepth 100000
def osI (x : Int) : Prop := -9223372036854775808 ≤ x ∧ x ≤ 9223372036854775807
def osS (x : ByteArray) : Prop := x.size ≤ 9223372036854775807
def osL {α : Type} (ok : α → Prop) (xs : List α) : Prop := xs.length ≤ 9223372036854775807 ∧ ∀ m ∈ xs, ok m
section
variable {H : Type} {enc : TypeId × Value → H} {W : World} {b0 : Nat} {spare : Nat → Bool} {held : Bool} {fuel : Nat} {cs : List Value} {x : DataW H × List MemPlace}
theorem sl_one {P : Program} {t e : TypeId} (ht : P.underlying t = some (.slice e)) (h : DataW.trod enc P W b0 spare held fuel t cs = some x) : ∃ v, cs = [v] := by
  rcases DataW.trod_slice ht h with ⟨h0, _⟩ | ⟨ad, len, cap, elems, rest, n', _, hcs, _⟩
  · exact ⟨_, h0⟩
  · exact ⟨_, hcs⟩
theorem sliceX {P : Program} {t e : TypeId} {α : Type} {a : Value} (f : α → List DV) (ok : α → Prop) (sz : Nat) (hf : ∀ a, (f a).length = sz) (hsz : 0 < sz) (ht : P.underlying t = some (.slice e)) (hC : P.cellsOf e = sz)
    (rd : ∀ (fuel : Nat) (cs : List Value) (x : DataW H × List MemPlace), DataW.trod enc P W b0 spare held fuel e cs = some x → ∃ m, RepL W cs (f m) ∧ ok m)
    (h : ∃ n y, DataW.trod enc P W b0 spare held n t [a] = some y) :
    ∃ xs : List α, DRep W (fun b => b < W.heap.size) a (.sl (xs.map f)) ∧ xs.length ≤ 9223372036854775807 ∧ ∀ m ∈ xs, ok m := by
  by_cases hne : Nonempty α
  · haveI : Inhabited α := ⟨Classical.choice hne⟩
    exact sliceA f ok sz hf hsz ht hC rd h
  · obtain ⟨n, y, h⟩ := h
    rcases DataW.trod_slice ht h with ⟨h0, _⟩ | ⟨ad, len, cap, elems, rest, n', _, hcs, _, hb, hl, hm, hel, hi, _, _⟩
    · simp at h0
      subst h0
      exact ⟨[], .nil, by simp, fun m hm => by simp at hm⟩
    · simp at hcs
      subst hcs
      rcases Nat.eq_zero_or_pos len with h0 | h0
      · subst h0
        exact ⟨[], .emp _ _ hm, by simp, fun m hm => by simp at hm⟩
      · exfalso
        have h1 := hi 0 h0
        rw [List.getElem?_eq_getElem (by omega)] at h1
        obtain ⟨cs', hc, htr⟩ := Option.bind_eq_some_iff.1 h1
        obtain ⟨m, _⟩ := rd _ _ _ htr
        exact hne ⟨m⟩
end
end Go.Proofs.YtjjelnpehgoagaaDoor
namespace Go.Proofs.YtjjelnpehgoagaaDoor
open Go.RowKit
set_option linter.unusedVariables false
set_option maxRecDepth 100000
set_option maxHeartbeats 2000000
def okSpot_ (x : Spot_) : Prop := osI x.X ∧ osI x.Y
def okShape_ (x : Shape_) : Prop := osI x.Kind ∧ okSpot_ x.A ∧ okSpot_ x.B ∧ osI x.R ∧ osS x.Name
def okDrawing_ (x : Drawing_) : Prop := (osL okShape_) x.Shapes
end Go.Proofs.YtjjelnpehgoagaaDoor
namespace Go.Proofs.YtjjelnpehgoagaaDoor
open Go.ChangeShapes Go.WideShapes Go.ChangeAt Go.RowKit Go.Deep
set_option linter.unusedVariables false
set_option maxRecDepth 100000
set_option maxHeartbeats 2000000
theorem lst1 {α : Type} (l : List α) (h : l.length = 1) : ∃ a0, l = [a0] := by
  match l, h with
  | [a0], _ => exact ⟨a0, rfl⟩
theorem lst2 {α : Type} (l : List α) (h : l.length = 2) : ∃ a0 a1, l = [a0, a1] := by
  match l, h with
  | [a0, a1], _ => exact ⟨a0, a1, rfl⟩
theorem lst7 {α : Type} (l : List α) (h : l.length = 7) : ∃ a0 a1 a2 a3 a4 a5 a6, l = [a0, a1, a2, a3, a4, a5, a6] := by
  match l, h with
  | [a0, a1, a2, a3, a4, a5, a6], _ => exact ⟨a0, a1, a2, a3, a4, a5, a6, rfl⟩
theorem rd_2 {H : Type} {enc : TypeId × Value → H} {W : World} {b0 : Nat} {spare : Nat → Bool} {held : Bool} {fuel : Nat} {cs : List Value} {x : DataW H × List MemPlace} (h : DataW.trod enc Tryd.prog W b0 spare held fuel 2 cs = some x) : ∃ v : Int, RepL W cs (cI v) ∧ osI v := by
  obtain ⟨z, rfl, _, hw⟩ := DataW.trod_int Tryd.underlying2 h
  exact ⟨z, repL_cons (repL_int _ _) repL_nil, by simpa [osI, Lit.wf, IntKind.min, IntKind.max, IntKind.bits, IntKind.signed] using hw⟩
theorem rd_52 {H : Type} {enc : TypeId × Value → H} {W : World} {b0 : Nat} {spare : Nat → Bool} {held : Bool} {fuel : Nat} {cs : List Value} {x : DataW H × List MemPlace} (h : DataW.trod enc Tryd.prog W b0 spare held fuel 52 cs = some x) : ∃ v : Spot_, RepL W cs (cSpot_ v) ∧ okSpot_ v := by
  obtain ⟨a0, a1, rfl⟩ := lst2 cs ((cellsR Tryd.underlying52 h).trans (by kernel_rfl))
  obtain ⟨n0, y0, h0⟩ := fieldR Tryd.underlying52 h 0 2 [a0] (by kernel_rfl)
  obtain ⟨v0, r0, o0⟩ := rd_2 h0
  obtain ⟨n1, y1, h1⟩ := fieldR Tryd.underlying52 h 1 2 [a1] (by kernel_rfl)
  obtain ⟨v1, r1, o1⟩ := rd_2 h1
  exact ⟨⟨v0, v1⟩, (repL_app r0 (repL_app r1 repL_nil)), ⟨o0, o1⟩⟩
theorem rd_9 {H : Type} {enc : TypeId × Value → H} {W : World} {b0 : Nat} {spare : Nat → Bool} {held : Bool} {fuel : Nat} {cs : List Value} {x : DataW H × List MemPlace} (h : DataW.trod enc Tryd.prog W b0 spare held fuel 9 cs = some x) : ∃ v : ByteArray, RepL W cs (cS v) ∧ osS v := by
  obtain ⟨z, rfl, _, hw⟩ := DataW.trod_string Tryd.underlying9 h
  exact ⟨z, repL_cons (repL_str _) repL_nil, by unfold osS; unfold maxLen at hw; exact hw⟩
theorem rd_54 {H : Type} {enc : TypeId × Value → H} {W : World} {b0 : Nat} {spare : Nat → Bool} {held : Bool} {fuel : Nat} {cs : List Value} {x : DataW H × List MemPlace} (h : DataW.trod enc Tryd.prog W b0 spare held fuel 54 cs = some x) : ∃ v : Shape_, RepL W cs (cShape_ v) ∧ okShape_ v := by
  obtain ⟨a0, a1, a2, a3, a4, a5, a6, rfl⟩ := lst7 cs ((cellsR Tryd.underlying54 h).trans (by kernel_rfl))
  obtain ⟨n0, y0, h0⟩ := fieldR Tryd.underlying54 h 0 2 [a0] (by kernel_rfl)
  obtain ⟨v0, r0, o0⟩ := rd_2 h0
  obtain ⟨n1, y1, h1⟩ := fieldR Tryd.underlying54 h 1 52 [a1, a2] (by kernel_rfl)
  obtain ⟨v1, r1, o1⟩ := rd_52 h1
  obtain ⟨n2, y2, h2⟩ := fieldR Tryd.underlying54 h 2 52 [a3, a4] (by kernel_rfl)
  obtain ⟨v2, r2, o2⟩ := rd_52 h2
  obtain ⟨n3, y3, h3⟩ := fieldR Tryd.underlying54 h 3 2 [a5] (by kernel_rfl)
  obtain ⟨v3, r3, o3⟩ := rd_2 h3
  obtain ⟨n4, y4, h4⟩ := fieldR Tryd.underlying54 h 4 9 [a6] (by kernel_rfl)
  obtain ⟨v4, r4, o4⟩ := rd_9 h4
  exact ⟨⟨v0, v1, v2, v3, v4⟩, (repL_app r0 (repL_app r1 (repL_app r2 (repL_app r3 (repL_app r4 repL_nil))))), ⟨o0, o1, o2, o3, o4⟩⟩
theorem rd_22 {H : Type} {enc : TypeId × Value → H} {W : World} {b0 : Nat} {spare : Nat → Bool} {held : Bool} {fuel : Nat} {cs : List Value} {x : DataW H × List MemPlace} (h : DataW.trod enc Tryd.prog W b0 spare held fuel 22 cs = some x) : ∃ v : List Shape_, RepL W cs ((cL cShape_) v) ∧ (osL okShape_) v := by
  obtain ⟨v, hv⟩ : ∃ v, cs = [v] := sl_one (t := 22) Tryd.underlying22 h
  subst hv
  obtain ⟨xs, hr, hm, hok⟩ := sliceX cShape_ okShape_ 7 (fun _ => rfl) (by omega) Tryd.underlying22 (by kernel_rfl) (fun fuel cs x h => rd_54 h) ⟨_, _, h⟩
  exact ⟨xs, repL_cons hr repL_nil, hm, hok⟩
theorem rd_24 {H : Type} {enc : TypeId × Value → H} {W : World} {b0 : Nat} {spare : Nat → Bool} {held : Bool} {fuel : Nat} {cs : List Value} {x : DataW H × List MemPlace} (h : DataW.trod enc Tryd.prog W b0 spare held fuel 24 cs = some x) : ∃ v : Drawing_, RepL W cs (cDrawing_ v) ∧ okDrawing_ v := by
  obtain ⟨a0, rfl⟩ := lst1 cs ((cellsR Tryd.underlying24 h).trans (by kernel_rfl))
  obtain ⟨n0, y0, h0⟩ := fieldR Tryd.underlying24 h 0 22 [a0] (by kernel_rfl)
  obtain ⟨v0, r0, o0⟩ := rd_22 h0
  exact ⟨⟨v0⟩, (repL_app r0 repL_nil), o0⟩
theorem open_24 {H : Type} {enc : TypeId × Value → H} {W : World} {b0 base : Nat} {spare : Nat → Bool} {held : Bool} {v : Value} {d : DataW H} {p : List MemPlace} (hv : Value.okWide Tryd.prog W .any base 24 v) (h : DataW.Trod enc Tryd.prog W b0 spare held 24 v d p) : ∃ x : Drawing_, ARep W (fun b => b < W.heap.size) (fun _ _ => none) (lks []) v (.agg [.d (.sl (List.map cShape_ x.Shapes))]) ∧ okDrawing_ x := by
  obtain ⟨cs, rfl, hsz⟩ := okWide_struct Tryd.underlying24 hv
  obtain ⟨fuel, hf⟩ := h
  obtain ⟨x, hr, hok⟩ := rd_24 hf
  exact ⟨x, agg_rep (ds := cDrawing_ x) (by simpa [Value.cells] using hr), hok⟩
end Go.Proofs.YtjjelnpehgoagaaDoor
namespace Go.Proofs.YtjjelnpehgoagaaDoor
open Go.RowKit
set_option linter.unusedVariables false
set_option maxRecDepth 100000
theorem ty2 : TyIs Tryd.prog 2 ⟨.int .i64, 1, 8, .int .i64 0⟩ := tyIs_of (by kernel_rfl)
theorem ty3 : TyIs Tryd.prog 3 ⟨.int .i64, 1, 8, .int .i64 0⟩ := tyIs_of (by kernel_rfl)
theorem ty4 : TyIs Tryd.prog 4 ⟨.bool, 1, 1, .bool false⟩ := tyIs_of (by kernel_rfl)
theorem ty5 : TyIs Tryd.prog 5 ⟨.int .u8, 1, 1, .int .u8 0⟩ := tyIs_of (by kernel_rfl)
theorem ty6 : TyIs Tryd.prog 6 ⟨.int .u8, 1, 1, .int .u8 0⟩ := tyIs_of (by kernel_rfl)
theorem ty8 : TyIs Tryd.prog 8 ⟨.struct #[⟨ "x", 2, 0, false, "", "runtime", 0⟩, ⟨ "y", 3, 1, false, "", "runtime", 8⟩, ⟨ "signed", 4, 2, false, "", "runtime", 16⟩, ⟨ "code", 6, 3, false, "", "runtime", 17⟩], 4, 24, .agg #[.int .i64 0, .int .i64 0, .bool false, .int .u8 0]⟩ := tyIs_of (by kernel_rfl)
theorem ty9 : TyIs Tryd.prog 9 ⟨.string, 1, 16, .string ⟨#[]⟩⟩ := tyIs_of (by kernel_rfl)
theorem ty10 : TyIs Tryd.prog 10 ⟨.string, 1, 16, .string ⟨#[]⟩⟩ := tyIs_of (by kernel_rfl)
theorem ty11 : TyIs Tryd.prog 11 ⟨.string, 1, 16, .string ⟨#[]⟩⟩ := tyIs_of (by kernel_rfl)
theorem ty12 : TyIs Tryd.prog 12 ⟨.int .u64, 1, 8, .int .u64 0⟩ := tyIs_of (by kernel_rfl)
theorem ty14 : TyIs Tryd.prog 14 ⟨.struct #[⟨ "msg", 9, 0, false, "", "runtime", 0⟩, ⟨ "addr", 12, 1, false, "", "runtime", 16⟩], 2, 24, .agg #[.string ⟨#[]⟩, .int .u64 0]⟩ := tyIs_of (by kernel_rfl)
theorem ty15 : TyIs Tryd.prog 15 ⟨.pointer 94, 1, 8, .pointer none⟩ := tyIs_of (by kernel_rfl)
theorem ty16 : TyIs Tryd.prog 16 ⟨.pointer 97, 1, 8, .pointer none⟩ := tyIs_of (by kernel_rfl)
theorem ty17 : TyIs Tryd.prog 17 ⟨.pointer 105, 1, 8, .pointer none⟩ := tyIs_of (by kernel_rfl)
theorem ty19 : TyIs Tryd.prog 19 ⟨.struct #[⟨ "typ", 17, 0, false, "", "internal/runtime/maps", 0⟩], 1, 8, .agg #[.pointer none]⟩ := tyIs_of (by kernel_rfl)
theorem ty22 : TyIs Tryd.prog 22 ⟨.slice 54, 1, 24, .slice none 0 0⟩ := tyIs_of (by kernel_rfl)
theorem ty24 : TyIs Tryd.prog 24 ⟨.struct #[⟨ "Shapes", 22, 0, false, "", "", 0⟩], 1, 24, .agg #[.slice none 0 0]⟩ := tyIs_of (by kernel_rfl)
theorem ty27 : TyIs Tryd.prog 27 ⟨.slice 43, 1, 24, .slice none 0 0⟩ := tyIs_of (by kernel_rfl)
theorem ty29 : TyIs Tryd.prog 29 ⟨.struct #[⟨ "Shapes", 27, 0, false, "", "", 0⟩], 1, 24, .agg #[.slice none 0 0]⟩ := tyIs_of (by kernel_rfl)
theorem ty36 : TyIs Tryd.prog 36 ⟨.pointer 39, 1, 8, .pointer none⟩ := tyIs_of (by kernel_rfl)
theorem ty37 : TyIs Tryd.prog 37 ⟨.slice 5, 1, 24, .slice none 0 0⟩ := tyIs_of (by kernel_rfl)
theorem ty39 : TyIs Tryd.prog 39 ⟨.struct #[⟨ "addr", 36, 0, false, "", "strings", 0⟩, ⟨ "buf", 37, 1, false, "", "strings", 8⟩], 2, 32, .agg #[.pointer none, .slice none 0 0]⟩ := tyIs_of (by kernel_rfl)
theorem ty41 : TyIs Tryd.prog 41 ⟨.struct #[⟨ "X", 2, 0, false, "", "", 0⟩, ⟨ "Y", 2, 1, false, "", "", 8⟩], 2, 16, .agg #[.int .i64 0, .int .i64 0]⟩ := tyIs_of (by kernel_rfl)
theorem ty43 : TyIs Tryd.prog 43 ⟨.struct #[⟨ "Kind", 2, 0, false, "", "", 0⟩, ⟨ "A", 41, 1, false, "", "", 8⟩, ⟨ "B", 41, 3, false, "", "", 24⟩, ⟨ "R", 2, 5, false, "", "", 40⟩, ⟨ "Name", 9, 6, false, "", "", 48⟩], 7, 64, .agg #[.int .i64 0, .int .i64 0, .int .i64 0, .int .i64 0, .int .i64 0, .int .i64 0, .string ⟨#[]⟩]⟩ := tyIs_of (by kernel_rfl)
theorem ty52 : TyIs Tryd.prog 52 ⟨.struct #[⟨ "X", 2, 0, false, "", "", 0⟩, ⟨ "Y", 2, 1, false, "", "", 8⟩], 2, 16, .agg #[.int .i64 0, .int .i64 0]⟩ := tyIs_of (by kernel_rfl)
theorem ty54 : TyIs Tryd.prog 54 ⟨.struct #[⟨ "Kind", 2, 0, false, "", "", 0⟩, ⟨ "A", 52, 1, false, "", "", 8⟩, ⟨ "B", 52, 3, false, "", "", 24⟩, ⟨ "R", 2, 5, false, "", "", 40⟩, ⟨ "Name", 9, 6, false, "", "", 48⟩], 7, 64, .agg #[.int .i64 0, .int .i64 0, .int .i64 0, .int .i64 0, .int .i64 0, .int .i64 0, .string ⟨#[]⟩]⟩ := tyIs_of (by kernel_rfl)
theorem ty59 : TyIs Tryd.prog 59 ⟨.pointer 5, 1, 8, .pointer none⟩ := tyIs_of (by kernel_rfl)
theorem ty76 : TyIs Tryd.prog 76 ⟨.array 24 5, 24, 24, .agg #[.int .u8 0, .int .u8 0, .int .u8 0, .int .u8 0, .int .u8 0, .int .u8 0, .int .u8 0, .int .u8 0, .int .u8 0, .int .u8 0, .int .u8 0, .int .u8 0, .int .u8 0, .int .u8 0, .int .u8 0, .int .u8 0, .int .u8 0, .int .u8 0, .int .u8 0, .int .u8 0, .int .u8 0, .int .u8 0, .int .u8 0, .int .u8 0]⟩ := tyIs_of (by kernel_rfl)
theorem ty77 : TyIs Tryd.prog 77 ⟨.int .u64, 1, 8, .int .u64 0⟩ := tyIs_of (by kernel_rfl)
theorem ty84 : TyIs Tryd.prog 84 ⟨.array 20 77, 20, 160, .agg #[.int .u64 0, .int .u64 0, .int .u64 0, .int .u64 0, .int .u64 0, .int .u64 0, .int .u64 0, .int .u64 0, .int .u64 0, .int .u64 0, .int .u64 0, .int .u64 0, .int .u64 0, .int .u64 0, .int .u64 0, .int .u64 0, .int .u64 0, .int .u64 0, .int .u64 0, .int .u64 0]⟩ := tyIs_of (by kernel_rfl)
theorem ty85 : TyIs Tryd.prog 85 ⟨.int .u32, 1, 4, .int .u32 0⟩ := tyIs_of (by kernel_rfl)
theorem ty86 : TyIs Tryd.prog 86 ⟨.array 65 5, 65, 65, .agg #[.int .u8 0, .int .u8 0, .int .u8 0, .int .u8 0, .int .u8 0, .int .u8 0, .int .u8 0, .int .u8 0, .int .u8 0, .int .u8 0, .int .u8 0, .int .u8 0, .int .u8 0, .int .u8 0, .int .u8 0, .int .u8 0, .int .u8 0, .int .u8 0, .int .u8 0, .int .u8 0, .int .u8 0, .int .u8 0, .int .u8 0, .int .u8 0, .int .u8 0, .int .u8 0, .int .u8 0, .int .u8 0, .int .u8 0, .int .u8 0, .int .u8 0, .int .u8 0, .int .u8 0, .int .u8 0, .int .u8 0, .int .u8 0, .int .u8 0, .int .u8 0, .int .u8 0, .int .u8 0, .int .u8 0, .int .u8 0, .int .u8 0, .int .u8 0, .int .u8 0, .int .u8 0, .int .u8 0, .int .u8 0, .int .u8 0, .int .u8 0, .int .u8 0, .int .u8 0, .int .u8 0, .int .u8 0, .int .u8 0, .int .u8 0, .int .u8 0, .int .u8 0, .int .u8 0, .int .u8 0, .int .u8 0, .int .u8 0, .int .u8 0, .int .u8 0, .int .u8 0]⟩ := tyIs_of (by kernel_rfl)
theorem ty88 : TyIs Tryd.prog 88 ⟨.int .u64, 1, 8, .int .u64 0⟩ := tyIs_of (by kernel_rfl)
theorem ty91 : TyIs Tryd.prog 91 ⟨.array 32 5, 32, 32, .agg #[.int .u8 0, .int .u8 0, .int .u8 0, .int .u8 0, .int .u8 0, .int .u8 0, .int .u8 0, .int .u8 0, .int .u8 0, .int .u8 0, .int .u8 0, .int .u8 0, .int .u8 0, .int .u8 0, .int .u8 0, .int .u8 0, .int .u8 0, .int .u8 0, .int .u8 0, .int .u8 0, .int .u8 0, .int .u8 0, .int .u8 0, .int .u8 0, .int .u8 0, .int .u8 0, .int .u8 0, .int .u8 0, .int .u8 0, .int .u8 0, .int .u8 0, .int .u8 0]⟩ := tyIs_of (by kernel_rfl)
theorem ty92 : TyIs Tryd.prog 92 ⟨.array 64 5, 64, 64, .agg #[.int .u8 0, .int .u8 0, .int .u8 0, .int .u8 0, .int .u8 0, .int .u8 0, .int .u8 0, .int .u8 0, .int .u8 0, .int .u8 0, .int .u8 0, .int .u8 0, .int .u8 0, .int .u8 0, .int .u8 0, .int .u8 0, .int .u8 0, .int .u8 0, .int .u8 0, .int .u8 0, .int .u8 0, .int .u8 0, .int .u8 0, .int .u8 0, .int .u8 0, .int .u8 0, .int .u8 0, .int .u8 0, .int .u8 0, .int .u8 0, .int .u8 0, .int .u8 0, .int .u8 0, .int .u8 0, .int .u8 0, .int .u8 0, .int .u8 0, .int .u8 0, .int .u8 0, .int .u8 0, .int .u8 0, .int .u8 0, .int .u8 0, .int .u8 0, .int .u8 0, .int .u8 0, .int .u8 0, .int .u8 0, .int .u8 0, .int .u8 0, .int .u8 0, .int .u8 0, .int .u8 0, .int .u8 0, .int .u8 0, .int .u8 0, .int .u8 0, .int .u8 0, .int .u8 0, .int .u8 0, .int .u8 0, .int .u8 0, .int .u8 0, .int .u8 0]⟩ := tyIs_of (by kernel_rfl)
theorem ty100 : TyIs Tryd.prog 100 ⟨.int .u8, 1, 1, .int .u8 0⟩ := tyIs_of (by kernel_rfl)
def tt : Tab := updT (updT (updT (updT (updT (updT (updT (updT (updT (updT (updT (updT (updT (updT (updT (updT (updT (updT (updT (updT (updT (updT (updT (updT (updT (updT (updT (updT (updT (updT (updT (updT (updT (updT (updT (updT ((fun _ => none)) 2 ⟨.int .i64, 1, 8, .int .i64 0⟩) 3 ⟨.int .i64, 1, 8, .int .i64 0⟩) 4 ⟨.bool, 1, 1, .bool false⟩) 5 ⟨.int .u8, 1, 1, .int .u8 0⟩) 6 ⟨.int .u8, 1, 1, .int .u8 0⟩) 8 ⟨.struct #[⟨ "x", 2, 0, false, "", "runtime", 0⟩, ⟨ "y", 3, 1, false, "", "runtime", 8⟩, ⟨ "signed", 4, 2, false, "", "runtime", 16⟩, ⟨ "code", 6, 3, false, "", "runtime", 17⟩], 4, 24, .agg #[.int .i64 0, .int .i64 0, .bool false, .int .u8 0]⟩) 9 ⟨.string, 1, 16, .string ⟨#[]⟩⟩) 10 ⟨.string, 1, 16, .string ⟨#[]⟩⟩) 11 ⟨.string, 1, 16, .string ⟨#[]⟩⟩) 12 ⟨.int .u64, 1, 8, .int .u64 0⟩) 14 ⟨.struct #[⟨ "msg", 9, 0, false, "", "runtime", 0⟩, ⟨ "addr", 12, 1, false, "", "runtime", 16⟩], 2, 24, .agg #[.string ⟨#[]⟩, .int .u64 0]⟩) 15 ⟨.pointer 94, 1, 8, .pointer none⟩) 16 ⟨.pointer 97, 1, 8, .pointer none⟩) 17 ⟨.pointer 105, 1, 8, .pointer none⟩) 19 ⟨.struct #[⟨ "typ", 17, 0, false, "", "internal/runtime/maps", 0⟩], 1, 8, .agg #[.pointer none]⟩) 22 ⟨.slice 54, 1, 24, .slice none 0 0⟩) 24 ⟨.struct #[⟨ "Shapes", 22, 0, false, "", "", 0⟩], 1, 24, .agg #[.slice none 0 0]⟩) 27 ⟨.slice 43, 1, 24, .slice none 0 0⟩) 29 ⟨.struct #[⟨ "Shapes", 27, 0, false, "", "", 0⟩], 1, 24, .agg #[.slice none 0 0]⟩) 36 ⟨.pointer 39, 1, 8, .pointer none⟩) 37 ⟨.slice 5, 1, 24, .slice none 0 0⟩) 39 ⟨.struct #[⟨ "addr", 36, 0, false, "", "strings", 0⟩, ⟨ "buf", 37, 1, false, "", "strings", 8⟩], 2, 32, .agg #[.pointer none, .slice none 0 0]⟩) 41 ⟨.struct #[⟨ "X", 2, 0, false, "", "", 0⟩, ⟨ "Y", 2, 1, false, "", "", 8⟩], 2, 16, .agg #[.int .i64 0, .int .i64 0]⟩) 43 ⟨.struct #[⟨ "Kind", 2, 0, false, "", "", 0⟩, ⟨ "A", 41, 1, false, "", "", 8⟩, ⟨ "B", 41, 3, false, "", "", 24⟩, ⟨ "R", 2, 5, false, "", "", 40⟩, ⟨ "Name", 9, 6, false, "", "", 48⟩], 7, 64, .agg #[.int .i64 0, .int .i64 0, .int .i64 0, .int .i64 0, .int .i64 0, .int .i64 0, .string ⟨#[]⟩]⟩) 52 ⟨.struct #[⟨ "X", 2, 0, false, "", "", 0⟩, ⟨ "Y", 2, 1, false, "", "", 8⟩], 2, 16, .agg #[.int .i64 0, .int .i64 0]⟩) 54 ⟨.struct #[⟨ "Kind", 2, 0, false, "", "", 0⟩, ⟨ "A", 52, 1, false, "", "", 8⟩, ⟨ "B", 52, 3, false, "", "", 24⟩, ⟨ "R", 2, 5, false, "", "", 40⟩, ⟨ "Name", 9, 6, false, "", "", 48⟩], 7, 64, .agg #[.int .i64 0, .int .i64 0, .int .i64 0, .int .i64 0, .int .i64 0, .int .i64 0, .string ⟨#[]⟩]⟩) 59 ⟨.pointer 5, 1, 8, .pointer none⟩) 76 ⟨.array 24 5, 24, 24, .agg #[.int .u8 0, .int .u8 0, .int .u8 0, .int .u8 0, .int .u8 0, .int .u8 0, .int .u8 0, .int .u8 0, .int .u8 0, .int .u8 0, .int .u8 0, .int .u8 0, .int .u8 0, .int .u8 0, .int .u8 0, .int .u8 0, .int .u8 0, .int .u8 0, .int .u8 0, .int .u8 0, .int .u8 0, .int .u8 0, .int .u8 0, .int .u8 0]⟩) 77 ⟨.int .u64, 1, 8, .int .u64 0⟩) 84 ⟨.array 20 77, 20, 160, .agg #[.int .u64 0, .int .u64 0, .int .u64 0, .int .u64 0, .int .u64 0, .int .u64 0, .int .u64 0, .int .u64 0, .int .u64 0, .int .u64 0, .int .u64 0, .int .u64 0, .int .u64 0, .int .u64 0, .int .u64 0, .int .u64 0, .int .u64 0, .int .u64 0, .int .u64 0, .int .u64 0]⟩) 85 ⟨.int .u32, 1, 4, .int .u32 0⟩) 86 ⟨.array 65 5, 65, 65, .agg #[.int .u8 0, .int .u8 0, .int .u8 0, .int .u8 0, .int .u8 0, .int .u8 0, .int .u8 0, .int .u8 0, .int .u8 0, .int .u8 0, .int .u8 0, .int .u8 0, .int .u8 0, .int .u8 0, .int .u8 0, .int .u8 0, .int .u8 0, .int .u8 0, .int .u8 0, .int .u8 0, .int .u8 0, .int .u8 0, .int .u8 0, .int .u8 0, .int .u8 0, .int .u8 0, .int .u8 0, .int .u8 0, .int .u8 0, .int .u8 0, .int .u8 0, .int .u8 0, .int .u8 0, .int .u8 0, .int .u8 0, .int .u8 0, .int .u8 0, .int .u8 0, .int .u8 0, .int .u8 0, .int .u8 0, .int .u8 0, .int .u8 0, .int .u8 0, .int .u8 0, .int .u8 0, .int .u8 0, .int .u8 0, .int .u8 0, .int .u8 0, .int .u8 0, .int .u8 0, .int .u8 0, .int .u8 0, .int .u8 0, .int .u8 0, .int .u8 0, .int .u8 0, .int .u8 0, .int .u8 0, .int .u8 0, .int .u8 0, .int .u8 0, .int .u8 0, .int .u8 0]⟩) 88 ⟨.int .u64, 1, 8, .int .u64 0⟩) 91 ⟨.array 32 5, 32, 32, .agg #[.int .u8 0, .int .u8 0, .int .u8 0, .int .u8 0, .int .u8 0, .int .u8 0, .int .u8 0, .int .u8 0, .int .u8 0, .int .u8 0, .int .u8 0, .int .u8 0, .int .u8 0, .int .u8 0, .int .u8 0, .int .u8 0, .int .u8 0, .int .u8 0, .int .u8 0, .int .u8 0, .int .u8 0, .int .u8 0, .int .u8 0, .int .u8 0, .int .u8 0, .int .u8 0, .int .u8 0, .int .u8 0, .int .u8 0, .int .u8 0, .int .u8 0, .int .u8 0]⟩) 92 ⟨.array 64 5, 64, 64, .agg #[.int .u8 0, .int .u8 0, .int .u8 0, .int .u8 0, .int .u8 0, .int .u8 0, .int .u8 0, .int .u8 0, .int .u8 0, .int .u8 0, .int .u8 0, .int .u8 0, .int .u8 0, .int .u8 0, .int .u8 0, .int .u8 0, .int .u8 0, .int .u8 0, .int .u8 0, .int .u8 0, .int .u8 0, .int .u8 0, .int .u8 0, .int .u8 0, .int .u8 0, .int .u8 0, .int .u8 0, .int .u8 0, .int .u8 0, .int .u8 0, .int .u8 0, .int .u8 0, .int .u8 0, .int .u8 0, .int .u8 0, .int .u8 0, .int .u8 0, .int .u8 0, .int .u8 0, .int .u8 0, .int .u8 0, .int .u8 0, .int .u8 0, .int .u8 0, .int .u8 0, .int .u8 0, .int .u8 0, .int .u8 0, .int .u8 0, .int .u8 0, .int .u8 0, .int .u8 0, .int .u8 0, .int .u8 0, .int .u8 0, .int .u8 0, .int .u8 0, .int .u8 0, .int .u8 0, .int .u8 0, .int .u8 0, .int .u8 0, .int .u8 0, .int .u8 0]⟩) 100 ⟨.int .u8, 1, 1, .int .u8 0⟩
theorem tok : TOk Tryd.prog tt := (tok_upd (tok_upd (tok_upd (tok_upd (tok_upd (tok_upd (tok_upd (tok_upd (tok_upd (tok_upd (tok_upd (tok_upd (tok_upd (tok_upd (tok_upd (tok_upd (tok_upd (tok_upd (tok_upd (tok_upd (tok_upd (tok_upd (tok_upd (tok_upd (tok_upd (tok_upd (tok_upd (tok_upd (tok_upd (tok_upd (tok_upd (tok_upd (tok_upd (tok_upd (tok_upd (tok_upd (tok_nil _) ty2) ty3) ty4) ty5) ty6) ty8) ty9) ty10) ty11) ty12) ty14) ty15) ty16) ty17) ty19) ty22) ty24) ty27) ty29) ty36) ty37) ty39) ty41) ty43) ty52) ty54) ty59) ty76) ty77) ty84) ty85) ty86) ty88) ty91) ty92) ty100)
theorem follows : Tryd.prog.follows .mixedOrders = true := by kernel_rfl
end Go.Proofs.YtjjelnpehgoagaaDoor
namespace Go.Proofs
open Go.Shelf
def Tryd.layLaysMn173_ren : Go.Shelf.Ren := ⟨fun | 173 => 42 | 246 => 46 | 283 => 47 | 284 => 48 | 285 => 49 | 286 => 50 | 129 => 52 | 317 => 51 | 318 => 53 | 319 => 54 | 320 => 55 | 337 => 56 | 338 => 57 | n => n, fun | 2 => 2 | 3 => 3 | 9 => 9 | 4 => 4 | 171 => 76 | 0 => 0 | 53 => 77 | 37 => 37 | 5 => 5 | 173 => 80 | 212 => 84 | 51 => 85 | 20 => 20 | 213 => 86 | 46 => 88 | 232 => 91 | 233 => 92 | n => n, fun | 17 => 0 | 18 => 1 | 19 => 2 | n => n⟩
theorem Tryd.layLaysMn173 : Go.Proofs.LaysM.n173 Tryd.prog Tryd.layLaysMn173_ren := {
  mixed := by kernel_rfl
  f129 := Tryd.func52.trans (congrArg some (by kernel_rfl))
  f173 := Tryd.func42.trans (congrArg some (by kernel_rfl))
  f246 := Tryd.func46.trans (congrArg some (by kernel_rfl))
  f283 := Tryd.func47.trans (congrArg some (by kernel_rfl))
  f284 := Tryd.func48.trans (congrArg some (by kernel_rfl))
  f285 := Tryd.func49.trans (congrArg some (by kernel_rfl))
  f286 := Tryd.func50.trans (congrArg some (by kernel_rfl))
  f317 := Tryd.func51.trans (congrArg some (by kernel_rfl))
  f318 := Tryd.func53.trans (congrArg some (by kernel_rfl))
  f319 := Tryd.func54.trans (congrArg some (by kernel_rfl))
  f320 := Tryd.func55.trans (congrArg some (by kernel_rfl))
  f337 := Tryd.func56.trans (congrArg some (by kernel_rfl))
  f338 := Tryd.func57.trans (congrArg some (by kernel_rfl))
  t0 := Tryd.underlying0
  a0 := Tryd.isAgg0
  z0 := Tryd.sizeOf0
  v0 := Tryd.zeroValue0
  t2 := Tryd.underlying2
  a2 := Tryd.isAgg2
  z2 := Tryd.sizeOf2
  v2 := Tryd.zeroValue2
  t3 := Tryd.underlying3
  a3 := Tryd.isAgg3
  z3 := Tryd.sizeOf3
  v3 := Tryd.zeroValue3
  t4 := Tryd.underlying4
  a4 := Tryd.isAgg4
  z4 := Tryd.sizeOf4
  v4 := Tryd.zeroValue4
  t5 := Tryd.underlying5
  a5 := Tryd.isAgg5
  z5 := Tryd.sizeOf5
  v5 := Tryd.zeroValue5
  t9 := Tryd.underlying9
  a9 := Tryd.isAgg9
  z9 := Tryd.sizeOf9
  v9 := Tryd.zeroValue9
  t20 := Tryd.underlying20
  a20 := Tryd.isAgg20
  z20 := Tryd.sizeOf20
  v20 := Tryd.zeroValue20
  t37 := Tryd.underlying37
  a37 := Tryd.isAgg37
  z37 := Tryd.sizeOf37
  v37 := Tryd.zeroValue37
  t46 := Tryd.underlying88
  a46 := Tryd.isAgg88
  z46 := Tryd.sizeOf88
  v46 := Tryd.zeroValue88
  t51 := Tryd.underlying85
  a51 := Tryd.isAgg85
  z51 := Tryd.sizeOf85
  v51 := Tryd.zeroValue85
  t53 := Tryd.underlying77
  a53 := Tryd.isAgg77
  z53 := Tryd.sizeOf77
  v53 := Tryd.zeroValue77
  t171 := Tryd.underlying76
  a171 := Tryd.isAgg76
  z171 := Tryd.sizeOf76
  v171 := Tryd.zeroValue76
  t173 := Tryd.underlying80
  a173 := Tryd.isAgg80
  z173 := Tryd.sizeOf80
  v173 := Tryd.zeroValue80
  t212 := Tryd.underlying84
  a212 := Tryd.isAgg84
  z212 := Tryd.sizeOf84
  v212 := Tryd.zeroValue84
  t213 := Tryd.underlying86
  a213 := Tryd.isAgg86
  z213 := Tryd.sizeOf86
  t232 := Tryd.underlying91
  a232 := Tryd.isAgg91
  z232 := Tryd.sizeOf91
  v232 := Tryd.zeroValue91
  t233 := Tryd.underlying92
  a233 := Tryd.isAgg92
  z233 := Tryd.sizeOf92
  v233 := Tryd.zeroValue92
  g17 := by kernel_rfl
  g18 := by kernel_rfl
  g19 := by kernel_rfl
  i0 := by kernel_rfl
  i2 := by kernel_rfl
  i3 := by kernel_rfl
  i4 := by kernel_rfl
  i5 := by kernel_rfl
  i9 := by kernel_rfl
  i20 := by kernel_rfl
  i37 := by kernel_rfl
  i46 := by kernel_rfl
  i51 := by kernel_rfl
  i53 := by kernel_rfl
  i171 := by kernel_rfl
  i173 := by kernel_rfl
  i212 := by kernel_rfl
  i232 := by kernel_rfl
  i233 := by kernel_rfl
  m17 := by kernel_rfl
  m18 := by kernel_rfl
  m19 := by kernel_rfl }
end Go.Proofs
namespace Go.Proofs.YtjjelnpehgoagaaDoor
open Go.Shelf Go.RowKit
set_option linter.unusedVariables false
set_option maxRecDepth 100000
theorem tabNamed : Tryd.prog.globalNamed "internal/strconv.uint64pow10" = some 0 := by kernel_rfl
theorem tab_here {W : World} {F : Nat → Prop} (gl : Glob F W) : Lib.TabIs Tryd.prog W "internal/strconv.uint64pow10" .u64 Lib.pow10Tab := by
  obtain ⟨-, t, f, e⟩ := gl (tabG 0 (Lib.pow10Tab.map fun z => Value.int .u64 z)) (by simp [globs])
  unfold Lib.TabIs World.var?
  rw [tabNamed]
  simp [e]
theorem sh_fmt {n : Int} (h0 : -9223372036854775808 ≤ n) (h1 : n ≤ 9223372036854775807) : FnC Tryd.prog 42 [] [.d (.v (.int .i64 n)), .d (.v (.int .i64 10))] [] (.d (.v (.string ⟨(Lib.itoa n).toArray⟩))) :=
  fnc_ofG (v := .string ⟨(Lib.itoa n).toArray⟩) (by kernel_rfl) rfl fun W F gl => (Any.strconv_FormatInt_10 Tryd.layLaysMn173 n h0 h1 W (tab_here gl)).mono (by rintro e w' ⟨rfl, k, os, rfl⟩; exact ⟨rfl, Lib.below_grow _ _ (Nat.le_refl _) _ _⟩)
end Go.Proofs.YtjjelnpehgoagaaDoor
namespace Go.Proofs.YtjjelnpehgoagaaDoor
open Go.RowKit
set_option linter.unusedVariables false
set_option maxRecDepth 100000

def Row (w : World) (A : Option Addr) (xs : List Value) : Prop :=
  xs = [] ∨ ∃ b off, A = some ⟨b, off, none⟩ ∧ ∀ j (h : j < xs.length), w.cell? ⟨b, off + j, none⟩ = some xs[j]

section
variable {w w' : World} {A : Option Addr} {xs : List Value}
theorem Row.at_ (h : Row w A xs) (hp : 0 < xs.length) : ∃ b off, A = some ⟨b, off, none⟩ ∧ b < w.heap.size ∧ ∀ j (h : j < xs.length), w.cell? ⟨b, off + j, none⟩ = some xs[j] := by
  rcases h with rfl | ⟨b, off, rfl, hc⟩
  · simp at hp
  · refine ⟨b, off, rfl, ?_, hc⟩
    have h0 := hc 0 hp
    rcases Nat.lt_or_ge b w.heap.size with hlt | hge
    · exact hlt
    · unfold World.cell? at h0
      simp [Array.getElem?_eq_none hge] at h0
theorem Row.keep (h : Row w A xs) (hk : ∀ b o, b < w.heap.size → w'.cell? ⟨b, o, none⟩ = w.cell? ⟨b, o, none⟩) : Row w' A xs := by
  rcases Nat.eq_zero_or_pos xs.length with h0 | h0
  · exact .inl (List.eq_nil_of_length_eq_zero h0)
  · obtain ⟨b, off, rfl, hb, hc⟩ := h.at_ h0
    exact .inr ⟨b, off, rfl, fun j hj => (hk _ _ hb).trans (hc j hj)⟩
end

def Blk (w : World) (g : Nat) (t : TypeId) (cs : Array Value) : Prop := w.heap[g]? = some (.cells cs t (0, 0))
section
variable {w w' : World} {g : Nat} {t : TypeId} {cs : Array Value}
theorem Blk.lt (h : Blk w g t cs) : g < w.heap.size := by
  rcases Nat.lt_or_ge g w.heap.size with hlt | hge
  · exact hlt
  · unfold Blk at h; rw [Array.getElem?_eq_none hge] at h; cases h
theorem Blk.cell (h : Blk w g t cs) (i : Nat) : w.cell? ⟨g, i, none⟩ = cs[i]? := cell_of_row w g i cs t (0, 0) h
theorem Blk.frozen (h : Blk w g t cs) (i : Nat) : w.frozen? ⟨g, i, none⟩ = false := by
  unfold Blk at h
  simp [World.frozen?, h]
theorem Blk.new (w : World) (t : TypeId) (cs : Array Value) : Blk (w.alloc (.cells cs t)) w.heap.size t cs := heap_alloc_new w _
theorem Blk.alloc (h : Blk w g t cs) (o : Obj) : Blk (w.alloc o) g t cs := (Below.heap_alloc w o g h.lt).trans h
theorem Blk.set_ (h : Blk w g t cs) (i : Nat) (u : Value) : Blk (w.setCell ⟨g, i, none⟩ u) g t (cs.setIfInBounds i u) := by
  unfold Blk at h ⊢
  simp [World.setCell, Array.getElem?_modify, h]
theorem Blk.far (h : Blk w g t cs) {p : Addr} (hp : g ≠ p.block) (u : Value) : Blk (w.setCell p u) g t cs := (Below.heap_setCell w p u g hp).trans h
theorem Blk.row (h : Blk w g t cs) : Row w (some ⟨g, 0, none⟩) cs.toList :=
  .inr ⟨g, 0, rfl, fun j hj => by rw [Nat.zero_add, h.cell, Array.getElem?_eq_getElem (by simpa using hj)]; simp⟩
end

section
variable {w w' : World} {base size n c : Nat} {e : TypeId} {A : Option Addr} {xs : List Value}
end
def putAt (cs : Array Value) (o : Nat) : List Value → Array Value
  | [] => cs
  | v :: vs => putAt (cs.setIfInBounds o v) (o + 1) vs
def putW (w : World) (g : Nat) (o : Nat) : List Value → World
  | [] => w
  | v :: vs => putW (w.setCell ⟨g, o, none⟩ v) g (o + 1) vs
theorem Blk.put {g : Nat} {t : TypeId} (vs : List Value) : ∀ {w : World} {cs : Array Value} (o : Nat), Blk w g t cs → Blk (putW w g o vs) g t (putAt cs o vs) := by
  induction vs with
  | nil => intro w cs o h; exact h
  | cons v vs ih => intro w cs o h; exact ih (o + 1) (h.set_ o v)
theorem cell_lt {w : World} {a : Addr} {v : Value} (h : w.cell? a = some v) : a.block < w.heap.size := by
  rcases Nat.lt_or_ge a.block w.heap.size with hlt | hge
  · exact hlt
  · unfold World.cell? at h
    simp [Array.getElem?_eq_none hge] at h
theorem kf {w w' : World} {a : Addr} {v : Value} {b : Bool} (hb : Below w.heap.size w w') (h : w.cell? a = some v) (hf : w.frozen? a = b) : w'.frozen? a = b := (hb.frozen (cell_lt h)).trans hf
end Go.Proofs.YtjjelnpehgoagaaDoor
namespace Go.Proofs
open Go.Shelf
def Tryd.layLaysn169_ren : Go.Shelf.Ren := ⟨fun | 169 => 16 | n => n, fun | 70 => 36 | 9 => 9 | 0 => 0 | 72 => 39 | 37 => 37 | 127 => 59 | 3 => 3 | 5 => 5 | n => n, fun | n => n⟩
theorem Tryd.layLaysn169 : Go.Proofs.Lays.n169 Tryd.prog Tryd.layLaysn169_ren := {
  mixed := by kernel_rfl
  f169 := Tryd.func16.trans (congrArg some (by kernel_rfl))
  t0 := Tryd.underlying0
  a0 := Tryd.isAgg0
  z0 := Tryd.sizeOf0
  v0 := Tryd.zeroValue0
  t3 := Tryd.underlying3
  a3 := Tryd.isAgg3
  z3 := Tryd.sizeOf3
  v3 := Tryd.zeroValue3
  t9 := Tryd.underlying9
  a9 := Tryd.isAgg9
  z9 := Tryd.sizeOf9
  v9 := Tryd.zeroValue9
  t37 := Tryd.underlying37
  a37 := Tryd.isAgg37
  z37 := Tryd.sizeOf37
  v37 := Tryd.zeroValue37
  t70 := Tryd.underlying36
  a70 := Tryd.isAgg36
  z70 := Tryd.sizeOf36
  v70 := Tryd.zeroValue36
  t72 := Tryd.underlying39
  a72 := Tryd.isAgg39
  z72 := Tryd.sizeOf39
  v72 := Tryd.zeroValue39
  t127 := Tryd.underlying59
  a127 := Tryd.isAgg59
  z127 := Tryd.sizeOf59
  v127 := Tryd.zeroValue59 }
end Go.Proofs
namespace Go.Proofs.YtjjelnpehgoagaaDoor
open Go.Shelf Go.RowKit
set_option linter.unusedVariables false
set_option maxRecDepth 100000
def layWS_ren : Go.Shelf.Ren := ⟨fun | 166 => 14 | 240 => 25 | 276 => 41 | n => n,
  fun | 0 => 0 | 3 => 3 | 4 => 4 | 5 => 5 | 9 => 9 | 20 => 20 | 37 => 37 | 70 => 36 | 72 => 39 | 75 => 45 | 80 => 49 | 164 => 70 | n => n, fun | n => n⟩
theorem layWS : Lays.n166 Tryd.prog layWS_ren := {
  mixed := by kernel_rfl
  f166 := Tryd.func14.trans (congrArg some (by kernel_rfl))
  f240 := Tryd.func25.trans (congrArg some (by kernel_rfl))
  f276 := Tryd.func41.trans (congrArg some (by kernel_rfl))
  t0 := Tryd.underlying0
  a0 := Tryd.isAgg0
  z0 := Tryd.sizeOf0
  v0 := Tryd.zeroValue0
  t3 := Tryd.underlying3
  a3 := Tryd.isAgg3
  z3 := Tryd.sizeOf3
  v3 := Tryd.zeroValue3
  t4 := Tryd.underlying4
  a4 := Tryd.isAgg4
  z4 := Tryd.sizeOf4
  v4 := Tryd.zeroValue4
  t9 := Tryd.underlying9
  a9 := Tryd.isAgg9
  z9 := Tryd.sizeOf9
  v9 := Tryd.zeroValue9
  t20 := Tryd.underlying20
  a20 := Tryd.isAgg20
  z20 := Tryd.sizeOf20
  v20 := Tryd.zeroValue20
  t37 := Tryd.underlying37
  a37 := Tryd.isAgg37
  z37 := Tryd.sizeOf37
  v37 := Tryd.zeroValue37
  t70 := Tryd.underlying36
  a70 := Tryd.isAgg36
  z70 := Tryd.sizeOf36
  v70 := Tryd.zeroValue36
  t72 := Tryd.underlying39
  a72 := Tryd.isAgg39
  z72 := Tryd.sizeOf39
  v72 := Tryd.zeroValue39
  t75 := Tryd.underlying45
  a75 := Tryd.isAgg45
  z75 := Tryd.sizeOf45
  v75 := Tryd.zeroValue45
  t164 := Tryd.underlying70
  a164 := Tryd.isAgg70
  z164 := Tryd.sizeOf70
  v164 := Tryd.zeroValue70 }
theorem bldX (ρ : Go.Shelf.Ren) (h5 : ρ.t 5 = 5) (h72 : ρ.t 72 = 39) : Builder.Extra Tryd.prog ρ := {
  sizeBuilder := by rw [h72]; kernel_rfl
  liesBuilder := by rw [h72]; kernel_rfl
  t5 := by rw [h5]; exact Tryd.underlying5
  a5 := by rw [h5]; exact Tryd.isAgg5
  z5 := by rw [h5]; exact Tryd.sizeOf5
  v5 := by rw [h5]; exact Tryd.zeroValue5
  infoByte := by rw [h5]; kernel_rfl
  cellsByte := by rw [h5]; kernel_rfl
  sizeByte := by rw [h5]; kernel_rfl
  neB5 := by rw [h5, h72]; decide }
abbrev IsB (B b : Nat) (l : List UInt8) (w : World) : Prop := Lib.IsBuilder 39 5 B b (Lib.byteCells l) w
theorem ws_c (B b : Nat) (l : List UInt8) (s : ByteArray) (w : World) (h : IsB B b l w) (hlen : l.length + s.size ≤ 140737488355328) (hBw : B ≤ w.heap.size) :
    Calls Tryd.prog 14 #[.pointer (some ⟨b, 0, none⟩), .string s] w fun e w' => e = .returned (.tuple #[.int .i64 s.size, .nilIface]) ∧ IsB B b (l ++ s.data.toList) w' ∧ Below B w w' := by
  refine (Any.Builder_WriteString layWS (bldX _ rfl rfl) B b _ s w h (by rw [Lib.byteCells_length]; exact hlen) hBw).mono ?_
  rintro e w' ⟨h1, h2, h3⟩
  refine ⟨h1, .inr ?_, h3⟩
  rw [Lib.byteCells_append, ← Lib.strCells_eq]; exact h2
theorem str_c (B b : Nat) (l : List UInt8) (w : World) (h : IsB B b l w) (hBw : B ≤ w.heap.size) :
    Calls Tryd.prog 16 #[.pointer (some ⟨b, 0, none⟩)] w fun e w' => e = .returned (.string ⟨l.toArray⟩) ∧ Below B w w' :=
  Any.Builder_String_any Tryd.layLaysn169 (bldX _ rfl rfl) B b l w h hBw
theorem bld_keep {B b : Nat} {l : List UInt8} {w w' : World} (h : IsB B b l w) (hb : Below w.heap.size w w') : IsB B b l w' := by
  have key : ∀ p, Lib.BuilderAt 39 5 B b p (Lib.byteCells l) w → Lib.BuilderAt 39 5 B b p (Lib.byteCells l) w' := by
    rintro p ⟨h1, v, h2, h3, h4⟩
    refine ⟨h1, v, ?_, h3.kept (row := none) ⟨hb.os, hb.tape, hb.output, hb.size, fun k hk _ => hb.block k hk⟩ ?_, h4⟩
    · rw [hb.block b (Array.getElem?_eq_some_iff.1 h2).1]; exact h2
    · cases v.ownBlock <;> simp
  exact h.imp (key _) (key _)
theorem evo_nil {w w' : World} {F F' : Nat → Prop} (h1 : ∀ b, F b → w'.heap[b]? = w.heap[b]?) (h2 : ∀ b, F b → F' b) : Evo w F (fun _ _ => none) (lks []) w' F' (fun _ _ => none) (lks []) :=
  ⟨h1, h2, fun _ h => h, fun k f o' h _ => absurd rfl h⟩
theorem calls_in {f : FuncId} {aa : List AV} {x : Value} (hF : FnC Tryd.prog f [] aa [] (.d (.v x))) {w W : World} {F : Nat → Prop} (gl : Glob F w) (hfz : ∀ b, F b → b < w.heap.size) (hb : Below w.heap.size w W) {vs : Array Value} (hl : vs.size = aa.length) (hr : ∀ (i : Nat) v a, vs[i]? = some v → aa[i]? = some a → ARep w F (fun _ _ => none) (lks []) v a) :
    Calls Tryd.prog f vs W fun e w' => e = .returned x ∧ Below W.heap.size W w' := by
  have hs := hb.size
  have k1 : ∀ b, F b → W.heap[b]? = w.heap[b]? := fun b h => hb.block b (hfz b h)
  have k2 : ∀ b, F b → b < W.heap.size := fun b h => Nat.lt_of_lt_of_le (hfz b h) hs
  exact calls_of hF W vs hl (fun i v a h1 h2 => (hr i v a h1 h2).evo (evo_nil k1 k2)) (gl.evo k1 k2)
theorem shapes_at {w : World} {F : Nat → Prop} {v : Value} {xs : List Shape_} (h : DRep w F v (.sl (xs.map cShape_))) : ∃ A c, v = .slice A xs.length c ∧ xs.length ≤ 9223372036854775807 ∧ ∀ (k : Nat) s, xs[k]? = some s → ∃ b off, A = some ⟨b, off, none⟩ ∧ F b ∧
    w.cell? ⟨b, off + k * 7, none⟩ = some (.int .i64 s.Kind) ∧ w.cell? ⟨b, off + k * 7 + 1, none⟩ = some (.int .i64 s.A.X) ∧ w.cell? ⟨b, off + k * 7 + 2, none⟩ = some (.int .i64 s.A.Y) ∧ w.cell? ⟨b, off + k * 7 + 3, none⟩ = some (.int .i64 s.B.X) ∧ w.cell? ⟨b, off + k * 7 + 4, none⟩ = some (.int .i64 s.B.Y) ∧ w.cell? ⟨b, off + k * 7 + 5, none⟩ = some (.int .i64 s.R) ∧ w.cell? ⟨b, off + k * 7 + 6, none⟩ = some (.string s.Name) := by
  generalize hes : xs.map cShape_ = es at h
  have hl : xs.length = es.length := by rw [← hes, List.length_map]
  cases h with
  | nil => exact ⟨none, 0, by rw [hl]; rfl, by rw [hl]; simp, fun k s hk => by have := List.map_eq_nil_iff.1 hes; subst this; simp at hk⟩
  | emp A c hm => exact ⟨A, c, by rw [hl]; rfl, by rw [hl]; simp, fun k s hk => by have := List.map_eq_nil_iff.1 hes; subst this; simp at hk⟩
  | sl b off c sz es g hF hc hm hz hg hr =>
    refine ⟨some ⟨b, off, none⟩, c, by rw [hl], by rw [hl]; unfold maxLen at hm; omega, fun k s hk => ⟨b, off, rfl, hF, ?_⟩⟩
    have h1 : es[k]? = some (cShape_ s) := by rw [← hes]; simp [hk]
    have h3 : sz = 7 := by rw [← hz k _ h1]; rfl
    subst h3
    have key : ∀ (j : Nat) x, (cShape_ s)[j]? = some (.v x) → w.cell? ⟨b, off + k * 7 + j, none⟩ = some x := fun j x hj => by
      have h4 := hg k _ j _ h1 hj
      have h5 := hr k _ j _ h1 hj
      rw [h4]
      generalize g k j = y at h5
      cases h5; rfl
    exact ⟨key 0 _ rfl, key 1 _ rfl, key 2 _ rfl, key 3 _ rfl, key 4 _ rfl, key 5 _ rfl, key 6 _ rfl⟩
abbrev shapeA (s : Shape_) : AV := .agg [.d (.v (.int .i64 s.Kind)), .d (.v (.int .i64 s.A.X)), .d (.v (.int .i64 s.A.Y)), .d (.v (.int .i64 s.B.X)), .d (.v (.int .i64 s.B.Y)), .d (.v (.int .i64 s.R)), .d (.v (.string s.Name))]
theorem shape_rep {w : World} {F : Nat → Prop} {μ : Places} {h : Heap} (s : Shape_) : ARep w F μ h (.agg #[.int .i64 s.Kind, .int .i64 s.A.X, .int .i64 s.A.Y, .int .i64 s.B.X, .int .i64 s.B.Y, .int .i64 s.R, .string s.Name]) (shapeA s) := by
  refine .agg _ _ rfl fun i v a h1 h2 => ?_
  match i with
  | 0 | 1 | 2 | 3 | 4 | 5 | 6 => simp at h1 h2; subst h1 h2; exact .d _ _ (.v _ rfl)
  | i + 7 => simp at h2
theorem hidB {p : Prop} (h : p) : Hid p := h
theorem round_ws {w1 wr wa w2 : World} (hsz : w1.heap.size ≤ wr.heap.size) (hsA : wr.heap.size < wa.heap.size) (hb2 : Below wa.heap.size wa w2) : w1.heap.size ≤ w2.heap.size := by
  have := hb2.size; omega
theorem round_end {w w1 wr wa w2 w3 : World} {acc t : ByteArray} (hlt : w.heap.size < w1.heap.size) (hsz : w1.heap.size ≤ wr.heap.size) (hsA : wr.heap.size < wa.heap.size) (hW : Below w.heap.size w wa) (hb2 : Below wa.heap.size wa w2) (hb3 : Below w1.heap.size w2 w3) (h3 : IsB w1.heap.size w1.heap.size (acc.data.toList ++ (t ++ nlB).data.toList) w3) :
    Hid (IsB w1.heap.size w1.heap.size (acc ++ (t ++ nlB)).data.toList w3) ∧ Hid (Below w.heap.size w w3) ∧ w1.heap.size ≤ w3.heap.size := by
  have z1 := hb2.size
  have z3 := hb3.size
  have e : (acc ++ (t ++ nlB)).data.toList = acc.data.toList ++ (t ++ nlB).data.toList := by simp
  rw [e]
  exact ⟨hidB h3, hidB ((hW.trans (hb2.mono (by omega))).trans (hb3.mono (by omega))), by omega⟩
theorem draw_c {xs : List Shape_} {s0 : Value} {w : World} {F : Nat → Prop} (gl : Glob F w) (hfz : ∀ b, F b → b < w.heap.size) {bv : Bool} (hv : FnC Tryd.prog 13 [] [.agg [.d (.sl (xs.map cShape_))]] [] (.d (.v (.bool bv))))
    {f : Shape_ → Option ByteArray} (hf : ∀ s t, f s = some t → FnC Tryd.prog 15 [] [shapeA s] [] (.d (.v (.string t)))) (h0 : DRep w F s0 (.sl (xs.map cShape_))) {r : ByteArray} (hr : (if bv = true then linesM f xs ⟨#[]⟩ else some ⟨#[]⟩) = some r) :
    Calls Tryd.prog 7 #[.agg #[s0]] w fun e w' => e = .returned (.string r) ∧ Below w.heap.size w w' := by
  have hin : ∀ W, Below w.heap.size w W → Calls Tryd.prog 13 #[.agg #[s0]] W fun e w' => e = .returned (.bool bv) ∧ Below W.heap.size W w' := fun W hW => by
    refine calls_in hv gl hfz hW rfl fun i v a h1 h2 => ?_
    match i with
    | 0 =>
      simp at h1 h2; subst h1 h2
      refine .agg _ _ rfl fun i v a h1 h2 => ?_
      match i with
      | 0 => simp at h1 h2; subst h1 h2; exact .d _ _ h0
      | i + 1 => simp at h2
    | i + 1 => simp at h2
  obtain ⟨A, c, rfl, hxl, hcell⟩ := shapes_at h0
  have Hin := hidB hin
  clear hin
  cases bv
  · cases hr
    go_enter Tryd.func7, Tryd.ntmps7
    go_wp2_with (go_at_call 13; refine (Hin.out _ (Below.alloc (Below.refl _ _) (Nat.le_refl _) _)).mono ?_; rintro e w1 ⟨rfl, hb1⟩)
    refine bodyPost_ret (v := .string ⟨#[]⟩) (by simp [results, Tryd.results7, go_sem]) rfl ?_
    exact ⟨rfl, (Below.alloc (Below.refl _ _) (Nat.le_refl _) _).trans (hb1.mono (by simp))⟩
  · rw [if_pos rfl] at hr
    have Hc := hidB hcell
    have Hf := hidB hf
    have Hr := hidB hr
    clear hcell hf hr
    go_enter Tryd.func7, Tryd.ntmps7
    go_wp2_with (go_at_call 13; refine (Hin.out _ (Below.alloc (Below.refl _ _) (Nat.le_refl _) _)).mono ?_; rintro e w1 ⟨rfl, hb1⟩; have hlt : w.heap.size < w1.heap.size := Nat.lt_of_lt_of_le (by simp) hb1.size; have hd : w1.cell? ⟨w.heap.size, 0, none⟩ = some (.slice A xs.length c) := (hb1.cell (p := ⟨w.heap.size, 0, none⟩) (by simp)).trans (Lib.cell_of_heap (heap_alloc_new w _) 0))
    have hW1 : Below w.heap.size w w1 := (Below.alloc (Below.refl _ _) (Nat.le_refl _) _).trans (hb1.mono (by simp))
    go_loopw [12] (fun i wr => ∃ (k : Nat) (acc : ByteArray), k ≤ xs.length ∧ i = .int .i64 k ∧ Hid (linesM f (xs.drop k) acc = some r) ∧ Hid (IsB w1.heap.size w1.heap.size acc.data.toList wr) ∧ Hid (Below w.heap.size w wr) ∧ w1.heap.size ≤ wr.heap.size) (fun i _ => xs.length - (intOf i).toNat)
    case atStart => exact ⟨0, ⟨#[]⟩, Nat.zero_le _, rfl, Hr, hidB (Lib.fresh_isBuilder _ _ _), hidB (hW1.alloc (by omega) _), by simp⟩
    case round =>
      obtain ⟨k, acc, hk, rfl, HL, HB, HW, hsz⟩ := hrel
      by_cases hkn : k < xs.length
      · obtain ⟨s, hs⟩ : ∃ s, xs[k]? = some s := ⟨xs[k], List.getElem?_eq_getElem hkn⟩
        obtain ⟨b, off, rfl, hFb, k0, k1, k2, k3, k4, k5, k6⟩ := Hc.out k s hs
        have hbl := hfz b hFb
        have c0 := (HW.out.cell (p := ⟨b, off + k * 7, none⟩) hbl).trans k0
        have c1 := (HW.out.cell (p := ⟨b, off + k * 7 + 1, none⟩) hbl).trans k1
        have c2 := (HW.out.cell (p := ⟨b, off + k * 7 + 2, none⟩) hbl).trans k2
        have c3 := (HW.out.cell (p := ⟨b, off + k * 7 + 3, none⟩) hbl).trans k3
        have c4 := (HW.out.cell (p := ⟨b, off + k * 7 + 4, none⟩) hbl).trans k4
        have c5 := (HW.out.cell (p := ⟨b, off + k * 7 + 5, none⟩) hbl).trans k5
        have c6 := (HW.out.cell (p := ⟨b, off + k * 7 + 6, none⟩) hbl).trans k6
        clear k0 k1 k2 k3 k4 k5 k6
        have hL := HL.out
        rw [List.drop_eq_getElem_cons hkn] at hL
        have hse : xs[k] = s := by rw [List.getElem?_eq_getElem hkn] at hs; exact Option.some.inj hs
        rw [hse] at hL
        clear hse hs
        unfold linesM at hL
        obtain ⟨t, ht, hL⟩ := bnd hL
        obtain ⟨hsize, hL⟩ := chk_e hL
        have HL2 := hidB hL
        have Ht := hidB ht
        clear hL ht
        have hWr : Below w.heap.size w (wr.alloc (Obj.cells #[Value.int IntKind.i64 s.Kind, Value.int IntKind.i64 s.A.X, Value.int IntKind.i64 s.A.Y, Value.int IntKind.i64 s.B.X, Value.int IntKind.i64 s.B.Y, Value.int IntKind.i64 s.R, Value.string s.Name] 43)) := HW.out.alloc (by omega) _
        have hBr : IsB w1.heap.size w1.heap.size acc.data.toList (wr.alloc (Obj.cells #[Value.int IntKind.i64 s.Kind, Value.int IntKind.i64 s.A.X, Value.int IntKind.i64 s.A.Y, Value.int IntKind.i64 s.B.X, Value.int IntKind.i64 s.B.Y, Value.int IntKind.i64 s.R, Value.string s.Name] 43)) := bld_keep HB.out ((Below.refl _ _).alloc (Nat.le_refl _) _)
        have HWr := hidB hWr
        have HBr := hidB hBr
        clear hWr hBr
        have hcall : ∀ W, Below w.heap.size w W → Calls Tryd.prog 15 #[.agg #[.int .i64 s.Kind, .int .i64 s.A.X, .int .i64 s.A.Y, .int .i64 s.B.X, .int .i64 s.B.Y, .int .i64 s.R, .string s.Name]] W fun e w' => e = .returned (.string t) ∧ Below W.heap.size W w' := fun W hW => by
          refine calls_in (Hf.out s t Ht.out) gl hfz hW rfl (fun i v a h1 h2 => ?_)
          match i with
          | 0 => simp at h1 h2; subst h1 h2; exact shape_rep s
          | i + 1 => simp at h2
        have Hcall := hidB hcall
        clear hcall
        have hsA : wr.heap.size < (wr.alloc (Obj.cells #[Value.int IntKind.i64 s.Kind, Value.int IntKind.i64 s.A.X, Value.int IntKind.i64 s.A.Y, Value.int IntKind.i64 s.B.X, Value.int IntKind.i64 s.B.Y, Value.int IntKind.i64 s.R, Value.string s.Name] 43)).heap.size := by simp
        have HsA := hidB hsA
        clear hsA
        have hln : acc.data.toList.length + (t ++ nlB).size ≤ 140737488355328 := by
          have hnl : (t ++ nlB).size = t.size + 1 := by rw [ByteArray.size_append]; rfl
          have hac : acc.data.toList.length = acc.size := rfl
          rw [hnl, hac]; exact hsize
        have Hln := hidB hln
        have Hsz := hidB hsz
        have Hlt := hidB hlt
        have hts : t.size + 1 ≤ 140737488355328 := by omega
        clear hln hsz hlt hsize
        go_wp2_with (first
          | (go_at_call 15; refine (Hcall.out _ HWr.out).mono ?_; rintro e w2 ⟨rfl, hb2⟩; have Hb2 := hidB hb2; clear hb2)
          | (go_at_call 14; refine (ws_c w1.heap.size w1.heap.size acc.data.toList (t ++ nlB) _ (bld_keep HBr.out Hb2.out) Hln.out (round_ws Hsz.out HsA.out Hb2.out)).mono ?_; rintro e w3 ⟨rfl, h3, hb3⟩; have H3 := hidB h3; have Hb3 := hidB hb3; clear h3 hb3))
        have hend := round_end Hlt.out Hsz.out HsA.out HWr.out Hb2.out Hb3.out H3.out
        exact ⟨⟨k + 1, acc ++ (t ++ nlB), hkn, by go_num, HL2, hend⟩, by simp [intOf]; omega⟩
      · have hke : k = xs.length := by omega
        subst hke
        have hL := HL.out
        rw [List.drop_length] at hL
        cases hL
        go_wp2_with (go_at_call 16; refine (str_c _ _ _ _ HB.out hsz).mono ?_; rintro e w5 ⟨rfl, hb5⟩)
        refine bodyPost_ret (v := .string ⟨r.data⟩) (by simp [results, Tryd.results7, go_sem]) rfl ?_
        exact ⟨rfl, HW.out.trans (hb5.mono (by omega))⟩
theorem sh_draw {xs : List Shape_} {bv : Bool} (hv : FnC Tryd.prog 13 [] [.agg [.d (.sl (xs.map cShape_))]] [] (.d (.v (.bool bv))))
    {f : Shape_ → Option ByteArray} (hf : ∀ s t, f s = some t → FnC Tryd.prog 15 [] [shapeA s] [] (.d (.v (.string t)))) {r : ByteArray} (hr : (if bv = true then linesM f xs ⟨#[]⟩ else some ⟨#[]⟩) = some r) :
    FnC Tryd.prog 7 [] [.agg [.d (.sl (xs.map cShape_))]] [] (.d (.v (.string r))) := by
  refine ⟨by kernel_rfl, fun w F μ us gl H hs hus => ?_⟩
  obtain ⟨u0, rfl⟩ : ∃ u0, us = #[u0] := by
    obtain ⟨l⟩ := us
    match l, hs with
    | [a], _ => exact ⟨a, rfl⟩
  have h1 := hus 0 u0 _ rfl rfl
  cases h1 with
  | agg vs cs hsz hrr =>
    obtain ⟨s0, rfl⟩ : ∃ s0, vs = #[s0] := by
      obtain ⟨l⟩ := vs
      match l, hsz with
      | [a], _ => exact ⟨a, rfl⟩
    have h2 := hrr 0 s0 _ rfl rfl
    cases h2 with
    | d _ _ h0 =>
      refine (draw_c gl H.fz hv hf h0 hr).mono ?_
      rintro e w' ⟨rfl, hb⟩
      exact ⟨_, F, μ, rfl, H.of_below hb, .d _ _ (.v _ rfl)⟩
end Go.Proofs.YtjjelnpehgoagaaDoor
namespace Go.Proofs.YtjjelnpehgoagaaDoor
open Go.RowKit
set_option linter.unusedVariables false
set_option maxRecDepth 100000
set_option maxHeartbeats 2000000
theorem eqg_Spot_ : Tryd.prog.eqGuardType Tryd.prog.depth 41 = false := by kernel_rfl
theorem run_eql_Spot_ {x y : Operand} (a b : Spot_) (w : World) : (do eqGuard .eql 41 x y (.agg #[.int .i64 a.X, .int .i64 a.Y]) (.agg #[.int .i64 b.X, .int .i64 b.Y]); binOp .eql 41 (.agg #[.int .i64 a.X, .int .i64 a.Y]) (.agg #[.int .i64 b.X, .int .i64 b.Y]) : Sem Value).run Tryd.prog w = .ok (.bool (decide (a = b))) w := by
  have g : (eqGuard .eql 41 x y (.agg #[.int .i64 a.X, .int .i64 a.Y]) (.agg #[.int .i64 b.X, .int .i64 b.Y])).run Tryd.prog w = .ok () w := by simp [eqGuard, eqg_Spot_]
  rw [Sem.run_bind, g, Result.andThen_ok]
  obtain ⟨x0, x1⟩ := a
  obtain ⟨y0, y1⟩ := b
  simp [go_sem]
  (repeat' split) <;> simp_all [bytes_inj]
theorem ps_eql_Spot_ {N : Nat} {t : Nat → AV} {h : Heap} {d : Tmp} {ty : TypeId} {pos : String} {aft : Array Edge} {g : Option (Nat × Bool)} {x y : Operand} {a b : Spot_} (hx : toV (evA N ⟨t, h⟩ x) = some (.agg #[.int .i64 a.X, .int .i64 a.Y])) (hy : toV (evA N ⟨t, h⟩ y) = some (.agg #[.int .i64 b.X, .int .i64 b.Y])) : Pure1 Tryd.prog N ⟨some d, .binOp .eql 41 x y 41, ty, pos, aft, g⟩ ⟨t, h⟩ (.d (.v (.bool (decide (a = b))))) := pu_bin hx hy (fun w => run_eql_Spot_ a b w)
theorem eqg_Shape_ : Tryd.prog.eqGuardType Tryd.prog.depth 43 = false := by kernel_rfl
theorem run_eql_Shape_ {x y : Operand} (a b : Shape_) (w : World) : (do eqGuard .eql 43 x y (.agg #[.int .i64 a.Kind, .int .i64 a.A.X, .int .i64 a.A.Y, .int .i64 a.B.X, .int .i64 a.B.Y, .int .i64 a.R, .string a.Name]) (.agg #[.int .i64 b.Kind, .int .i64 b.A.X, .int .i64 b.A.Y, .int .i64 b.B.X, .int .i64 b.B.Y, .int .i64 b.R, .string b.Name]); binOp .eql 43 (.agg #[.int .i64 a.Kind, .int .i64 a.A.X, .int .i64 a.A.Y, .int .i64 a.B.X, .int .i64 a.B.Y, .int .i64 a.R, .string a.Name]) (.agg #[.int .i64 b.Kind, .int .i64 b.A.X, .int .i64 b.A.Y, .int .i64 b.B.X, .int .i64 b.B.Y, .int .i64 b.R, .string b.Name]) : Sem Value).run Tryd.prog w = .ok (.bool (decide (a = b))) w := by
  have g : (eqGuard .eql 43 x y (.agg #[.int .i64 a.Kind, .int .i64 a.A.X, .int .i64 a.A.Y, .int .i64 a.B.X, .int .i64 a.B.Y, .int .i64 a.R, .string a.Name]) (.agg #[.int .i64 b.Kind, .int .i64 b.A.X, .int .i64 b.A.Y, .int .i64 b.B.X, .int .i64 b.B.Y, .int .i64 b.R, .string b.Name])).run Tryd.prog w = .ok () w := by simp [eqGuard, eqg_Shape_]
  rw [Sem.run_bind, g, Result.andThen_ok]
  obtain ⟨x0, ⟨x1, x2⟩, ⟨x3, x4⟩, x5, x6⟩ := a
  obtain ⟨y0, ⟨y1, y2⟩, ⟨y3, y4⟩, y5, y6⟩ := b
  simp [go_sem]
  (repeat' split) <;> simp_all [bytes_inj]
theorem ps_eql_Shape_ {N : Nat} {t : Nat → AV} {h : Heap} {d : Tmp} {ty : TypeId} {pos : String} {aft : Array Edge} {g : Option (Nat × Bool)} {x y : Operand} {a b : Shape_} (hx : toV (evA N ⟨t, h⟩ x) = some (.agg #[.int .i64 a.Kind, .int .i64 a.A.X, .int .i64 a.A.Y, .int .i64 a.B.X, .int .i64 a.B.Y, .int .i64 a.R, .string a.Name])) (hy : toV (evA N ⟨t, h⟩ y) = some (.agg #[.int .i64 b.Kind, .int .i64 b.A.X, .int .i64 b.A.Y, .int .i64 b.B.X, .int .i64 b.B.Y, .int .i64 b.R, .string b.Name])) : Pure1 Tryd.prog N ⟨some d, .binOp .eql 43 x y 43, ty, pos, aft, g⟩ ⟨t, h⟩ (.d (.v (.bool (decide (a = b))))) := pu_bin hx hy (fun w => run_eql_Shape_ a b w)
theorem l_szShape_c {p0 : Shape_} {p1 : Int} {r : Int} (h0 : l_szShape_m p0 p1 = some r) : FnC Tryd.prog 18 [] [.agg [.d (.v (.int .i64 p0.Kind)), .d (.v (.int .i64 p0.A.X)), .d (.v (.int .i64 p0.A.Y)), .d (.v (.int .i64 p0.B.X)), .d (.v (.int .i64 p0.B.Y)), .d (.v (.int .i64 p0.R)), .d (.v (.string p0.Name))], .d (.v (.int .i64 p1))] [] (.d (.v (.int .i64 r))) := by
  refine fnc_intro (T := tt) (N := 13) tok Tryd.func18 rfl rfl (by kernel_rfl) rfl rfl ?_
  unfold l_szShape_m at h0
  refine sq [0,1] ?_
  refine rs rfl w0 rfl (st_box 3 (cs := _ :: _) rfl rfl rfl) ?_
  refine pa ?_
  refine nx ?_
  refine sq [0,1,2,3,4,5] ?_
  refine pm ?_
  refine fa tok ?_
  refine ld tok ?_
  refine rp rfl w0 rfl (pu_len_str tok rfl rfl rfl) ?_
  refine rp rfl w0 rfl (pw_sub rfl rfl) ?_
  refine pa ?_
  refine nx ?_
  refine aw_seq ?_
  refine sq [0,1] ?_
  refine pm ?_
  refine rp rfl w0 rfl (pu_lss rfl rfl) ?_
  refine nx ?_
  refine aw_if h0 rfl (fun hc h0 => ?_) (fun hc h0 => ?_)
  refine sq [0] ?_
  refine pa ?_
  refine nx ?_
  refine aw_ret ?_
  refine then_r ?_
  cases h0
  exact ret0_ (rs := [.tmp 4]) rfl
  refine sk ?_
  refine sq [0,1] ?_
  refine pm ?_
  refine pa ?_
  refine nx ?_
  refine aw_ret ?_
  cases h0
  exact ret0_ (rs := [.tmp 4]) rfl

theorem l_szShapeS_c {p0 : List Shape_} {p1 : Int} {r : Int} (h0 : l_szShapeS_m p0 p1 = some r) : FnC Tryd.prog 9 [] [.d (.sl (List.map cShape_ p0)), .d (.v (.int .i64 p1))] [] (.d (.v (.int .i64 r))) := by
  refine fnc_intro (T := tt) (N := 27) tok Tryd.func9 rfl rfl (by kernel_rfl) rfl rfl ?_
  unfold l_szShapeS_m at h0
  refine sq [0] ?_
  refine pa ?_
  refine nx ?_
  refine sq [0,1,2,3,4] ?_
  refine pm ?_
  refine pm ?_
  refine rp rfl w0 rfl (pu_len_map tok rfl rfl rfl) ?_
  refine rp rfl w0 rfl (pw_sub rfl rfl) ?_
  refine pa ?_
  refine nx ?_
  refine aw_seq ?_
  refine sq [0,1] ?_
  refine pm ?_
  refine rp rfl w0 rfl (pu_lss rfl rfl) ?_
  refine nx ?_
  refine aw_if h0 rfl (fun hc h0 => ?_) (fun hc h0 => ?_)
  refine sq [0] ?_
  refine pa ?_
  refine nx ?_
  refine aw_ret ?_
  refine then_r ?_
  cases h0
  exact ret0_ (rs := [.tmp 4]) rfl
  refine sk ?_
  obtain ⟨v7x, h1, h0⟩ := bnd h0
  refine aw_cutE v7x (fun v7 => ⟨updA ((fun _ => .dead)) 1 (.d (.v (.int .i64 v7))), lks [.no, .no, .no]⟩) ?_ ?_
  refine sq [0] ?_
  refine pa ?_
  refine nx ?_
  refine aw_block ?_
  refine aw_loopM (fun s4 => ⟨updA (updA (updA ((fun _ => .dead)) 0 (.d (.sl (List.map cShape_ p0)))) 1 (.d (.v (.int .i64 s4.1)))) 5 (.d (.v (.int .i64 s4.2))), lks [.no, .no, .no]⟩) h1 ?_ (fun s4 y h2 => ?_)
  exact wk [0, 1, 2]
  refine aw_seq ?_
  refine sq [0,1,2,3] ?_
  refine pm ?_
  refine pm ?_
  refine rp rfl w0 rfl (pu_len_map tok rfl rfl rfl) ?_
  refine rp rfl w0 rfl (pu_lss rfl rfl) ?_
  refine nx ?_
  refine aw_if h2 rfl (fun hc h2 => ?_) (fun hc h2 => ?_)
  refine sk ?_
  refine aw_seq ?_
  refine aw_block ?_
  refine sq [0,1,2,3,4,5,6] ?_
  refine pm ?_
  refine pm ?_
  obtain ⟨v5, hv5, h2⟩ := bnd h2
  refine rp rfl w0 rfl (sl_ix tok hv5 rfl rfl rfl rfl rfl rfl) ?_
  refine rp rfl w0 rfl (pu_load_refN tok rfl rfl rfl (by repeat (first | exact SegD.z _ | apply SegD.t))) ?_
  refine pm ?_
  obtain ⟨v6, hv6, h2⟩ := bnd h2
  refine rs rfl w0 rfl (c_call 3 (l_szShape_c hv6) rfl rfl rfl) ?_
  refine pa ?_
  refine nx ?_
  refine sq [0,1] ?_
  refine pm ?_
  refine rp rfl w0 rfl (pu_lss rfl rfl) ?_
  refine nx ?_
  refine aw_if h2 rfl (fun hc h2 => ?_) (fun hc h2 => ?_)
  refine sq [0] ?_
  refine pa ?_
  refine nx ?_
  refine aw_ret ?_
  refine block_r ?_
  refine then_r ?_
  cases h2
  refine loop_r ⟨_, rfl, fun e => ?_⟩
  subst e
  refine block_r ?_
  replace h0 := orE_s h0
  refine then_r ?_
  cases h0
  exact ret0_ (rs := [.tmp 4]) rfl
  refine aw_skip ?_
  refine block_n ?_
  refine then_n ?_
  refine sr [0,1,2] ?_
  refine pm ?_
  refine rp rfl w0 rfl (pw_add rfl rfl) ?_
  refine pa ?_
  refine ra_nil ?_
  refine loop_n ?_
  cases h2
  refine ⟨_, rfl, ?_⟩
  exact wk [0, 1, 2]
  refine aw_exit ?_
  refine then_e ?_
  cases h2
  refine loop_x ⟨_, rfl, fun e => ?_⟩
  subst e
  refine block_hit ?_
  refine then_n ?_
  refine ⟨_, rfl, ?_⟩
  exact wk [0, 1, 2]
  rintro v7 rfl
  replace h0 := orE_f h0
  refine sq [0,1] ?_
  refine pm ?_
  refine pa ?_
  refine nx ?_
  refine aw_ret ?_
  cases h0
  exact ret0_ (rs := [.tmp 4]) rfl

theorem l_szDrawing_c {p0 : Drawing_} {p1 : Int} {r : Int} (h0 : l_szDrawing_m p0 p1 = some r) : FnC Tryd.prog 4 [] [.agg [.d (.sl (List.map cShape_ p0.Shapes))], .d (.v (.int .i64 p1))] [] (.d (.v (.int .i64 r))) := by
  refine fnc_intro (T := tt) (N := 12) tok Tryd.func4 rfl rfl (by kernel_rfl) rfl rfl ?_
  unfold l_szDrawing_m at h0
  refine sq [0,1] ?_
  refine rs rfl w0 rfl (st_box 3 (cs := _ :: _) rfl rfl rfl) ?_
  refine pa ?_
  refine nx ?_
  refine sq [0,1,2,3,4] ?_
  refine fa tok ?_
  refine ld tok ?_
  refine pm ?_
  obtain ⟨v1, hv1, h0⟩ := bnd h0
  refine rs rfl w0 rfl (c_call 4 (l_szShapeS_c hv1) rfl rfl rfl) ?_
  refine pa ?_
  refine nx ?_
  refine aw_seq ?_
  refine sq [0,1] ?_
  refine pm ?_
  refine rp rfl w0 rfl (pu_lss rfl rfl) ?_
  refine nx ?_
  refine aw_if h0 rfl (fun hc h0 => ?_) (fun hc h0 => ?_)
  refine sq [0] ?_
  refine pa ?_
  refine nx ?_
  refine aw_ret ?_
  refine then_r ?_
  cases h0
  exact ret0_ (rs := [.tmp 4]) rfl
  refine sk ?_
  refine sq [0,1] ?_
  refine pm ?_
  refine pa ?_
  refine nx ?_
  refine aw_ret ?_
  cases h0
  exact ret0_ (rs := [.tmp 4]) rfl

theorem l_toSpot_c {p0 : Spot_} {r : Spot_} (h0 : l_toSpot_m p0 = some r) : FnC Tryd.prog 33 [] [.agg [.d (.v (.int .i64 p0.X)), .d (.v (.int .i64 p0.Y))]] [] (.agg [.d (.v (.int .i64 r.X)), .d (.v (.int .i64 r.Y))]) := by
  refine fnc_intro (T := tt) (N := 11) tok Tryd.func33 rfl rfl (by kernel_rfl) rfl rfl ?_
  unfold l_toSpot_m at h0
  refine sq [0,1] ?_
  refine rs rfl w0 rfl (st_box 3 (cs := _ :: _) rfl rfl rfl) ?_
  refine rs rfl w0 rfl (st_alloc 4 (cs := [.d (.v (.int .i64 0)), .d (.v (.int .i64 0))]) tok rfl rfl rfl) ?_
  refine nx ?_
  refine sq [0] ?_
  refine rs rfl w0 rfl (st_alloc 5 (cs := [.d (.v (.int .i64 0)), .d (.v (.int .i64 0))]) tok rfl rfl rfl) ?_
  refine nx ?_
  refine sq [0,1,2,3] ?_
  refine fa tok ?_
  refine ld tok ?_
  refine fa tok ?_
  refine rw0 rfl w0 (bx_st (cs := [.d _]) tok rfl rfl rfl rfl rfl rfl rfl) ?_
  refine nx ?_
  refine sq [0,1,2,3] ?_
  refine fa tok ?_
  refine ld tok ?_
  refine fa tok ?_
  refine rw0 rfl w0 (bx_st (cs := [.d _]) tok rfl rfl rfl rfl rfl rfl rfl) ?_
  refine nx ?_
  refine sq [0,1] ?_
  refine rl rfl w0 rfl (bx_ldN tok rfl rfl rfl rfl) ?_
  refine rw0 rfl w0 (bx_st (cs := _ :: _) tok rfl rfl rfl rfl rfl rfl rfl) ?_
  refine nx ?_
  refine aw_ret ?_
  cases h0
  exact ret0_ (rs := [.cell 2 41]) rfl

theorem l_toShape_c {p0 : Shape_} {r : Shape_} (h0 : l_toShape_m p0 = some r) : FnC Tryd.prog 21 [] [.agg [.d (.v (.int .i64 p0.Kind)), .d (.v (.int .i64 p0.A.X)), .d (.v (.int .i64 p0.A.Y)), .d (.v (.int .i64 p0.B.X)), .d (.v (.int .i64 p0.B.Y)), .d (.v (.int .i64 p0.R)), .d (.v (.string p0.Name))]] [] (.agg [.d (.v (.int .i64 r.Kind)), .d (.v (.int .i64 r.A.X)), .d (.v (.int .i64 r.A.Y)), .d (.v (.int .i64 r.B.X)), .d (.v (.int .i64 r.B.Y)), .d (.v (.int .i64 r.R)), .d (.v (.string r.Name))]) := by
  refine fnc_intro (T := tt) (N := 22) tok Tryd.func21 rfl rfl (by kernel_rfl) rfl rfl ?_
  unfold l_toShape_m at h0
  refine sq [0,1] ?_
  refine rs rfl w0 rfl (st_box 3 (cs := _ :: _) rfl rfl rfl) ?_
  refine rs rfl w0 rfl (st_alloc 4 (cs := [.d (.v (.int .i64 0)), .d (.v (.int .i64 0)), .d (.v (.int .i64 0)), .d (.v (.int .i64 0)), .d (.v (.int .i64 0)), .d (.v (.int .i64 0)), .d (.v (.string (⟨#[]⟩ : ByteArray)))]) tok rfl rfl rfl) ?_
  refine nx ?_
  refine sq [0] ?_
  refine rs rfl w0 rfl (st_alloc 5 (cs := [.d (.v (.int .i64 0)), .d (.v (.int .i64 0)), .d (.v (.int .i64 0)), .d (.v (.int .i64 0)), .d (.v (.int .i64 0)), .d (.v (.int .i64 0)), .d (.v (.string (⟨#[]⟩ : ByteArray)))]) tok rfl rfl rfl) ?_
  refine nx ?_
  refine sq [0,1,2,3] ?_
  refine fa tok ?_
  refine ld tok ?_
  refine fa tok ?_
  refine rw0 rfl w0 (bx_st (cs := [.d _]) tok rfl rfl rfl rfl rfl rfl rfl) ?_
  refine nx ?_
  refine sq [0,1,2,3,4] ?_
  refine fa tok ?_
  refine rl rfl w0 rfl (bx_ldN tok rfl rfl rfl rfl) ?_
  obtain ⟨v1, hv1, h0⟩ := bnd h0
  refine rs rfl w0 rfl (c_call 6 (l_toSpot_c hv1) rfl rfl rfl) ?_
  refine fa tok ?_
  refine rw0 rfl w0 (bx_st (cs := _ :: _) tok rfl rfl rfl rfl rfl rfl rfl) ?_
  refine nx ?_
  refine sq [0,1,2,3,4] ?_
  refine fa tok ?_
  refine rl rfl w0 rfl (bx_ldN tok rfl rfl rfl rfl) ?_
  obtain ⟨v2, hv2, h0⟩ := bnd h0
  refine rs rfl w0 rfl (c_call 6 (l_toSpot_c hv2) rfl rfl rfl) ?_
  refine fa tok ?_
  refine rw0 rfl w0 (bx_st (cs := _ :: _) tok rfl rfl rfl rfl rfl rfl rfl) ?_
  refine nx ?_
  refine sq [0,1,2,3] ?_
  refine fa tok ?_
  refine ld tok ?_
  refine fa tok ?_
  refine rw0 rfl w0 (bx_st (cs := [.d _]) tok rfl rfl rfl rfl rfl rfl rfl) ?_
  refine nx ?_
  refine sq [0,1,2,3] ?_
  refine fa tok ?_
  refine ld tok ?_
  refine fa tok ?_
  refine rw0 rfl w0 (bx_st (cs := [.d _]) tok rfl rfl rfl rfl rfl rfl rfl) ?_
  refine nx ?_
  refine sq [0,1] ?_
  refine rl rfl w0 rfl (bx_ldN tok rfl rfl rfl rfl) ?_
  refine rw0 rfl w0 (bx_st (cs := _ :: _) tok rfl rfl rfl rfl rfl rfl rfl) ?_
  refine nx ?_
  refine aw_ret ?_
  cases h0
  exact ret0_ (rs := [.cell 2 43]) rfl

theorem l_toShapeS_c {p0 : List Shape_} {r : List Shape_} (h0 : l_toShapeS_m p0 = some r) : FnC Tryd.prog 12 [] [.d (.sl (List.map cShape_ p0))] [.live [⟨43, 7, .data (List.map cShape_ r)⟩]] (.own 0 0 r.length) := by
  refine fnc_intro (T := tt) (N := 23) tok Tryd.func12 rfl rfl (by kernel_rfl) rfl rfl ?_
  unfold l_toShapeS_m at h0
  refine sq [0] ?_
  refine pa ?_
  refine nx ?_
  refine sq [0,1,2,3] ?_
  refine pm ?_
  refine rp rfl w0 rfl (pu_len_map tok rfl rfl rfl) ?_
  obtain ⟨hq1, h0⟩ := chk_e h0
  refine rs rfl w0 rfl (mk_own 3 tok (c := cShape_) (⟨0, (⟨0, 0⟩ : Spot_), (⟨0, 0⟩ : Spot_), 0, (⟨#[]⟩ : ByteArray)⟩ : Shape_) hq1 rfl rfl rfl rfl rfl rfl rfl rfl rfl rfl rfl rfl rfl) ?_
  refine rp rfl w0 rfl (pu_assign (r := .own _ _ _) rfl) ?_
  refine nx ?_
  obtain ⟨v10, h1, h0⟩ := bnd h0
  refine aw_cut ⟨updA ((fun _ => .dead)) 3 (.own 3 0 (v10).length), lks [.no, .no, .no, .live [⟨43, 7, .data (List.map cShape_ v10)⟩]]⟩ ?_ ?_
  refine sq [0] ?_
  refine pa ?_
  refine nx ?_
  refine aw_block ?_
  refine aw_loopM (fun s6 => ⟨updA (updA (updA ((fun _ => .dead)) 0 (.d (.sl (List.map cShape_ p0)))) 3 (.own 3 0 (s6.2).length)) 4 (.d (.v (.int .i64 s6.1))), lks [.no, .no, .no, .live [⟨43, 7, .data (List.map cShape_ s6.2)⟩]]⟩) h1 ?_ (fun s6 y h2 => ?_)
  exact wk [0, 1, 2, 3]
  refine aw_seq ?_
  refine sq [0,1,2,3] ?_
  refine pm ?_
  refine pm ?_
  refine rp rfl w0 rfl (pu_len_map tok rfl rfl rfl) ?_
  refine rp rfl w0 rfl (pu_lss rfl rfl) ?_
  refine nx ?_
  refine aw_if h2 rfl (fun hc h2 => ?_) (fun hc h2 => ?_)
  refine sk ?_
  refine aw_seq ?_
  refine aw_block ?_
  refine sr [0,1,2,3,4,5,6,7,8] ?_
  refine rp rfl w0 rfl (pu_move (r := .own _ _ _) rfl) ?_
  iterate 3 refine pm ?_
  obtain ⟨v7, hv7, h2⟩ := bnd h2
  refine rp rfl w0 rfl (sl_ix tok hv7 rfl rfl rfl rfl rfl rfl) ?_
  refine rp rfl w0 rfl (pu_load_refN tok rfl rfl rfl (by repeat (first | exact SegD.z _ | apply SegD.t))) ?_
  obtain ⟨v8, hv8, h2⟩ := bnd h2
  refine rs rfl w0 rfl (c_call 4 (l_toShape_c hv8) rfl rfl rfl) ?_
  obtain ⟨v9, hv9, h2⟩ := bnd h2
  refine rl rfl w0 rfl (ow_ix tok hv9 rfl rfl rfl rfl rfl rfl rfl rfl) ?_
  refine rw0 rfl w0 (rw_st (cs := _ :: _) tok v8 (atI_e hv9).2.1 rfl rfl rfl rfl rfl rfl rfl rfl) ?_
  refine ra_nil ?_
  refine block_n ?_
  refine then_n ?_
  refine sr [0,1,2] ?_
  refine pm ?_
  refine rp rfl w0 rfl (pw_add rfl rfl) ?_
  refine pa ?_
  refine ra_nil ?_
  refine loop_n ?_
  cases h2
  refine ⟨_, rfl, ?_⟩
  exact wk [0, 1, 2, 3]
  refine aw_exit ?_
  refine then_e ?_
  cases h2
  refine loop_x ⟨_, rfl, fun e => ?_⟩
  subst e
  refine block_hit ?_
  refine then_n ?_
  exact wk [0, 1, 2, 3]
  refine sq [0,1] ?_
  refine rp rfl w0 rfl (pu_move (r := .own _ _ _) rfl) ?_
  refine rp rfl w0 rfl (pu_assign (r := .own _ _ _) rfl) ?_
  refine nx ?_
  refine aw_ret ?_
  cases h0
  exact retK_ (rs := [.tmp 2]) [3] rfl

theorem l_toDrawing_c {p0 : Drawing_} {r : Drawing_} (h0 : l_toDrawing_m p0 = some r) : FnC Tryd.prog 6 [] [.agg [.d (.sl (List.map cShape_ p0.Shapes))]] [.live [⟨43, 7, .data (List.map cShape_ r.Shapes)⟩]] (.agg [.own 0 0 r.Shapes.length]) := by
  refine fnc_intro (T := tt) (N := 9) tok Tryd.func6 rfl rfl (by kernel_rfl) rfl rfl ?_
  unfold l_toDrawing_m at h0
  refine sq [0,1] ?_
  refine rs rfl w0 rfl (st_box 3 (cs := _ :: _) rfl rfl rfl) ?_
  refine rs rfl w0 rfl (st_alloc 4 (cs := [.d (.v (.slice none 0 0))]) tok rfl rfl rfl) ?_
  refine nx ?_
  refine sq [0] ?_
  refine rs rfl w0 rfl (st_alloc 5 (cs := [.d (.v (.slice none 0 0))]) tok rfl rfl rfl) ?_
  refine nx ?_
  refine sq [0,1,2,3,4] ?_
  refine fa tok ?_
  refine ld tok ?_
  obtain ⟨v1, hv1, h0⟩ := bnd h0
  refine rs rfl w0 rfl (c_call 6 (l_toShapeS_c hv1) rfl rfl rfl) ?_
  refine fa tok ?_
  refine rw0 rfl w0 (bx_st (cs := [.own _ _ _]) tok rfl rfl rfl rfl rfl rfl rfl) ?_
  refine nx ?_
  refine sq [0,1] ?_
  refine rl rfl w0 rfl (bx_ldN tok rfl rfl rfl rfl) ?_
  refine rw0 rfl w0 (bx_st (cs := _ :: _) tok rfl rfl rfl rfl rfl rfl rfl) ?_
  refine nx ?_
  refine aw_ret ?_
  cases h0
  exact retK_ (rs := [.cell 2 29]) [6] rfl

theorem s_l00In_c {p0 : Int} {p1 : Int} {p2 : Int} {r : Bool} (h0 : s_l00In_m p0 p1 p2 = some r) : FnC Tryd.prog 29 [] [.d (.v (.int .i64 p0)), .d (.v (.int .i64 p1)), .d (.v (.int .i64 p2))] [] (.d (.v (.bool r))) := by
  refine fnc_intro (T := tt) (N := 15) tok Tryd.func29 rfl rfl (by kernel_rfl) rfl rfl ?_
  unfold s_l00In_m at h0
  refine sq [0] ?_
  refine pa ?_
  refine nx ?_
  refine sq [0,1,2,3,4,5,6,7,8] ?_
  refine pm ?_
  refine pm ?_
  refine rp rfl w0 rfl (pu_geq rfl rfl) ?_
  refine pm ?_
  refine ra_if (u := 10) h0 rfl (fun hc h0 => ?_) (fun hc h0 => ?_)
  refine pm1 ?_
  refine pm1 ?_
  refine rp rfl (w1 rfl rfl rfl) rfl (pu_leq rfl rfl) ?_
  refine pkt ?_
  refine pa ?_
  refine nx ?_
  refine aw_ret ?_
  cases h0
  exact ret0_ (rs := [.tmp 6]) rfl
  iterate 3 refine k1 ?_
  refine pkf ?_
  refine pa ?_
  refine nx ?_
  refine aw_ret ?_
  cases h0
  exact ret0_ (rs := [.tmp 6]) rfl

theorem s_l25Spot_c {p0 : Spot_} {r : Bool} (h0 : s_l25Spot_m p0 = some r) : FnC Tryd.prog 28 [] [.agg [.d (.v (.int .i64 p0.X)), .d (.v (.int .i64 p0.Y))]] [] (.d (.v (.bool r))) := by
  refine fnc_intro (T := tt) (N := 11) tok Tryd.func28 rfl rfl (by kernel_rfl) rfl rfl ?_
  unfold s_l25Spot_m at h0
  refine sq [0,1] ?_
  refine rs rfl w0 rfl (st_box 3 (cs := _ :: _) rfl rfl rfl) ?_
  refine pa ?_
  refine nx ?_
  refine sq [0,1,2,3,4,5,6,7,8] ?_
  refine fa tok ?_
  refine ld tok ?_
  obtain ⟨v1, hv1, h0⟩ := bnd h0
  refine rs rfl w0 rfl (c_call 4 (s_l00In_c hv1) rfl rfl rfl) ?_
  refine pm ?_
  refine ra_ifB (u := 6) h0 rfl (fun hc h0 => ?_) (fun hc h0 => ?_)
  refine fa1 tok ?_
  refine ld1 tok ?_
  obtain ⟨v2, hv2, h0⟩ := bnd h0
  refine rs rfl (w1 rfl rfl rfl) rfl (c_call 4 (s_l00In_c hv2) rfl rfl rfl) ?_
  refine pkt ?_
  refine pa ?_
  refine nx ?_
  refine aw_ret ?_
  cases h0
  exact ret0_ (rs := [.tmp 2]) rfl
  iterate 3 refine k1 ?_
  refine pkf ?_
  refine pa ?_
  refine nx ?_
  refine aw_ret ?_
  cases h0
  exact ret0_ (rs := [.tmp 2]) rfl

theorem s_l01Small_c {p0 : Int} {r : Bool} (h0 : s_l01Small_m p0 = some r) : FnC Tryd.prog 44 [] [.d (.v (.int .u8 p0))] [] (.d (.v (.bool r))) := by
  refine fnc_intro (T := tt) (N := 9) tok Tryd.func44 rfl rfl (by kernel_rfl) rfl rfl ?_
  unfold s_l01Small_m at h0
  refine sq [0] ?_
  refine pa ?_
  refine nx ?_
  refine sq [0,1,2,3,4,5,6] ?_
  refine pm ?_
  refine rp rfl w0 rfl (pu_geq rfl rfl) ?_
  refine pm ?_
  refine ra_if (u := 5) h0 rfl (fun hc h0 => ?_) (fun hc h0 => ?_)
  refine pm1 ?_
  refine rp rfl (w1 rfl rfl rfl) rfl (pu_leq rfl rfl) ?_
  refine pkt ?_
  refine pa ?_
  refine nx ?_
  refine aw_ret ?_
  cases h0
  exact ret0_ (rs := [.tmp 2]) rfl
  refine k1 ?_
  refine k1 ?_
  refine pkf ?_
  refine pa ?_
  refine nx ?_
  refine aw_ret ?_
  cases h0
  exact ret0_ (rs := [.tmp 2]) rfl

theorem s_l01Digit_c {p0 : Int} {r : Bool} (h0 : s_l01Digit_m p0 = some r) : FnC Tryd.prog 45 [] [.d (.v (.int .u8 p0))] [] (.d (.v (.bool r))) := by
  refine fnc_intro (T := tt) (N := 9) tok Tryd.func45 rfl rfl (by kernel_rfl) rfl rfl ?_
  unfold s_l01Digit_m at h0
  refine sq [0] ?_
  refine pa ?_
  refine nx ?_
  refine sq [0,1,2,3,4,5,6] ?_
  refine pm ?_
  refine rp rfl w0 rfl (pu_geq rfl rfl) ?_
  refine pm ?_
  refine ra_if (u := 5) h0 rfl (fun hc h0 => ?_) (fun hc h0 => ?_)
  refine pm1 ?_
  refine rp rfl (w1 rfl rfl rfl) rfl (pu_leq rfl rfl) ?_
  refine pkt ?_
  refine pa ?_
  refine nx ?_
  refine aw_ret ?_
  cases h0
  exact ret0_ (rs := [.tmp 2]) rfl
  refine k1 ?_
  refine k1 ?_
  refine pkf ?_
  refine pa ?_
  refine nx ?_
  refine aw_ret ?_
  cases h0
  exact ret0_ (rs := [.tmp 2]) rfl

theorem s_IsName_c {p0 : ByteArray} {r : Bool} (h0 : s_IsName_m p0 = some r) : FnC Tryd.prog 30 [] [.d (.v (.string p0))] [] (.d (.v (.bool r))) := by
  refine fnc_intro (T := tt) (N := 41) tok Tryd.func30 rfl rfl (by kernel_rfl) rfl rfl ?_
  unfold s_IsName_m at h0
  refine sq [0] ?_
  refine pa ?_
  refine nx ?_
  refine aw_seq ?_
  obtain ⟨v3, h1, h0⟩ := bnd h0
  refine aw_cut ⟨updA (updA ((fun _ => .dead)) 0 (.d (.v (.string p0)))) 16 (.d (.v (.bool v3))), lks [.no, .no, .no]⟩ ?_ ?_
  refine sr [0,1,2,3,4,5,6,7,8,9,10,11,12] ?_
  refine pm ?_
  refine rp rfl w0 rfl (pu_seql rfl rfl) ?_
  refine pm ?_
  refine ra_if (u := 6) h1 rfl (fun hc h1 => ?_) (fun hc h1 => ?_)
  iterate 3 refine k1 ?_
  refine pkt ?_
  refine pm ?_
  iterate 4 refine k1 ?_
  refine pkt ?_
  refine nx ?_
  cases h1
  exact wk [0, 1, 2]
  refine pm1 ?_
  refine rp rfl (w1 rfl rfl rfl) rfl (pu_len_str tok rfl rfl rfl) ?_
  refine rp rfl (w1 rfl rfl rfl) rfl (pu_gtr rfl rfl) ?_
  refine pkf ?_
  refine pm ?_
  refine ra_if (u := 11) h1 rfl (fun hc h1 => ?_) (fun hc h1 => ?_)
  iterate 4 refine k1 ?_
  refine pkt ?_
  refine nx ?_
  cases h1
  exact wk [0, 1, 2]
  refine pm1 ?_
  obtain ⟨v1, hv1, h1⟩ := bnd h1
  refine rp rfl (w1 rfl rfl rfl) rfl (pu_sidx tok hv1 rfl rfl rfl rfl) ?_
  obtain ⟨v2, hv2, h1⟩ := bnd h1
  refine rs rfl (w1 rfl rfl rfl) rfl (c_call 3 (s_l01Small_c hv2) rfl rfl rfl) ?_
  refine rp rfl (w1 rfl rfl rfl) rfl (pu_not rfl) ?_
  refine pkf ?_
  refine nx ?_
  cases h1
  exact wk [0, 1, 2]
  refine aw_ifB h0 rfl (fun hc h0 => ?_) (fun hc h0 => ?_)
  refine sq [0] ?_
  refine pa ?_
  refine nx ?_
  refine aw_ret ?_
  refine then_r ?_
  cases h0
  exact ret0_ (rs := [.tmp 2]) rfl
  refine sk ?_
  obtain ⟨v18x, h1, h0⟩ := bnd h0
  refine aw_cutE v18x (fun v18 => ⟨(fun _ => .dead), lks [.no, .no, .no]⟩) ?_ ?_
  refine sq [0] ?_
  refine pa ?_
  refine nx ?_
  refine aw_block ?_
  refine aw_loopM (fun s11 => ⟨updA (updA ((fun _ => .dead)) 0 (.d (.v (.string p0)))) 3 (.d (.v (.int .i64 s11))), lks [.no, .no, .no]⟩) h1 ?_ (fun s11 y h2 => ?_)
  exact wk [0, 1, 2]
  refine aw_seq ?_
  refine sq [0,1,2,3] ?_
  refine pm ?_
  refine pm ?_
  refine rp rfl w0 rfl (pu_len_str tok rfl rfl rfl) ?_
  refine rp rfl w0 rfl (pu_lss rfl rfl) ?_
  refine nx ?_
  refine aw_if h2 rfl (fun hc h2 => ?_) (fun hc h2 => ?_)
  refine sk ?_
  refine aw_seq ?_
  refine aw_block ?_
  obtain ⟨v17, h3, h2⟩ := bnd h2
  refine aw_cut ⟨updA (updA (updA ((fun _ => .dead)) 0 (.d (.v (.string p0)))) 3 (.d (.v (.int .i64 s11)))) 40 (.d (.v (.bool v17))), lks [.no, .no, .no]⟩ ?_ ?_
  refine sr [0,1,2,3,4,5,6,7,8,9,10,11,12,13,14,15,16,17] ?_
  refine pm ?_
  refine pm ?_
  obtain ⟨v12, hv12, h3⟩ := bnd h3
  refine rp rfl w0 rfl (pu_sidx tok hv12 rfl rfl rfl rfl) ?_
  obtain ⟨v13, hv13, h3⟩ := bnd h3
  refine rs rfl w0 rfl (c_call 3 (s_l01Small_c hv13) rfl rfl rfl) ?_
  refine rp rfl w0 rfl (pu_not rfl) ?_
  refine pm ?_
  refine ra_ifB (u := 28) h3 rfl (fun hc h3 => ?_) (fun hc h3 => ?_)
  refine pm1 ?_
  refine pm1 ?_
  obtain ⟨v14, hv14, h3⟩ := bnd h3
  refine rp rfl (w1 rfl rfl rfl) rfl (pu_sidx tok hv14 rfl rfl rfl rfl) ?_
  obtain ⟨v15, hv15, h3⟩ := bnd h3
  refine rs rfl (w1 rfl rfl rfl) rfl (c_call 3 (s_l01Digit_c hv15) rfl rfl rfl) ?_
  refine rp rfl (w1 rfl rfl rfl) rfl (pu_not rfl) ?_
  refine pkt ?_
  refine pm ?_
  refine ra_ifB (u := 35) h3 rfl (fun hc h3 => ?_) (fun hc h3 => ?_)
  refine pm1 ?_
  refine pm1 ?_
  obtain ⟨v16, hv16, h3⟩ := bnd h3
  refine rp rfl (w1 rfl rfl rfl) rfl (pu_sidx tok hv16 rfl rfl rfl rfl) ?_
  refine rp rfl (w1 rfl rfl rfl) rfl (pu_neq rfl rfl) ?_
  refine pkt ?_
  refine nx ?_
  cases h3
  exact wk [0, 1, 2]
  iterate 4 refine k1 ?_
  refine pkf ?_
  refine nx ?_
  cases h3
  exact wk [0, 1, 2]
  iterate 5 refine k1 ?_
  refine pkf ?_
  refine pm ?_
  iterate 4 refine k1 ?_
  refine pkf ?_
  refine nx ?_
  cases h3
  exact wk [0, 1, 2]
  refine aw_ifB h2 rfl (fun hc h2 => ?_) (fun hc h2 => ?_)
  refine sq [0] ?_
  refine pa ?_
  refine nx ?_
  refine aw_ret ?_
  refine block_r ?_
  refine then_r ?_
  cases h2
  refine loop_r ⟨_, rfl, fun e => ?_⟩
  subst e
  refine block_r ?_
  replace h0 := orE_s h0
  refine then_r ?_
  cases h0
  exact ret0_ (rs := [.tmp 2]) rfl
  refine aw_skip ?_
  refine block_n ?_
  refine then_n ?_
  refine sr [0,1,2] ?_
  refine pm ?_
  refine rp rfl w0 rfl (pw_add rfl rfl) ?_
  refine pa ?_
  refine ra_nil ?_
  refine loop_n ?_
  cases h2
  refine ⟨_, rfl, ?_⟩
  exact wk [0, 1, 2]
  refine aw_exit ?_
  refine then_e ?_
  cases h2
  refine loop_x ⟨_, rfl, fun e => ?_⟩
  subst e
  refine block_hit ?_
  refine then_n ?_
  refine ⟨_, rfl, ?_⟩
  exact wk [0, 1, 2]
  rintro v18 rfl
  replace h0 := orE_f h0
  refine sq [0] ?_
  refine pa ?_
  refine nx ?_
  refine aw_ret ?_
  cases h0
  exact ret0_ (rs := [.tmp 2]) rfl

theorem s_l25Shape_c {p0 : Shape_} {r : Bool} (h0 : s_l25Shape_m p0 = some r) : FnC Tryd.prog 19 [] [.agg [.d (.v (.int .i64 p0.Kind)), .d (.v (.int .i64 p0.A.X)), .d (.v (.int .i64 p0.A.Y)), .d (.v (.int .i64 p0.B.X)), .d (.v (.int .i64 p0.B.Y)), .d (.v (.int .i64 p0.R)), .d (.v (.string p0.Name))]] [] (.d (.v (.bool r))) := by
  refine fnc_intro (T := tt) (N := 58) tok Tryd.func19 rfl rfl (by kernel_rfl) rfl rfl ?_
  unfold s_l25Shape_m at h0
  refine sq [0,1] ?_
  refine rs rfl w0 rfl (st_box 3 (cs := _ :: _) rfl rfl rfl) ?_
  refine pa ?_
  refine nx ?_
  refine aw_seq ?_
  refine sq [0,1,2,3] ?_
  refine fa tok ?_
  refine rl rfl w0 rfl (bx_ldN tok rfl rfl rfl rfl) ?_
  obtain ⟨v1, hv1, h0⟩ := bnd h0
  refine rs rfl w0 rfl (c_call 4 (s_l25Spot_c hv1) rfl rfl rfl) ?_
  refine rp rfl w0 rfl (pu_not rfl) ?_
  refine nx ?_
  refine aw_ifB h0 rfl (fun hc h0 => ?_) (fun hc h0 => ?_)
  refine sq [0] ?_
  refine pa ?_
  refine nx ?_
  refine aw_ret ?_
  refine then_r ?_
  cases h0
  exact ret0_ (rs := [.tmp 2]) rfl
  refine sk ?_
  refine sq [0,1,2] ?_
  refine rp rfl w0 rfl (pbl (C0 := [.d (.v (.int .i64 0)), .d (.v (.int .i64 0))]) tok rfl rfl rfl) ?_
  refine rs rfl w0 rfl (st_alloc 4 (cs := [.d (.v (.int .i64 0)), .d (.v (.int .i64 0))]) tok rfl rfl rfl) ?_
  refine rw0 rfl w0 (bx_st (cs := _ :: _) tok rfl rfl rfl rfl rfl rfl rfl) ?_
  refine nx ?_
  refine aw_seq ?_
  refine sq [0,1] ?_
  refine fa tok ?_
  refine ld tok ?_
  refine nx ?_
  refine aw_block ?_
  refine sq [0,1] ?_
  refine rp rfl w0 rfl (pu_eql rfl rfl) ?_
  refine pa ?_
  refine nx ?_
  refine aw_if h0 rfl (fun hc h0 => ?_) (fun hc h0 => ?_)
  refine sq [0,1,2,3,4,5,6,7,8,9,10,11,12,13] ?_
  refine fa tok ?_
  refine rl rfl w0 rfl (bx_ldN tok rfl rfl rfl rfl) ?_
  obtain ⟨v2, hv2, h0⟩ := bnd h0
  refine rs rfl w0 rfl (c_call 5 (s_l25Spot_c hv2) rfl rfl rfl) ?_
  refine pm ?_
  refine ra_ifB (u := 16) h0 rfl (fun hc h0 => ?_) (fun hc h0 => ?_)
  refine fa1 tok ?_
  refine ld1 tok ?_
  refine rp rfl (w1 rfl rfl rfl) rfl (pu_eql rfl rfl) ?_
  refine pkt ?_
  refine pm ?_
  refine ra_if (u := 21) h0 rfl (fun hc h0 => ?_) (fun hc h0 => ?_)
  refine fa1 tok ?_
  refine ld1 tok ?_
  refine rp rfl (w1 rfl rfl rfl) rfl (pu_seql rfl rfl) ?_
  refine pkt ?_
  refine pa ?_
  refine nx ?_
  refine aw_ret ?_
  refine block_r ?_
  refine then_r ?_
  cases h0
  exact ret0_ (rs := [.tmp 2]) rfl
  iterate 3 refine k1 ?_
  refine pkf ?_
  refine pa ?_
  refine nx ?_
  refine aw_ret ?_
  refine block_r ?_
  refine then_r ?_
  cases h0
  exact ret0_ (rs := [.tmp 2]) rfl
  iterate 3 refine k1 ?_
  refine pkf ?_
  refine pm ?_
  iterate 3 refine k1 ?_
  refine pkf ?_
  refine pa ?_
  refine nx ?_
  refine aw_ret ?_
  refine block_r ?_
  refine then_r ?_
  cases h0
  exact ret0_ (rs := [.tmp 2]) rfl
  refine sq [0,1] ?_
  refine rp rfl w0 rfl (pu_eql rfl rfl) ?_
  refine pa ?_
  refine nx ?_
  refine aw_if h0 rfl (fun hc h0 => ?_) (fun hc h0 => ?_)
  refine sq [0,1,2,3,4,5,6,7,8,9,10,11,12,13,14] ?_
  refine fa tok ?_
  refine rl rfl w0 rfl (bx_ldN tok rfl rfl rfl rfl) ?_
  refine rl rfl w0 rfl (bx_ldN tok rfl rfl rfl rfl) ?_
  refine rp rfl w0 rfl (ps_eql_Spot_ (a := p0.B) (b := (⟨0, 0⟩ : Spot_)) rfl rfl) ?_
  refine pm ?_
  refine ra_if (u := 32) h0 rfl (fun hc h0 => ?_) (fun hc h0 => ?_)
  refine fa1 tok ?_
  refine ld1 tok ?_
  obtain ⟨v3, hv3, h0⟩ := bnd h0
  refine rs rfl (w1 rfl rfl rfl) rfl (c_call 5 (s_l00In_c hv3) rfl rfl rfl) ?_
  refine pkt ?_
  refine pm ?_
  refine ra_ifB (u := 37) h0 rfl (fun hc h0 => ?_) (fun hc h0 => ?_)
  refine fa1 tok ?_
  refine ld1 tok ?_
  refine rp rfl (w1 rfl rfl rfl) rfl (pu_seql rfl rfl) ?_
  refine pkt ?_
  refine pa ?_
  refine nx ?_
  refine aw_ret ?_
  refine block_r ?_
  refine then_r ?_
  cases h0
  exact ret0_ (rs := [.tmp 2]) rfl
  iterate 3 refine k1 ?_
  refine pkf ?_
  refine pa ?_
  refine nx ?_
  refine aw_ret ?_
  refine block_r ?_
  refine then_r ?_
  cases h0
  exact ret0_ (rs := [.tmp 2]) rfl
  iterate 3 refine k1 ?_
  refine pkf ?_
  refine pm ?_
  iterate 3 refine k1 ?_
  refine pkf ?_
  refine pa ?_
  refine nx ?_
  refine aw_ret ?_
  refine block_r ?_
  refine then_r ?_
  cases h0
  exact ret0_ (rs := [.tmp 2]) rfl
  refine sq [0,1] ?_
  refine rp rfl w0 rfl (pu_eql rfl rfl) ?_
  refine pa ?_
  refine nx ?_
  refine aw_if h0 rfl (fun hc h0 => ?_) (fun hc h0 => ?_)
  refine sq [0,1,2,3,4,5,6,7,8,9,10,11,12,13,14] ?_
  refine fa tok ?_
  refine rl rfl w0 rfl (bx_ldN tok rfl rfl rfl rfl) ?_
  refine rl rfl w0 rfl (bx_ldN tok rfl rfl rfl rfl) ?_
  refine rp rfl w0 rfl (ps_eql_Spot_ (a := p0.B) (b := (⟨0, 0⟩ : Spot_)) rfl rfl) ?_
  refine pm ?_
  refine ra_if (u := 48) h0 rfl (fun hc h0 => ?_) (fun hc h0 => ?_)
  refine fa1 tok ?_
  refine ld1 tok ?_
  refine rp rfl (w1 rfl rfl rfl) rfl (pu_eql rfl rfl) ?_
  refine pkt ?_
  refine pm ?_
  refine ra_if (u := 53) h0 rfl (fun hc h0 => ?_) (fun hc h0 => ?_)
  refine fa1 tok ?_
  refine ld1 tok ?_
  obtain ⟨v4, hv4, h0⟩ := bnd h0
  refine rs rfl (w1 rfl rfl rfl) rfl (c_call 5 (s_IsName_c hv4) rfl rfl rfl) ?_
  refine pkt ?_
  refine pa ?_
  refine nx ?_
  refine aw_ret ?_
  refine block_r ?_
  refine then_r ?_
  cases h0
  exact ret0_ (rs := [.tmp 2]) rfl
  iterate 3 refine k1 ?_
  refine pkf ?_
  refine pa ?_
  refine nx ?_
  refine aw_ret ?_
  refine block_r ?_
  refine then_r ?_
  cases h0
  exact ret0_ (rs := [.tmp 2]) rfl
  iterate 3 refine k1 ?_
  refine pkf ?_
  refine pm ?_
  iterate 3 refine k1 ?_
  refine pkf ?_
  refine pa ?_
  refine nx ?_
  refine aw_ret ?_
  refine block_r ?_
  refine then_r ?_
  cases h0
  exact ret0_ (rs := [.tmp 2]) rfl
  refine aw_skip ?_
  refine block_n ?_
  refine then_n ?_
  refine sq [0] ?_
  refine pa ?_
  refine nx ?_
  refine aw_ret ?_
  cases h0
  exact ret0_ (rs := [.tmp 2]) rfl

theorem s_l25Ok_c {p0 : Drawing_} {r : Bool} (h0 : s_l25Ok_m p0 = some r) : FnC Tryd.prog 10 [] [.agg [.d (.sl (List.map cShape_ p0.Shapes))]] [] (.d (.v (.bool r))) := by
  refine fnc_intro (T := tt) (N := 22) tok Tryd.func10 rfl rfl (by kernel_rfl) rfl rfl ?_
  unfold s_l25Ok_m at h0
  refine sq [0,1] ?_
  refine rs rfl w0 rfl (st_box 3 (cs := _ :: _) rfl rfl rfl) ?_
  refine pa ?_
  refine nx ?_
  obtain ⟨v7x, h1, h0⟩ := bnd h0
  refine aw_cutE v7x (fun v7 => ⟨updA ((fun _ => .dead)) 1 (.ptr 3 0 1 0 0), lks [.no, .no, .no, .live [⟨29, 1, .av [[.d (.sl (List.map cShape_ p0.Shapes))]]⟩]]⟩) ?_ ?_
  refine sq [0] ?_
  refine pa ?_
  refine nx ?_
  refine aw_block ?_
  refine aw_loopM (fun s4 => ⟨updA (updA ((fun _ => .dead)) 1 (.ptr 3 0 1 0 0)) 3 (.d (.v (.int .i64 s4))), lks [.no, .no, .no, .live [⟨29, 1, .av [[.d (.sl (List.map cShape_ p0.Shapes))]]⟩]]⟩) h1 ?_ (fun s4 y h2 => ?_)
  exact wk [0, 1, 2, 3]
  refine aw_seq ?_
  refine sq [0,1,2,3,4] ?_
  refine pm ?_
  refine fa tok ?_
  refine ld tok ?_
  refine rp rfl w0 rfl (pu_len_map tok rfl rfl rfl) ?_
  refine rp rfl w0 rfl (pu_lss rfl rfl) ?_
  refine nx ?_
  refine aw_if h2 rfl (fun hc h2 => ?_) (fun hc h2 => ?_)
  refine sk ?_
  refine aw_seq ?_
  refine aw_block ?_
  refine sq [0,1,2,3,4,5,6] ?_
  refine fa tok ?_
  refine ld tok ?_
  refine pm ?_
  obtain ⟨v5, hv5, h2⟩ := bnd h2
  refine rp rfl w0 rfl (sl_ix tok hv5 rfl rfl rfl rfl rfl rfl) ?_
  refine rp rfl w0 rfl (pu_load_refN tok rfl rfl rfl (by repeat (first | exact SegD.z _ | apply SegD.t))) ?_
  obtain ⟨v6, hv6, h2⟩ := bnd h2
  refine rs rfl w0 rfl (c_call 4 (s_l25Shape_c hv6) rfl rfl rfl) ?_
  refine rp rfl w0 rfl (pu_not rfl) ?_
  refine nx ?_
  refine aw_ifB h2 rfl (fun hc h2 => ?_) (fun hc h2 => ?_)
  refine sq [0] ?_
  refine pa ?_
  refine nx ?_
  refine aw_ret ?_
  refine block_r ?_
  refine then_r ?_
  cases h2
  refine loop_r ⟨_, rfl, fun e => ?_⟩
  subst e
  refine block_r ?_
  replace h0 := orE_s h0
  refine then_r ?_
  cases h0
  exact ret0_ (rs := [.tmp 2]) rfl
  refine aw_skip ?_
  refine block_n ?_
  refine then_n ?_
  refine sr [0,1,2] ?_
  refine pm ?_
  refine rp rfl w0 rfl (pw_add rfl rfl) ?_
  refine pa ?_
  refine ra_nil ?_
  refine loop_n ?_
  cases h2
  refine ⟨_, rfl, ?_⟩
  exact wk [0, 1, 2, 3]
  refine aw_exit ?_
  refine then_e ?_
  cases h2
  refine loop_x ⟨_, rfl, fun e => ?_⟩
  subst e
  refine block_hit ?_
  refine then_n ?_
  refine ⟨_, rfl, ?_⟩
  exact wk [0, 1, 2, 3]
  rintro v7 rfl
  replace h0 := orE_f h0
  refine sq [0,1,2,3,4] ?_
  refine fa tok ?_
  refine ld tok ?_
  refine rp rfl w0 rfl (pu_len_map tok rfl rfl rfl) ?_
  refine rp rfl w0 rfl (pu_leq rfl rfl) ?_
  refine pa ?_
  refine nx ?_
  refine aw_ret ?_
  cases h0
  exact ret0_ (rs := [.tmp 2]) rfl

theorem s_l01Dec_c {p0 : Int} {r : ByteArray} (h0 : s_l01Dec_m p0 = some r) : FnC Tryd.prog 32 [] [.d (.v (.int .i64 p0))] [] (.d (.v (.string r))) := by
  refine fnc_intro (T := tt) (N := 34) tok Tryd.func32 rfl rfl (by kernel_rfl) rfl rfl ?_
  unfold s_l01Dec_m at h0
  refine sq [0] ?_
  refine pa ?_
  refine nx ?_
  refine sq [0,1] ?_
  refine rs rfl w0 rfl (st_slice0 3 tok rfl rfl rfl rfl) ?_
  refine rp rfl w0 rfl (pu_assign (r := .own _ _ _) rfl) ?_
  refine nx ?_
  obtain ⟨v11, h1, h0⟩ := bnd h0
  refine aw_cut ⟨updA (updA ((fun _ => .dead)) 0 (.d (.v (.int .i64 p0)))) 3 (.own 3 0 (v11).length), lks [.no, .no, .no, .live [⟨5, 1, .data (List.map cU8 v11)⟩]]⟩ ?_ ?_
  refine sq [0,1] ?_
  refine pm ?_
  refine pa ?_
  refine nx ?_
  refine aw_block ?_
  refine aw_loopM (fun s6 => ⟨updA (updA (updA ((fun _ => .dead)) 0 (.d (.v (.int .i64 p0)))) 3 (.own 3 0 (s6.2).length)) 4 (.d (.v (.int .i64 s6.1))), lks [.no, .no, .no, .live [⟨5, 1, .data (List.map cU8 s6.2)⟩]]⟩) h1 ?_ (fun s6 y h2 => ?_)
  exact wk [0, 1, 2, 3]
  refine aw_seq ?_
  refine sq [0,1] ?_
  refine pm ?_
  refine rp rfl w0 rfl (pu_neq rfl rfl) ?_
  refine nx ?_
  refine aw_if h2 rfl (fun hc h2 => ?_) (fun hc h2 => ?_)
  refine sk ?_
  refine aw_seq ?_
  refine aw_block ?_
  refine sq [0,1,2] ?_
  refine pm ?_
  refine rp rfl w0 rfl (pu_remw rfl rfl (by decide)) ?_
  refine pa ?_
  refine nx ?_
  obtain ⟨v8, h3, h2⟩ := bnd h2
  refine aw_cut ⟨updA (updA (updA (updA ((fun _ => .dead)) 0 (.d (.v (.int .i64 p0)))) 3 (.own 3 0 (s6.2).length)) 4 (.d (.v (.int .i64 s6.1)))) 5 (.d (.v (.int .i64 v8))), lks [.no, .no, .no, .live [⟨5, 1, .data (List.map cU8 s6.2)⟩]]⟩ ?_ ?_
  refine sq [0,1] ?_
  refine pm ?_
  refine rp rfl w0 rfl (pu_lss rfl rfl) ?_
  refine nx ?_
  refine aw_if h3 rfl (fun hc h3 => ?_) (fun hc h3 => ?_)
  refine sr [0,1,2] ?_
  refine pm ?_
  refine rp rfl w0 rfl (pw_neg rfl) ?_
  refine pa ?_
  refine nx ?_
  cases h3
  exact wk [0, 1, 2, 3]
  refine sk ?_
  cases h3
  exact wk [0, 1, 2, 3]
  refine sr [0,1,2,3,4,5,6] ?_
  refine pm ?_
  refine rp rfl w0 rfl (pw_add rfl rfl) ?_
  refine rp rfl w0 rfl (pu_ii tok rfl rfl rfl rfl rfl) ?_
  refine rs rfl w0 rfl (bs_own 4 tok cU8 [IntKind.u8.wrap (w64 (48 + v8))] rfl rfl rfl (by repeat (first | exact Els.nil _ | apply Els.cons (cs := [.d _]) rfl rfl rfl | apply Els.cons (cs := _ :: _) rfl rfl rfl)) rfl rfl rfl (by repeat (first | exact AllDD.nil | (apply AllDD.cons; (repeat (first | exact AllD.nil | apply AllD.cons))))) rfl rfl) ?_
  refine rp rfl w0 rfl (pu_move (r := .own _ _ _) rfl) ?_
  obtain ⟨hq9, h2⟩ := chk_e h2
  refine rw1 rfl w0 rfl (ap_oo tok hq9 rfl rfl rfl rfl rfl rfl rfl rfl rfl rfl rfl rfl rfl rfl rfl) ?_
  refine rp rfl w0 rfl (pu_assign (r := .own _ _ _) rfl) ?_
  refine ra_nil ?_
  refine block_n ?_
  refine then_n ?_
  refine sr [0,1,2] ?_
  refine pm ?_
  refine rp rfl w0 rfl (pw_quo rfl rfl (by decide)) ?_
  refine pa ?_
  refine ra_nil ?_
  refine loop_n ?_
  cases h2
  refine ⟨_, rfl, ?_⟩
  exact wk [0, 1, 2, 4]
  refine aw_exit ?_
  refine then_e ?_
  cases h2
  refine loop_x ⟨_, rfl, fun e => ?_⟩
  subst e
  refine block_hit ?_
  refine then_n ?_
  exact wk [0, 1, 2, 3]
  refine aw_seq ?_
  refine sq [0,1,2] ?_
  refine rp rfl w0 rfl (pu_move (r := .own _ _ _) rfl) ?_
  refine rl rfl w0 rfl (ow_len tok rfl rfl rfl rfl rfl) ?_
  refine rp rfl w0 rfl (pu_eql rfl rfl) ?_
  refine nx ?_
  refine aw_if h0 rfl (fun hc h0 => ?_) (fun hc h0 => ?_)
  refine sq [0] ?_
  refine pa ?_
  refine nx ?_
  refine aw_ret ?_
  refine then_r ?_
  cases h0
  exact ret0_ (rs := [.tmp 2]) rfl
  refine sk ?_
  refine aw_seq ?_
  refine sq [0,1] ?_
  refine pm ?_
  refine rp rfl w0 rfl (pu_lss rfl rfl) ?_
  refine nx ?_
  refine aw_if h0 rfl (fun hc h0 => ?_) (fun hc h0 => ?_)
  refine sq [0,1,2,3] ?_
  refine rp rfl w0 rfl (pu_move (r := .own _ _ _) rfl) ?_
  refine rs rfl w0 rfl (cv_bo tok rfl rfl rfl rfl rfl rfl rfl rfl rfl rfl) ?_
  obtain ⟨hq12, h0⟩ := chk_e h0
  refine rp rfl w0 rfl (pu_cat rfl rfl hq12) ?_
  refine pa ?_
  refine nx ?_
  refine aw_ret ?_
  refine then_r ?_
  cases h0
  exact ret0_ (rs := [.tmp 2]) rfl
  refine sk ?_
  refine sq [0,1,2] ?_
  refine rp rfl w0 rfl (pu_move (r := .own _ _ _) rfl) ?_
  refine rs rfl w0 rfl (cv_bo tok rfl rfl rfl rfl rfl rfl rfl rfl rfl rfl) ?_
  refine pa ?_
  refine nx ?_
  refine aw_ret ?_
  cases h0
  exact ret0_ (rs := [.tmp 2]) rfl

theorem s_l25At_c {p0 : Spot_} {r : ByteArray} (h0 : s_l25At_m p0 = some r) : FnC Tryd.prog 31 [] [.agg [.d (.v (.int .i64 p0.X)), .d (.v (.int .i64 p0.Y))]] [] (.d (.v (.string r))) := by
  refine fnc_intro (T := tt) (N := 12) tok Tryd.func31 rfl rfl (by kernel_rfl) rfl rfl ?_
  unfold s_l25At_m at h0
  refine sq [0,1] ?_
  refine rs rfl w0 rfl (st_box 3 (cs := _ :: _) rfl rfl rfl) ?_
  refine pa ?_
  refine nx ?_
  refine aw_seq ?_
  refine aw_region_draw (is := [0, 1, 5, 6, 2, 3, 4, 7, 8, 9]) [0, 1, 3, 7, 15, 0, 32, 103, 255, 511] follows (by kernel_rfl) ?_
  refine rt_lk rfl w0 rfl (bx_fa tok rfl rfl rfl rfl rfl rfl rfl) rfl rfl rfl ?_
  refine rt_lk rfl w0 rfl (bx_ld1 tok rfl rfl rfl rfl rfl) rfl rfl rfl ?_
  refine rt_lk rfl w0 rfl (bx_fa tok rfl rfl rfl rfl rfl rfl rfl) rfl rfl rfl ?_
  refine rt_lk rfl w0 rfl (bx_ld1 tok rfl rfl rfl rfl rfl) rfl rfl rfl ?_
  obtain ⟨v1, hv1, h0⟩ := bnd h0
  refine rt_c rfl w0 rfl (b_call 4 (s_l01Dec_c hv1) rfl rfl rfl) ?_
  obtain ⟨hq2, h0⟩ := chk_e h0
  refine rt_p rfl w0 rfl (pu_cat rfl rfl hq2) ?_
  obtain ⟨hq3, h0⟩ := chk_e h0
  refine rt_p rfl w0 rfl (pu_cat rfl rfl hq3) ?_
  obtain ⟨v4, hv4, h0⟩ := bnd h0
  refine rt_c rfl w0 rfl (b_call 4 (s_l01Dec_c hv4) rfl rfl rfl) ?_
  obtain ⟨hq5, h0⟩ := chk_e h0
  refine rt_p rfl w0 rfl (pu_cat rfl rfl hq5) ?_
  refine tpa ?_
  refine rt_nil ?_
  refine ⟨by kernel_rfl, ?_⟩
  refine then_n ?_
  refine aw_ret ?_
  cases h0
  exact ret0_ (rs := [.tmp 2]) rfl

theorem s_l25Line_c {p0 : Shape_} {r : ByteArray} (h0 : s_l25Line_m p0 = some r) : FnC Tryd.prog 20 [] [.agg [.d (.v (.int .i64 p0.Kind)), .d (.v (.int .i64 p0.A.X)), .d (.v (.int .i64 p0.A.Y)), .d (.v (.int .i64 p0.B.X)), .d (.v (.int .i64 p0.B.Y)), .d (.v (.int .i64 p0.R)), .d (.v (.string p0.Name))]] [] (.d (.v (.string r))) := by
  refine fnc_intro (T := tt) (N := 34) tok Tryd.func20 rfl rfl (by kernel_rfl) rfl rfl ?_
  unfold s_l25Line_m at h0
  refine sq [0,1] ?_
  refine rs rfl w0 rfl (st_box 3 (cs := _ :: _) rfl rfl rfl) ?_
  refine pa ?_
  refine nx ?_
  refine aw_seq ?_
  refine sq [0,1] ?_
  refine fa tok ?_
  refine ld tok ?_
  refine nx ?_
  refine aw_block ?_
  refine sq [0,1] ?_
  refine rp rfl w0 rfl (pu_eql rfl rfl) ?_
  refine pa ?_
  refine nx ?_
  refine aw_if h0 rfl (fun hc h0 => ?_) (fun hc h0 => ?_)
  refine aw_seq ?_
  refine aw_region_draw (is := [0, 1, 4, 5, 2, 3, 6, 7, 8]) [0, 1, 3, 7, 0, 16, 55, 127, 255] follows (by kernel_rfl) ?_
  refine rt_lk rfl w0 rfl (bx_fa tok rfl rfl rfl rfl rfl rfl rfl) rfl rfl rfl ?_
  refine rt_lk rfl w0 rfl (bx_ldN tok rfl rfl rfl rfl) rfl rfl rfl ?_
  refine rt_lk rfl w0 rfl (bx_fa tok rfl rfl rfl rfl rfl rfl rfl) rfl rfl rfl ?_
  refine rt_lk rfl w0 rfl (bx_ldN tok rfl rfl rfl rfl) rfl rfl rfl ?_
  obtain ⟨v1, hv1, h0⟩ := bnd h0
  refine rt_c rfl w0 rfl (b_call 4 (s_l25At_c hv1) rfl rfl rfl) ?_
  obtain ⟨hq2, h0⟩ := chk_e h0
  refine rt_p rfl w0 rfl (pu_cat rfl rfl hq2) ?_
  obtain ⟨v3, hv3, h0⟩ := bnd h0
  refine rt_c rfl w0 rfl (b_call 4 (s_l25At_c hv3) rfl rfl rfl) ?_
  obtain ⟨hq4, h0⟩ := chk_e h0
  refine rt_p rfl w0 rfl (pu_cat rfl rfl hq4) ?_
  refine tpa ?_
  refine rt_nil ?_
  refine ⟨by kernel_rfl, ?_⟩
  refine then_n ?_
  refine aw_ret ?_
  refine block_r ?_
  refine then_r ?_
  cases h0
  exact ret0_ (rs := [.tmp 2]) rfl
  refine sq [0,1] ?_
  refine rp rfl w0 rfl (pu_eql rfl rfl) ?_
  refine pa ?_
  refine nx ?_
  refine aw_if h0 rfl (fun hc h0 => ?_) (fun hc h0 => ?_)
  refine aw_seq ?_
  refine aw_region_draw (is := [0, 1, 5, 6, 2, 3, 4, 7, 8, 9]) [0, 1, 3, 7, 15, 0, 32, 103, 255, 511] follows (by kernel_rfl) ?_
  refine rt_lk rfl w0 rfl (bx_fa tok rfl rfl rfl rfl rfl rfl rfl) rfl rfl rfl ?_
  refine rt_lk rfl w0 rfl (bx_ldN tok rfl rfl rfl rfl) rfl rfl rfl ?_
  refine rt_lk rfl w0 rfl (bx_fa tok rfl rfl rfl rfl rfl rfl rfl) rfl rfl rfl ?_
  refine rt_lk rfl w0 rfl (bx_ld1 tok rfl rfl rfl rfl rfl) rfl rfl rfl ?_
  obtain ⟨v5, hv5, h0⟩ := bnd h0
  refine rt_c rfl w0 rfl (b_call 4 (s_l25At_c hv5) rfl rfl rfl) ?_
  obtain ⟨hq6, h0⟩ := chk_e h0
  refine rt_p rfl w0 rfl (pu_cat rfl rfl hq6) ?_
  obtain ⟨hq7, h0⟩ := chk_e h0
  refine rt_p rfl w0 rfl (pu_cat rfl rfl hq7) ?_
  obtain ⟨v8, hv8, h0⟩ := bnd h0
  refine rt_c rfl w0 rfl (b_call 4 (s_l01Dec_c hv8) rfl rfl rfl) ?_
  obtain ⟨hq9, h0⟩ := chk_e h0
  refine rt_p rfl w0 rfl (pu_cat rfl rfl hq9) ?_
  refine tpa ?_
  refine rt_nil ?_
  refine ⟨by kernel_rfl, ?_⟩
  refine then_n ?_
  refine aw_ret ?_
  refine block_r ?_
  refine then_r ?_
  cases h0
  exact ret0_ (rs := [.tmp 2]) rfl
  refine aw_skip ?_
  refine block_n ?_
  refine then_n ?_
  refine aw_seq ?_
  refine aw_region_draw (is := [0, 1, 5, 6, 2, 3, 4, 7, 8]) [0, 1, 3, 7, 15, 0, 32, 127, 255] follows (by kernel_rfl) ?_
  refine rt_lk rfl w0 rfl (bx_fa tok rfl rfl rfl rfl rfl rfl rfl) rfl rfl rfl ?_
  refine rt_lk rfl w0 rfl (bx_ldN tok rfl rfl rfl rfl) rfl rfl rfl ?_
  refine rt_lk rfl w0 rfl (bx_fa tok rfl rfl rfl rfl rfl rfl rfl) rfl rfl rfl ?_
  refine rt_lk rfl w0 rfl (bx_ld1 tok rfl rfl rfl rfl rfl) rfl rfl rfl ?_
  obtain ⟨v10, hv10, h0⟩ := bnd h0
  refine rt_c rfl w0 rfl (b_call 4 (s_l25At_c hv10) rfl rfl rfl) ?_
  obtain ⟨hq11, h0⟩ := chk_e h0
  refine rt_p rfl w0 rfl (pu_cat rfl rfl hq11) ?_
  obtain ⟨hq12, h0⟩ := chk_e h0
  refine rt_p rfl w0 rfl (pu_cat rfl rfl hq12) ?_
  obtain ⟨hq13, h0⟩ := chk_e h0
  refine rt_p rfl w0 rfl (pu_cat rfl rfl hq13) ?_
  refine tpa ?_
  refine rt_nil ?_
  refine ⟨by kernel_rfl, ?_⟩
  refine then_n ?_
  refine aw_ret ?_
  cases h0
  exact ret0_ (rs := [.tmp 2]) rfl

theorem s_l25Text_c {p0 : Drawing_} {r : ByteArray} (h0 : s_l25Text_m p0 = some r) : FnC Tryd.prog 11 [] [.agg [.d (.sl (List.map cShape_ p0.Shapes))]] [] (.d (.v (.string r))) := by
  refine fnc_intro (T := tt) (N := 22) tok Tryd.func11 rfl rfl (by kernel_rfl) rfl rfl ?_
  unfold s_l25Text_m at h0
  refine sq [0,1] ?_
  refine rs rfl w0 rfl (st_box 3 (cs := _ :: _) rfl rfl rfl) ?_
  refine pa ?_
  refine nx ?_
  refine sq [0] ?_
  refine pa ?_
  refine nx ?_
  obtain ⟨v11, h1, h0⟩ := bnd h0
  refine aw_cut ⟨updA ((fun _ => .dead)) 3 (.d (.v (.string v11))), lks [.no, .no, .no]⟩ ?_ ?_
  refine sq [0] ?_
  refine pa ?_
  refine nx ?_
  refine aw_block ?_
  refine aw_loopM (fun s6 => ⟨updA (updA (updA ((fun _ => .dead)) 1 (.ptr 3 0 1 0 0)) 3 (.d (.v (.string s6.1)))) 4 (.d (.v (.int .i64 s6.2))), lks [.no, .no, .no, .live [⟨29, 1, .av [[.d (.sl (List.map cShape_ p0.Shapes))]]⟩]]⟩) h1 ?_ (fun s6 y h2 => ?_)
  exact wk [0, 1, 2, 3]
  refine aw_seq ?_
  refine sq [0,1,2,3,4] ?_
  refine pm ?_
  refine fa tok ?_
  refine ld tok ?_
  refine rp rfl w0 rfl (pu_len_map tok rfl rfl rfl) ?_
  refine rp rfl w0 rfl (pu_lss rfl rfl) ?_
  refine nx ?_
  refine aw_if h2 rfl (fun hc h2 => ?_) (fun hc h2 => ?_)
  refine sk ?_
  refine aw_seq ?_
  refine aw_block ?_
  refine sr [0,1,2,3,4,5,6,7,8,9] ?_
  refine pm ?_
  refine fa tok ?_
  refine ld tok ?_
  refine pm ?_
  obtain ⟨v7, hv7, h2⟩ := bnd h2
  refine rp rfl w0 rfl (sl_ix tok hv7 rfl rfl rfl rfl rfl rfl) ?_
  refine rp rfl w0 rfl (pu_load_refN tok rfl rfl rfl (by repeat (first | exact SegD.z _ | apply SegD.t))) ?_
  obtain ⟨v8, hv8, h2⟩ := bnd h2
  refine rs rfl w0 rfl (c_call 4 (s_l25Line_c hv8) rfl rfl rfl) ?_
  obtain ⟨hq9, h2⟩ := chk_e h2
  refine rp rfl w0 rfl (pu_cat rfl rfl hq9) ?_
  obtain ⟨hq10, h2⟩ := chk_e h2
  refine rp rfl w0 rfl (pu_cat rfl rfl hq10) ?_
  refine pa ?_
  refine ra_nil ?_
  refine block_n ?_
  refine then_n ?_
  refine sr [0,1,2] ?_
  refine pm ?_
  refine rp rfl w0 rfl (pw_add rfl rfl) ?_
  refine pa ?_
  refine ra_nil ?_
  refine loop_n ?_
  cases h2
  refine ⟨_, rfl, ?_⟩
  exact wk [0, 1, 2, 3]
  refine aw_exit ?_
  refine then_e ?_
  cases h2
  refine loop_x ⟨_, rfl, fun e => ?_⟩
  subst e
  refine block_hit ?_
  refine then_n ?_
  exact wk [0, 1, 2]
  refine sq [0,1] ?_
  refine pm ?_
  refine pa ?_
  refine nx ?_
  refine aw_ret ?_
  cases h0
  exact ret0_ (rs := [.tmp 2]) rfl

theorem s_DrawingText_c {p0 : Drawing_} {r : ByteArray} (h0 : s_DrawingText_m p0 = some r) : FnC Tryd.prog 5 [] [.agg [.d (.sl (List.map cShape_ p0.Shapes))]] [] (.d (.v (.string r))) := by
  refine fnc_intro (T := tt) (N := 8) tok Tryd.func5 rfl rfl (by kernel_rfl) rfl rfl ?_
  unfold s_DrawingText_m at h0
  refine sq [0,1] ?_
  refine rs rfl w0 rfl (st_box 3 (cs := _ :: _) rfl rfl rfl) ?_
  refine pa ?_
  refine nx ?_
  refine aw_seq ?_
  refine sq [0,1,2] ?_
  refine rl rfl w0 rfl (bx_ldN tok rfl rfl rfl rfl) ?_
  obtain ⟨v1, hv1, h0⟩ := bnd h0
  refine rs rfl w0 rfl (c_call 4 (s_l25Ok_c hv1) rfl rfl rfl) ?_
  refine rp rfl w0 rfl (pu_not rfl) ?_
  refine nx ?_
  refine aw_ifB h0 rfl (fun hc h0 => ?_) (fun hc h0 => ?_)
  refine sq [0] ?_
  refine pa ?_
  refine nx ?_
  refine aw_ret ?_
  refine then_r ?_
  cases h0
  exact ret0_ (rs := [.tmp 2]) rfl
  refine sk ?_
  refine sq [0,1,2] ?_
  refine rl rfl w0 rfl (bx_ldN tok rfl rfl rfl rfl) ?_
  obtain ⟨v2, hv2, h0⟩ := bnd h0
  refine rs rfl w0 rfl (c_call 4 (s_l25Text_c hv2) rfl rfl rfl) ?_
  refine pa ?_
  refine nx ?_
  refine aw_ret ?_
  cases h0
  exact ret0_ (rs := [.tmp 2]) rfl

theorem i_within_c {p0 : Int} {p1 : Int} {p2 : Int} {r : Bool} (h0 : i_within_m p0 p1 p2 = some r) : FnC Tryd.prog 37 [] [.d (.v (.int .i64 p0)), .d (.v (.int .i64 p1)), .d (.v (.int .i64 p2))] [] (.d (.v (.bool r))) := by
  refine fnc_intro (T := tt) (N := 15) tok Tryd.func37 rfl rfl (by kernel_rfl) rfl rfl ?_
  unfold i_within_m at h0
  refine sq [0] ?_
  refine pa ?_
  refine nx ?_
  refine sq [0,1,2,3,4,5,6,7,8] ?_
  refine pm ?_
  refine pm ?_
  refine rp rfl w0 rfl (pu_geq rfl rfl) ?_
  refine pm ?_
  refine ra_if (u := 10) h0 rfl (fun hc h0 => ?_) (fun hc h0 => ?_)
  refine pm1 ?_
  refine pm1 ?_
  refine rp rfl (w1 rfl rfl rfl) rfl (pu_leq rfl rfl) ?_
  refine pkt ?_
  refine pa ?_
  refine nx ?_
  refine aw_ret ?_
  cases h0
  exact ret0_ (rs := [.tmp 6]) rfl
  iterate 3 refine k1 ?_
  refine pkf ?_
  refine pa ?_
  refine nx ?_
  refine aw_ret ?_
  cases h0
  exact ret0_ (rs := [.tmp 6]) rfl

theorem i_validSpot_c {p0 : Spot_} {r : Bool} (h0 : i_validSpot_m p0 = some r) : FnC Tryd.prog 35 [] [.agg [.d (.v (.int .i64 p0.X)), .d (.v (.int .i64 p0.Y))]] [] (.d (.v (.bool r))) := by
  refine fnc_intro (T := tt) (N := 11) tok Tryd.func35 rfl rfl (by kernel_rfl) rfl rfl ?_
  unfold i_validSpot_m at h0
  refine sq [0,1] ?_
  refine rs rfl w0 rfl (st_box 3 (cs := _ :: _) rfl rfl rfl) ?_
  refine pa ?_
  refine nx ?_
  refine sq [0,1,2,3,4,5,6,7,8] ?_
  refine fa tok ?_
  refine ld tok ?_
  obtain ⟨v1, hv1, h0⟩ := bnd h0
  refine rs rfl w0 rfl (c_call 4 (i_within_c hv1) rfl rfl rfl) ?_
  refine pm ?_
  refine ra_ifB (u := 6) h0 rfl (fun hc h0 => ?_) (fun hc h0 => ?_)
  refine fa1 tok ?_
  refine ld1 tok ?_
  obtain ⟨v2, hv2, h0⟩ := bnd h0
  refine rs rfl (w1 rfl rfl rfl) rfl (c_call 4 (i_within_c hv2) rfl rfl rfl) ?_
  refine pkt ?_
  refine pa ?_
  refine nx ?_
  refine aw_ret ?_
  cases h0
  exact ret0_ (rs := [.tmp 2]) rfl
  iterate 3 refine k1 ?_
  refine pkf ?_
  refine pa ?_
  refine nx ?_
  refine aw_ret ?_
  cases h0
  exact ret0_ (rs := [.tmp 2]) rfl

theorem i_line_c {p0 : Spot_} {p1 : Spot_} {r : Shape_} (h0 : i_line_m p0 p1 = some r) : FnC Tryd.prog 36 [] [.agg [.d (.v (.int .i64 p0.X)), .d (.v (.int .i64 p0.Y))], .agg [.d (.v (.int .i64 p1.X)), .d (.v (.int .i64 p1.Y))]] [] (.agg [.d (.v (.int .i64 r.Kind)), .d (.v (.int .i64 r.A.X)), .d (.v (.int .i64 r.A.Y)), .d (.v (.int .i64 r.B.X)), .d (.v (.int .i64 r.B.Y)), .d (.v (.int .i64 r.R)), .d (.v (.string r.Name))]) := by
  refine fnc_intro (T := tt) (N := 8) tok Tryd.func36 rfl rfl (by kernel_rfl) rfl rfl ?_
  unfold i_line_m at h0
  refine sq [0,1,2] ?_
  refine rs rfl w0 rfl (st_box 3 (cs := _ :: _) rfl rfl rfl) ?_
  refine rs rfl w0 rfl (st_box 4 (cs := _ :: _) rfl rfl rfl) ?_
  refine rs rfl w0 rfl (st_alloc 5 (cs := [.d (.v (.int .i64 0)), .d (.v (.int .i64 0)), .d (.v (.int .i64 0)), .d (.v (.int .i64 0)), .d (.v (.int .i64 0)), .d (.v (.int .i64 0)), .d (.v (.string (⟨#[]⟩ : ByteArray)))]) tok rfl rfl rfl) ?_
  refine nx ?_
  refine sq [0,1,2,3] ?_
  refine rl rfl w0 rfl (bx_ldN tok rfl rfl rfl rfl) ?_
  refine rl rfl w0 rfl (bx_ldN tok rfl rfl rfl rfl) ?_
  refine rp rfl w0 rfl (pbl (C0 := [.d (.v (.int .i64 0)), .d (.v (.int .i64 0)), .d (.v (.int .i64 0)), .d (.v (.int .i64 0)), .d (.v (.int .i64 0)), .d (.v (.int .i64 0)), .d (.v (.string (⟨#[]⟩ : ByteArray)))]) tok rfl rfl rfl) ?_
  refine rw0 rfl w0 (bx_st (cs := _ :: _) tok rfl rfl rfl rfl rfl rfl rfl) ?_
  refine nx ?_
  refine aw_ret ?_
  cases h0
  exact ret0_ (rs := [.cell 4 43]) rfl

theorem i_circle_c {p0 : Spot_} {p1 : Int} {r : Shape_} (h0 : i_circle_m p0 p1 = some r) : FnC Tryd.prog 38 [] [.agg [.d (.v (.int .i64 p0.X)), .d (.v (.int .i64 p0.Y))], .d (.v (.int .i64 p1))] [] (.agg [.d (.v (.int .i64 r.Kind)), .d (.v (.int .i64 r.A.X)), .d (.v (.int .i64 r.A.Y)), .d (.v (.int .i64 r.B.X)), .d (.v (.int .i64 r.B.Y)), .d (.v (.int .i64 r.R)), .d (.v (.string r.Name))]) := by
  refine fnc_intro (T := tt) (N := 8) tok Tryd.func38 rfl rfl (by kernel_rfl) rfl rfl ?_
  unfold i_circle_m at h0
  refine sq [0,1] ?_
  refine rs rfl w0 rfl (st_box 3 (cs := _ :: _) rfl rfl rfl) ?_
  refine rs rfl w0 rfl (st_alloc 4 (cs := [.d (.v (.int .i64 0)), .d (.v (.int .i64 0)), .d (.v (.int .i64 0)), .d (.v (.int .i64 0)), .d (.v (.int .i64 0)), .d (.v (.int .i64 0)), .d (.v (.string (⟨#[]⟩ : ByteArray)))]) tok rfl rfl rfl) ?_
  refine nx ?_
  refine sq [0,1,2,3] ?_
  refine rl rfl w0 rfl (bx_ldN tok rfl rfl rfl rfl) ?_
  refine pm ?_
  refine rp rfl w0 rfl (pbl (C0 := [.d (.v (.int .i64 0)), .d (.v (.int .i64 0)), .d (.v (.int .i64 0)), .d (.v (.int .i64 0)), .d (.v (.int .i64 0)), .d (.v (.int .i64 0)), .d (.v (.string (⟨#[]⟩ : ByteArray)))]) tok rfl rfl rfl) ?_
  refine rw0 rfl w0 (bx_st (cs := _ :: _) tok rfl rfl rfl rfl rfl rfl rfl) ?_
  refine nx ?_
  refine aw_ret ?_
  cases h0
  exact ret0_ (rs := [.cell 4 43]) rfl

theorem i_IsName_c {p0 : ByteArray} {r : Bool} (h0 : i_IsName_m p0 = some r) : FnC Tryd.prog 39 [] [.d (.v (.string p0))] [] (.d (.v (.bool r))) := by
  refine fnc_intro (T := tt) (N := 50) tok Tryd.func39 rfl rfl (by kernel_rfl) rfl rfl ?_
  unfold i_IsName_m at h0
  refine sq [0] ?_
  refine pa ?_
  refine nx ?_
  refine aw_seq ?_
  obtain ⟨v1, h1, h0⟩ := bnd h0
  refine aw_cut ⟨updA (updA ((fun _ => .dead)) 0 (.d (.v (.string p0)))) 14 (.d (.v (.bool v1))), lks [.no, .no, .no]⟩ ?_ ?_
  refine sr [0,1,2,3,4,5,6,7] ?_
  refine pm ?_
  refine rp rfl w0 rfl (pu_len_str tok rfl rfl rfl) ?_
  refine rp rfl w0 rfl (pu_lss rfl rfl) ?_
  refine pm ?_
  refine ra_if (u := 10) h1 rfl (fun hc h1 => ?_) (fun hc h1 => ?_)
  iterate 3 refine k1 ?_
  refine pkt ?_
  refine nx ?_
  cases h1
  exact wk [0, 1, 2]
  refine pm1 ?_
  refine rp rfl (w1 rfl rfl rfl) rfl (pu_len_str tok rfl rfl rfl) ?_
  refine rp rfl (w1 rfl rfl rfl) rfl (pu_gtr rfl rfl) ?_
  refine pkf ?_
  refine nx ?_
  cases h1
  exact wk [0, 1, 2]
  refine aw_ifB h0 rfl (fun hc h0 => ?_) (fun hc h0 => ?_)
  refine sq [0] ?_
  refine pa ?_
  refine nx ?_
  refine aw_ret ?_
  refine then_r ?_
  cases h0
  exact ret0_ (rs := [.tmp 2]) rfl
  refine sk ?_
  obtain ⟨v13x, h1, h0⟩ := bnd h0
  refine aw_cutE v13x (fun v13 => ⟨(fun _ => .dead), lks [.no, .no, .no]⟩) ?_ ?_
  refine sq [0,1,2,3] ?_
  refine pm ?_
  obtain ⟨hq2, h1⟩ := chk_e h1
  refine rs rfl w0 rfl (cv_sb tok hq2 rfl rfl rfl rfl rfl rfl rfl) ?_
  refine rp rfl w0 rfl (pu_len_map tok rfl rfl rfl) ?_
  refine pm ?_
  refine nx ?_
  refine aw_block ?_
  refine aw_loopM (fun s8 => ⟨updA (updA (updA ((fun _ => .dead)) 16 (.d (.sl (List.map cU8 (bytesL p0))))) 17 (.d (.v (.int .i64 ((bytesL p0).length : Int))))) 18 (.d (.v (.int .i64 s8))), lks [.no, .no, .no]⟩) h1 ?_ (fun s8 y h2 => ?_)
  exact wk [0, 1, 2]
  refine sq [0] ?_
  refine rp rfl w0 rfl (pu_lss rfl rfl) ?_
  refine nx ?_
  refine aw_seq ?_
  refine aw_if h2 rfl (fun hc h2 => ?_) (fun hc h2 => ?_)
  refine sk ?_
  refine aw_seq ?_
  refine aw_block ?_
  refine sq [0,1,2,3,4] ?_
  refine pm ?_
  obtain ⟨v9, hv9, h2⟩ := bnd h2
  refine rp rfl w0 rfl (sl_ix tok hv9 rfl rfl rfl rfl rfl rfl) ?_
  refine lr tok ?_
  refine pa ?_
  refine pa ?_
  refine nx ?_
  obtain ⟨v10, h3, h2⟩ := bnd h2
  refine aw_cut ⟨updA (updA (updA (updA (updA (updA ((fun _ => .dead)) 3 (.d (.v (.int .i64 s8)))) 4 (.d (.v (.int .u8 v9)))) 5 (.d (.v (.bool v10)))) 16 (.d (.sl (List.map cU8 (bytesL p0))))) 17 (.d (.v (.int .i64 ((bytesL p0).length : Int))))) 18 (.d (.v (.int .i64 s8))), lks [.no, .no, .no]⟩ ?_ ?_
  refine sr [0,1,2,3,4,5,6] ?_
  refine pm ?_
  refine rp rfl w0 rfl (pu_geq rfl rfl) ?_
  refine pm ?_
  refine ra_if (u := 25) h3 rfl (fun hc h3 => ?_) (fun hc h3 => ?_)
  refine pm1 ?_
  refine rp rfl (w1 rfl rfl rfl) rfl (pu_leq rfl rfl) ?_
  refine pkt ?_
  refine pa ?_
  refine nx ?_
  cases h3
  exact wk [0, 1, 2]
  refine k1 ?_
  refine k1 ?_
  refine pkf ?_
  refine pa ?_
  refine nx ?_
  cases h3
  exact wk [0, 1, 2]
  obtain ⟨v11, h3, h2⟩ := bnd h2
  refine aw_cut ⟨updA (updA (updA (updA (updA (updA ((fun _ => .dead)) 3 (.d (.v (.int .i64 s8)))) 5 (.d (.v (.bool v10)))) 6 (.d (.v (.bool v11)))) 16 (.d (.sl (List.map cU8 (bytesL p0))))) 17 (.d (.v (.int .i64 ((bytesL p0).length : Int))))) 18 (.d (.v (.int .i64 s8))), lks [.no, .no, .no]⟩ ?_ ?_
  refine sr [0,1,2,3,4,5,6,7,8,9,10] ?_
  refine pm ?_
  refine rp rfl w0 rfl (pu_geq rfl rfl) ?_
  refine pm ?_
  refine ra_if (u := 31) h3 rfl (fun hc h3 => ?_) (fun hc h3 => ?_)
  refine pm1 ?_
  refine rp rfl (w1 rfl rfl rfl) rfl (pu_leq rfl rfl) ?_
  refine pkt ?_
  refine pm ?_
  refine ra_if (u := 35) h3 rfl (fun hc h3 => ?_) (fun hc h3 => ?_)
  refine k1 ?_
  refine k1 ?_
  refine pkt ?_
  refine pa ?_
  refine nx ?_
  cases h3
  exact wk [0, 1, 2]
  refine pm1 ?_
  refine rp rfl (w1 rfl rfl rfl) rfl (pu_eql rfl rfl) ?_
  refine pkf ?_
  refine pa ?_
  refine nx ?_
  cases h3
  exact wk [0, 1, 2]
  refine k1 ?_
  refine k1 ?_
  refine pkf ?_
  refine pm ?_
  refine pm1 ?_
  refine rp rfl (w1 rfl rfl rfl) rfl (pu_eql rfl rfl) ?_
  refine pkf ?_
  refine pa ?_
  refine nx ?_
  cases h3
  exact wk [0, 1, 2]
  obtain ⟨v12, h3, h2⟩ := bnd h2
  refine aw_cut ⟨updA (updA (updA (updA ((fun _ => .dead)) 16 (.d (.sl (List.map cU8 (bytesL p0))))) 17 (.d (.v (.int .i64 ((bytesL p0).length : Int))))) 18 (.d (.v (.int .i64 s8)))) 48 (.d (.v (.bool v12))), lks [.no, .no, .no]⟩ ?_ ?_
  refine sr [0,1,2,3,4,5,6,7,8,9] ?_
  refine pm ?_
  refine rp rfl w0 rfl (pu_not rfl) ?_
  refine pm ?_
  refine ra_ifB (u := 41) h3 rfl (fun hc h3 => ?_) (fun hc h3 => ?_)
  refine pm1 ?_
  refine rp rfl (w1 rfl rfl rfl) rfl (pu_eql rfl rfl) ?_
  refine pm1 ?_
  refine ra_if (u := 44) h3 rfl (fun hc h3 => ?_) (fun hc h3 => ?_)
  refine k1 ?_
  refine k1 ?_
  refine pkt1 ?_
  refine pkt ?_
  refine nx ?_
  cases h3
  exact wk [0, 1, 2]
  refine pm1 ?_
  refine rp rfl (w1 rfl rfl rfl) rfl (pu_not rfl) ?_
  refine pkf1 ?_
  refine pkt ?_
  refine nx ?_
  cases h3
  exact wk [0, 1, 2]
  iterate 6 refine k1 ?_
  refine pkf ?_
  refine nx ?_
  cases h3
  exact wk [0, 1, 2]
  refine aw_ifB h2 rfl (fun hc h2 => ?_) (fun hc h2 => ?_)
  refine sq [0] ?_
  refine pa ?_
  refine nx ?_
  refine aw_ret ?_
  refine block_r ?_
  refine then_r ?_
  cases h2
  refine loop_r ⟨_, rfl, fun e => ?_⟩
  subst e
  refine block_r ?_
  replace h0 := orE_s h0
  refine then_r ?_
  cases h0
  exact ret0_ (rs := [.tmp 2]) rfl
  refine aw_skip ?_
  refine block_n ?_
  refine then_n ?_
  refine sr [0,1] ?_
  refine rp rfl w0 rfl (pw_add rfl rfl) ?_
  refine pm ?_
  refine ra_nil ?_
  refine loop_n ?_
  cases h2
  refine ⟨_, rfl, ?_⟩
  exact wk [0, 1, 2]
  refine aw_exit ?_
  refine then_e ?_
  cases h2
  refine loop_x ⟨_, rfl, fun e => ?_⟩
  subst e
  refine block_hit ?_
  refine then_n ?_
  refine ⟨_, rfl, ?_⟩
  exact wk [0, 1, 2]
  rintro v13 rfl
  replace h0 := orE_f h0
  refine sq [0] ?_
  refine pa ?_
  refine nx ?_
  refine aw_ret ?_
  cases h0
  exact ret0_ (rs := [.tmp 2]) rfl

theorem i_label_c {p0 : Spot_} {p1 : ByteArray} {r : Shape_} (h0 : i_label_m p0 p1 = some r) : FnC Tryd.prog 40 [] [.agg [.d (.v (.int .i64 p0.X)), .d (.v (.int .i64 p0.Y))], .d (.v (.string p1))] [] (.agg [.d (.v (.int .i64 r.Kind)), .d (.v (.int .i64 r.A.X)), .d (.v (.int .i64 r.A.Y)), .d (.v (.int .i64 r.B.X)), .d (.v (.int .i64 r.B.Y)), .d (.v (.int .i64 r.R)), .d (.v (.string r.Name))]) := by
  refine fnc_intro (T := tt) (N := 8) tok Tryd.func40 rfl rfl (by kernel_rfl) rfl rfl ?_
  unfold i_label_m at h0
  refine sq [0,1] ?_
  refine rs rfl w0 rfl (st_box 3 (cs := _ :: _) rfl rfl rfl) ?_
  refine rs rfl w0 rfl (st_alloc 4 (cs := [.d (.v (.int .i64 0)), .d (.v (.int .i64 0)), .d (.v (.int .i64 0)), .d (.v (.int .i64 0)), .d (.v (.int .i64 0)), .d (.v (.int .i64 0)), .d (.v (.string (⟨#[]⟩ : ByteArray)))]) tok rfl rfl rfl) ?_
  refine nx ?_
  refine sq [0,1,2,3] ?_
  refine rl rfl w0 rfl (bx_ldN tok rfl rfl rfl rfl) ?_
  refine pm ?_
  refine rp rfl w0 rfl (pbl (C0 := [.d (.v (.int .i64 0)), .d (.v (.int .i64 0)), .d (.v (.int .i64 0)), .d (.v (.int .i64 0)), .d (.v (.int .i64 0)), .d (.v (.int .i64 0)), .d (.v (.string (⟨#[]⟩ : ByteArray)))]) tok rfl rfl rfl) ?_
  refine rw0 rfl w0 (bx_st (cs := _ :: _) tok rfl rfl rfl rfl rfl rfl rfl) ?_
  refine nx ?_
  refine aw_ret ?_
  cases h0
  exact ret0_ (rs := [.cell 4 43]) rfl

theorem i_validShape_c {p0 : Shape_} {r : Bool} (h0 : i_validShape_m p0 = some r) : FnC Tryd.prog 24 [] [.agg [.d (.v (.int .i64 p0.Kind)), .d (.v (.int .i64 p0.A.X)), .d (.v (.int .i64 p0.A.Y)), .d (.v (.int .i64 p0.B.X)), .d (.v (.int .i64 p0.B.Y)), .d (.v (.int .i64 p0.R)), .d (.v (.string p0.Name))]] [] (.d (.v (.bool r))) := by
  refine fnc_intro (T := tt) (N := 51) tok Tryd.func24 rfl rfl (by kernel_rfl) rfl rfl ?_
  unfold i_validShape_m at h0
  refine sq [0,1] ?_
  refine rs rfl w0 rfl (st_box 3 (cs := _ :: _) rfl rfl rfl) ?_
  refine pa ?_
  refine nx ?_
  refine aw_seq ?_
  refine sq [0,1,2,3] ?_
  refine fa tok ?_
  refine rl rfl w0 rfl (bx_ldN tok rfl rfl rfl rfl) ?_
  obtain ⟨v1, hv1, h0⟩ := bnd h0
  refine rs rfl w0 rfl (c_call 4 (i_validSpot_c hv1) rfl rfl rfl) ?_
  refine rp rfl w0 rfl (pu_not rfl) ?_
  refine nx ?_
  refine aw_ifB h0 rfl (fun hc h0 => ?_) (fun hc h0 => ?_)
  refine sq [0] ?_
  refine pa ?_
  refine nx ?_
  refine aw_ret ?_
  refine then_r ?_
  cases h0
  exact ret0_ (rs := [.tmp 2]) rfl
  refine sk ?_
  refine aw_seq ?_
  refine sq [0,1] ?_
  refine fa tok ?_
  refine ld tok ?_
  refine nx ?_
  refine aw_block ?_
  refine sq [0,1] ?_
  refine rp rfl w0 rfl (pu_eql rfl rfl) ?_
  refine pa ?_
  refine nx ?_
  refine aw_if h0 rfl (fun hc h0 => ?_) (fun hc h0 => ?_)
  refine aw_seq ?_
  refine aw_region_draw (is := [0, 1, 2, 3, 4, 5, 6, 7, 8, 9, 10, 11, 12]) [0, 1, 3, 7, 15, 15, 47, 15, 143, 495, 1023, 2047, 4095] follows (by kernel_rfl) ?_
  refine rt_lk rfl w0 rfl (bx_fa tok rfl rfl rfl rfl rfl rfl rfl) rfl rfl rfl ?_
  refine rt_lk rfl w0 rfl (bx_ldN tok rfl rfl rfl rfl) rfl rfl rfl ?_
  obtain ⟨v2, hv2, h0⟩ := bnd h0
  refine rt_c rfl w0 rfl (b_call 4 (i_validSpot_c hv2) rfl rfl rfl) ?_
  refine tpm ?_
  refine rt_ifB (u := 14) h0 rfl (fun hc h0 => ?_) (fun hc h0 => ?_)
  refine rt_lk rfl (w1 rfl rfl rfl) rfl (bx_ldN tok rfl rfl rfl rfl) rfl rfl rfl ?_
  refine rt_lk rfl (w1 rfl rfl rfl) rfl (bx_fa tok rfl rfl rfl rfl rfl rfl rfl) rfl rfl rfl ?_
  refine rt_lk rfl (w1 rfl rfl rfl) rfl (bx_ldN tok rfl rfl rfl rfl) rfl rfl rfl ?_
  refine rt_lk rfl (w1 rfl rfl rfl) rfl (bx_fa tok rfl rfl rfl rfl rfl rfl rfl) rfl rfl rfl ?_
  refine rt_lk rfl (w1 rfl rfl rfl) rfl (bx_ldN tok rfl rfl rfl rfl) rfl rfl rfl ?_
  obtain ⟨v3, hv3, h0⟩ := bnd h0
  refine rt_c rfl (w1 rfl rfl rfl) rfl (b_call 4 (i_line_c hv3) rfl rfl rfl) ?_
  refine rt_p rfl (w1 rfl rfl rfl) rfl (ps_eql_Shape_ (a := p0) (b := v3) rfl rfl) ?_
  refine tpkt ?_
  refine tpa ?_
  refine rt_nil ?_
  refine ⟨by kernel_rfl, ?_⟩
  refine then_n ?_
  refine aw_ret ?_
  refine block_r ?_
  refine then_r ?_
  cases h0
  exact ret0_ (rs := [.tmp 2]) rfl
  iterate 7 refine k2 ?_
  refine tpkf ?_
  refine tpa ?_
  refine rt_nil ?_
  refine ⟨by kernel_rfl, ?_⟩
  refine then_n ?_
  refine aw_ret ?_
  refine block_r ?_
  refine then_r ?_
  cases h0
  exact ret0_ (rs := [.tmp 2]) rfl
  refine sq [0,1] ?_
  refine rp rfl w0 rfl (pu_eql rfl rfl) ?_
  refine pa ?_
  refine nx ?_
  refine aw_if h0 rfl (fun hc h0 => ?_) (fun hc h0 => ?_)
  refine aw_seq ?_
  refine aw_region_draw (is := [0, 1, 2, 3, 4, 5, 6, 7, 8, 9, 10, 11, 12]) [0, 1, 3, 7, 15, 15, 47, 15, 143, 495, 1023, 2047, 4095] follows (by kernel_rfl) ?_
  refine rt_lk rfl w0 rfl (bx_fa tok rfl rfl rfl rfl rfl rfl rfl) rfl rfl rfl ?_
  refine rt_lk rfl w0 rfl (bx_ld1 tok rfl rfl rfl rfl rfl) rfl rfl rfl ?_
  obtain ⟨v4, hv4, h0⟩ := bnd h0
  refine rt_c rfl w0 rfl (b_call 4 (i_within_c hv4) rfl rfl rfl) ?_
  refine tpm ?_
  refine rt_ifB (u := 28) h0 rfl (fun hc h0 => ?_) (fun hc h0 => ?_)
  refine rt_lk rfl (w1 rfl rfl rfl) rfl (bx_ldN tok rfl rfl rfl rfl) rfl rfl rfl ?_
  refine rt_lk rfl (w1 rfl rfl rfl) rfl (bx_fa tok rfl rfl rfl rfl rfl rfl rfl) rfl rfl rfl ?_
  refine rt_lk rfl (w1 rfl rfl rfl) rfl (bx_ldN tok rfl rfl rfl rfl) rfl rfl rfl ?_
  refine rt_lk rfl (w1 rfl rfl rfl) rfl (bx_fa tok rfl rfl rfl rfl rfl rfl rfl) rfl rfl rfl ?_
  refine rt_lk rfl (w1 rfl rfl rfl) rfl (bx_ld1 tok rfl rfl rfl rfl rfl) rfl rfl rfl ?_
  obtain ⟨v5, hv5, h0⟩ := bnd h0
  refine rt_c rfl (w1 rfl rfl rfl) rfl (b_call 4 (i_circle_c hv5) rfl rfl rfl) ?_
  refine rt_p rfl (w1 rfl rfl rfl) rfl (ps_eql_Shape_ (a := p0) (b := v5) rfl rfl) ?_
  refine tpkt ?_
  refine tpa ?_
  refine rt_nil ?_
  refine ⟨by kernel_rfl, ?_⟩
  refine then_n ?_
  refine aw_ret ?_
  refine block_r ?_
  refine then_r ?_
  cases h0
  exact ret0_ (rs := [.tmp 2]) rfl
  iterate 7 refine k2 ?_
  refine tpkf ?_
  refine tpa ?_
  refine rt_nil ?_
  refine ⟨by kernel_rfl, ?_⟩
  refine then_n ?_
  refine aw_ret ?_
  refine block_r ?_
  refine then_r ?_
  cases h0
  exact ret0_ (rs := [.tmp 2]) rfl
  refine sq [0,1] ?_
  refine rp rfl w0 rfl (pu_eql rfl rfl) ?_
  refine pa ?_
  refine nx ?_
  refine aw_if h0 rfl (fun hc h0 => ?_) (fun hc h0 => ?_)
  refine aw_seq ?_
  refine aw_region_draw (is := [0, 1, 2, 3, 4, 5, 6, 7, 8, 9, 10, 11, 12]) [0, 1, 3, 7, 15, 15, 47, 15, 143, 495, 1023, 2047, 4095] follows (by kernel_rfl) ?_
  refine rt_lk rfl w0 rfl (bx_fa tok rfl rfl rfl rfl rfl rfl rfl) rfl rfl rfl ?_
  refine rt_lk rfl w0 rfl (bx_ld1 tok rfl rfl rfl rfl rfl) rfl rfl rfl ?_
  obtain ⟨v6, hv6, h0⟩ := bnd h0
  refine rt_c rfl w0 rfl (b_call 4 (i_IsName_c hv6) rfl rfl rfl) ?_
  refine tpm ?_
  refine rt_ifB (u := 42) h0 rfl (fun hc h0 => ?_) (fun hc h0 => ?_)
  refine rt_lk rfl (w1 rfl rfl rfl) rfl (bx_ldN tok rfl rfl rfl rfl) rfl rfl rfl ?_
  refine rt_lk rfl (w1 rfl rfl rfl) rfl (bx_fa tok rfl rfl rfl rfl rfl rfl rfl) rfl rfl rfl ?_
  refine rt_lk rfl (w1 rfl rfl rfl) rfl (bx_ldN tok rfl rfl rfl rfl) rfl rfl rfl ?_
  refine rt_lk rfl (w1 rfl rfl rfl) rfl (bx_fa tok rfl rfl rfl rfl rfl rfl rfl) rfl rfl rfl ?_
  refine rt_lk rfl (w1 rfl rfl rfl) rfl (bx_ld1 tok rfl rfl rfl rfl rfl) rfl rfl rfl ?_
  obtain ⟨v7, hv7, h0⟩ := bnd h0
  refine rt_c rfl (w1 rfl rfl rfl) rfl (b_call 4 (i_label_c hv7) rfl rfl rfl) ?_
  refine rt_p rfl (w1 rfl rfl rfl) rfl (ps_eql_Shape_ (a := p0) (b := v7) rfl rfl) ?_
  refine tpkt ?_
  refine tpa ?_
  refine rt_nil ?_
  refine ⟨by kernel_rfl, ?_⟩
  refine then_n ?_
  refine aw_ret ?_
  refine block_r ?_
  refine then_r ?_
  cases h0
  exact ret0_ (rs := [.tmp 2]) rfl
  iterate 7 refine k2 ?_
  refine tpkf ?_
  refine tpa ?_
  refine rt_nil ?_
  refine ⟨by kernel_rfl, ?_⟩
  refine then_n ?_
  refine aw_ret ?_
  refine block_r ?_
  refine then_r ?_
  cases h0
  exact ret0_ (rs := [.tmp 2]) rfl
  refine aw_skip ?_
  refine block_n ?_
  refine then_n ?_
  refine sq [0] ?_
  refine pa ?_
  refine nx ?_
  refine aw_ret ?_
  cases h0
  exact ret0_ (rs := [.tmp 2]) rfl

theorem i_ValidDrawing_1_c {p0 : Shape_} {r : Bool} (h0 : i_ValidDrawing_1_m p0 = some r) : FnC Tryd.prog 23 [] [.agg [.d (.v (.int .i64 p0.Kind)), .d (.v (.int .i64 p0.A.X)), .d (.v (.int .i64 p0.A.Y)), .d (.v (.int .i64 p0.B.X)), .d (.v (.int .i64 p0.B.Y)), .d (.v (.int .i64 p0.R)), .d (.v (.string p0.Name))]] [] (.d (.v (.bool r))) := by
  refine fnc_intro (T := tt) (N := 6) tok Tryd.func23 rfl rfl (by kernel_rfl) rfl rfl ?_
  unfold i_ValidDrawing_1_m at h0
  refine sq [0,1] ?_
  refine rs rfl w0 rfl (st_box 3 (cs := _ :: _) rfl rfl rfl) ?_
  refine pa ?_
  refine nx ?_
  refine sq [0,1,2,3] ?_
  refine rl rfl w0 rfl (bx_ldN tok rfl rfl rfl rfl) ?_
  obtain ⟨v1, hv1, h0⟩ := bnd h0
  refine rs rfl w0 rfl (c_call 4 (i_validShape_c hv1) rfl rfl rfl) ?_
  refine rp rfl w0 rfl (pu_not rfl) ?_
  refine pa ?_
  refine nx ?_
  refine aw_ret ?_
  cases h0
  exact ret0_ (rs := [.tmp 2]) rfl

theorem slices_IndexFunc_LShape_Shape_i_ValidDrawing_1_c {p0 : List Shape_} {r : Int} (h0 : slices_IndexFunc_LShape_Shape_i_ValidDrawing_1_m p0 = some r) : FnC Tryd.prog 34 [] [.d (.sl (List.map cShape_ p0)), .fn 23 []] [] (.d (.v (.int .i64 r))) := by
  refine fnc_intro (T := tt) (N := 19) tok Tryd.func34 rfl rfl (by kernel_rfl) rfl rfl ?_
  unfold slices_IndexFunc_LShape_Shape_i_ValidDrawing_1_m at h0
  refine sq [0] ?_
  refine pa ?_
  refine nx ?_
  obtain ⟨v7x, h1, h0⟩ := bnd h0
  refine aw_cutE v7x (fun v7 => ⟨(fun _ => .dead), lks [.no, .no, .no]⟩) ?_ ?_
  refine sq [0,1,2] ?_
  refine pm ?_
  refine rp rfl w0 rfl (pu_len_map tok rfl rfl rfl) ?_
  refine pm ?_
  refine nx ?_
  refine aw_block ?_
  refine aw_loopM (fun s4 => ⟨updA (updA (updA (updA ((fun _ => .dead)) 0 (.d (.sl (List.map cShape_ p0)))) 1 (.fn 23 [])) 7 (.d (.v (.int .i64 (p0.length : Int))))) 8 (.d (.v (.int .i64 s4))), lks [.no, .no, .no]⟩) h1 ?_ (fun s4 y h2 => ?_)
  exact wk [0, 1, 2]
  refine sq [0] ?_
  refine rp rfl w0 rfl (pu_lss rfl rfl) ?_
  refine nx ?_
  refine aw_seq ?_
  refine aw_if h2 rfl (fun hc h2 => ?_) (fun hc h2 => ?_)
  refine sk ?_
  refine aw_seq ?_
  refine aw_block ?_
  refine sq [0,1] ?_
  refine pm ?_
  refine pa ?_
  refine nx ?_
  refine sq [0,1,2,3,4,5] ?_
  refine rp rfl w0 rfl (pu_move (r := .fn _ _) rfl) ?_
  refine pm ?_
  refine pm ?_
  obtain ⟨v5, hv5, h2⟩ := bnd h2
  refine rp rfl w0 rfl (sl_ix tok hv5 rfl rfl rfl rfl rfl rfl) ?_
  refine rp rfl w0 rfl (pu_load_refN tok rfl rfl rfl (by repeat (first | exact SegD.z _ | apply SegD.t))) ?_
  obtain ⟨v6, hv6, h2⟩ := bnd h2
  refine rs rfl w0 rfl (c_call 3 (i_ValidDrawing_1_c hv6) rfl rfl rfl) ?_
  refine nx ?_
  refine aw_ifB h2 rfl (fun hc h2 => ?_) (fun hc h2 => ?_)
  refine sq [0,1] ?_
  refine pm ?_
  refine pa ?_
  refine nx ?_
  refine aw_ret ?_
  refine block_r ?_
  refine then_r ?_
  cases h2
  refine loop_r ⟨_, rfl, fun e => ?_⟩
  subst e
  refine block_r ?_
  replace h0 := orE_s h0
  refine then_r ?_
  cases h0
  exact ret0_ (rs := [.tmp 4]) rfl
  refine aw_skip ?_
  refine block_n ?_
  refine then_n ?_
  refine sr [0,1] ?_
  refine rp rfl w0 rfl (pw_add rfl rfl) ?_
  refine pm ?_
  refine ra_nil ?_
  refine loop_n ?_
  cases h2
  refine ⟨_, rfl, ?_⟩
  exact wk [0, 1, 2]
  refine aw_exit ?_
  refine then_e ?_
  cases h2
  refine loop_x ⟨_, rfl, fun e => ?_⟩
  subst e
  refine block_hit ?_
  refine then_n ?_
  refine ⟨_, rfl, ?_⟩
  exact wk [0, 1, 2]
  rintro v7 rfl
  replace h0 := orE_f h0
  refine sq [0] ?_
  refine pa ?_
  refine nx ?_
  refine aw_ret ?_
  cases h0
  exact ret0_ (rs := [.tmp 4]) rfl

theorem slices_ContainsFunc_LShape_Shape_i_ValidDrawing_1_c {p0 : List Shape_} {r : Bool} (h0 : slices_ContainsFunc_LShape_Shape_i_ValidDrawing_1_m p0 = some r) : FnC Tryd.prog 22 [] [.d (.sl (List.map cShape_ p0)), .fn 23 []] [] (.d (.v (.bool r))) := by
  refine fnc_intro (T := tt) (N := 9) tok Tryd.func22 rfl rfl (by kernel_rfl) rfl rfl ?_
  unfold slices_ContainsFunc_LShape_Shape_i_ValidDrawing_1_m at h0
  refine sq [0] ?_
  refine pa ?_
  refine nx ?_
  refine sq [0,1,2,3,4] ?_
  refine pm ?_
  refine rp rfl w0 rfl (pu_move (r := .fn _ _) rfl) ?_
  obtain ⟨v1, hv1, h0⟩ := bnd h0
  refine rs rfl w0 rfl (c_call 3 (slices_IndexFunc_LShape_Shape_i_ValidDrawing_1_c hv1) rfl rfl rfl) ?_
  refine rp rfl w0 rfl (pu_geq rfl rfl) ?_
  refine pa ?_
  refine nx ?_
  refine aw_ret ?_
  cases h0
  exact ret0_ (rs := [.tmp 4]) rfl

theorem i_ValidDrawing_c {p0 : Drawing_} {r : Bool} (h0 : i_ValidDrawing_m p0 = some r) : FnC Tryd.prog 13 [] [.agg [.d (.sl (List.map cShape_ p0.Shapes))]] [] (.d (.v (.bool r))) := by
  refine fnc_intro (T := tt) (N := 13) tok Tryd.func13 rfl rfl (by kernel_rfl) rfl rfl ?_
  unfold i_ValidDrawing_m at h0
  refine sq [0,1] ?_
  refine rs rfl w0 rfl (st_box 3 (cs := _ :: _) rfl rfl rfl) ?_
  refine pa ?_
  refine nx ?_
  refine sq [0,1,2,3,4,5,6,7,8,9,10] ?_
  refine fa tok ?_
  refine ld tok ?_
  refine rp rfl w0 rfl (pu_len_map tok rfl rfl rfl) ?_
  refine rp rfl w0 rfl (pu_leq rfl rfl) ?_
  refine pm ?_
  refine ra_if (u := 7) h0 rfl (fun hc h0 => ?_) (fun hc h0 => ?_)
  refine fa1 tok ?_
  refine ld1 tok ?_
  obtain ⟨v1, hv1, h0⟩ := bnd h0
  refine rs rfl (w1 rfl rfl rfl) rfl (c_call 4 (slices_ContainsFunc_LShape_Shape_i_ValidDrawing_1_c hv1) rfl rfl rfl) ?_
  refine rp rfl (w1 rfl rfl rfl) rfl (pu_not rfl) ?_
  refine pkt ?_
  refine pa ?_
  refine nx ?_
  refine aw_ret ?_
  cases h0
  exact ret0_ (rs := [.tmp 2]) rfl
  iterate 4 refine k1 ?_
  refine pkf ?_
  refine pa ?_
  refine nx ?_
  refine aw_ret ?_
  cases h0
  exact ret0_ (rs := [.tmp 2]) rfl

theorem strconv_FormatInt_c {p0 p1 : Int} {r : ByteArray} (h0 : strconv_FormatInt_m p0 p1 = some r) : FnC Tryd.prog 42 [] [.d (.v (.int .i64 p0)), .d (.v (.int .i64 p1))] [] (.d (.v (.string r))) := by
  obtain ⟨⟨q0, q1, q2⟩, h0⟩ := chk_e h0
  cases h0
  subst q2
  exact sh_fmt q0 q1

theorem i_Decimal_c {p0 : Int} {r : ByteArray} (h0 : i_Decimal_m p0 = some r) : FnC Tryd.prog 26 [] [.d (.v (.int .i64 p0))] [] (.d (.v (.string r))) := by
  refine fnc_intro (T := tt) (N := 5) tok Tryd.func26 rfl rfl (by kernel_rfl) rfl rfl ?_
  unfold i_Decimal_m at h0
  refine sq [0] ?_
  refine pa ?_
  refine nx ?_
  refine sq [0,1,2] ?_
  refine pm ?_
  obtain ⟨v1, hv1, h0⟩ := bnd h0
  refine rs rfl w0 rfl (c_call 3 (strconv_FormatInt_c hv1) rfl rfl rfl) ?_
  refine pa ?_
  refine nx ?_
  refine aw_ret ?_
  cases h0
  exact ret0_ (rs := [.tmp 2]) rfl

theorem i_shapeText_c {p0 : Shape_} {r : ByteArray} (h0 : i_shapeText_m p0 = some r) : FnC Tryd.prog 15 [] [.agg [.d (.v (.int .i64 p0.Kind)), .d (.v (.int .i64 p0.A.X)), .d (.v (.int .i64 p0.A.Y)), .d (.v (.int .i64 p0.B.X)), .d (.v (.int .i64 p0.B.Y)), .d (.v (.int .i64 p0.R)), .d (.v (.string p0.Name))]] [] (.d (.v (.string r))) := by
  refine fnc_intro (T := tt) (N := 47) tok Tryd.func15 rfl rfl (by kernel_rfl) rfl rfl ?_
  unfold i_shapeText_m at h0
  refine sq [0,1] ?_
  refine rs rfl w0 rfl (st_box 3 (cs := _ :: _) rfl rfl rfl) ?_
  refine pa ?_
  refine nx ?_
  refine aw_seq ?_
  refine aw_region_draw (is := [0, 1, 2, 5, 6, 7, 3, 4, 8, 9, 10]) [0, 1, 3, 7, 15, 0, 32, 96, 239, 511, 1023] follows (by kernel_rfl) ?_
  refine rt_lk rfl w0 rfl (bx_fa tok rfl rfl rfl rfl rfl rfl rfl) rfl rfl rfl ?_
  refine rt_lk rfl w0 rfl (bx_fa tok rfl rfl rfl rfl rfl rfl rfl) rfl rfl rfl ?_
  refine rt_lk rfl w0 rfl (bx_ld1 tok rfl rfl rfl rfl rfl) rfl rfl rfl ?_
  refine rt_lk rfl w0 rfl (bx_fa tok rfl rfl rfl rfl rfl rfl rfl) rfl rfl rfl ?_
  refine rt_lk rfl w0 rfl (bx_fa tok rfl rfl rfl rfl rfl rfl rfl) rfl rfl rfl ?_
  refine rt_lk rfl w0 rfl (bx_ld1 tok rfl rfl rfl rfl rfl) rfl rfl rfl ?_
  obtain ⟨v1, hv1, h0⟩ := bnd h0
  refine rt_c rfl w0 rfl (b_call 4 (i_Decimal_c hv1) rfl rfl rfl) ?_
  obtain ⟨hq2, h0⟩ := chk_e h0
  refine rt_p rfl w0 rfl (pu_cat rfl rfl hq2) ?_
  obtain ⟨v3, hv3, h0⟩ := bnd h0
  refine rt_c rfl w0 rfl (b_call 4 (i_Decimal_c hv3) rfl rfl rfl) ?_
  obtain ⟨hq4, h0⟩ := chk_e h0
  refine rt_p rfl w0 rfl (pu_cat rfl rfl hq4) ?_
  refine tpa ?_
  refine rt_nil ?_
  refine ⟨by kernel_rfl, ?_⟩
  refine then_n ?_
  refine aw_seq ?_
  refine sq [0,1] ?_
  refine fa tok ?_
  refine ld tok ?_
  refine nx ?_
  refine aw_block ?_
  refine sq [0,1] ?_
  refine rp rfl w0 rfl (pu_eql rfl rfl) ?_
  refine pa ?_
  refine nx ?_
  refine aw_if h0 rfl (fun hc h0 => ?_) (fun hc h0 => ?_)
  refine aw_seq ?_
  refine aw_region_draw (is := [0, 1, 2, 3, 4, 5, 9, 10, 11, 6, 7, 8, 12, 13, 14]) [0, 1, 3, 0, 8, 24, 56, 127, 255, 0, 512, 1536, 3704, 8191, 16383] follows (by kernel_rfl) ?_
  refine tpm ?_
  obtain ⟨hq5, h0⟩ := chk_e h0
  refine rt_p rfl w0 rfl (pu_cat rfl rfl hq5) ?_
  obtain ⟨hq6, h0⟩ := chk_e h0
  refine rt_p rfl w0 rfl (pu_cat rfl rfl hq6) ?_
  refine rt_lk rfl w0 rfl (bx_fa tok rfl rfl rfl rfl rfl rfl rfl) rfl rfl rfl ?_
  refine rt_lk rfl w0 rfl (bx_fa tok rfl rfl rfl rfl rfl rfl rfl) rfl rfl rfl ?_
  refine rt_lk rfl w0 rfl (bx_ld1 tok rfl rfl rfl rfl rfl) rfl rfl rfl ?_
  refine rt_lk rfl w0 rfl (bx_fa tok rfl rfl rfl rfl rfl rfl rfl) rfl rfl rfl ?_
  refine rt_lk rfl w0 rfl (bx_fa tok rfl rfl rfl rfl rfl rfl rfl) rfl rfl rfl ?_
  refine rt_lk rfl w0 rfl (bx_ld1 tok rfl rfl rfl rfl rfl) rfl rfl rfl ?_
  obtain ⟨v7, hv7, h0⟩ := bnd h0
  refine rt_c rfl w0 rfl (b_call 4 (i_Decimal_c hv7) rfl rfl rfl) ?_
  obtain ⟨hq8, h0⟩ := chk_e h0
  refine rt_p rfl w0 rfl (pu_cat rfl rfl hq8) ?_
  obtain ⟨hq9, h0⟩ := chk_e h0
  refine rt_p rfl w0 rfl (pu_cat rfl rfl hq9) ?_
  obtain ⟨v10, hv10, h0⟩ := bnd h0
  refine rt_c rfl w0 rfl (b_call 4 (i_Decimal_c hv10) rfl rfl rfl) ?_
  obtain ⟨hq11, h0⟩ := chk_e h0
  refine rt_p rfl w0 rfl (pu_cat rfl rfl hq11) ?_
  refine tpa ?_
  refine rt_nil ?_
  refine ⟨by kernel_rfl, ?_⟩
  refine then_n ?_
  refine aw_ret ?_
  refine block_r ?_
  refine then_r ?_
  cases h0
  exact ret0_ (rs := [.tmp 2]) rfl
  refine sq [0,1] ?_
  refine rp rfl w0 rfl (pu_eql rfl rfl) ?_
  refine pa ?_
  refine nx ?_
  refine aw_if h0 rfl (fun hc h0 => ?_) (fun hc h0 => ?_)
  refine sq [0,1,2,3,4,5,6,7] ?_
  refine pm ?_
  obtain ⟨hq12, h0⟩ := chk_e h0
  refine rp rfl w0 rfl (pu_cat rfl rfl hq12) ?_
  obtain ⟨hq13, h0⟩ := chk_e h0
  refine rp rfl w0 rfl (pu_cat rfl rfl hq13) ?_
  refine fa tok ?_
  refine ld tok ?_
  obtain ⟨v14, hv14, h0⟩ := bnd h0
  refine rs rfl w0 rfl (c_call 4 (i_Decimal_c hv14) rfl rfl rfl) ?_
  obtain ⟨hq15, h0⟩ := chk_e h0
  refine rp rfl w0 rfl (pu_cat rfl rfl hq15) ?_
  refine pa ?_
  refine nx ?_
  refine aw_ret ?_
  refine block_r ?_
  refine then_r ?_
  cases h0
  exact ret0_ (rs := [.tmp 2]) rfl
  refine aw_skip ?_
  refine block_n ?_
  refine then_n ?_
  refine sq [0,1,2,3,4,5,6] ?_
  refine pm ?_
  obtain ⟨hq16, h0⟩ := chk_e h0
  refine rp rfl w0 rfl (pu_cat rfl rfl hq16) ?_
  obtain ⟨hq17, h0⟩ := chk_e h0
  refine rp rfl w0 rfl (pu_cat rfl rfl hq17) ?_
  refine fa tok ?_
  refine ld tok ?_
  obtain ⟨hq18, h0⟩ := chk_e h0
  refine rp rfl w0 rfl (pu_cat rfl rfl hq18) ?_
  refine pa ?_
  refine nx ?_
  refine aw_ret ?_
  cases h0
  exact ret0_ (rs := [.tmp 2]) rfl

theorem i_DrawingText_c {p0 : Drawing_} {r : ByteArray} (h0 : i_DrawingText_m p0 = some r) : FnC Tryd.prog 7 [] [.agg [.d (.sl (List.map cShape_ p0.Shapes))]] [] (.d (.v (.string r))) := by
  unfold i_DrawingText_m at h0
  obtain ⟨v1, hv1, h0⟩ := bnd h0
  exact sh_draw (i_ValidDrawing_c hv1) (fun s t h => i_shapeText_c h) h0

theorem l_eqSpot_c {p0 : Spot_} {p1 : Spot_} {r : Bool} (h0 : l_eqSpot_m p0 p1 = some r) : FnC Tryd.prog 43 [] [.agg [.d (.v (.int .i64 p0.X)), .d (.v (.int .i64 p0.Y))], .agg [.d (.v (.int .i64 p1.X)), .d (.v (.int .i64 p1.Y))]] [] (.d (.v (.bool r))) := by
  refine fnc_intro (T := tt) (N := 15) tok Tryd.func43 rfl rfl (by kernel_rfl) rfl rfl ?_
  unfold l_eqSpot_m at h0
  refine sq [0,1,2] ?_
  refine rs rfl w0 rfl (st_box 3 (cs := _ :: _) rfl rfl rfl) ?_
  refine rs rfl w0 rfl (st_box 4 (cs := _ :: _) rfl rfl rfl) ?_
  refine pa ?_
  refine nx ?_
  refine aw_seq ?_
  refine sq [0,1,2,3,4] ?_
  refine fa tok ?_
  refine ld tok ?_
  refine fa tok ?_
  refine ld tok ?_
  refine rp rfl w0 rfl (pu_neq rfl rfl) ?_
  refine nx ?_
  refine aw_if h0 rfl (fun hc h0 => ?_) (fun hc h0 => ?_)
  refine sq [0] ?_
  refine pa ?_
  refine nx ?_
  refine aw_ret ?_
  refine then_r ?_
  cases h0
  exact ret0_ (rs := [.tmp 4]) rfl
  refine sk ?_
  refine aw_seq ?_
  refine sq [0,1,2,3,4] ?_
  refine fa tok ?_
  refine ld tok ?_
  refine fa tok ?_
  refine ld tok ?_
  refine rp rfl w0 rfl (pu_neq rfl rfl) ?_
  refine nx ?_
  refine aw_if h0 rfl (fun hc h0 => ?_) (fun hc h0 => ?_)
  refine sq [0] ?_
  refine pa ?_
  refine nx ?_
  refine aw_ret ?_
  refine then_r ?_
  cases h0
  exact ret0_ (rs := [.tmp 4]) rfl
  refine sk ?_
  refine sq [0] ?_
  refine pa ?_
  refine nx ?_
  refine aw_ret ?_
  cases h0
  exact ret0_ (rs := [.tmp 4]) rfl

theorem l_eqShape_c {p0 : Shape_} {p1 : Shape_} {r : Bool} (h0 : l_eqShape_m p0 p1 = some r) : FnC Tryd.prog 27 [] [.agg [.d (.v (.int .i64 p0.Kind)), .d (.v (.int .i64 p0.A.X)), .d (.v (.int .i64 p0.A.Y)), .d (.v (.int .i64 p0.B.X)), .d (.v (.int .i64 p0.B.Y)), .d (.v (.int .i64 p0.R)), .d (.v (.string p0.Name))], .agg [.d (.v (.int .i64 p1.Kind)), .d (.v (.int .i64 p1.A.X)), .d (.v (.int .i64 p1.A.Y)), .d (.v (.int .i64 p1.B.X)), .d (.v (.int .i64 p1.B.Y)), .d (.v (.int .i64 p1.R)), .d (.v (.string p1.Name))]] [] (.d (.v (.bool r))) := by
  refine fnc_intro (T := tt) (N := 32) tok Tryd.func27 rfl rfl (by kernel_rfl) rfl rfl ?_
  unfold l_eqShape_m at h0
  refine sq [0,1,2] ?_
  refine rs rfl w0 rfl (st_box 3 (cs := _ :: _) rfl rfl rfl) ?_
  refine rs rfl w0 rfl (st_box 4 (cs := _ :: _) rfl rfl rfl) ?_
  refine pa ?_
  refine nx ?_
  refine aw_seq ?_
  refine sq [0,1,2,3,4] ?_
  refine fa tok ?_
  refine ld tok ?_
  refine fa tok ?_
  refine ld tok ?_
  refine rp rfl w0 rfl (pu_neq rfl rfl) ?_
  refine nx ?_
  refine aw_if h0 rfl (fun hc h0 => ?_) (fun hc h0 => ?_)
  refine sq [0] ?_
  refine pa ?_
  refine nx ?_
  refine aw_ret ?_
  refine then_r ?_
  cases h0
  exact ret0_ (rs := [.tmp 4]) rfl
  refine sk ?_
  refine aw_seq ?_
  refine sq [0,1,2,3,4,5] ?_
  refine fa tok ?_
  refine rl rfl w0 rfl (bx_ldN tok rfl rfl rfl rfl) ?_
  refine fa tok ?_
  refine rl rfl w0 rfl (bx_ldN tok rfl rfl rfl rfl) ?_
  obtain ⟨v1, hv1, h0⟩ := bnd h0
  refine rs rfl w0 rfl (c_call 5 (l_eqSpot_c hv1) rfl rfl rfl) ?_
  refine rp rfl w0 rfl (pu_not rfl) ?_
  refine nx ?_
  refine aw_ifB h0 rfl (fun hc h0 => ?_) (fun hc h0 => ?_)
  refine sq [0] ?_
  refine pa ?_
  refine nx ?_
  refine aw_ret ?_
  refine then_r ?_
  cases h0
  exact ret0_ (rs := [.tmp 4]) rfl
  refine sk ?_
  refine aw_seq ?_
  refine sq [0,1,2,3,4,5] ?_
  refine fa tok ?_
  refine rl rfl w0 rfl (bx_ldN tok rfl rfl rfl rfl) ?_
  refine fa tok ?_
  refine rl rfl w0 rfl (bx_ldN tok rfl rfl rfl rfl) ?_
  obtain ⟨v2, hv2, h0⟩ := bnd h0
  refine rs rfl w0 rfl (c_call 5 (l_eqSpot_c hv2) rfl rfl rfl) ?_
  refine rp rfl w0 rfl (pu_not rfl) ?_
  refine nx ?_
  refine aw_ifB h0 rfl (fun hc h0 => ?_) (fun hc h0 => ?_)
  refine sq [0] ?_
  refine pa ?_
  refine nx ?_
  refine aw_ret ?_
  refine then_r ?_
  cases h0
  exact ret0_ (rs := [.tmp 4]) rfl
  refine sk ?_
  refine aw_seq ?_
  refine sq [0,1,2,3,4] ?_
  refine fa tok ?_
  refine ld tok ?_
  refine fa tok ?_
  refine ld tok ?_
  refine rp rfl w0 rfl (pu_neq rfl rfl) ?_
  refine nx ?_
  refine aw_if h0 rfl (fun hc h0 => ?_) (fun hc h0 => ?_)
  refine sq [0] ?_
  refine pa ?_
  refine nx ?_
  refine aw_ret ?_
  refine then_r ?_
  cases h0
  exact ret0_ (rs := [.tmp 4]) rfl
  refine sk ?_
  refine aw_seq ?_
  refine sq [0,1,2,3,4] ?_
  refine fa tok ?_
  refine ld tok ?_
  refine fa tok ?_
  refine ld tok ?_
  refine rp rfl w0 rfl (pu_sneq rfl rfl) ?_
  refine nx ?_
  refine aw_if h0 rfl (fun hc h0 => ?_) (fun hc h0 => ?_)
  refine sq [0] ?_
  refine pa ?_
  refine nx ?_
  refine aw_ret ?_
  refine then_r ?_
  cases h0
  exact ret0_ (rs := [.tmp 4]) rfl
  refine sk ?_
  refine sq [0] ?_
  refine pa ?_
  refine nx ?_
  refine aw_ret ?_
  cases h0
  exact ret0_ (rs := [.tmp 4]) rfl

theorem l_eqShapeS_c {p0 : List Shape_} {p1 : List Shape_} {r : Bool} (h0 : l_eqShapeS_m p0 p1 = some r) : FnC Tryd.prog 17 [] [.d (.sl (List.map cShape_ p0)), .d (.sl (List.map cShape_ p1))] [] (.d (.v (.bool r))) := by
  refine fnc_intro (T := tt) (N := 27) tok Tryd.func17 rfl rfl (by kernel_rfl) rfl rfl ?_
  unfold l_eqShapeS_m at h0
  refine sq [0] ?_
  refine pa ?_
  refine nx ?_
  refine aw_seq ?_
  refine sq [0,1,2,3,4] ?_
  refine pm ?_
  refine rp rfl w0 rfl (pu_len_map tok rfl rfl rfl) ?_
  refine pm ?_
  refine rp rfl w0 rfl (pu_len_map tok rfl rfl rfl) ?_
  refine rp rfl w0 rfl (pu_neq rfl rfl) ?_
  refine nx ?_
  refine aw_if h0 rfl (fun hc h0 => ?_) (fun hc h0 => ?_)
  refine sq [0] ?_
  refine pa ?_
  refine nx ?_
  refine aw_ret ?_
  refine then_r ?_
  cases h0
  exact ret0_ (rs := [.tmp 4]) rfl
  refine sk ?_
  obtain ⟨v9x, h1, h0⟩ := bnd h0
  refine aw_cutE v9x (fun v9 => ⟨(fun _ => .dead), lks [.no, .no, .no]⟩) ?_ ?_
  refine sq [0] ?_
  refine pa ?_
  refine nx ?_
  refine aw_block ?_
  refine aw_loopM (fun s5 => ⟨updA (updA (updA ((fun _ => .dead)) 0 (.d (.sl (List.map cShape_ p0)))) 1 (.d (.sl (List.map cShape_ p1)))) 5 (.d (.v (.int .i64 s5))), lks [.no, .no, .no]⟩) h1 ?_ (fun s5 y h2 => ?_)
  exact wk [0, 1, 2]
  refine aw_seq ?_
  refine sq [0,1,2,3] ?_
  refine pm ?_
  refine pm ?_
  refine rp rfl w0 rfl (pu_len_map tok rfl rfl rfl) ?_
  refine rp rfl w0 rfl (pu_lss rfl rfl) ?_
  refine nx ?_
  refine aw_if h2 rfl (fun hc h2 => ?_) (fun hc h2 => ?_)
  refine sk ?_
  refine aw_seq ?_
  refine aw_block ?_
  refine aw_seq ?_
  refine aw_region_draw (is := [0, 1, 2, 3, 4, 5, 6, 7, 8, 9]) [0, 0, 3, 7, 0, 0, 48, 112, 255, 511] follows (by kernel_rfl) ?_
  refine tpm ?_
  refine tpm ?_
  obtain ⟨v6, hv6, h2⟩ := bnd h2
  refine rt_p rfl w0 rfl (sl_ix tok hv6 rfl rfl rfl rfl rfl rfl) ?_
  refine rt_p rfl w0 rfl (pu_load_refN tok rfl rfl rfl (by repeat (first | exact SegD.z _ | apply SegD.t))) ?_
  refine tpm ?_
  refine tpm ?_
  obtain ⟨v7, hv7, h2⟩ := bnd h2
  refine rt_p rfl w0 rfl (sl_ix tok hv7 rfl rfl rfl rfl rfl rfl) ?_
  refine rt_p rfl w0 rfl (pu_load_refN tok rfl rfl rfl (by repeat (first | exact SegD.z _ | apply SegD.t))) ?_
  obtain ⟨v8, hv8, h2⟩ := bnd h2
  refine rt_c rfl w0 rfl (b_call 3 (l_eqShape_c hv8) rfl rfl rfl) ?_
  refine rt_p rfl w0 rfl (pu_not rfl) ?_
  refine rt_nil ?_
  refine ⟨by kernel_rfl, ?_⟩
  refine then_n ?_
  refine aw_ifB h2 rfl (fun hc h2 => ?_) (fun hc h2 => ?_)
  refine sq [0] ?_
  refine pa ?_
  refine nx ?_
  refine aw_ret ?_
  refine block_r ?_
  refine then_r ?_
  cases h2
  refine loop_r ⟨_, rfl, fun e => ?_⟩
  subst e
  refine block_r ?_
  replace h0 := orE_s h0
  refine then_r ?_
  cases h0
  exact ret0_ (rs := [.tmp 4]) rfl
  refine aw_skip ?_
  refine block_n ?_
  refine then_n ?_
  refine sr [0,1,2] ?_
  refine pm ?_
  refine rp rfl w0 rfl (pw_add rfl rfl) ?_
  refine pa ?_
  refine ra_nil ?_
  refine loop_n ?_
  cases h2
  refine ⟨_, rfl, ?_⟩
  exact wk [0, 1, 2]
  refine aw_exit ?_
  refine then_e ?_
  cases h2
  refine loop_x ⟨_, rfl, fun e => ?_⟩
  subst e
  refine block_hit ?_
  refine then_n ?_
  refine ⟨_, rfl, ?_⟩
  exact wk [0, 1, 2]
  rintro v9 rfl
  replace h0 := orE_f h0
  refine sq [0] ?_
  refine pa ?_
  refine nx ?_
  refine aw_ret ?_
  cases h0
  exact ret0_ (rs := [.tmp 4]) rfl

theorem l_eqDrawing_c {p0 : Drawing_} {p1 : Drawing_} {r : Bool} (h0 : l_eqDrawing_m p0 p1 = some r) : FnC Tryd.prog 8 [] [.agg [.d (.sl (List.map cShape_ p0.Shapes))], .agg [.d (.sl (List.map cShape_ p1.Shapes))]] [] (.d (.v (.bool r))) := by
  refine fnc_intro (T := tt) (N := 11) tok Tryd.func8 rfl rfl (by kernel_rfl) rfl rfl ?_
  unfold l_eqDrawing_m at h0
  refine sq [0,1,2] ?_
  refine rs rfl w0 rfl (st_box 3 (cs := _ :: _) rfl rfl rfl) ?_
  refine rs rfl w0 rfl (st_box 4 (cs := _ :: _) rfl rfl rfl) ?_
  refine pa ?_
  refine nx ?_
  refine aw_seq ?_
  refine sq [0,1,2,3,4,5] ?_
  refine fa tok ?_
  refine ld tok ?_
  refine fa tok ?_
  refine ld tok ?_
  obtain ⟨v1, hv1, h0⟩ := bnd h0
  refine rs rfl w0 rfl (c_call 5 (l_eqShapeS_c hv1) rfl rfl rfl) ?_
  refine rp rfl w0 rfl (pu_not rfl) ?_
  refine nx ?_
  refine aw_ifB h0 rfl (fun hc h0 => ?_) (fun hc h0 => ?_)
  refine sq [0] ?_
  refine pa ?_
  refine nx ?_
  refine aw_ret ?_
  refine then_r ?_
  cases h0
  exact ret0_ (rs := [.tmp 4]) rfl
  refine sk ?_
  refine sq [0] ?_
  refine pa ?_
  refine nx ?_
  refine aw_ret ?_
  cases h0
  exact ret0_ (rs := [.tmp 4]) rfl

theorem l_FnExactDrawingText_c {p0 : Drawing_} {r : Bool} (h0 : l_FnExactDrawingText_m p0 = some r) : FnC Tryd.prog 3 [] [.agg [.d (.sl (List.map cShape_ p0.Shapes))]] [] (.d (.v (.bool r))) := by
  refine fnc_intro (T := tt) (N := 27) tok Tryd.func3 rfl rfl (by kernel_rfl) rfl rfl ?_
  unfold l_FnExactDrawingText_m at h0
  refine sq [0,1] ?_
  refine rs rfl w0 rfl (st_box 3 (cs := _ :: _) rfl rfl rfl) ?_
  refine pa ?_
  refine nx ?_
  refine sq [0] ?_
  refine pa ?_
  refine nx ?_
  refine sq [0,1,2,3] ?_
  refine rl rfl w0 rfl (bx_ldN tok rfl rfl rfl rfl) ?_
  refine pm ?_
  obtain ⟨v1, hv1, h0⟩ := bnd h0
  refine rs rfl w0 rfl (c_call 4 (l_szDrawing_c hv1) rfl rfl rfl) ?_
  refine pa ?_
  refine nx ?_
  refine aw_seq ?_
  refine sq [0,1] ?_
  refine pm ?_
  refine rp rfl w0 rfl (pu_lss rfl rfl) ?_
  refine nx ?_
  refine aw_if h0 rfl (fun hc h0 => ?_) (fun hc h0 => ?_)
  refine sq [0] ?_
  refine pa ?_
  refine nx ?_
  refine aw_ret ?_
  refine then_r ?_
  cases h0
  exact ret0_ (rs := [.tmp 2]) rfl
  refine sk ?_
  refine sq [0,1,2,3] ?_
  refine rl rfl w0 rfl (bx_ldN tok rfl rfl rfl rfl) ?_
  obtain ⟨v2, hv2, h0⟩ := bnd h0
  refine rs rfl w0 rfl (c_call 4 (l_toDrawing_c hv2) rfl rfl rfl) ?_
  obtain ⟨v3, hv3, h0⟩ := bnd h0
  refine rs rfl w0 rfl (c_callV 5 (s_DrawingText_c hv3) rfl rfl) ?_
  refine pa ?_
  refine nx ?_
  refine sq [0,1,2,3] ?_
  refine rl rfl w0 rfl (bx_ldN tok rfl rfl rfl rfl) ?_
  obtain ⟨v4, hv4, h0⟩ := bnd h0
  refine rs rfl w0 rfl (c_call 5 (l_toDrawing_c hv4) rfl rfl rfl) ?_
  refine rs rfl w0 rfl (st_alloc 6 (cs := [.d (.v (.slice none 0 0))]) tok rfl rfl rfl) ?_
  refine rw0 rfl w0 (bx_st (cs := _ :: _) tok rfl rfl rfl rfl rfl rfl rfl) ?_
  refine nx ?_
  refine sq [0,1,2] ?_
  refine rl rfl w0 rfl (bx_ldN tok rfl rfl rfl rfl) ?_
  obtain ⟨v5, hv5, h0⟩ := bnd h0
  refine rs rfl w0 rfl (c_callV 7 (i_DrawingText_c hv5) rfl rfl) ?_
  refine pa ?_
  refine nx ?_
  refine aw_seq ?_
  refine sq [0,1,2] ?_
  refine pm ?_
  refine pm ?_
  refine rp rfl w0 rfl (pu_sneq rfl rfl) ?_
  refine nx ?_
  refine aw_if h0 rfl (fun hc h0 => ?_) (fun hc h0 => ?_)
  refine sq [0] ?_
  refine pa ?_
  refine nx ?_
  refine aw_ret ?_
  refine then_r ?_
  cases h0
  exact ret0_ (rs := [.tmp 2]) rfl
  refine sk ?_
  refine aw_seq ?_
  refine aw_seq ?_
  refine aw_region_draw (is := [0, 1, 2, 3, 4]) [0, 0, 2, 7, 15] follows (by kernel_rfl) ?_
  refine rt_lk rfl w0 rfl (bx_ldN tok rfl rfl rfl rfl) rfl rfl rfl ?_
  refine rt_lk rfl w0 rfl (bx_ldN tok rfl rfl rfl rfl) rfl rfl rfl ?_
  obtain ⟨v6, hv6, h0⟩ := bnd h0
  refine rt_c rfl w0 rfl (b_call 7 (l_toDrawing_c hv6) rfl rfl rfl) ?_
  obtain ⟨v7, hv7, h0⟩ := bnd h0
  refine rt_c rfl w0 rfl (b_callV 8 (l_eqDrawing_c hv7) rfl rfl) ?_
  refine rt_p rfl w0 rfl (pu_not rfl) ?_
  refine rt_nil ?_
  refine ⟨by kernel_rfl, ?_⟩
  refine then_n ?_
  refine aw_ifB h0 rfl (fun hc h0 => ?_) (fun hc h0 => ?_)
  refine sq [0] ?_
  refine pa ?_
  refine nx ?_
  refine aw_ret ?_
  refine then_r ?_
  cases h0
  exact ret0_ (rs := [.tmp 2]) rfl
  refine sk ?_
  refine sq [0] ?_
  refine pa ?_
  refine nx ?_
  refine aw_ret ?_
  cases h0
  exact ret0_ (rs := [.tmp 2]) rfl

end Go.Proofs.YtjjelnpehgoagaaDoor
namespace Go.Proofs.YtjjelnpehgoagaaDoor
set_option linter.unusedVariables false
set_option maxRecDepth 100000
def decB (n : Int) : ByteArray := ⟨(Lib.itoa n).toArray⟩
theorem decB_size {n : Int} (h : osI n) : (decB n).size ≤ 21 := by
  have := Lib.itoa_length_le n h.1 h.2
  simpa [decB, ByteArray.size] using this
def dgs (u : Nat) : List Int := if h : u = 0 then [] else dgs (u / 10) ++ [48 + ((u % 10 : Nat) : Int)]
termination_by u
decreasing_by omega
theorem dgs_zero : dgs 0 = [] := by rw [dgs, dif_pos rfl]
theorem dgs_pos {u : Nat} (h : u ≠ 0) : dgs u = dgs (u / 10) ++ [48 + ((u % 10 : Nat) : Int)] := by rw [dgs, dif_neg h]
theorem u8_dig (d : Nat) (h : d < 10) : UInt8.ofNat (48 + (d : Int)).toNat = 48 + UInt8.ofNat d := by
  rw [show (48 + (d : Int)).toNat = 48 + d by omega, UInt8.ofNat_add]
  rfl
theorem dgs_dec : ∀ (u : Nat), u ≠ 0 → (strOfNums (dgs u)).data.toList = Lib.decDigits u := by
  intro u
  induction u using Nat.strongRecOn with
  | _ u ih =>
    intro h
    rw [dgs_pos h, Lib.decDigits]
    by_cases h1 : u < 10
    · rw [dif_pos h1, show u / 10 = 0 by omega, dgs_zero, show u % 10 = u by omega]
      simp [strOfNums]
      exact u8_dig u (by omega)
    · rw [dif_neg h1, ← ih (u / 10) (by omega) (by omega)]
      simp [strOfNums]
      exact u8_dig (u % 10) (by omega)
theorem dgs_len : ∀ (k u : Nat), u < 10 ^ k → (dgs u).length ≤ k
  | 0, u, h => by
    have : u = 0 := by simpa using h
    subst this
    rw [dgs_zero]; exact Nat.le_refl _
  | k + 1, u, h => by
    by_cases h0 : u = 0
    · subst h0; rw [dgs_zero]; exact Nat.zero_le _
    · rw [dgs_pos h0, List.length_append]
      have := dgs_len k (u / 10) (by rw [Nat.pow_succ] at h; omega)
      simp; omega
theorem s_l01Dec_eq {n : Int} (hn : osI n) : s_l01Dec_m n = some (decB n) := by
  obtain ⟨h0, h1⟩ := hn
  unfold s_l01Dec_m
  rw [loopM_eq (x := dgs n.natAbs) (fun s : Int × List Int => osI s.1 ∧ dgs s.1.natAbs ++ s.2 = dgs n.natAbs) (fun s => s.1.natAbs) (fun s hs => ?_) (s0 := (n, [])) ⟨⟨h0, h1⟩, by simp⟩ (by dsimp only; omega)]
  · simp only [Option.bind_some]
    by_cases hz : n = 0
    · subst hz
      rw [Int.natAbs_zero, dgs_zero, if_pos (by simp)]
      simp [decB, Lib.itoa, Lib.decDigits]
    · have hp : n.natAbs ≠ 0 := by omega
      have hl : (dgs n.natAbs).length ≠ 0 := by rw [dgs_pos hp]; simp
      have hL := dgs_len 19 n.natAbs (by omega)
      have e := dgs_dec n.natAbs hp
      have es : strOfNums (dgs n.natAbs) = ⟨(Lib.decDigits n.natAbs).toArray⟩ := by rw [← e]
      rw [if_neg (by omega)]
      split
      · rename_i hneg
        rw [chk_t (by simp [strOfNums, ByteArray.size]; omega), es]
        simp only [decB, Lib.itoa, if_pos hneg]
        congr 1
      · rename_i hneg
        rw [es]
        simp only [decB, Lib.itoa, if_neg hneg]
        rw [show n.toNat = n.natAbs by omega]
  · obtain ⟨k, out⟩ := s
    obtain ⟨⟨a0, a1⟩, a2⟩ := hs
    simp only at a0 a1 a2 ⊢
    by_cases hk : k = 0
    · right
      subst hk
      rw [Int.natAbs_zero, dgs_zero] at a2
      simp at a2 ⊢
      exact a2
    · left
      rw [if_pos hk]
      have hd : (if k.tmod 10 < 0 then some (w64 (-(k.tmod 10))) else some (k.tmod 10)) = some (((k.natAbs % 10 : Nat)) : Int) := by
        have e1 : ((k.tmod 10).natAbs) = k.natAbs % 10 := Int.natAbs_tmod _ _
        split
        · rw [w64_in (by omega) (by omega)]; congr 1; omega
        · congr 1; omega
      rw [hd]
      simp only [Option.bind_some]
      have hL : (dgs n.natAbs).length ≤ 19 := dgs_len 19 n.natAbs (by omega)
      have hle : out.length ≤ 19 := by rw [← a2] at hL; simp at hL; omega
      have ew : IntKind.u8.wrap (w64 (48 + ((k.natAbs % 10 : Nat) : Int))) = 48 + ((k.natAbs % 10 : Nat) : Int) := by
        rw [w64_in (by omega) (by omega)]
        exact IntWalk.u8_in _ ⟨by omega, by omega⟩
      have eq : (k.tdiv 10).natAbs = k.natAbs / 10 := Int.natAbs_tdiv _ _
      rw [chk_t (by simp; omega), ew, w64_in (by omega) (by omega)]
      refine ⟨_, rfl, ⟨⟨by dsimp only; omega, by dsimp only; omega⟩, ?_⟩, ?_⟩
      · dsimp only
        rw [eq, ← a2, dgs_pos (u := k.natAbs) (by omega)]
        simp
      · dsimp only
        omega
theorem i_Decimal_eq {n : Int} (hn : osI n) : i_Decimal_m n = some (decB n) := by
  unfold i_Decimal_m strconv_FormatInt_m
  rw [chk_t ⟨hn.1, hn.2, rfl⟩]
  rfl
end Go.Proofs.YtjjelnpehgoagaaDoor
namespace Go.Proofs.YtjjelnpehgoagaaDoor
set_option linter.unusedVariables false
def smS (x : ByteArray) : Prop := x.size ≤ 1048576
def smL {α : Type} (sm : α → Prop) (xs : List α) : Prop := xs.length ≤ 1048576 ∧ ∀ m ∈ xs, sm m
end Go.Proofs.YtjjelnpehgoagaaDoor
namespace Go.Proofs.YtjjelnpehgoagaaDoor
open Go.RowKit
set_option linter.unusedVariables false
set_option maxRecDepth 100000
set_option maxHeartbeats 2000000
def smSpot_ (x : Spot_) : Prop := (fun _ => True) x.X ∧ (fun _ => True) x.Y
def smShape_ (x : Shape_) : Prop := (fun _ => True) x.Kind ∧ smSpot_ x.A ∧ smSpot_ x.B ∧ (fun _ => True) x.R ∧ smS x.Name
def smDrawing_ (x : Drawing_) : Prop := (smL smShape_) x.Shapes
theorem toSpot_eq {x : Spot_} (h : smSpot_ x) : l_toSpot_m x = some x := rfl
theorem toShape_eq {x : Shape_} (h : smShape_ x) : l_toShape_m x = some x := by
  unfold l_toShape_m
  simp only [toSpot_eq h.2.1, toSpot_eq h.2.2.1, Option.bind_some]
theorem toShapeS_eq {x : List Shape_} (h : (smL smShape_) x) : l_toShapeS_m x = some x := by
  unfold l_toShapeS_m
  rw [chk_t (by have := h.1; omega), toS_id (by have := h.1; omega) fun v hv => toShape_eq (h.2 v hv)]; rfl
theorem toDrawing_eq {x : Drawing_} (h : smDrawing_ x) : l_toDrawing_m x = some x := by
  unfold l_toDrawing_m
  simp only [toShapeS_eq h, Option.bind_some]
theorem szShape_ok {x : Shape_} (h : okShape_ x) (l : Int) (h0 : 0 ≤ l) (h1 : l ≤ 1048576) : ∃ r, l_szShape_m x l = some r ∧ r ≤ l ∧ (0 ≤ r → smShape_ x) := by
  unfold l_szShape_m
  have g0 := h.2.2.2.2
  unfold osS at g0
  rw [w64_in (x := l - (x.Name.size : Int)) (by omega) (by omega)]
  by_cases c0 : l - (x.Name.size : Int) < 0
  · rw [if_pos c0]; exact ⟨-1, rfl, by omega, by omega⟩
  rw [if_neg c0]
  obtain ⟨r0, hr0⟩ : ∃ r : Int, r = l - (x.Name.size : Int) := ⟨_, rfl⟩
  rw [← hr0] at c0 ⊢
  exact ⟨_, rfl, by omega, fun _ => ⟨trivial, (by simp [smSpot_]), (by simp [smSpot_]), trivial, (show smS x.Name by unfold smS; omega)⟩⟩
theorem szShapeS_ok {x : List Shape_} (h : (osL okShape_) x) (l : Int) (h0 : 0 ≤ l) (h1 : l ≤ 1048576) : ∃ r, l_szShapeS_m x l = some r ∧ r ≤ l ∧ (0 ≤ r → (smL smShape_) x) := by
  obtain ⟨hl, hm⟩ := h
  unfold l_szShapeS_m
  by_cases hq : w64 (l - (x.length : Int)) < 0
  · rw [if_pos hq]; exact ⟨-1, rfl, by omega, by omega⟩
  · rw [if_neg hq]
    rw [w64_in (by omega) (by omega)] at hq ⊢
    obtain ⟨y, hy, hp⟩ := szS_ok hl (sm := smShape_) (fun v hv a b c => szShape_ok (hm v hv) a b c) (l - x.length) (by omega) (by omega)
    rw [hy]
    rcases hp with rfl | ⟨r, rfl, e1, e2, e3⟩
    · exact ⟨-1, rfl, by omega, by omega⟩
    · exact ⟨r, rfl, by omega, fun _ => ⟨by omega, e3⟩⟩
theorem szDrawing_ok {x : Drawing_} (h : okDrawing_ x) (l : Int) (h0 : 0 ≤ l) (h1 : l ≤ 1048576) : ∃ r, l_szDrawing_m x l = some r ∧ r ≤ l ∧ (0 ≤ r → smDrawing_ x) := by
  unfold l_szDrawing_m
  obtain ⟨r0, e0, f0, s0⟩ := szShapeS_ok h l (by omega) (by omega)
  rw [e0]
  simp only [Option.bind_some]
  by_cases c0 : r0 < 0
  · simp only [if_pos c0]; exact ⟨_, rfl, by omega, by omega⟩
  simp only [if_neg c0]
  exact ⟨_, rfl, by omega, fun _ => s0 (by omega)⟩
theorem eqSpot_refl {x : Spot_} (h : smSpot_ x) : l_eqSpot_m x x = some true := by
  unfold l_eqSpot_m
  simp []
theorem eqShape_refl {x : Shape_} (h : smShape_ x) : l_eqShape_m x x = some true := by
  unfold l_eqShape_m
  simp [eqSpot_refl h.2.1, eqSpot_refl h.2.2.1]
theorem eqShapeS_refl {x : List Shape_} (h : (smL smShape_) x) : l_eqShapeS_m x x = some true := by
  unfold l_eqShapeS_m
  rw [if_neg (by simp), eqS_refl (by have := h.1; omega) fun v hv => eqShape_refl (h.2 v hv)]; rfl
theorem eqDrawing_refl {x : Drawing_} (h : smDrawing_ x) : l_eqDrawing_m x x = some true := by
  unfold l_eqDrawing_m
  simp [eqShapeS_refl h]
end Go.Proofs.YtjjelnpehgoagaaDoor
namespace Go.Proofs.YtjjelnpehgoagaaDoor
set_option linter.unusedVariables false
set_option maxRecDepth 100000
theorem ba_szD (a b : ByteArray) : (a ++ b).size = a.size + b.size := ByteArray.size_append
theorem foldS_ok {α β : Type} {xs : List α} {f : β → α → β} {step : β × Int → Option ((β × Int) ⊕ β)} (I : Nat → β → Prop) (b0 : β) (h0 : I 0 b0) (hI : ∀ (i : Nat) (hi : i < xs.length) b, I i b → I (i + 1) (f b xs[i])) (hS : ∀ (i : Nat) (hi : i < xs.length) b, I i b → step (b, (i : Int)) = some (.inl (f b xs[i], (i : Int) + 1))) (hE : ∀ b, step (b, (xs.length : Int)) = some (.inr b)) (hn : xs.length ≤ 9223372036854775807) : loopM step (b0, 0) = some (xs.foldl f b0) := by
  refine loopM_eq (fun (s : β × Int) => 0 ≤ s.2 ∧ s.2 ≤ xs.length ∧ s.1 = (xs.take s.2.toNat).foldl f b0 ∧ I s.2.toNat s.1) (fun (s : β × Int) => ((xs.length : Int) - s.2).toNat) (fun s hI' => ?_) (by simpa using h0) (by simp; omega)
  obtain ⟨b, i⟩ := s
  obtain ⟨q0, q1, q2, q3⟩ := hI'
  dsimp only at q0 q1 q2 q3 ⊢
  obtain ⟨j, rfl⟩ : ∃ j : Nat, i = j := ⟨i.toNat, by omega⟩
  have e2 : ((j : Int)).toNat = j := by omega
  rw [e2] at q2 q3
  by_cases hs : j < xs.length
  · left
    have e : ((j : Int) + 1).toNat = j + 1 := by omega
    refine ⟨_, hS j hs b q3, ⟨by dsimp only; omega, by dsimp only; omega, ?_, ?_⟩, by dsimp only; omega⟩
    · dsimp only
      rw [e, q2, List.take_succ_eq_append_getElem hs, List.foldl_append]; rfl
    · dsimp only
      rw [e]; exact hI j hs b q3
  · right
    have : j = xs.length := by omega
    subst this
    rw [hE b, q2, List.take_length]
def spcB : ByteArray := ⟨#[32]⟩
def lineB : ByteArray := ⟨#[108, 105, 110, 101]⟩
def circB : ByteArray := ⟨#[99, 105, 114, 99, 108, 101]⟩
def labB : ByteArray := ⟨#[108, 97, 98, 101, 108]⟩
def atT (a : Spot_) : ByteArray := ((spcB ++ decB a.X) ++ spcB) ++ decB a.Y
def lineT (s : Shape_) : ByteArray := if s.Kind = 1 then (lineB ++ atT s.A) ++ atT s.B else if s.Kind = 2 then ((circB ++ atT s.A) ++ spcB) ++ decB s.R else ((labB ++ atT s.A) ++ spcB) ++ s.Name
def drawT (xs : List Shape_) : ByteArray := xs.foldl (fun a s => a ++ (lineT s ++ nlB)) ⟨#[]⟩
theorem sp_os {s : Spot_} (h : spB s = true) : osI s.X ∧ osI s.Y := by
  unfold spB at h
  rw [Bool.and_eq_true] at h
  have h1 := of_decide_eq_true h.1
  have h2 := of_decide_eq_true h.2
  exact ⟨⟨by omega, by omega⟩, ⟨by omega, by omega⟩⟩
theorem sh_os {s : Shape_} (h : shB s = true) : (osI s.A.X ∧ osI s.A.Y) ∧ (s.Kind = 1 → osI s.B.X ∧ osI s.B.Y) ∧ (s.Kind = 2 → osI s.R) ∧ s.Name.size ≤ 12 := by
  unfold shB at h
  rw [Bool.and_eq_true] at h
  obtain ⟨h1, h2⟩ := h
  refine ⟨sp_os h1, fun hk => ?_, fun hk => ?_, ?_⟩
  · rw [if_pos hk, Bool.and_eq_true] at h2
    exact sp_os h2.1
  · rw [if_neg (by omega), if_pos hk, Bool.and_eq_true, Bool.and_eq_true] at h2
    have := of_decide_eq_true h2.2.1
    exact ⟨by omega, by omega⟩
  · split at h2
    · simp only [Bool.and_eq_true, decide_eq_true_eq] at h2
      rw [h2.2.2]; exact Nat.zero_le _
    · split at h2
      · simp only [Bool.and_eq_true, decide_eq_true_eq] at h2
        rw [h2.2.2]; exact Nat.zero_le _
      · split at h2
        · simp only [Bool.and_eq_true, decide_eq_true_eq] at h2
          have := h2.2.2
          unfold nameB at this
          simp at this
          omega
        · cases h2
theorem atT_size {a : Spot_} (h1 : osI a.X) (h2 : osI a.Y) : (atT a).size ≤ 44 := by
  have z1 := decB_size h1
  have z2 := decB_size h2
  have p1 : spcB.size = 1 := rfl
  unfold atT
  simp only [ba_szD, p1]
  omega
theorem s_l25At_eq {a : Spot_} (h1 : osI a.X) (h2 : osI a.Y) : s_l25At_m a = some (atT a) := by
  have z1 := decB_size h1
  have z2 := decB_size h2
  unfold s_l25At_m
  rw [show (⟨#[32]⟩ : ByteArray) = spcB from rfl, s_l01Dec_eq h1, s_l01Dec_eq h2]
  have p1 : spcB.size = 1 := rfl
  simp only [Option.bind_some, ba_szD, p1]
  rw [chk_t (by omega), chk_t (by omega), chk_t (by omega)]
  rfl
theorem lineT_size {s : Shape_} (h : shB s = true) : (lineT s).size ≤ 200 := by
  obtain ⟨⟨a1, a2⟩, b1, r1, n1⟩ := sh_os h
  have z1 := atT_size a1 a2
  have p1 : spcB.size = 1 := rfl
  have p2 : lineB.size = 4 := rfl
  have p3 : circB.size = 6 := rfl
  have p4 : labB.size = 5 := rfl
  unfold lineT
  split
  · rename_i hk
    have z2 := atT_size (b1 hk).1 (b1 hk).2
    simp only [ba_szD, p2]; omega
  · split
    · rename_i hk
      have z2 := decB_size (r1 hk)
      simp only [ba_szD, p1, p3]; omega
    · simp only [ba_szD, p1, p4]; omega
theorem s_l25Line_eq {s : Shape_} (h : shB s = true) : s_l25Line_m s = some (lineT s) := by
  obtain ⟨⟨a1, a2⟩, b1, r1, n1⟩ := sh_os h
  have z1 := atT_size a1 a2
  have p1 : spcB.size = 1 := rfl
  have p2 : lineB.size = 4 := rfl
  have p3 : circB.size = 6 := rfl
  have p4 : labB.size = 5 := rfl
  unfold s_l25Line_m lineT
  rw [show (⟨#[32]⟩ : ByteArray) = spcB from rfl, show (⟨#[108, 105, 110, 101]⟩ : ByteArray) = lineB from rfl, show (⟨#[99, 105, 114, 99, 108, 101]⟩ : ByteArray) = circB from rfl, show (⟨#[108, 97, 98, 101, 108]⟩ : ByteArray) = labB from rfl, s_l25At_eq a1 a2]
  by_cases h1 : s.Kind = 1
  · have z2 := atT_size (b1 h1).1 (b1 h1).2
    rw [if_pos h1, if_pos h1, s_l25At_eq (b1 h1).1 (b1 h1).2]
    simp only [Option.bind_some, ba_szD, p1, p2]
    rw [chk_t (by omega), chk_t (by omega)]
  · rw [if_neg h1, if_neg h1]
    by_cases h2 : s.Kind = 2
    · have z2 := decB_size (r1 h2)
      rw [if_pos h2, if_pos h2, s_l01Dec_eq (r1 h2)]
      simp only [Option.bind_some, ba_szD, p1, p3]
      rw [chk_t (by omega), chk_t (by omega), chk_t (by omega)]
    · rw [if_neg h2, if_neg h2]
      simp only [Option.bind_some, ba_szD, p1, p4]
      rw [chk_t (by omega), chk_t (by omega), chk_t (by omega)]
theorem i_shapeText_eq {s : Shape_} (h : shB s = true) : i_shapeText_m s = some (lineT s) := by
  obtain ⟨⟨a1, a2⟩, b1, r1, n1⟩ := sh_os h
  have y1 := decB_size a1
  have y2 := decB_size a2
  have p1 : spcB.size = 1 := rfl
  have p2 : (lineB ++ spcB).size = 5 := rfl
  have p3 : (circB ++ spcB).size = 7 := rfl
  have p4 : (labB ++ spcB).size = 6 := rfl
  unfold i_shapeText_m lineT
  rw [show (⟨#[32]⟩ : ByteArray) = spcB from rfl, show (⟨#[108, 105, 110, 101, 32]⟩ : ByteArray) = lineB ++ spcB from rfl, show (⟨#[99, 105, 114, 99, 108, 101, 32]⟩ : ByteArray) = circB ++ spcB from rfl, show (⟨#[108, 97, 98, 101, 108, 32]⟩ : ByteArray) = labB ++ spcB from rfl, i_Decimal_eq a1, i_Decimal_eq a2]
  simp only [Option.bind_some]
  rw [chk_t (by simp only [ba_szD, p1]; omega), chk_t (by simp only [ba_szD, p1]; omega)]
  by_cases h1 : s.Kind = 1
  · have z1 := decB_size (b1 h1).1
    have z2 := decB_size (b1 h1).2
    rw [if_pos h1, if_pos h1, i_Decimal_eq (b1 h1).1, i_Decimal_eq (b1 h1).2]
    simp only [Option.bind_some]
    generalize hq : lineB ++ spcB = q at *
    rw [chk_t (by simp only [ba_szD, p1, p2]; omega), chk_t (by simp only [ba_szD, p1, p2]; omega), chk_t (by simp only [ba_szD, p1, p2]; omega), chk_t (by simp only [ba_szD, p1, p2]; omega), chk_t (by simp only [ba_szD, p1, p2]; omega), ← hq]
    unfold atT
    simp only [ByteArray.append_assoc]
  · rw [if_neg h1, if_neg h1]
    by_cases h2 : s.Kind = 2
    · have z1 := decB_size (r1 h2)
      rw [if_pos h2, if_pos h2, i_Decimal_eq (r1 h2)]
      simp only [Option.bind_some]
      generalize hq : circB ++ spcB = q at *
      rw [chk_t (by simp only [ba_szD, p1, p3]; omega), chk_t (by simp only [ba_szD, p1, p3]; omega), chk_t (by simp only [ba_szD, p1, p3]; omega), ← hq]
      unfold atT
      simp only [ByteArray.append_assoc]
    · rw [if_neg h2, if_neg h2]
      generalize hq : labB ++ spcB = q at *
      rw [chk_t (by simp only [ba_szD, p1, p4]; omega), chk_t (by simp only [ba_szD, p1, p4]; omega), chk_t (by simp only [ba_szD, p1, p4]; omega), ← hq]
      unfold atT
      simp only [ByteArray.append_assoc]
theorem linesM_eq {f : Shape_ → Option ByteArray} (hf : ∀ s, shB s = true → f s = some (lineT s)) : ∀ (xs : List Shape_) (acc : ByteArray), (∀ s ∈ xs, shB s = true) → acc.size + xs.length * 201 ≤ 140737488355328 → linesM f xs acc = some (xs.foldl (fun a s => a ++ (lineT s ++ nlB)) acc)
  | [], acc, _, _ => rfl
  | s :: r, acc, h, hl => by
    have hs := h s (by simp)
    have z := lineT_size hs
    have p : nlB.size = 1 := rfl
    rw [List.length_cons] at hl
    unfold linesM
    rw [hf s hs, Option.bind_some, chk_t (by omega), List.foldl_cons]
    exact linesM_eq hf r _ (fun t ht => h t (by simp [ht])) (by simp only [ba_szD, p]; omega)
theorem dr_all {x : Drawing_} (h : drB x = true) : x.Shapes.length ≤ 1200 ∧ ∀ s ∈ x.Shapes, shB s = true := by
  unfold drB at h
  rw [Bool.and_eq_true] at h
  exact ⟨of_decide_eq_true h.1, List.all_eq_true.1 h.2⟩
def textD (x : Drawing_) : ByteArray := if drB x = true then drawT x.Shapes else ⟨#[]⟩
theorem i_DrawingText_eq (x : Drawing_) : i_DrawingText_m x = some (textD x) := by
  unfold i_DrawingText_m textD
  rw [i_ValidDrawing_eq, Option.bind_some]
  cases h : drB x
  · rfl
  · obtain ⟨h1, h2⟩ := dr_all h
    rw [if_pos rfl, if_pos rfl]
    exact linesM_eq (fun s hs => i_shapeText_eq hs) _ _ h2 (by show 0 + _ ≤ _; omega)
theorem s_l25Text_eq {x : Drawing_} (h : drB x = true) : s_l25Text_m x = some (drawT x.Shapes) := by
  obtain ⟨h1, h2⟩ := dr_all h
  unfold s_l25Text_m
  have p : nlB.size = 1 := rfl
  have := foldS_ok (xs := x.Shapes) (f := fun a s => a ++ (lineT s ++ nlB)) (step := fun s6 => (if s6.2 < (x.Shapes.length : Int) then ((atI x.Shapes s6.2).bind fun v7 => ((s_l25Line_m v7).bind fun v8 => (chk (v8.size + nlB.size ≤ 9223372036854775807) (chk (s6.1.size + (v8 ++ nlB).size ≤ 9223372036854775807) (some (.inl (s6.1 ++ (v8 ++ nlB), w64 (s6.2 + 1)))))))) else some (.inr s6.1))) (fun i b => b.size ≤ 201 * i) ⟨#[]⟩ (Nat.zero_le _) (fun i hi b hb => by
    have z := lineT_size (h2 _ (List.getElem_mem hi))
    simp only [ba_szD, p]; omega) (fun i hi b hb => by
    have hs := h2 _ (List.getElem_mem hi)
    have z := lineT_size hs
    have hi' : (i : Int) < (x.Shapes.length : Int) := by omega
    have e1 : w64 ((i : Int) + 1) = (i : Int) + 1 := w64_in (by omega) (by omega)
    simp only [if_pos hi', atI_lt hi, Option.bind_some, s_l25Line_eq hs]
    rw [chk_t (by rw [p]; omega), chk_t (by simp only [ba_szD, p]; omega), e1]) (fun b => by simp) (by omega)
  rw [show (⟨#[10]⟩ : ByteArray) = nlB from rfl, this]; rfl
theorem s_DrawingText_eq {x : Drawing_} (hl : x.Shapes.length ≤ 9223372036854775807) : s_DrawingText_m x = some (textD x) := by
  unfold s_DrawingText_m textD
  rw [s_l25Ok_eq hl, Option.bind_some]
  cases h : drB x
  · rfl
  · rw [s_l25Text_eq h]; rfl
theorem law_drawingText (p0 : Drawing_) (k0 : okDrawing_ p0) : l_FnExactDrawingText_m p0 = some true := by
  unfold l_FnExactDrawingText_m
  obtain ⟨r, e, l, s⟩ := szDrawing_ok k0 1048576 (by omega) (by omega)
  rw [e, Option.bind_some]
  by_cases hr : r < 0
  · rw [if_pos hr]
  · rw [if_neg hr]
    have h0 := s (by omega)
    have hl := h0.1
    simp [toDrawing_eq h0, s_DrawingText_eq (x := p0) (by omega), i_DrawingText_eq, eqDrawing_refl h0]
end Go.Proofs.YtjjelnpehgoagaaDoor
namespace Go.Proofs.YtjjelnpehgoagaaDoor
open Go.ChangeShapes Go.WideShapes Go.ChangeAt Go.RowKit
set_option linter.unusedVariables false
set_option maxRecDepth 100000
theorem var_block {W : World} {n : String} {g : Nat} {cs : Array Value} (hg : Tryd.prog.globalNamed n = some g) (h : W.var? Tryd.prog n = some cs) : ∃ t f, W.heap[g]? = some (.cells cs t f) ∧ g < W.heap.size := by
  unfold World.var? at h
  rw [hg] at h
  simp only [Option.bind_some] at h
  split at h
  · rename_i cs' t f hh
    cases h
    exact ⟨t, f, hh, (Array.getElem?_eq_some_iff.1 hh).1⟩
  · cases h
def litV : DataW Unit → Value
  | .lit (.int k z) => .int k z
  | _ => .bool false
def valsOf : DataW Unit → Array Value
  | .agg l => (l.map litV).toArray
  | _ => #[]
def putV (cs : Array Value) : Obj → Obj
  | .cells _ t f => .cells cs t f
  | o => o
theorem pow_tab : (Rows.laid_internal_strconv_uint64pow10 : DataW Unit) = Lib.tabData .u64 Lib.pow10Tab := by kernel_rfl
def laidList : List (String × DataW Unit) := [("math/bits.deBruijn32tab", Rows.laid_math_bits_deBruijn32tab), ("math/bits.deBruijn64tab", Rows.laid_math_bits_deBruijn64tab), ("internal/strconv.uint64pow10", Rows.laid_internal_strconv_uint64pow10)]
theorem tab_named : Tryd.prog.globalNamed "internal/strconv.uint64pow10" = some 0 := by kernel_rfl
theorem glob_tab {W : World} {rest : List (String × DataW Unit)} (h : laidMet Tryd.prog (("internal/strconv.uint64pow10", Rows.laid_internal_strconv_uint64pow10) :: rest) W) :
    (fun b => b < W.heap.size) 0 ∧ (tabG 0 (Lib.pow10Tab.map fun z => Value.int .u64 z)).p W := by
  rw [pow_tab] at h
  have := Lib.tabIs_of_head (t := 84) (e := 77) (n := 20) tab_named (by kernel_rfl) Tryd.underlying84 Tryd.underlying77 (by kernel_rfl) (by kernel_rfl) h
  obtain ⟨t, f, h1, h2⟩ := var_block tab_named this
  exact ⟨h2, t, f, h1⟩
theorem glob_of_laid {W : World} (h : laidMet Tryd.prog laidList W) : Glob (fun b => b < W.heap.size) W := by
  intro x hx
  simp only [globs, List.mem_cons, List.not_mem_nil, or_false] at hx
  subst hx
  exact glob_tab h.tail.tail
noncomputable def laidWorld (os : Os) : World :=
  let w0 := World.holding Tryd.prog os ⟨#[], #[], []⟩
  { w0 with heap := ((w0.heap.modify 1 (putV (valsOf Rows.laid_math_bits_deBruijn32tab))).modify 2 (putV (valsOf Rows.laid_math_bits_deBruijn64tab))).modify 0 (putV (valsOf Rows.laid_internal_strconv_uint64pow10)) }
theorem laidWorld_met (os : Os) (args : Array Value) : laidMet Tryd.prog laidList ((laidWorld os).forCall (fun _ _ => 0) ⟨#[], args, []⟩).memory :=
  laidMet_of_run' 8 (by kernel_rfl) (by kernel_rfl)
end Go.Proofs.YtjjelnpehgoagaaDoor
