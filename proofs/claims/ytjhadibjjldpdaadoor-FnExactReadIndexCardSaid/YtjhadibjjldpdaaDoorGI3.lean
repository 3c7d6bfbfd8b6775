/- Texts of this claim, one behind the other (merged by a program of mine). -/
import Derived.Test.YtjhadibjjldpdaaDoorRows
import Derived.ProofKit
import Derived.OpenShut
import Derived.ShutString
import Derived.ChangeOld
import Derived.Below
import Derived.Deep.Slices
import Derived.Test.YtjhadibjjldpdaaDoorProg
import Derived.Shelf.Strconv.Itoa4
import Derived.Shelf.Strconv.ParseIntPublic10
import Derived.Shelf.Strconv.ErrVarParseInt
import Derived.Shelf.Strings.Prefix
import Derived.Ground.NamesProg
import Derived.Lib.AppendIntMem
import Derived.Shelf.Strings.Search2
import Derived.StillTailTactics
import Derived.Laws.OwnMore
import Derived.Deep.AppendLies
import Derived.Deep.Draws
import Derived.Laws.Rows
import Derived.BigCall
import Derived.Lib.ItoaLen
import Derived.Test.YtjhadibjjldpdaaDoorTie
import Derived.Lib.LaidTab
import Derived.Stop.LaidErr
import Derived.SevenTiedAt
import Derived.Test.YtjhadibjjldpdaaDoorGI2
set_option linter.unusedSimpArgs false
set_option linter.unusedVariables false
namespace Go.Proofs.YtjhadibjjldpdaaDoor
open Go.ChangeShapes Go.WideShapes Go.ChangeAt Go.RowKit
open Go.ChangeMaps (open_string shut_string)
set_option maxRecDepth 100000

theorem own : ownKnob Tryd.prog.godebug = none := by kernel_rfl
theorem laidOut : laidOutB Tryd.prog = true := by kernel_rfl

end Go.Proofs.YtjhadibjjldpdaaDoor
namespace Go.Proofs.YtjhadibjjldpdaaDoor
open Go.ChangeShapes Go.WideShapes Go.ChangeAt Go.RowKit Go.Deep
set_option linter.unusedVariables false
set_option maxRecDepth 100000
theorem cell_ltA {w : World} {a : Addr} {v : Value} (h : w.cell? a = some v) : a.block < w.heap.size := by
  unfold World.cell? at h
  cases hb : w.heap[a.block]? with
  | none => simp [hb] at h
  | some b => exact (Array.getElem?_eq_some_iff.1 hb).1
def RepL (w : World) (cs : List Value) (ds : List DV) : Prop := cs.length = ds.length ∧ ∀ (j : Nat) v x, cs[j]? = some v → ds[j]? = some x → DRep w (fun b => b < w.heap.size) v x
theorem repL_nil {w : World} : RepL w [] [] := ⟨rfl, fun j v x h => by simp at h⟩
theorem repL_cons {w : World} {v : Value} {x : DV} {cs : List Value} {ds : List DV} (h : DRep w (fun b => b < w.heap.size) v x) (k : RepL w cs ds) : RepL w (v :: cs) (x :: ds) := by
  refine ⟨by simp [k.1], fun j a b h1 h2 => ?_⟩
  cases j with
  | zero => simp at h1 h2; subst h1 h2; exact h
  | succ j => simp at h1 h2; exact k.2 j a b h1 h2
theorem repL_app {w : World} {cs : List Value} {ds : List DV} {cs2 : List Value} {ds2 : List DV} (h : RepL w cs ds) (k : RepL w cs2 ds2) : RepL w (cs ++ cs2) (ds ++ ds2) := by
  refine ⟨by simp [h.1, k.1], fun j a b h1 h2 => ?_⟩
  rw [List.getElem?_append] at h1 h2
  rw [← h.1] at h2
  split at h1
  · rename_i hj; rw [if_pos hj] at h2; exact h.2 j a b h1 h2
  · rename_i hj; rw [if_neg hj] at h2; exact k.2 _ a b h1 h2
theorem repL_int {w : World} (k : IntKind) (z : Int) : DRep w (fun b => b < w.heap.size) (.int k z) (.v (.int k z)) := .v _ rfl
theorem repL_str {w : World} (s : ByteArray) : DRep w (fun b => b < w.heap.size) (.string s) (.v (.string s)) := .v _ rfl
theorem agg_rep {w : World} {μ : Places} {h : Heap} {cs : Array Value} {ds : List DV} (r : RepL w cs.toList ds) : ARep w (fun b => b < w.heap.size) μ h (.agg cs) (.agg (ds.map .d)) := by
  refine .agg _ _ (by simpa using r.1) fun i v c h1 h2 => ?_
  rw [List.getElem?_map] at h2
  obtain ⟨x, hx, rfl⟩ := Option.map_eq_some_iff.1 h2
  exact .d _ _ (r.2 i v x (by simpa using h1) hx)
theorem args_nil {w : World} : ∀ (i : Nat) v a, (List.toArray ([] : List Value))[i]? = some v → ([] : List AV)[i]? = some a → ARep w (fun b => b < w.heap.size) (fun _ _ => none) (lks []) v a := fun i v a h => by simp at h
theorem args_cons {w : World} {v0 : Value} {a0 : AV} {vs : List Value} {bs : List AV} (h : ARep w (fun b => b < w.heap.size) (fun _ _ => none) (lks []) v0 a0) (k : ∀ (i : Nat) v a, vs.toArray[i]? = some v → bs[i]? = some a → ARep w (fun b => b < w.heap.size) (fun _ _ => none) (lks []) v a) :
    ∀ (i : Nat) v a, (v0 :: vs).toArray[i]? = some v → (a0 :: bs)[i]? = some a → ARep w (fun b => b < w.heap.size) (fun _ _ => none) (lks []) v a := fun i v a h1 h2 => by
  cases i with
  | zero => simp at h1 h2; subst h1 h2; exact h
  | succ i =>
    simp at h1 h2
    exact k i v a (by simpa using h1) h2
section
variable {H : Type} {enc : TypeId × Value → H} {W : World} {b0 : Nat} {spare : Nat → Bool} {held : Bool} {fuel : Nat} {cs : List Value} {x : DataW H × List MemPlace}
theorem fieldR {P : Program} {t : TypeId} {fs : Array Field} (ht : P.underlying t = some (.struct fs)) (h : DataW.trod enc P W b0 spare held fuel t cs = some x) (i : Nat) (T : TypeId) (sub : List Value)
    (hk : (fs[i]?).map (fun f => (f.type, (cs.drop f.offset).take (P.cellsOf f.type))) = some (T, sub)) : ∃ n y, DataW.trod enc P W b0 spare held n T sub = some y := by
  obtain ⟨xs, n, _, _, hl, hxl, hf⟩ := DataW.trod_struct ht h
  cases hfi : fs[i]? with
  | none => rw [hfi] at hk; cases hk
  | some f =>
    rw [hfi] at hk
    simp only [Option.map_some, Option.some.injEq, Prod.mk.injEq] at hk
    obtain ⟨rfl, rfl⟩ := hk
    have hi : i < fs.size := (Array.getElem?_eq_some_iff.1 hfi).1
    refine ⟨n, xs[i]'(by omega), (hf i f hfi).trans (List.getElem?_eq_getElem (by omega))⟩
theorem cellsR {P : Program} {t : TypeId} {fs : Array Field} (ht : P.underlying t = some (.struct fs)) (h : DataW.trod enc P W b0 spare held fuel t cs = some x) : cs.length = P.cellsOf t := by
  obtain ⟨xs, n, _, _, hl, hxl, hf⟩ := DataW.trod_struct ht h
  exact hl
theorem sliceA {P : Program} {t e : TypeId} {α : Type} [Inhabited α] {a : Value} (f : α → List DV) (ok : α → Prop) (sz : Nat) (hf : ∀ a, (f a).length = sz) (hsz : 0 < sz) (ht : P.underlying t = some (.slice e)) (hC : P.cellsOf e = sz)
    (rd : ∀ (fuel : Nat) (cs : List Value) (x : DataW H × List MemPlace), DataW.trod enc P W b0 spare held fuel e cs = some x → ∃ m, RepL W cs (f m) ∧ ok m)
    (h : ∃ n y, DataW.trod enc P W b0 spare held n t [a] = some y) :
    ∃ xs : List α, DRep W (fun b => b < W.heap.size) a (.sl (xs.map f)) ∧ xs.length ≤ 9223372036854775807 ∧ ∀ m ∈ xs, ok m := by
  obtain ⟨n, y, h⟩ := h
  rcases DataW.trod_slice ht h with ⟨h0, _⟩ | ⟨ad, len, cap, elems, rest, n', _, hcs, _, hb, hl, hm, hel, hi, _, _⟩
  · simp at h0
    subst h0
    exact ⟨[], .nil, by simp, fun m hm => by simp at hm⟩
  · simp at hcs
    subst hcs
    rw [hC] at hi
    obtain ⟨q, hq⟩ := choose_lt (α := α) (n := len) (p := fun k q => (∃ cs', W.cells? b0 (ad.add (k * sz)) sz = some cs' ∧ RepL W cs' (f q)) ∧ ok q) (fun k hk => by
      have h1 := hi k hk
      rw [List.getElem?_eq_getElem (by omega)] at h1
      obtain ⟨cs', hc, htr⟩ := Option.bind_eq_some_iff.1 h1
      obtain ⟨m, hm1, hm2⟩ := rd _ _ _ htr
      exact ⟨m, ⟨cs', hc, hm1⟩, hm2⟩)
    have hxl : ((List.range len).map q).length = len := by simp
    refine ⟨(List.range len).map q, ?_, by rw [hxl]; unfold maxLen at hm; omega, fun m hm' => ?_⟩
    · have hcell : ∀ k, k < len → ∀ j, j < sz → ∃ v, W.cell? (ad.add (k * sz + j)) = some v ∧ ∀ x, (f (q k))[j]? = some x → DRep W (fun b => b < W.heap.size) v x := by
        intro k hk j hj
        obtain ⟨⟨cs', hc, hr⟩, _⟩ := hq k hk
        obtain ⟨_, hl', hat⟩ := World.cells?_some hc
        have hjl : j < cs'.length := by rw [hr.1, hf]; exact hj
        refine ⟨cs'[j], ?_, fun x hx => hr.2 j _ x (List.getElem?_eq_getElem hjl) hx⟩
        rw [← Go.Deep.add_add, ← List.getElem?_eq_getElem hjl]
        exact hat j hj
      rcases Nat.eq_zero_or_pos len with h0 | h0
      · subst h0
        exact .emp _ _ hm
      · obtain ⟨v0, h00, _⟩ := hcell 0 h0 0 hsz
        obtain ⟨b, off, spot⟩ := ad
        have hspot : spot = none := by
          have := World.cell?_spot h00
          simpa [Addr.add] using this
        subst hspot
        have hdd : DRep W (fun b => b < W.heap.size) (.slice (some ⟨b, off, none⟩) ((List.range len).map (fun k => f (q k))).length cap) (.sl ((List.range len).map fun k => f (q k))) := by
          refine .sl b off cap sz _ (fun i j => (W.cell? ⟨b, off + i * sz + j, none⟩).getD undef) ?_ (by simpa using hl) hm (fun i e he => ?_) (fun i e j x he hx => ?_) (fun i e j x he hx => ?_)
          · have h01 := cell_ltA h00
            simp only [Addr.add] at h01
            split at h01 <;> exact h01
          · rw [List.getElem?_map] at he
            obtain ⟨k, _, rfl⟩ := Option.map_eq_some_iff.1 he
            exact hf _
          all_goals
            rw [List.getElem?_map] at he
            obtain ⟨k, hk, rfl⟩ := Option.map_eq_some_iff.1 he
            obtain ⟨hil, rfl⟩ := List.getElem?_eq_some_iff.1 hk
            simp only [List.length_range] at hil
            simp only [List.getElem_range] at hx
            have hjl : j < sz := by have := (List.getElem?_eq_some_iff.1 hx).1; rw [hf] at this; exact this
            obtain ⟨v, hv, hr⟩ := hcell i hil j hjl
            rw [add_plain, ← Nat.add_assoc] at hv
            rw [hv]
          · rfl
          · exact hr x hx
        simpa [List.map_map, Function.comp_def] using hdd
    · obtain ⟨k, hk, rfl⟩ := List.mem_map.1 hm'
      exact (hq k (by simpa using hk)).2
end
end Go.Proofs.YtjhadibjjldpdaaDoor
namespace Go.Proofs.YtjhadibjjldpdaaDoor
open Go.ChangeShapes Go.WideShapes Go.ChangeAt Go.RowKit Go.Deep
set_option linter.unusedVariables false
set_option maxRecDepth 100000
def osI (x : Int) : Prop := -9223372036854775808 ≤ x ∧ x ≤ 9223372036854775807
def osS (x : ByteArray) : Prop := x.size ≤ 9223372036854775807
def osL {α : Type} (ok : α → Prop) (xs : List α) : Prop := xs.length ≤ 9223372036854775807 ∧ ∀ m ∈ xs, ok m
section
variable {H : Type} {enc : TypeId × Value → H} {W : World} {b0 : Nat} {spare : Nat → Bool} {held : Bool} {fuel : Nat} {cs : List Value} {x : DataW H × List MemPlace}
theorem sl_one {P : Program} {t e : TypeId} (ht : P.underlying t = some (.slice e)) (h : DataW.trod enc P W b0 spare held fuel t cs = some x) : ∃ v, cs = [v] := by
  rcases DataW.trod_slice ht h with ⟨h0, _⟩ | ⟨ad, len, cap, elems, rest, n', _, hcs, _⟩
  · exact ⟨_, h0⟩
  · exact ⟨_, hcs⟩
theorem sliceX {P : Program} {t e : TypeId} {α : Type} {a : Value} (f : α → List DV) (ok : α → Prop) (sz : Nat) (hf : ∀ a, (f a).length = sz) (hsz : 0 < sz) (ht : P.underlying t = some (.slice e)) (hC : P.cellsOf e = sz)
    (rd : ∀ (fuel : Nat) (cs : List Value) (x : DataW H × List MemPlace), DataW.trod enc P W b0 spare held fuel e cs = some x → ∃ m, RepL W cs (f m) ∧ ok m)
    (h : ∃ n y, DataW.trod enc P W b0 spare held n t [a] = some y) :
    ∃ xs : List α, DRep W (fun b => b < W.heap.size) a (.sl (xs.map f)) ∧ xs.length ≤ 9223372036854775807 ∧ ∀ m ∈ xs, ok m := by
  by_cases hne : Nonempty α
  · haveI : Inhabited α := ⟨Classical.choice hne⟩
    exact sliceA f ok sz hf hsz ht hC rd h
  · obtain ⟨n, y, h⟩ := h
    rcases DataW.trod_slice ht h with ⟨h0, _⟩ | ⟨ad, len, cap, elems, rest, n', _, hcs, _, hb, hl, hm, hel, hi, _, _⟩
    · simp at h0
      subst h0
      exact ⟨[], .nil, by simp, fun m hm => by simp at hm⟩
    · simp at hcs
      subst hcs
      rcases Nat.eq_zero_or_pos len with h0 | h0
      · subst h0
        exact ⟨[], .emp _ _ hm, by simp, fun m hm => by simp at hm⟩
      · exfalso
        have h1 := hi 0 h0
        rw [List.getElem?_eq_getElem (by omega)] at h1
        obtain ⟨cs', hc, htr⟩ := Option.bind_eq_some_iff.1 h1
        obtain ⟨m, _⟩ := rd _ _ _ htr
        exact hne ⟨m⟩
end
end Go.Proofs.YtjhadibjjldpdaaDoor
namespace Go.Proofs.YtjhadibjjldpdaaDoor
open Go.RowKit
set_option linter.unusedVariables false
set_option maxRecDepth 100000
set_option maxHeartbeats 2000000
def okDivider_ (x : Divider_) : Prop := osI x.Worm ∧ (osL osI) x.Circles
end Go.Proofs.YtjhadibjjldpdaaDoor
namespace Go.Proofs.YtjhadibjjldpdaaDoor
open Go.ChangeShapes Go.WideShapes Go.ChangeAt Go.RowKit Go.Deep
set_option linter.unusedVariables false
set_option maxRecDepth 100000
set_option maxHeartbeats 2000000
theorem lst2 {α : Type} (l : List α) (h : l.length = 2) : ∃ a0 a1, l = [a0, a1] := by
  match l, h with
  | [a0, a1], _ => exact ⟨a0, a1, rfl⟩
theorem rd_2 {H : Type} {enc : TypeId × Value → H} {W : World} {b0 : Nat} {spare : Nat → Bool} {held : Bool} {fuel : Nat} {cs : List Value} {x : DataW H × List MemPlace} (h : DataW.trod enc Tryd.prog W b0 spare held fuel 2 cs = some x) : ∃ v : Int, RepL W cs (cI v) ∧ osI v := by
  obtain ⟨z, rfl, _, hw⟩ := DataW.trod_int Tryd.underlying2 h
  exact ⟨z, repL_cons (repL_int _ _) repL_nil, by simpa [osI, Lit.wf, IntKind.min, IntKind.max, IntKind.bits, IntKind.signed] using hw⟩
theorem rd_22 {H : Type} {enc : TypeId × Value → H} {W : World} {b0 : Nat} {spare : Nat → Bool} {held : Bool} {fuel : Nat} {cs : List Value} {x : DataW H × List MemPlace} (h : DataW.trod enc Tryd.prog W b0 spare held fuel 22 cs = some x) : ∃ v : List Int, RepL W cs ((cL cI) v) ∧ (osL osI) v := by
  obtain ⟨v, hv⟩ : ∃ v, cs = [v] := sl_one (t := 22) Tryd.underlying22 h
  subst hv
  obtain ⟨xs, hr, hm, hok⟩ := sliceX cI osI 1 (fun _ => rfl) (by omega) Tryd.underlying22 (by kernel_rfl) (fun fuel cs x h => rd_2 h) ⟨_, _, h⟩
  exact ⟨xs, repL_cons hr repL_nil, hm, hok⟩
theorem rd_24 {H : Type} {enc : TypeId × Value → H} {W : World} {b0 : Nat} {spare : Nat → Bool} {held : Bool} {fuel : Nat} {cs : List Value} {x : DataW H × List MemPlace} (h : DataW.trod enc Tryd.prog W b0 spare held fuel 24 cs = some x) : ∃ v : Divider_, RepL W cs (cDivider_ v) ∧ okDivider_ v := by
  obtain ⟨a0, a1, rfl⟩ := lst2 cs ((cellsR Tryd.underlying24 h).trans (by kernel_rfl))
  obtain ⟨n0, y0, h0⟩ := fieldR Tryd.underlying24 h 0 2 [a0] (by kernel_rfl)
  obtain ⟨v0, r0, o0⟩ := rd_2 h0
  obtain ⟨n1, y1, h1⟩ := fieldR Tryd.underlying24 h 1 22 [a1] (by kernel_rfl)
  obtain ⟨v1, r1, o1⟩ := rd_22 h1
  exact ⟨⟨v0, v1⟩, (repL_app r0 (repL_app r1 repL_nil)), ⟨o0, o1⟩⟩
theorem rd_9 {H : Type} {enc : TypeId × Value → H} {W : World} {b0 : Nat} {spare : Nat → Bool} {held : Bool} {fuel : Nat} {cs : List Value} {x : DataW H × List MemPlace} (h : DataW.trod enc Tryd.prog W b0 spare held fuel 9 cs = some x) : ∃ v : ByteArray, RepL W cs (cS v) ∧ osS v := by
  obtain ⟨z, rfl, _, hw⟩ := DataW.trod_string Tryd.underlying9 h
  exact ⟨z, repL_cons (repL_str _) repL_nil, by unfold osS; unfold maxLen at hw; exact hw⟩
theorem open_24 {H : Type} {enc : TypeId × Value → H} {W : World} {b0 base : Nat} {spare : Nat → Bool} {held : Bool} {v : Value} {d : DataW H} {p : List MemPlace} (hv : Value.okWide Tryd.prog W .any base 24 v) (h : DataW.Trod enc Tryd.prog W b0 spare held 24 v d p) : ∃ x : Divider_, ARep W (fun b => b < W.heap.size) (fun _ _ => none) (lks []) v (.agg [.d (.v (.int .i64 x.Worm)), .d (.sl (List.map cI x.Circles))]) ∧ okDivider_ x := by
  obtain ⟨cs, rfl, hsz⟩ := okWide_struct Tryd.underlying24 hv
  obtain ⟨fuel, hf⟩ := h
  obtain ⟨x, hr, hok⟩ := rd_24 hf
  exact ⟨x, agg_rep (ds := cDivider_ x) (by simpa [Value.cells] using hr), hok⟩
theorem open_9 {H : Type} {enc : TypeId × Value → H} {W : World} {b0 base : Nat} {spare : Nat → Bool} {held : Bool} {v : Value} {d : DataW H} {p : List MemPlace} (hv : Value.okWide Tryd.prog W .any base 9 v) (h : DataW.Trod enc Tryd.prog W b0 spare held 9 v d p) : ∃ x : ByteArray, ARep W (fun b => b < W.heap.size) (fun _ _ => none) (lks []) v (.d (.v (.string x))) ∧ osS x := by
  obtain ⟨s, rfl⟩ := okWide_string Tryd.underlying9 hv
  obtain ⟨fuel, hf⟩ := h
  obtain ⟨x, hr, hok⟩ := rd_9 hf
  exact ⟨x, .d _ _ (hr.2 0 _ _ rfl rfl), hok⟩
end Go.Proofs.YtjhadibjjldpdaaDoor
namespace Go.Proofs.YtjhadibjjldpdaaDoor
open Go.RowKit
set_option linter.unusedVariables false
set_option maxRecDepth 100000
theorem ty2 : TyIs Tryd.prog 2 ⟨.int .i64, 1, 8, .int .i64 0⟩ := tyIs_of (by kernel_rfl)
theorem ty3 : TyIs Tryd.prog 3 ⟨.int .i64, 1, 8, .int .i64 0⟩ := tyIs_of (by kernel_rfl)
theorem ty4 : TyIs Tryd.prog 4 ⟨.bool, 1, 1, .bool false⟩ := tyIs_of (by kernel_rfl)
theorem ty5 : TyIs Tryd.prog 5 ⟨.int .u8, 1, 1, .int .u8 0⟩ := tyIs_of (by kernel_rfl)
theorem ty6 : TyIs Tryd.prog 6 ⟨.int .u8, 1, 1, .int .u8 0⟩ := tyIs_of (by kernel_rfl)
theorem ty8 : TyIs Tryd.prog 8 ⟨.struct #[⟨ "x", 2, 0, false, "", "runtime", 0⟩, ⟨ "y", 3, 1, false, "", "runtime", 8⟩, ⟨ "signed", 4, 2, false, "", "runtime", 16⟩, ⟨ "code", 6, 3, false, "", "runtime", 17⟩], 4, 24, .agg #[.int .i64 0, .int .i64 0, .bool false, .int .u8 0]⟩ := tyIs_of (by kernel_rfl)
theorem ty9 : TyIs Tryd.prog 9 ⟨.string, 1, 16, .string ⟨#[]⟩⟩ := tyIs_of (by kernel_rfl)
theorem ty10 : TyIs Tryd.prog 10 ⟨.string, 1, 16, .string ⟨#[]⟩⟩ := tyIs_of (by kernel_rfl)
theorem ty11 : TyIs Tryd.prog 11 ⟨.string, 1, 16, .string ⟨#[]⟩⟩ := tyIs_of (by kernel_rfl)
theorem ty12 : TyIs Tryd.prog 12 ⟨.int .u64, 1, 8, .int .u64 0⟩ := tyIs_of (by kernel_rfl)
theorem ty14 : TyIs Tryd.prog 14 ⟨.struct #[⟨ "msg", 9, 0, false, "", "runtime", 0⟩, ⟨ "addr", 12, 1, false, "", "runtime", 16⟩], 2, 24, .agg #[.string ⟨#[]⟩, .int .u64 0]⟩ := tyIs_of (by kernel_rfl)
theorem ty15 : TyIs Tryd.prog 15 ⟨.pointer 147, 1, 8, .pointer none⟩ := tyIs_of (by kernel_rfl)
theorem ty16 : TyIs Tryd.prog 16 ⟨.pointer 150, 1, 8, .pointer none⟩ := tyIs_of (by kernel_rfl)
theorem ty17 : TyIs Tryd.prog 17 ⟨.pointer 158, 1, 8, .pointer none⟩ := tyIs_of (by kernel_rfl)
theorem ty19 : TyIs Tryd.prog 19 ⟨.struct #[⟨ "typ", 17, 0, false, "", "internal/runtime/maps", 0⟩], 1, 8, .agg #[.pointer none]⟩ := tyIs_of (by kernel_rfl)
theorem ty21 : TyIs Tryd.prog 21 ⟨.int .i32, 1, 4, .int .i32 0⟩ := tyIs_of (by kernel_rfl)
theorem ty22 : TyIs Tryd.prog 22 ⟨.slice 2, 1, 24, .slice none 0 0⟩ := tyIs_of (by kernel_rfl)
theorem ty24 : TyIs Tryd.prog 24 ⟨.struct #[⟨ "Worm", 2, 0, false, "", "", 0⟩, ⟨ "Circles", 22, 1, false, "", "", 8⟩], 2, 32, .agg #[.int .i64 0, .slice none 0 0]⟩ := tyIs_of (by kernel_rfl)
theorem ty27 : TyIs Tryd.prog 27 ⟨.struct #[⟨ "Turns", 2, 0, false, "", "", 0⟩, ⟨ "Holes", 2, 1, false, "", "", 8⟩, ⟨ "Circle", 2, 2, false, "", "", 16⟩], 3, 24, .agg #[.int .i64 0, .int .i64 0, .int .i64 0]⟩ := tyIs_of (by kernel_rfl)
theorem ty30 : TyIs Tryd.prog 30 ⟨.struct #[⟨ "Worm", 2, 0, false, "", "", 0⟩, ⟨ "Circles", 22, 1, false, "", "", 8⟩], 2, 32, .agg #[.int .i64 0, .slice none 0 0]⟩ := tyIs_of (by kernel_rfl)
theorem ty35 : TyIs Tryd.prog 35 ⟨.slice 5, 1, 24, .slice none 0 0⟩ := tyIs_of (by kernel_rfl)
theorem ty46 : TyIs Tryd.prog 46 ⟨.pointer 84, 1, 8, .pointer none⟩ := tyIs_of (by kernel_rfl)
theorem ty48 : TyIs Tryd.prog 48 ⟨.int .u64, 1, 8, .int .u64 0⟩ := tyIs_of (by kernel_rfl)
theorem ty56 : TyIs Tryd.prog 56 ⟨.struct #[⟨ "Num", 2, 0, false, "", "", 0⟩, ⟨ "Den", 2, 1, false, "", "", 8⟩], 2, 16, .agg #[.int .i64 0, .int .i64 0]⟩ := tyIs_of (by kernel_rfl)
theorem ty62 : TyIs Tryd.prog 62 ⟨.slice 9, 1, 24, .slice none 0 0⟩ := tyIs_of (by kernel_rfl)
theorem ty70 : TyIs Tryd.prog 70 ⟨.pointer 98, 1, 8, .pointer none⟩ := tyIs_of (by kernel_rfl)
theorem ty84 : TyIs Tryd.prog 84 ⟨.struct #[⟨ "b", 35, 0, false, "", "loop.example/g00921/laws", 0⟩, ⟨ "i", 3, 1, false, "", "loop.example/g00921/laws", 24⟩, ⟨ "h", 48, 2, false, "", "loop.example/g00921/laws", 32⟩], 3, 40, .agg #[.slice none 0 0, .int .i64 0, .int .u64 0]⟩ := tyIs_of (by kernel_rfl)
theorem ty85 : TyIs Tryd.prog 85 ⟨.int .u64, 1, 8, .int .u64 0⟩ := tyIs_of (by kernel_rfl)
theorem ty98 : TyIs Tryd.prog 98 ⟨.struct #[⟨ "code", 35, 0, false, "", "loop.example/g00921/spec", 0⟩, ⟨ "at", 3, 1, false, "", "loop.example/g00921/spec", 24⟩, ⟨ "seed", 48, 2, false, "", "loop.example/g00921/spec", 32⟩], 3, 40, .agg #[.slice none 0 0, .int .i64 0, .int .u64 0]⟩ := tyIs_of (by kernel_rfl)
theorem ty112 : TyIs Tryd.prog 112 ⟨.int .i64, 1, 8, .int .i64 0⟩ := tyIs_of (by kernel_rfl)
theorem ty115 : TyIs Tryd.prog 115 ⟨.pointer 131, 1, 8, .pointer none⟩ := tyIs_of (by kernel_rfl)
theorem ty119 : TyIs Tryd.prog 119 ⟨.array 24 5, 24, 24, .agg #[.int .u8 0, .int .u8 0, .int .u8 0, .int .u8 0, .int .u8 0, .int .u8 0, .int .u8 0, .int .u8 0, .int .u8 0, .int .u8 0, .int .u8 0, .int .u8 0, .int .u8 0, .int .u8 0, .int .u8 0, .int .u8 0, .int .u8 0, .int .u8 0, .int .u8 0, .int .u8 0, .int .u8 0, .int .u8 0, .int .u8 0, .int .u8 0]⟩ := tyIs_of (by kernel_rfl)
theorem ty124 : TyIs Tryd.prog 124 ⟨.int .u32, 1, 4, .int .u32 0⟩ := tyIs_of (by kernel_rfl)
theorem ty131 : TyIs Tryd.prog 131 ⟨.struct #[⟨ "Func", 9, 0, false, "", "", 0⟩, ⟨ "Num", 9, 1, false, "", "", 16⟩, ⟨ "Err", 94, 2, false, "", "", 32⟩], 3, 48, .agg #[.string ⟨#[]⟩, .string ⟨#[]⟩, .nilIface]⟩ := tyIs_of (by kernel_rfl)
theorem ty134 : TyIs Tryd.prog 134 ⟨.array 20 48, 20, 160, .agg #[.int .u64 0, .int .u64 0, .int .u64 0, .int .u64 0, .int .u64 0, .int .u64 0, .int .u64 0, .int .u64 0, .int .u64 0, .int .u64 0, .int .u64 0, .int .u64 0, .int .u64 0, .int .u64 0, .int .u64 0, .int .u64 0, .int .u64 0, .int .u64 0, .int .u64 0, .int .u64 0]⟩ := tyIs_of (by kernel_rfl)
theorem ty135 : TyIs Tryd.prog 135 ⟨.array 65 5, 65, 65, .agg #[.int .u8 0, .int .u8 0, .int .u8 0, .int .u8 0, .int .u8 0, .int .u8 0, .int .u8 0, .int .u8 0, .int .u8 0, .int .u8 0, .int .u8 0, .int .u8 0, .int .u8 0, .int .u8 0, .int .u8 0, .int .u8 0, .int .u8 0, .int .u8 0, .int .u8 0, .int .u8 0, .int .u8 0, .int .u8 0, .int .u8 0, .int .u8 0, .int .u8 0, .int .u8 0, .int .u8 0, .int .u8 0, .int .u8 0, .int .u8 0, .int .u8 0, .int .u8 0, .int .u8 0, .int .u8 0, .int .u8 0, .int .u8 0, .int .u8 0, .int .u8 0, .int .u8 0, .int .u8 0, .int .u8 0, .int .u8 0, .int .u8 0, .int .u8 0, .int .u8 0, .int .u8 0, .int .u8 0, .int .u8 0, .int .u8 0, .int .u8 0, .int .u8 0, .int .u8 0, .int .u8 0, .int .u8 0, .int .u8 0, .int .u8 0, .int .u8 0, .int .u8 0, .int .u8 0, .int .u8 0, .int .u8 0, .int .u8 0, .int .u8 0, .int .u8 0, .int .u8 0]⟩ := tyIs_of (by kernel_rfl)
theorem ty138 : TyIs Tryd.prog 138 ⟨.pointer 5, 1, 8, .pointer none⟩ := tyIs_of (by kernel_rfl)
theorem ty139 : TyIs Tryd.prog 139 ⟨.pointer 141, 1, 8, .pointer none⟩ := tyIs_of (by kernel_rfl)
theorem ty141 : TyIs Tryd.prog 141 ⟨.struct #[⟨ "s", 9, 0, false, "", "errors", 0⟩], 1, 16, .agg #[.string ⟨#[]⟩]⟩ := tyIs_of (by kernel_rfl)
theorem ty143 : TyIs Tryd.prog 143 ⟨.array 32 5, 32, 32, .agg #[.int .u8 0, .int .u8 0, .int .u8 0, .int .u8 0, .int .u8 0, .int .u8 0, .int .u8 0, .int .u8 0, .int .u8 0, .int .u8 0, .int .u8 0, .int .u8 0, .int .u8 0, .int .u8 0, .int .u8 0, .int .u8 0, .int .u8 0, .int .u8 0, .int .u8 0, .int .u8 0, .int .u8 0, .int .u8 0, .int .u8 0, .int .u8 0, .int .u8 0, .int .u8 0, .int .u8 0, .int .u8 0, .int .u8 0, .int .u8 0, .int .u8 0, .int .u8 0]⟩ := tyIs_of (by kernel_rfl)
theorem ty144 : TyIs Tryd.prog 144 ⟨.array 64 5, 64, 64, .agg #[.int .u8 0, .int .u8 0, .int .u8 0, .int .u8 0, .int .u8 0, .int .u8 0, .int .u8 0, .int .u8 0, .int .u8 0, .int .u8 0, .int .u8 0, .int .u8 0, .int .u8 0, .int .u8 0, .int .u8 0, .int .u8 0, .int .u8 0, .int .u8 0, .int .u8 0, .int .u8 0, .int .u8 0, .int .u8 0, .int .u8 0, .int .u8 0, .int .u8 0, .int .u8 0, .int .u8 0, .int .u8 0, .int .u8 0, .int .u8 0, .int .u8 0, .int .u8 0, .int .u8 0, .int .u8 0, .int .u8 0, .int .u8 0, .int .u8 0, .int .u8 0, .int .u8 0, .int .u8 0, .int .u8 0, .int .u8 0, .int .u8 0, .int .u8 0, .int .u8 0, .int .u8 0, .int .u8 0, .int .u8 0, .int .u8 0, .int .u8 0, .int .u8 0, .int .u8 0, .int .u8 0, .int .u8 0, .int .u8 0, .int .u8 0, .int .u8 0, .int .u8 0, .int .u8 0, .int .u8 0, .int .u8 0, .int .u8 0, .int .u8 0, .int .u8 0]⟩ := tyIs_of (by kernel_rfl)
theorem ty153 : TyIs Tryd.prog 153 ⟨.int .u8, 1, 1, .int .u8 0⟩ := tyIs_of (by kernel_rfl)
def tt : Tab := updT (updT (updT (updT (updT (updT (updT (updT (updT (updT (updT (updT (updT (updT (updT (updT (updT (updT (updT (updT (updT (updT (updT (updT (updT (updT (updT (updT (updT (updT (updT (updT (updT (updT (updT (updT (updT (updT (updT (updT (updT (updT ((fun _ => none)) 2 ⟨.int .i64, 1, 8, .int .i64 0⟩) 3 ⟨.int .i64, 1, 8, .int .i64 0⟩) 4 ⟨.bool, 1, 1, .bool false⟩) 5 ⟨.int .u8, 1, 1, .int .u8 0⟩) 6 ⟨.int .u8, 1, 1, .int .u8 0⟩) 8 ⟨.struct #[⟨ "x", 2, 0, false, "", "runtime", 0⟩, ⟨ "y", 3, 1, false, "", "runtime", 8⟩, ⟨ "signed", 4, 2, false, "", "runtime", 16⟩, ⟨ "code", 6, 3, false, "", "runtime", 17⟩], 4, 24, .agg #[.int .i64 0, .int .i64 0, .bool false, .int .u8 0]⟩) 9 ⟨.string, 1, 16, .string ⟨#[]⟩⟩) 10 ⟨.string, 1, 16, .string ⟨#[]⟩⟩) 11 ⟨.string, 1, 16, .string ⟨#[]⟩⟩) 12 ⟨.int .u64, 1, 8, .int .u64 0⟩) 14 ⟨.struct #[⟨ "msg", 9, 0, false, "", "runtime", 0⟩, ⟨ "addr", 12, 1, false, "", "runtime", 16⟩], 2, 24, .agg #[.string ⟨#[]⟩, .int .u64 0]⟩) 15 ⟨.pointer 147, 1, 8, .pointer none⟩) 16 ⟨.pointer 150, 1, 8, .pointer none⟩) 17 ⟨.pointer 158, 1, 8, .pointer none⟩) 19 ⟨.struct #[⟨ "typ", 17, 0, false, "", "internal/runtime/maps", 0⟩], 1, 8, .agg #[.pointer none]⟩) 21 ⟨.int .i32, 1, 4, .int .i32 0⟩) 22 ⟨.slice 2, 1, 24, .slice none 0 0⟩) 24 ⟨.struct #[⟨ "Worm", 2, 0, false, "", "", 0⟩, ⟨ "Circles", 22, 1, false, "", "", 8⟩], 2, 32, .agg #[.int .i64 0, .slice none 0 0]⟩) 27 ⟨.struct #[⟨ "Turns", 2, 0, false, "", "", 0⟩, ⟨ "Holes", 2, 1, false, "", "", 8⟩, ⟨ "Circle", 2, 2, false, "", "", 16⟩], 3, 24, .agg #[.int .i64 0, .int .i64 0, .int .i64 0]⟩) 30 ⟨.struct #[⟨ "Worm", 2, 0, false, "", "", 0⟩, ⟨ "Circles", 22, 1, false, "", "", 8⟩], 2, 32, .agg #[.int .i64 0, .slice none 0 0]⟩) 35 ⟨.slice 5, 1, 24, .slice none 0 0⟩) 46 ⟨.pointer 84, 1, 8, .pointer none⟩) 48 ⟨.int .u64, 1, 8, .int .u64 0⟩) 56 ⟨.struct #[⟨ "Num", 2, 0, false, "", "", 0⟩, ⟨ "Den", 2, 1, false, "", "", 8⟩], 2, 16, .agg #[.int .i64 0, .int .i64 0]⟩) 62 ⟨.slice 9, 1, 24, .slice none 0 0⟩) 70 ⟨.pointer 98, 1, 8, .pointer none⟩) 84 ⟨.struct #[⟨ "b", 35, 0, false, "", "loop.example/g00921/laws", 0⟩, ⟨ "i", 3, 1, false, "", "loop.example/g00921/laws", 24⟩, ⟨ "h", 48, 2, false, "", "loop.example/g00921/laws", 32⟩], 3, 40, .agg #[.slice none 0 0, .int .i64 0, .int .u64 0]⟩) 85 ⟨.int .u64, 1, 8, .int .u64 0⟩) 98 ⟨.struct #[⟨ "code", 35, 0, false, "", "loop.example/g00921/spec", 0⟩, ⟨ "at", 3, 1, false, "", "loop.example/g00921/spec", 24⟩, ⟨ "seed", 48, 2, false, "", "loop.example/g00921/spec", 32⟩], 3, 40, .agg #[.slice none 0 0, .int .i64 0, .int .u64 0]⟩) 112 ⟨.int .i64, 1, 8, .int .i64 0⟩) 115 ⟨.pointer 131, 1, 8, .pointer none⟩) 119 ⟨.array 24 5, 24, 24, .agg #[.int .u8 0, .int .u8 0, .int .u8 0, .int .u8 0, .int .u8 0, .int .u8 0, .int .u8 0, .int .u8 0, .int .u8 0, .int .u8 0, .int .u8 0, .int .u8 0, .int .u8 0, .int .u8 0, .int .u8 0, .int .u8 0, .int .u8 0, .int .u8 0, .int .u8 0, .int .u8 0, .int .u8 0, .int .u8 0, .int .u8 0, .int .u8 0]⟩) 124 ⟨.int .u32, 1, 4, .int .u32 0⟩) 131 ⟨.struct #[⟨ "Func", 9, 0, false, "", "", 0⟩, ⟨ "Num", 9, 1, false, "", "", 16⟩, ⟨ "Err", 94, 2, false, "", "", 32⟩], 3, 48, .agg #[.string ⟨#[]⟩, .string ⟨#[]⟩, .nilIface]⟩) 134 ⟨.array 20 48, 20, 160, .agg #[.int .u64 0, .int .u64 0, .int .u64 0, .int .u64 0, .int .u64 0, .int .u64 0, .int .u64 0, .int .u64 0, .int .u64 0, .int .u64 0, .int .u64 0, .int .u64 0, .int .u64 0, .int .u64 0, .int .u64 0, .int .u64 0, .int .u64 0, .int .u64 0, .int .u64 0, .int .u64 0]⟩) 135 ⟨.array 65 5, 65, 65, .agg #[.int .u8 0, .int .u8 0, .int .u8 0, .int .u8 0, .int .u8 0, .int .u8 0, .int .u8 0, .int .u8 0, .int .u8 0, .int .u8 0, .int .u8 0, .int .u8 0, .int .u8 0, .int .u8 0, .int .u8 0, .int .u8 0, .int .u8 0, .int .u8 0, .int .u8 0, .int .u8 0, .int .u8 0, .int .u8 0, .int .u8 0, .int .u8 0, .int .u8 0, .int .u8 0, .int .u8 0, .int .u8 0, .int .u8 0, .int .u8 0, .int .u8 0, .int .u8 0, .int .u8 0, .int .u8 0, .int .u8 0, .int .u8 0, .int .u8 0, .int .u8 0, .int .u8 0, .int .u8 0, .int .u8 0, .int .u8 0, .int .u8 0, .int .u8 0, .int .u8 0, .int .u8 0, .int .u8 0, .int .u8 0, .int .u8 0, .int .u8 0, .int .u8 0, .int .u8 0, .int .u8 0, .int .u8 0, .int .u8 0, .int .u8 0, .int .u8 0, .int .u8 0, .int .u8 0, .int .u8 0, .int .u8 0, .int .u8 0, .int .u8 0, .int .u8 0, .int .u8 0]⟩) 138 ⟨.pointer 5, 1, 8, .pointer none⟩) 139 ⟨.pointer 141, 1, 8, .pointer none⟩) 141 ⟨.struct #[⟨ "s", 9, 0, false, "", "errors", 0⟩], 1, 16, .agg #[.string ⟨#[]⟩]⟩) 143 ⟨.array 32 5, 32, 32, .agg #[.int .u8 0, .int .u8 0, .int .u8 0, .int .u8 0, .int .u8 0, .int .u8 0, .int .u8 0, .int .u8 0, .int .u8 0, .int .u8 0, .int .u8 0, .int .u8 0, .int .u8 0, .int .u8 0, .int .u8 0, .int .u8 0, .int .u8 0, .int .u8 0, .int .u8 0, .int .u8 0, .int .u8 0, .int .u8 0, .int .u8 0, .int .u8 0, .int .u8 0, .int .u8 0, .int .u8 0, .int .u8 0, .int .u8 0, .int .u8 0, .int .u8 0, .int .u8 0]⟩) 144 ⟨.array 64 5, 64, 64, .agg #[.int .u8 0, .int .u8 0, .int .u8 0, .int .u8 0, .int .u8 0, .int .u8 0, .int .u8 0, .int .u8 0, .int .u8 0, .int .u8 0, .int .u8 0, .int .u8 0, .int .u8 0, .int .u8 0, .int .u8 0, .int .u8 0, .int .u8 0, .int .u8 0, .int .u8 0, .int .u8 0, .int .u8 0, .int .u8 0, .int .u8 0, .int .u8 0, .int .u8 0, .int .u8 0, .int .u8 0, .int .u8 0, .int .u8 0, .int .u8 0, .int .u8 0, .int .u8 0, .int .u8 0, .int .u8 0, .int .u8 0, .int .u8 0, .int .u8 0, .int .u8 0, .int .u8 0, .int .u8 0, .int .u8 0, .int .u8 0, .int .u8 0, .int .u8 0, .int .u8 0, .int .u8 0, .int .u8 0, .int .u8 0, .int .u8 0, .int .u8 0, .int .u8 0, .int .u8 0, .int .u8 0, .int .u8 0, .int .u8 0, .int .u8 0, .int .u8 0, .int .u8 0, .int .u8 0, .int .u8 0, .int .u8 0, .int .u8 0, .int .u8 0, .int .u8 0]⟩) 153 ⟨.int .u8, 1, 1, .int .u8 0⟩
theorem tok : TOk Tryd.prog tt := (tok_upd (tok_upd (tok_upd (tok_upd (tok_upd (tok_upd (tok_upd (tok_upd (tok_upd (tok_upd (tok_upd (tok_upd (tok_upd (tok_upd (tok_upd (tok_upd (tok_upd (tok_upd (tok_upd (tok_upd (tok_upd (tok_upd (tok_upd (tok_upd (tok_upd (tok_upd (tok_upd (tok_upd (tok_upd (tok_upd (tok_upd (tok_upd (tok_upd (tok_upd (tok_upd (tok_upd (tok_upd (tok_upd (tok_upd (tok_upd (tok_upd (tok_upd (tok_nil _) ty2) ty3) ty4) ty5) ty6) ty8) ty9) ty10) ty11) ty12) ty14) ty15) ty16) ty17) ty19) ty21) ty22) ty24) ty27) ty30) ty35) ty46) ty48) ty56) ty62) ty70) ty84) ty85) ty98) ty112) ty115) ty119) ty124) ty131) ty134) ty135) ty138) ty139) ty141) ty143) ty144) ty153)
theorem follows : Tryd.prog.follows .mixedOrders = true := by kernel_rfl
end Go.Proofs.YtjhadibjjldpdaaDoor
namespace Go.Proofs
open Go.Shelf
def Tryd.layLaysMn173_ren : Go.Shelf.Ren := ⟨fun | 173 => 82 | 246 => 92 | 283 => 104 | 284 => 105 | 285 => 106 | 286 => 107 | 129 => 116 | 317 => 115 | 318 => 117 | 319 => 118 | 320 => 119 | 337 => 121 | 338 => 122 | n => n, fun | 2 => 2 | 3 => 3 | 9 => 9 | 4 => 4 | 171 => 119 | 0 => 0 | 53 => 48 | 37 => 35 | 5 => 5 | 173 => 122 | 212 => 134 | 51 => 124 | 20 => 20 | 213 => 135 | 46 => 85 | 232 => 143 | 233 => 144 | n => n, fun | 17 => 3 | 18 => 4 | 19 => 5 | n => n⟩
theorem Tryd.layLaysMn173 : Go.Proofs.LaysM.n173 Tryd.prog Tryd.layLaysMn173_ren := {
  mixed := by kernel_rfl
  f129 := Tryd.func116.trans (congrArg some (by kernel_rfl))
  f173 := Tryd.func82.trans (congrArg some (by kernel_rfl))
  f246 := Tryd.func92.trans (congrArg some (by kernel_rfl))
  f283 := Tryd.func104.trans (congrArg some (by kernel_rfl))
  f284 := Tryd.func105.trans (congrArg some (by kernel_rfl))
  f285 := Tryd.func106.trans (congrArg some (by kernel_rfl))
  f286 := Tryd.func107.trans (congrArg some (by kernel_rfl))
  f317 := Tryd.func115.trans (congrArg some (by kernel_rfl))
  f318 := Tryd.func117.trans (congrArg some (by kernel_rfl))
  f319 := Tryd.func118.trans (congrArg some (by kernel_rfl))
  f320 := Tryd.func119.trans (congrArg some (by kernel_rfl))
  f337 := Tryd.func121.trans (congrArg some (by kernel_rfl))
  f338 := Tryd.func122.trans (congrArg some (by kernel_rfl))
  t0 := Tryd.underlying0
  a0 := Tryd.isAgg0
  z0 := Tryd.sizeOf0
  v0 := Tryd.zeroValue0
  t2 := Tryd.underlying2
  a2 := Tryd.isAgg2
  z2 := Tryd.sizeOf2
  v2 := Tryd.zeroValue2
  t3 := Tryd.underlying3
  a3 := Tryd.isAgg3
  z3 := Tryd.sizeOf3
  v3 := Tryd.zeroValue3
  t4 := Tryd.underlying4
  a4 := Tryd.isAgg4
  z4 := Tryd.sizeOf4
  v4 := Tryd.zeroValue4
  t5 := Tryd.underlying5
  a5 := Tryd.isAgg5
  z5 := Tryd.sizeOf5
  v5 := Tryd.zeroValue5
  t9 := Tryd.underlying9
  a9 := Tryd.isAgg9
  z9 := Tryd.sizeOf9
  v9 := Tryd.zeroValue9
  t20 := Tryd.underlying20
  a20 := Tryd.isAgg20
  z20 := Tryd.sizeOf20
  v20 := Tryd.zeroValue20
  t37 := Tryd.underlying35
  a37 := Tryd.isAgg35
  z37 := Tryd.sizeOf35
  v37 := Tryd.zeroValue35
  t46 := Tryd.underlying85
  a46 := Tryd.isAgg85
  z46 := Tryd.sizeOf85
  v46 := Tryd.zeroValue85
  t51 := Tryd.underlying124
  a51 := Tryd.isAgg124
  z51 := Tryd.sizeOf124
  v51 := Tryd.zeroValue124
  t53 := Tryd.underlying48
  a53 := Tryd.isAgg48
  z53 := Tryd.sizeOf48
  v53 := Tryd.zeroValue48
  t171 := Tryd.underlying119
  a171 := Tryd.isAgg119
  z171 := Tryd.sizeOf119
  v171 := Tryd.zeroValue119
  t173 := Tryd.underlying122
  a173 := Tryd.isAgg122
  z173 := Tryd.sizeOf122
  v173 := Tryd.zeroValue122
  t212 := Tryd.underlying134
  a212 := Tryd.isAgg134
  z212 := Tryd.sizeOf134
  v212 := Tryd.zeroValue134
  t213 := Tryd.underlying135
  a213 := Tryd.isAgg135
  z213 := Tryd.sizeOf135
  t232 := Tryd.underlying143
  a232 := Tryd.isAgg143
  z232 := Tryd.sizeOf143
  v232 := Tryd.zeroValue143
  t233 := Tryd.underlying144
  a233 := Tryd.isAgg144
  z233 := Tryd.sizeOf144
  v233 := Tryd.zeroValue144
  g17 := by kernel_rfl
  g18 := by kernel_rfl
  g19 := by kernel_rfl
  i0 := by kernel_rfl
  i2 := by kernel_rfl
  i3 := by kernel_rfl
  i4 := by kernel_rfl
  i5 := by kernel_rfl
  i9 := by kernel_rfl
  i20 := by kernel_rfl
  i37 := by kernel_rfl
  i46 := by kernel_rfl
  i51 := by kernel_rfl
  i53 := by kernel_rfl
  i171 := by kernel_rfl
  i173 := by kernel_rfl
  i212 := by kernel_rfl
  i232 := by kernel_rfl
  i233 := by kernel_rfl
  m17 := by kernel_rfl
  m18 := by kernel_rfl
  m19 := by kernel_rfl }
def Tryd.layLaysCn174_ren : Go.Shelf.Ren := ⟨fun | 174 => 77 | 247 => 90 | 245 => 91 | 287 => 99 | 279 => 100 | 280 => 101 | 281 => 102 | 282 => 103 | 321 => 110 | 322 => 111 | 316 => 112 | 171 => 114 | 205 => 113 | 243 => 120 | 246 => 92 | 283 => 104 | 284 => 105 | 285 => 106 | 286 => 107 | 129 => 116 | 317 => 115 | 318 => 117 | 319 => 118 | 320 => 119 | 337 => 121 | 338 => 122 | n => n, fun | 9 => 9 | 3 => 3 | 2 => 2 | 75 => 94 | 85 => 95 | 4 => 4 | 167 => 112 | 5 => 5 | 53 => 48 | 175 => 113 | 46 => 85 | 168 => 115 | 37 => 35 | 0 => 0 | 210 => 131 | 21 => 21 | 127 => 138 | 145 => 141 | 143 => 139 | 171 => 119 | 173 => 122 | 212 => 134 | 51 => 124 | 20 => 20 | 213 => 135 | 232 => 143 | 233 => 144 | 80 => 145 | n => n, fun | 15 => 1 | 16 => 2 | 17 => 3 | 18 => 4 | 19 => 5 | n => n⟩
theorem Tryd.layLaysCn174 : Go.Proofs.LaysC.n174 Tryd.prog Tryd.layLaysCn174_ren := {
  mixed := by kernel_rfl
  f129 := Tryd.func116.trans (congrArg some (by kernel_rfl))
  f171 := Tryd.func114.trans (congrArg some (by kernel_rfl))
  f174 := Tryd.func77.trans (congrArg some (by kernel_rfl))
  f205 := Tryd.func113.trans (congrArg some (by kernel_rfl))
  f243 := Tryd.func120.trans (congrArg some (by kernel_rfl))
  f245 := Tryd.func91.trans (congrArg some (by kernel_rfl))
  f246 := Tryd.func92.trans (congrArg some (by kernel_rfl))
  f247 := Tryd.func90.trans (congrArg some (by kernel_rfl))
  f279 := Tryd.func100.trans (congrArg some (by kernel_rfl))
  f280 := Tryd.func101.trans (congrArg some (by kernel_rfl))
  f281 := Tryd.func102.trans (congrArg some (by kernel_rfl))
  f282 := Tryd.func103.trans (congrArg some (by kernel_rfl))
  f283 := Tryd.func104.trans (congrArg some (by kernel_rfl))
  f284 := Tryd.func105.trans (congrArg some (by kernel_rfl))
  f285 := Tryd.func106.trans (congrArg some (by kernel_rfl))
  f286 := Tryd.func107.trans (congrArg some (by kernel_rfl))
  f287 := Tryd.func99.trans (congrArg some (by kernel_rfl))
  f316 := Tryd.func112.trans (congrArg some (by kernel_rfl))
  f317 := Tryd.func115.trans (congrArg some (by kernel_rfl))
  f318 := Tryd.func117.trans (congrArg some (by kernel_rfl))
  f319 := Tryd.func118.trans (congrArg some (by kernel_rfl))
  f320 := Tryd.func119.trans (congrArg some (by kernel_rfl))
  f321 := Tryd.func110.trans (congrArg some (by kernel_rfl))
  f322 := Tryd.func111.trans (congrArg some (by kernel_rfl))
  f337 := Tryd.func121.trans (congrArg some (by kernel_rfl))
  f338 := Tryd.func122.trans (congrArg some (by kernel_rfl))
  t0 := Tryd.underlying0
  a0 := Tryd.isAgg0
  z0 := Tryd.sizeOf0
  v0 := Tryd.zeroValue0
  t2 := Tryd.underlying2
  a2 := Tryd.isAgg2
  z2 := Tryd.sizeOf2
  v2 := Tryd.zeroValue2
  t3 := Tryd.underlying3
  a3 := Tryd.isAgg3
  z3 := Tryd.sizeOf3
  v3 := Tryd.zeroValue3
  t4 := Tryd.underlying4
  a4 := Tryd.isAgg4
  z4 := Tryd.sizeOf4
  v4 := Tryd.zeroValue4
  t5 := Tryd.underlying5
  a5 := Tryd.isAgg5
  z5 := Tryd.sizeOf5
  v5 := Tryd.zeroValue5
  t9 := Tryd.underlying9
  a9 := Tryd.isAgg9
  z9 := Tryd.sizeOf9
  v9 := Tryd.zeroValue9
  t20 := Tryd.underlying20
  a20 := Tryd.isAgg20
  z20 := Tryd.sizeOf20
  v20 := Tryd.zeroValue20
  t21 := Tryd.underlying21
  a21 := Tryd.isAgg21
  z21 := Tryd.sizeOf21
  v21 := Tryd.zeroValue21
  t37 := Tryd.underlying35
  a37 := Tryd.isAgg35
  z37 := Tryd.sizeOf35
  v37 := Tryd.zeroValue35
  t46 := Tryd.underlying85
  a46 := Tryd.isAgg85
  z46 := Tryd.sizeOf85
  v46 := Tryd.zeroValue85
  t51 := Tryd.underlying124
  a51 := Tryd.isAgg124
  z51 := Tryd.sizeOf124
  v51 := Tryd.zeroValue124
  t53 := Tryd.underlying48
  a53 := Tryd.isAgg48
  z53 := Tryd.sizeOf48
  v53 := Tryd.zeroValue48
  t75 := Tryd.underlying94
  a75 := Tryd.isAgg94
  z75 := Tryd.sizeOf94
  v75 := Tryd.zeroValue94
  t85 := Tryd.underlying95
  a85 := Tryd.isAgg95
  z85 := Tryd.sizeOf95
  v85 := Tryd.zeroValue95
  t127 := Tryd.underlying138
  a127 := Tryd.isAgg138
  z127 := Tryd.sizeOf138
  v127 := Tryd.zeroValue138
  t143 := Tryd.underlying139
  a143 := Tryd.isAgg139
  z143 := Tryd.sizeOf139
  v143 := Tryd.zeroValue139
  t145 := Tryd.underlying141
  a145 := Tryd.isAgg141
  z145 := Tryd.sizeOf141
  v145 := Tryd.zeroValue141
  t167 := Tryd.underlying112
  a167 := Tryd.isAgg112
  z167 := Tryd.sizeOf112
  v167 := Tryd.zeroValue112
  t168 := Tryd.underlying115
  a168 := Tryd.isAgg115
  z168 := Tryd.sizeOf115
  v168 := Tryd.zeroValue115
  t171 := Tryd.underlying119
  a171 := Tryd.isAgg119
  z171 := Tryd.sizeOf119
  v171 := Tryd.zeroValue119
  t173 := Tryd.underlying122
  a173 := Tryd.isAgg122
  z173 := Tryd.sizeOf122
  v173 := Tryd.zeroValue122
  t175 := Tryd.underlying113
  a175 := Tryd.isAgg113
  z175 := Tryd.sizeOf113
  v175 := Tryd.zeroValue113
  t210 := Tryd.underlying131
  a210 := Tryd.isAgg131
  z210 := Tryd.sizeOf131
  v210 := Tryd.zeroValue131
  t212 := Tryd.underlying134
  a212 := Tryd.isAgg134
  z212 := Tryd.sizeOf134
  v212 := Tryd.zeroValue134
  t213 := Tryd.underlying135
  a213 := Tryd.isAgg135
  z213 := Tryd.sizeOf135
  t232 := Tryd.underlying143
  a232 := Tryd.isAgg143
  z232 := Tryd.sizeOf143
  v232 := Tryd.zeroValue143
  t233 := Tryd.underlying144
  a233 := Tryd.isAgg144
  z233 := Tryd.sizeOf144
  v233 := Tryd.zeroValue144
  g15 := by kernel_rfl
  g16 := by kernel_rfl
  g17 := by kernel_rfl
  g18 := by kernel_rfl
  g19 := by kernel_rfl
  t80 := Tryd.underlying145
  a80 := Tryd.isAgg145
  z80 := Tryd.sizeOf145
  v80 := Tryd.zeroValue145
  i0 := by kernel_rfl
  i2 := by kernel_rfl
  i3 := by kernel_rfl
  i4 := by kernel_rfl
  i5 := by kernel_rfl
  i9 := by kernel_rfl
  i20 := by kernel_rfl
  i21 := by kernel_rfl
  i37 := by kernel_rfl
  i46 := by kernel_rfl
  i51 := by kernel_rfl
  i53 := by kernel_rfl
  i75 := by kernel_rfl
  i80 := by kernel_rfl
  i85 := by kernel_rfl
  i127 := by kernel_rfl
  i143 := by kernel_rfl
  i145 := by kernel_rfl
  i167 := by kernel_rfl
  i168 := by kernel_rfl
  i171 := by kernel_rfl
  i173 := by kernel_rfl
  i175 := by kernel_rfl
  i210 := by kernel_rfl
  i212 := by kernel_rfl
  i232 := by kernel_rfl
  i233 := by kernel_rfl
  m15 := by kernel_rfl
  m16 := by kernel_rfl
  m17 := by kernel_rfl
  m18 := by kernel_rfl
  m19 := by kernel_rfl
  c0 := by kernel_rfl
  c2 := by kernel_rfl
  c3 := by kernel_rfl
  c4 := by kernel_rfl
  c5 := by kernel_rfl
  c9 := by kernel_rfl
  c20 := by kernel_rfl
  c21 := by kernel_rfl
  c37 := by kernel_rfl
  c46 := by kernel_rfl
  c51 := by kernel_rfl
  c53 := by kernel_rfl
  c75 := by kernel_rfl
  c80 := by kernel_rfl
  c85 := by kernel_rfl
  c127 := by kernel_rfl
  c143 := by kernel_rfl
  c145 := by kernel_rfl
  c167 := by kernel_rfl
  c168 := by kernel_rfl
  c171 := by kernel_rfl
  c173 := by kernel_rfl
  c175 := by kernel_rfl
  c210 := by kernel_rfl
  c212 := by kernel_rfl
  c213 := by kernel_rfl
  c232 := by kernel_rfl
  c233 := by kernel_rfl }
def Tryd.layLaysn101_ren : Go.Shelf.Ren := ⟨fun | 101 => 76 | 208 => 89 | 206 => 98 | n => n, fun | 9 => 9 | 4 => 4 | 3 => 3 | n => n, fun | n => n⟩
theorem Tryd.layLaysn101 : Go.Proofs.Lays.n101 Tryd.prog Tryd.layLaysn101_ren := {
  mixed := by kernel_rfl
  f101 := Tryd.func76.trans (congrArg some (by kernel_rfl))
  f206 := Tryd.func98.trans (congrArg some (by kernel_rfl))
  f208 := Tryd.func89.trans (congrArg some (by kernel_rfl))
  t3 := Tryd.underlying3
  a3 := Tryd.isAgg3
  z3 := Tryd.sizeOf3
  v3 := Tryd.zeroValue3
  t4 := Tryd.underlying4
  a4 := Tryd.isAgg4
  z4 := Tryd.sizeOf4
  v4 := Tryd.zeroValue4
  t9 := Tryd.underlying9
  a9 := Tryd.isAgg9
  z9 := Tryd.sizeOf9
  v9 := Tryd.zeroValue9 }
end Go.Proofs
namespace Go.Proofs.YtjhadibjjldpdaaDoor
open Go.Shelf Go.RowKit
set_option linter.unusedVariables false
set_option maxRecDepth 100000
theorem tabNamed : Tryd.prog.globalNamed "internal/strconv.uint64pow10" = some 3 := by kernel_rfl
theorem tab_here {W : World} {F : Nat → Prop} (gl : Glob F W) : Lib.TabIs Tryd.prog W "internal/strconv.uint64pow10" .u64 Lib.pow10Tab := by
  obtain ⟨-, t, f, e⟩ := gl (tabG 3 (Lib.pow10Tab.map fun z => Value.int .u64 z)) (by simp [globs])
  unfold Lib.TabIs World.var?
  rw [tabNamed]
  simp [e]
theorem sh_fmt {n : Int} (h0 : -9223372036854775808 ≤ n) (h1 : n ≤ 9223372036854775807) : FnC Tryd.prog 82 [] [.d (.v (.int .i64 n)), .d (.v (.int .i64 10))] [] (.d (.v (.string ⟨(Lib.itoa n).toArray⟩))) :=
  fnc_ofG (v := .string ⟨(Lib.itoa n).toArray⟩) (by kernel_rfl) rfl fun W F gl => (Any.strconv_FormatInt_10 Tryd.layLaysMn173 n h0 h1 W (tab_here gl)).mono (by rintro e w' ⟨rfl, k, os, rfl⟩; exact ⟨rfl, Lib.below_grow _ _ (Nat.le_refl _) _ _⟩)
end Go.Proofs.YtjhadibjjldpdaaDoor
namespace Go.Proofs
open Go.Shelf
def Tryd.layLaysn219_ren : Go.Shelf.Ren := ⟨fun | 219 => 88 | 217 => 94 | 225 => 95 | 224 => 96 | 267 => 97 | 266 => 108 | 314 => 109 | n => n, fun | 9 => 9 | 3 => 3 | 4 => 4 | 5 => 5 | 46 => 85 | 146 => 125 | 51 => 124 | n => n, fun | 1 => 0 | n => n⟩
theorem Tryd.layLaysn219 : Go.Proofs.Lays.n219 Tryd.prog Tryd.layLaysn219_ren := {
  mixed := by kernel_rfl
  f217 := Tryd.func94.trans (congrArg some (by kernel_rfl))
  f219 := Tryd.func88.trans (congrArg some (by kernel_rfl))
  f224 := Tryd.func96.trans (congrArg some (by kernel_rfl))
  f225 := Tryd.func95.trans (congrArg some (by kernel_rfl))
  f266 := Tryd.func108.trans (congrArg some (by kernel_rfl))
  f267 := Tryd.func97.trans (congrArg some (by kernel_rfl))
  f314 := Tryd.func109.trans (congrArg some (by kernel_rfl))
  t3 := Tryd.underlying3
  a3 := Tryd.isAgg3
  z3 := Tryd.sizeOf3
  v3 := Tryd.zeroValue3
  t4 := Tryd.underlying4
  a4 := Tryd.isAgg4
  z4 := Tryd.sizeOf4
  v4 := Tryd.zeroValue4
  t5 := Tryd.underlying5
  a5 := Tryd.isAgg5
  z5 := Tryd.sizeOf5
  v5 := Tryd.zeroValue5
  t9 := Tryd.underlying9
  a9 := Tryd.isAgg9
  z9 := Tryd.sizeOf9
  v9 := Tryd.zeroValue9
  t46 := Tryd.underlying85
  a46 := Tryd.isAgg85
  z46 := Tryd.sizeOf85
  v46 := Tryd.zeroValue85
  t51 := Tryd.underlying124
  a51 := Tryd.isAgg124
  z51 := Tryd.sizeOf124
  v51 := Tryd.zeroValue124
  t146 := Tryd.underlying125
  a146 := Tryd.isAgg125
  z146 := Tryd.sizeOf125
  v146 := Tryd.zeroValue125
  g1 := by kernel_rfl }
end Go.Proofs
namespace Go.Proofs.YtjhadibjjldpdaaDoor
open Go.Shelf Go.RowKit
set_option linter.unusedVariables false
set_option maxRecDepth 100000
theorem sh_index {s : ByteArray} {c : UInt8} : FnC Tryd.prog 88 [] [.d (.v (.string s)), .d (.v (.string ⟨#[c]⟩))] [] (.d (.v (.int .i64 (Lib.indexByte s.data.toList c)))) :=
  fnc_of (v := .int .i64 (Lib.indexByte s.data.toList c)) (by kernel_rfl) rfl fun W => (Any.stringslite_Index_one Tryd.layLaysn219 s c W).mono (by rintro e w' ⟨rfl, rfl⟩; exact ⟨rfl, Below.refl _ _⟩)
end Go.Proofs.YtjhadibjjldpdaaDoor
namespace Go.Proofs.YtjhadibjjldpdaaDoor
open Go.RowKit
set_option linter.unusedVariables false
set_option maxRecDepth 100000

def Row (w : World) (A : Option Addr) (xs : List Value) : Prop :=
  xs = [] ∨ ∃ b off, A = some ⟨b, off, none⟩ ∧ ∀ j (h : j < xs.length), w.cell? ⟨b, off + j, none⟩ = some xs[j]

section
variable {w w' : World} {A : Option Addr} {xs : List Value}
theorem Row.at_ (h : Row w A xs) (hp : 0 < xs.length) : ∃ b off, A = some ⟨b, off, none⟩ ∧ b < w.heap.size ∧ ∀ j (h : j < xs.length), w.cell? ⟨b, off + j, none⟩ = some xs[j] := by
  rcases h with rfl | ⟨b, off, rfl, hc⟩
  · simp at hp
  · refine ⟨b, off, rfl, ?_, hc⟩
    have h0 := hc 0 hp
    rcases Nat.lt_or_ge b w.heap.size with hlt | hge
    · exact hlt
    · unfold World.cell? at h0
      simp [Array.getElem?_eq_none hge] at h0
theorem Row.keep (h : Row w A xs) (hk : ∀ b o, b < w.heap.size → w'.cell? ⟨b, o, none⟩ = w.cell? ⟨b, o, none⟩) : Row w' A xs := by
  rcases Nat.eq_zero_or_pos xs.length with h0 | h0
  · exact .inl (List.eq_nil_of_length_eq_zero h0)
  · obtain ⟨b, off, rfl, hb, hc⟩ := h.at_ h0
    exact .inr ⟨b, off, rfl, fun j hj => (hk _ _ hb).trans (hc j hj)⟩
end

def Blk (w : World) (g : Nat) (t : TypeId) (cs : Array Value) : Prop := w.heap[g]? = some (.cells cs t (0, 0))
section
variable {w w' : World} {g : Nat} {t : TypeId} {cs : Array Value}
theorem Blk.lt (h : Blk w g t cs) : g < w.heap.size := by
  rcases Nat.lt_or_ge g w.heap.size with hlt | hge
  · exact hlt
  · unfold Blk at h; rw [Array.getElem?_eq_none hge] at h; cases h
theorem Blk.cell (h : Blk w g t cs) (i : Nat) : w.cell? ⟨g, i, none⟩ = cs[i]? := cell_of_row w g i cs t (0, 0) h
theorem Blk.frozen (h : Blk w g t cs) (i : Nat) : w.frozen? ⟨g, i, none⟩ = false := by
  unfold Blk at h
  simp [World.frozen?, h]
theorem Blk.new (w : World) (t : TypeId) (cs : Array Value) : Blk (w.alloc (.cells cs t)) w.heap.size t cs := heap_alloc_new w _
theorem Blk.alloc (h : Blk w g t cs) (o : Obj) : Blk (w.alloc o) g t cs := (Below.heap_alloc w o g h.lt).trans h
theorem Blk.set_ (h : Blk w g t cs) (i : Nat) (u : Value) : Blk (w.setCell ⟨g, i, none⟩ u) g t (cs.setIfInBounds i u) := by
  unfold Blk at h ⊢
  simp [World.setCell, Array.getElem?_modify, h]
theorem Blk.far (h : Blk w g t cs) {p : Addr} (hp : g ≠ p.block) (u : Value) : Blk (w.setCell p u) g t cs := (Below.heap_setCell w p u g hp).trans h
theorem Blk.row (h : Blk w g t cs) : Row w (some ⟨g, 0, none⟩) cs.toList :=
  .inr ⟨g, 0, rfl, fun j hj => by rw [Nat.zero_add, h.cell, Array.getElem?_eq_getElem (by simpa using hj)]; simp⟩
end

section
variable {w w' : World} {base size n c : Nat} {e : TypeId} {A : Option Addr} {xs : List Value}
end
def putAt (cs : Array Value) (o : Nat) : List Value → Array Value
  | [] => cs
  | v :: vs => putAt (cs.setIfInBounds o v) (o + 1) vs
def putW (w : World) (g : Nat) (o : Nat) : List Value → World
  | [] => w
  | v :: vs => putW (w.setCell ⟨g, o, none⟩ v) g (o + 1) vs
theorem Blk.put {g : Nat} {t : TypeId} (vs : List Value) : ∀ {w : World} {cs : Array Value} (o : Nat), Blk w g t cs → Blk (putW w g o vs) g t (putAt cs o vs) := by
  induction vs with
  | nil => intro w cs o h; exact h
  | cons v vs ih => intro w cs o h; exact ih (o + 1) (h.set_ o v)
theorem cell_lt {w : World} {a : Addr} {v : Value} (h : w.cell? a = some v) : a.block < w.heap.size := by
  rcases Nat.lt_or_ge a.block w.heap.size with hlt | hge
  · exact hlt
  · unfold World.cell? at h
    simp [Array.getElem?_eq_none hge] at h
theorem kf {w w' : World} {a : Addr} {v : Value} {b : Bool} (hb : Below w.heap.size w w') (h : w.cell? a = some v) (hf : w.frozen? a = b) : w'.frozen? a = b := (hb.frozen (cell_lt h)).trans hf
end Go.Proofs.YtjhadibjjldpdaaDoor
namespace Go.Proofs.YtjhadibjjldpdaaDoor
open Go.Shelf Go.RowKit
set_option linter.unusedVariables false
set_option maxRecDepth 100000
theorem trim_c (s : ByteArray) (w : World) : Calls Tryd.prog 76 #[.string s, .string minusB] w fun e w' => e = .returned (.string (digitsOf s)) ∧ w' = w := Any.strings_TrimPrefix Tryd.layLaysn101 s minusB w
theorem dec_c {n : Int} (h0 : -9223372036854775808 ≤ n) (h1 : n ≤ 9223372036854775807) {w : World} (htab : Lib.TabIs Tryd.prog w "internal/strconv.uint64pow10" .u64 Lib.pow10Tab) :
    Calls Tryd.prog 57 #[.int .i64 n] w fun e w' => e = .returned (.string (decOf n)) ∧ Below w.heap.size w w' := by
  go_enter Tryd.func57, Tryd.ntmps57
  go_wp2_with (go_at_call 82; refine (Any.strconv_FormatInt_10 Tryd.layLaysMn173 n h0 h1 _ htab).mono ?_; rintro e w' ⟨rfl, k, os, rfl⟩)
  go_ret
  exact ⟨rfl, Lib.below_grow _ _ (Nat.le_refl _) _ _⟩
theorem errs {W : World} {F : Nat → Prop} (gl : Glob F W) : (∃ tp p, W.var? Tryd.prog "strconv.ErrSyntax" = some #[.iface tp p]) ∧ ∃ tp p, W.var? Tryd.prog "strconv.ErrRange" = some #[.iface tp p] := by
  have h1 : Tryd.prog.globalNamed "strconv.ErrSyntax" = some 1 := by kernel_rfl
  have h2 : Tryd.prog.globalNamed "strconv.ErrRange" = some 2 := by kernel_rfl
  obtain ⟨-, tp, p, t, f, e⟩ := gl (errG 1) (by simp [globs])
  obtain ⟨-, tp2, p2, t2, f2, e2⟩ := gl (errG 2) (by simp [globs])
  refine ⟨⟨tp, p, ?_⟩, tp2, p2, ?_⟩
  · unfold World.var?; rw [h1]; simp [e]
  · unfold World.var?; rw [h2]; simp [e2]
theorem parse_below {w w' : World} {t : TypeId} (h : w' = w ∨ ∃ l, w' = Lib.bytesWorld w t l) : Below w.heap.size w w' := by
  rcases h with rfl | ⟨l, rfl⟩
  · exact Below.refl _ _
  · exact Lib.bytesWorld_below _ _ _
theorem readDec {s : ByteArray} (hs : s.size ≤ 281474976710656) {W : World} {F : Nat → Prop} (gl : Glob F W) (hF : ∀ b, F b → b < W.heap.size) :
    Calls Tryd.prog 41 #[.string s] W fun e w' => e = .returned (.tuple #[.int .i64 (readD s).1, .bool (readD s).2]) ∧ Below W.heap.size W w' := by
  obtain ⟨⟨tp, p, v1⟩, tp2, p2, v2⟩ := errs gl
  by_cases hd : (digitsOf s).size < 1 ∨ 18 < (digitsOf s).size
  · have e : readD s = (0, false) := if_pos hd
    rw [e]
    go_enter Tryd.func41, Tryd.ntmps41
    go_wp2_with (go_at_call 76; refine (trim_c s _).mono ?_; rintro e w' ⟨rfl, rfl⟩)
    all_goals (refine bodyPost_ret (v := .tuple #[.int .i64 0, .bool false]) (by simp [results, Tryd.results41, go_sem]) rfl ?_)
    all_goals exact ⟨rfl, Below.refl _ _⟩
  · have e0 : readD s = _ := if_neg hd
    rcases hp : Lib.parseIntB 64 s.data.toList with n | _ | _
    · skip
      have hb := Lib.parseIntB_bounds hp
      rw [hp] at e0
      have go : ∀ r : Int × Bool, (if decOf n = s then (n, true) else (0, false)) = r → Calls Tryd.prog 41 #[.string s] W fun e w' => e = .returned (.tuple #[.int .i64 r.1, .bool r.2]) ∧ Below W.heap.size W w' := by
        intro r hr
        by_cases hq : decOf n = s
        · rw [if_pos hq] at hr
          subst hr
          go_enter Tryd.func41, Tryd.ntmps41
          go_wp2_with (first
            | (go_at_call 76; refine (trim_c s _).mono ?_; rintro e w' ⟨rfl, rfl⟩)
            | (go_at_call 77; refine (Any.strconv_ParseInt_10_at64_ok Tryd.layLaysCn174 s (by omega) n hp _).mono ?_; rintro e w1 ⟨rfl, hw⟩; have hb1 : Hid (Below _ _ w1) := parse_below hw; clear hw)
            | (go_at_call 57; refine (dec_c (n := n) (by omega) (by omega) (tab_here (gl.evo (fun b hb => hb1.out.block b (hF b hb)) (fun b h => h)))).mono ?_; rintro e w2 ⟨rfl, hb2⟩))
          refine bodyPost_ret (v := .tuple #[.int .i64 n, .bool true]) (by simp [results, Tryd.results41, go_sem]) rfl ?_
          exact ⟨rfl, hb1.out.trans (hb2.mono hb1.out.size)⟩
        · rw [if_neg hq] at hr
          subst hr
          go_enter Tryd.func41, Tryd.ntmps41
          go_wp2_with (first
            | (go_at_call 76; refine (trim_c s _).mono ?_; rintro e w' ⟨rfl, rfl⟩)
            | (go_at_call 77; refine (Any.strconv_ParseInt_10_at64_ok Tryd.layLaysCn174 s (by omega) n hp _).mono ?_; rintro e w1 ⟨rfl, hw⟩; have hb1 : Hid (Below _ _ w1) := parse_below hw; clear hw)
            | (go_at_call 57; refine (dec_c (n := n) (by omega) (by omega) (tab_here (gl.evo (fun b hb => hb1.out.block b (hF b hb)) (fun b h => h)))).mono ?_; rintro e w2 ⟨rfl, hb2⟩))
          · refine bodyPost_ret (v := .tuple #[.int .i64 0, .bool false]) (by simp [results, Tryd.results41, go_sem]) rfl ?_
            exact ⟨rfl, hb1.out.trans (hb2.mono hb1.out.size)⟩
          · exfalso
            rename_i hx
            refine hq ?_
            have hy : (decOf n).toList = s.toList := by simpa using hx
            rw [ByteArray.toList_eq, ByteArray.toList_eq] at hy
            exact ByteArray.ext (Array.toList_inj.1 hy)
      rw [e0]
      exact go _ rfl
    · skip
      rw [hp] at e0
      rw [e0]
      go_enter Tryd.func41, Tryd.ntmps41
      go_wp2_with (first
        | (go_at_call 76; refine (trim_c s _).mono ?_; rintro e w' ⟨rfl, rfl⟩)
        | (go_at_call 77; refine (Any.strconv_ParseInt_10_at64_syntax_var Tryd.layLaysCn174 s hs hp tp p _ v1).mono ?_; rintro e w1 ⟨N, rfl, -, -, hb⟩))
      refine bodyPost_ret (v := .tuple #[.int .i64 0, .bool false]) (by simp [results, Tryd.results41, go_sem]) rfl ?_
      exact ⟨rfl, hb⟩
    · skip
      rw [hp] at e0
      rw [e0]
      go_enter Tryd.func41, Tryd.ntmps41
      go_wp2_with (first
        | (go_at_call 76; refine (trim_c s _).mono ?_; rintro e w' ⟨rfl, rfl⟩)
        | (go_at_call 77; refine (Any.strconv_ParseInt_10_at64_range_var Tryd.layLaysCn174 s hs hp tp2 p2 _ v2).mono ?_; rintro e w1 ⟨N, rfl, -, -, hb⟩))
      refine bodyPost_ret (v := .tuple #[.int .i64 0, .bool false]) (by simp [results, Tryd.results41, go_sem]) rfl ?_
      exact ⟨rfl, hb⟩
theorem sh_read {s : ByteArray} (hs : s.size ≤ 281474976710656) : FnC Tryd.prog 41 [] [.d (.v (.string s))] [] (.tup [.d (.v (.int .i64 (readD s).1)), .d (.v (.bool (readD s).2))]) := by
  refine ⟨by kernel_rfl, fun w F μ us gl H hs' hr => ?_⟩
  obtain ⟨u0, rfl⟩ : ∃ u0, us = #[u0] := by
    obtain ⟨l⟩ := us
    match l, hs' with
    | [a], _ => exact ⟨a, rfl⟩
  have e1 : u0 = .string s := by
    have := hr 0 u0 _ rfl rfl
    cases this with | d _ _ hd => cases hd; rfl
  subst e1
  refine (readDec hs gl H.fz).mono ?_
  rintro e w' ⟨rfl, hb⟩
  refine ⟨_, F, μ, rfl, H.of_below hb, .tup _ _ rfl fun i v c h1 h2 => ?_⟩
  match i with
  | 0 => simp at h1 h2; subst h1 h2; exact .d _ _ (.v _ rfl)
  | 1 => simp at h1 h2; subst h1 h2; exact .d _ _ (.v _ rfl)
  | i + 2 => simp at h2
end Go.Proofs.YtjhadibjjldpdaaDoor
namespace Go.Proofs.YtjhadibjjldpdaaDoor
open Go.RowKit
set_option linter.unusedVariables false
set_option maxRecDepth 100000
set_option maxHeartbeats 2000000
theorem l_szInt64S_c {p0 : List Int} {p1 : Int} {r : Int} (h0 : l_szInt64S_m p0 p1 = some r) : FnC Tryd.prog 35 [] [.d (.sl (List.map cI p0)), .d (.v (.int .i64 p1))] [] (.d (.v (.int .i64 r))) := by
  refine fnc_intro (T := tt) (N := 12) tok Tryd.func35 rfl rfl (by kernel_rfl) rfl rfl ?_
  unfold l_szInt64S_m at h0
  refine sq [0] ?_
  refine pa ?_
  refine nx ?_
  refine sq [0,1,2,3,4] ?_
  refine pm ?_
  refine pm ?_
  refine rp rfl w0 rfl (pu_len_map tok rfl rfl rfl) ?_
  refine rp rfl w0 rfl (pw_sub rfl rfl) ?_
  refine pa ?_
  refine nx ?_
  refine aw_seq ?_
  refine sq [0,1] ?_
  refine pm ?_
  refine rp rfl w0 rfl (pu_lss rfl rfl) ?_
  refine nx ?_
  refine aw_if h0 rfl (fun hc h0 => ?_) (fun hc h0 => ?_)
  refine sq [0] ?_
  refine pa ?_
  refine nx ?_
  refine aw_ret ?_
  refine then_r ?_
  cases h0
  exact ret0_ (rs := [.tmp 4]) rfl
  refine sk ?_
  refine sq [0,1] ?_
  refine pm ?_
  refine pa ?_
  refine nx ?_
  refine aw_ret ?_
  cases h0
  exact ret0_ (rs := [.tmp 4]) rfl

theorem l_szDivider_c {p0 : Divider_} {p1 : Int} {r : Int} (h0 : l_szDivider_m p0 p1 = some r) : FnC Tryd.prog 6 [] [.agg [.d (.v (.int .i64 p0.Worm)), .d (.sl (List.map cI p0.Circles))], .d (.v (.int .i64 p1))] [] (.d (.v (.int .i64 r))) := by
  refine fnc_intro (T := tt) (N := 12) tok Tryd.func6 rfl rfl (by kernel_rfl) rfl rfl ?_
  unfold l_szDivider_m at h0
  refine sq [0,1] ?_
  refine rs rfl w0 rfl (st_box 3 (cs := _ :: _) rfl rfl rfl) ?_
  refine pa ?_
  refine nx ?_
  refine sq [0,1,2,3,4] ?_
  refine fa tok ?_
  refine ld tok ?_
  refine pm ?_
  obtain ⟨v1, hv1, h0⟩ := bnd h0
  refine rs rfl w0 rfl (c_call 4 (l_szInt64S_c hv1) rfl rfl rfl) ?_
  refine pa ?_
  refine nx ?_
  refine aw_seq ?_
  refine sq [0,1] ?_
  refine pm ?_
  refine rp rfl w0 rfl (pu_lss rfl rfl) ?_
  refine nx ?_
  refine aw_if h0 rfl (fun hc h0 => ?_) (fun hc h0 => ?_)
  refine sq [0] ?_
  refine pa ?_
  refine nx ?_
  refine aw_ret ?_
  refine then_r ?_
  cases h0
  exact ret0_ (rs := [.tmp 4]) rfl
  refine sk ?_
  refine sq [0,1] ?_
  refine pm ?_
  refine pa ?_
  refine nx ?_
  refine aw_ret ?_
  cases h0
  exact ret0_ (rs := [.tmp 4]) rfl

theorem l_toInt64S_c {p0 : List Int} {r : List Int} (h0 : l_toInt64S_m p0 = some r) : FnC Tryd.prog 39 [] [.d (.sl (List.map cI p0))] [.live [⟨2, 1, .data (List.map cI r)⟩]] (.own 0 0 r.length) := by
  refine fnc_intro (T := tt) (N := 22) tok Tryd.func39 rfl rfl (by kernel_rfl) rfl rfl ?_
  unfold l_toInt64S_m at h0
  refine sq [0] ?_
  refine pa ?_
  refine nx ?_
  refine sq [0,1,2,3] ?_
  refine pm ?_
  refine rp rfl w0 rfl (pu_len_map tok rfl rfl rfl) ?_
  obtain ⟨hq1, h0⟩ := chk_e h0
  refine rs rfl w0 rfl (mk_own 3 tok (c := cI) 0 hq1 rfl rfl rfl rfl rfl rfl rfl rfl rfl rfl rfl rfl rfl) ?_
  refine rp rfl w0 rfl (pu_assign (r := .own _ _ _) rfl) ?_
  refine nx ?_
  obtain ⟨v8, h1, h0⟩ := bnd h0
  refine aw_cut ⟨updA ((fun _ => .dead)) 3 (.own 3 0 (v8).length), lks [.no, .no, .no, .live [⟨2, 1, .data (List.map cI v8)⟩]]⟩ ?_ ?_
  refine sq [0] ?_
  refine pa ?_
  refine nx ?_
  refine aw_block ?_
  refine aw_loopM (fun s5 => ⟨updA (updA (updA ((fun _ => .dead)) 0 (.d (.sl (List.map cI p0)))) 3 (.own 3 0 (s5.2).length)) 4 (.d (.v (.int .i64 s5.1))), lks [.no, .no, .no, .live [⟨2, 1, .data (List.map cI s5.2)⟩]]⟩) h1 ?_ (fun s5 y h2 => ?_)
  exact wk [0, 1, 2, 3]
  refine aw_seq ?_
  refine sq [0,1,2,3] ?_
  refine pm ?_
  refine pm ?_
  refine rp rfl w0 rfl (pu_len_map tok rfl rfl rfl) ?_
  refine rp rfl w0 rfl (pu_lss rfl rfl) ?_
  refine nx ?_
  refine aw_if h2 rfl (fun hc h2 => ?_) (fun hc h2 => ?_)
  refine sk ?_
  refine aw_seq ?_
  refine aw_block ?_
  refine sr [0,1,2,3,4,5,6,7] ?_
  refine rp rfl w0 rfl (pu_move (r := .own _ _ _) rfl) ?_
  iterate 3 refine pm ?_
  obtain ⟨v6, hv6, h2⟩ := bnd h2
  refine rp rfl w0 rfl (sl_ix tok hv6 rfl rfl rfl rfl rfl rfl) ?_
  refine lr tok ?_
  obtain ⟨v7, hv7, h2⟩ := bnd h2
  refine rl rfl w0 rfl (ow_ix tok hv7 rfl rfl rfl rfl rfl rfl rfl rfl) ?_
  refine rw0 rfl w0 (rw_st (cs := [.d _]) tok v6 (atI_e hv7).2.1 rfl rfl rfl rfl rfl rfl rfl rfl) ?_
  refine ra_nil ?_
  refine block_n ?_
  refine then_n ?_
  refine sr [0,1,2] ?_
  refine pm ?_
  refine rp rfl w0 rfl (pw_add rfl rfl) ?_
  refine pa ?_
  refine ra_nil ?_
  refine loop_n ?_
  cases h2
  refine ⟨_, rfl, ?_⟩
  exact wk [0, 1, 2, 3]
  refine aw_exit ?_
  refine then_e ?_
  cases h2
  refine loop_x ⟨_, rfl, fun e => ?_⟩
  subst e
  refine block_hit ?_
  refine then_n ?_
  exact wk [0, 1, 2, 3]
  refine sq [0,1] ?_
  refine rp rfl w0 rfl (pu_move (r := .own _ _ _) rfl) ?_
  refine rp rfl w0 rfl (pu_assign (r := .own _ _ _) rfl) ?_
  refine nx ?_
  refine aw_ret ?_
  cases h0
  exact retK_ (rs := [.tmp 2]) [3] rfl

theorem l_toDivider_c {p0 : Divider_} {r : Divider_} (h0 : l_toDivider_m p0 = some r) : FnC Tryd.prog 8 [] [.agg [.d (.v (.int .i64 p0.Worm)), .d (.sl (List.map cI p0.Circles))]] [.live [⟨2, 1, .data (List.map cI r.Circles)⟩]] (.agg [.d (.v (.int .i64 r.Worm)), .own 0 0 r.Circles.length]) := by
  refine fnc_intro (T := tt) (N := 12) tok Tryd.func8 rfl rfl (by kernel_rfl) rfl rfl ?_
  unfold l_toDivider_m at h0
  refine sq [0,1] ?_
  refine rs rfl w0 rfl (st_box 3 (cs := _ :: _) rfl rfl rfl) ?_
  refine rs rfl w0 rfl (st_alloc 4 (cs := [.d (.v (.int .i64 0)), .d (.v (.slice none 0 0))]) tok rfl rfl rfl) ?_
  refine nx ?_
  refine sq [0] ?_
  refine rs rfl w0 rfl (st_alloc 5 (cs := [.d (.v (.int .i64 0)), .d (.v (.slice none 0 0))]) tok rfl rfl rfl) ?_
  refine nx ?_
  refine sq [0,1,2,3] ?_
  refine fa tok ?_
  refine ld tok ?_
  refine fa tok ?_
  refine rw0 rfl w0 (bx_st (cs := [.d _]) tok rfl rfl rfl rfl rfl rfl rfl) ?_
  refine nx ?_
  refine sq [0,1,2,3,4] ?_
  refine fa tok ?_
  refine ld tok ?_
  obtain ⟨v1, hv1, h0⟩ := bnd h0
  refine rs rfl w0 rfl (c_call 6 (l_toInt64S_c hv1) rfl rfl rfl) ?_
  refine fa tok ?_
  refine rw0 rfl w0 (bx_st (cs := [.own _ _ _]) tok rfl rfl rfl rfl rfl rfl rfl) ?_
  refine nx ?_
  refine sq [0,1] ?_
  refine rl rfl w0 rfl (bx_ldN tok rfl rfl rfl rfl) ?_
  refine rw0 rfl w0 (bx_st (cs := _ :: _) tok rfl rfl rfl rfl rfl rfl rfl) ?_
  refine nx ?_
  refine aw_ret ?_
  cases h0
  exact retK_ (rs := [.cell 2 30]) [6] rfl

theorem s_l01Split_c {p0 : ByteArray} {p1 : Int} {r : List ByteArray} (h0 : s_l01Split_m p0 p1 = some r) : FnC Tryd.prog 36 [] [.d (.v (.string p0)), .d (.v (.int .u8 p1))] [.live [⟨9, 1, .data (List.map cS r)⟩]] (.own 0 0 r.length) := by
  refine fnc_intro (T := tt) (N := 35) tok Tryd.func36 rfl rfl (by kernel_rfl) rfl rfl ?_
  unfold s_l01Split_m at h0
  refine sq [0] ?_
  refine pa ?_
  refine nx ?_
  refine sq [0,1] ?_
  refine rs rfl w0 rfl (st_slice0 3 tok rfl rfl rfl rfl) ?_
  refine rp rfl w0 rfl (pu_assign (r := .own _ _ _) rfl) ?_
  refine nx ?_
  refine sq [0] ?_
  refine pa ?_
  refine nx ?_
  obtain ⟨v11, h1, h0⟩ := bnd h0
  refine aw_cut ⟨updA (updA (updA ((fun _ => .dead)) 0 (.d (.v (.string p0)))) 5 (.own 3 0 (v11.2).length)) 6 (.d (.v (.int .i64 v11.1))), lks [.no, .no, .no, .live [⟨9, 1, .data (List.map cS v11.2)⟩]]⟩ ?_ ?_
  refine sq [0] ?_
  refine pa ?_
  refine nx ?_
  refine aw_block ?_
  refine aw_loopM (fun s6 => ⟨updA (updA (updA (updA (updA ((fun _ => .dead)) 0 (.d (.v (.string p0)))) 1 (.d (.v (.int .u8 p1)))) 5 (.own 3 0 (s6.2.2).length)) 6 (.d (.v (.int .i64 s6.1)))) 7 (.d (.v (.int .i64 s6.2.1))), lks [.no, .no, .no, .live [⟨9, 1, .data (List.map cS s6.2.2)⟩]]⟩) h1 ?_ (fun s6 y h2 => ?_)
  exact wk [0, 1, 2, 3]
  refine aw_seq ?_
  refine sq [0,1,2,3] ?_
  refine pm ?_
  refine pm ?_
  refine rp rfl w0 rfl (pu_len_str tok rfl rfl rfl) ?_
  refine rp rfl w0 rfl (pu_lss rfl rfl) ?_
  refine nx ?_
  refine aw_if h2 rfl (fun hc h2 => ?_) (fun hc h2 => ?_)
  refine sk ?_
  obtain ⟨v10, h3, h2⟩ := bnd h2
  refine aw_cut ⟨updA (updA (updA (updA (updA ((fun _ => .dead)) 0 (.d (.v (.string p0)))) 1 (.d (.v (.int .u8 p1)))) 5 (.own 3 0 (v10.2).length)) 6 (.d (.v (.int .i64 v10.1)))) 7 (.d (.v (.int .i64 s6.2.1))), lks [.no, .no, .no, .live [⟨9, 1, .data (List.map cS v10.2)⟩]]⟩ ?_ ?_
  refine aw_block ?_
  refine sq [0,1,2,3,4] ?_
  refine pm ?_
  refine pm ?_
  obtain ⟨v7, hv7, h3⟩ := bnd h3
  refine rp rfl w0 rfl (pu_sidx tok hv7 rfl rfl rfl rfl) ?_
  refine pm ?_
  refine rp rfl w0 rfl (pu_eql rfl rfl) ?_
  refine nx ?_
  refine aw_if h3 rfl (fun hc h3 => ?_) (fun hc h3 => ?_)
  refine sq [0,1,2,3,4,5,6,7] ?_
  refine rp rfl w0 rfl (pu_move (r := .own _ _ _) rfl) ?_
  iterate 3 refine pm ?_
  obtain ⟨hq8, h3⟩ := chk_e h3
  refine rp rfl w0 rfl (pu_ssub tok hq8 rfl (.inr ⟨_, _, rfl, rfl⟩) (.inr ⟨_, _, rfl, rfl⟩) rfl rfl) ?_
  refine rs rfl w0 rfl (bs_val tok cS [p0.extract s6.1.toNat s6.2.1.toNat] rfl rfl rfl (by repeat (first | exact Els.nil _ | apply Els.cons (cs := [.d _]) rfl rfl rfl | apply Els.cons (cs := _ :: _) rfl rfl rfl)) rfl rfl rfl (by repeat (first | exact AllDD.nil | (apply AllDD.cons; (repeat (first | exact AllD.nil | apply AllD.cons))))) rfl) ?_
  obtain ⟨hq9, h3⟩ := chk_e h3
  refine rw1 rfl w0 rfl (ap_own tok hq9 rfl rfl rfl rfl rfl rfl rfl rfl rfl rfl rfl rfl (fun _ => rfl)) ?_
  refine rp rfl w0 rfl (pu_assign (r := .own _ _ _) rfl) ?_
  refine nx ?_
  refine sr [0,1,2] ?_
  refine pm ?_
  refine rp rfl w0 rfl (pw_add rfl rfl) ?_
  refine pa ?_
  refine ra_nil ?_
  refine block_n ?_
  refine then_n ?_
  cases h3
  exact wk [0, 1, 2, 3]
  refine aw_skip ?_
  refine block_n ?_
  refine then_n ?_
  cases h3
  exact wk [0, 1, 2, 3]
  refine sr [0,1,2] ?_
  refine pm ?_
  refine rp rfl w0 rfl (pw_add rfl rfl) ?_
  refine pa ?_
  refine ra_nil ?_
  refine loop_n ?_
  cases h2
  refine ⟨_, rfl, ?_⟩
  exact wk [0, 1, 2, 3]
  refine aw_exit ?_
  refine then_e ?_
  cases h2
  refine loop_x ⟨_, rfl, fun e => ?_⟩
  subst e
  refine block_hit ?_
  refine then_n ?_
  exact wk [0, 1, 2, 3]
  refine sq [0,1,2,3,4,5,6] ?_
  refine rp rfl w0 rfl (pu_move (r := .own _ _ _) rfl) ?_
  refine pm ?_
  refine pm ?_
  obtain ⟨hq12, h0⟩ := chk_e h0
  refine rp rfl w0 rfl (pu_ssub tok hq12 rfl (.inr ⟨_, _, rfl, rfl⟩) (.inl ⟨rfl, rfl⟩) rfl rfl) ?_
  refine rs rfl w0 rfl (bs_val tok cS [p0.extract v11.1.toNat (p0.size : Int).toNat] rfl rfl rfl (by repeat (first | exact Els.nil _ | apply Els.cons (cs := [.d _]) rfl rfl rfl | apply Els.cons (cs := _ :: _) rfl rfl rfl)) rfl rfl rfl (by repeat (first | exact AllDD.nil | (apply AllDD.cons; (repeat (first | exact AllD.nil | apply AllD.cons))))) rfl) ?_
  obtain ⟨hq13, h0⟩ := chk_e h0
  refine rw1 rfl w0 rfl (ap_own tok hq13 rfl rfl rfl rfl rfl rfl rfl rfl rfl rfl rfl rfl (fun _ => rfl)) ?_
  refine rp rfl w0 rfl (pu_assign (r := .own _ _ _) rfl) ?_
  refine nx ?_
  refine aw_ret ?_
  cases h0
  exact retK_ (rs := [.tmp 4]) [3] rfl

theorem s_l01Digit_c {p0 : Int} {r : Bool} (h0 : s_l01Digit_m p0 = some r) : FnC Tryd.prog 72 [] [.d (.v (.int .u8 p0))] [] (.d (.v (.bool r))) := by
  refine fnc_intro (T := tt) (N := 9) tok Tryd.func72 rfl rfl (by kernel_rfl) rfl rfl ?_
  unfold s_l01Digit_m at h0
  refine sq [0] ?_
  refine pa ?_
  refine nx ?_
  refine sq [0,1,2,3,4,5,6] ?_
  refine pm ?_
  refine rp rfl w0 rfl (pu_geq rfl rfl) ?_
  refine pm ?_
  refine ra_if (u := 5) h0 rfl (fun hc h0 => ?_) (fun hc h0 => ?_)
  refine pm1 ?_
  refine rp rfl (w1 rfl rfl rfl) rfl (pu_leq rfl rfl) ?_
  refine pkt ?_
  refine pa ?_
  refine nx ?_
  refine aw_ret ?_
  cases h0
  exact ret0_ (rs := [.tmp 2]) rfl
  refine k1 ?_
  refine k1 ?_
  refine pkf ?_
  refine pa ?_
  refine nx ?_
  refine aw_ret ?_
  cases h0
  exact ret0_ (rs := [.tmp 2]) rfl

theorem s_l01Dec_c {p0 : Int} {r : ByteArray} (h0 : s_l01Dec_m p0 = some r) : FnC Tryd.prog 73 [] [.d (.v (.int .i64 p0))] [] (.d (.v (.string r))) := by
  refine fnc_intro (T := tt) (N := 34) tok Tryd.func73 rfl rfl (by kernel_rfl) rfl rfl ?_
  unfold s_l01Dec_m at h0
  refine sq [0] ?_
  refine pa ?_
  refine nx ?_
  refine sq [0,1] ?_
  refine rs rfl w0 rfl (st_slice0 3 tok rfl rfl rfl rfl) ?_
  refine rp rfl w0 rfl (pu_assign (r := .own _ _ _) rfl) ?_
  refine nx ?_
  obtain ⟨v11, h1, h0⟩ := bnd h0
  refine aw_cut ⟨updA (updA ((fun _ => .dead)) 0 (.d (.v (.int .i64 p0)))) 3 (.own 3 0 (v11).length), lks [.no, .no, .no, .live [⟨5, 1, .data (List.map cU8 v11)⟩]]⟩ ?_ ?_
  refine sq [0,1] ?_
  refine pm ?_
  refine pa ?_
  refine nx ?_
  refine aw_block ?_
  refine aw_loopM (fun s6 => ⟨updA (updA (updA ((fun _ => .dead)) 0 (.d (.v (.int .i64 p0)))) 3 (.own 3 0 (s6.2).length)) 4 (.d (.v (.int .i64 s6.1))), lks [.no, .no, .no, .live [⟨5, 1, .data (List.map cU8 s6.2)⟩]]⟩) h1 ?_ (fun s6 y h2 => ?_)
  exact wk [0, 1, 2, 3]
  refine aw_seq ?_
  refine sq [0,1] ?_
  refine pm ?_
  refine rp rfl w0 rfl (pu_neq rfl rfl) ?_
  refine nx ?_
  refine aw_if h2 rfl (fun hc h2 => ?_) (fun hc h2 => ?_)
  refine sk ?_
  refine aw_seq ?_
  refine aw_block ?_
  refine sq [0,1,2] ?_
  refine pm ?_
  refine rp rfl w0 rfl (pu_remw rfl rfl (by decide)) ?_
  refine pa ?_
  refine nx ?_
  obtain ⟨v8, h3, h2⟩ := bnd h2
  refine aw_cut ⟨updA (updA (updA (updA ((fun _ => .dead)) 0 (.d (.v (.int .i64 p0)))) 3 (.own 3 0 (s6.2).length)) 4 (.d (.v (.int .i64 s6.1)))) 5 (.d (.v (.int .i64 v8))), lks [.no, .no, .no, .live [⟨5, 1, .data (List.map cU8 s6.2)⟩]]⟩ ?_ ?_
  refine sq [0,1] ?_
  refine pm ?_
  refine rp rfl w0 rfl (pu_lss rfl rfl) ?_
  refine nx ?_
  refine aw_if h3 rfl (fun hc h3 => ?_) (fun hc h3 => ?_)
  refine sr [0,1,2] ?_
  refine pm ?_
  refine rp rfl w0 rfl (pw_neg rfl) ?_
  refine pa ?_
  refine nx ?_
  cases h3
  exact wk [0, 1, 2, 3]
  refine sk ?_
  cases h3
  exact wk [0, 1, 2, 3]
  refine sr [0,1,2,3,4,5,6] ?_
  refine pm ?_
  refine rp rfl w0 rfl (pw_add rfl rfl) ?_
  refine rp rfl w0 rfl (pu_ii tok rfl rfl rfl rfl rfl) ?_
  refine rs rfl w0 rfl (bs_own 4 tok cU8 [IntKind.u8.wrap (w64 (48 + v8))] rfl rfl rfl (by repeat (first | exact Els.nil _ | apply Els.cons (cs := [.d _]) rfl rfl rfl | apply Els.cons (cs := _ :: _) rfl rfl rfl)) rfl rfl rfl (by repeat (first | exact AllDD.nil | (apply AllDD.cons; (repeat (first | exact AllD.nil | apply AllD.cons))))) rfl rfl) ?_
  refine rp rfl w0 rfl (pu_move (r := .own _ _ _) rfl) ?_
  obtain ⟨hq9, h2⟩ := chk_e h2
  refine rw1 rfl w0 rfl (ap_oo tok hq9 rfl rfl rfl rfl rfl rfl rfl rfl rfl rfl rfl rfl rfl rfl rfl) ?_
  refine rp rfl w0 rfl (pu_assign (r := .own _ _ _) rfl) ?_
  refine ra_nil ?_
  refine block_n ?_
  refine then_n ?_
  refine sr [0,1,2] ?_
  refine pm ?_
  refine rp rfl w0 rfl (pw_quo rfl rfl (by decide)) ?_
  refine pa ?_
  refine ra_nil ?_
  refine loop_n ?_
  cases h2
  refine ⟨_, rfl, ?_⟩
  exact wk [0, 1, 2, 4]
  refine aw_exit ?_
  refine then_e ?_
  cases h2
  refine loop_x ⟨_, rfl, fun e => ?_⟩
  subst e
  refine block_hit ?_
  refine then_n ?_
  exact wk [0, 1, 2, 3]
  refine aw_seq ?_
  refine sq [0,1,2] ?_
  refine rp rfl w0 rfl (pu_move (r := .own _ _ _) rfl) ?_
  refine rl rfl w0 rfl (ow_len tok rfl rfl rfl rfl rfl) ?_
  refine rp rfl w0 rfl (pu_eql rfl rfl) ?_
  refine nx ?_
  refine aw_if h0 rfl (fun hc h0 => ?_) (fun hc h0 => ?_)
  refine sq [0] ?_
  refine pa ?_
  refine nx ?_
  refine aw_ret ?_
  refine then_r ?_
  cases h0
  exact ret0_ (rs := [.tmp 2]) rfl
  refine sk ?_
  refine aw_seq ?_
  refine sq [0,1] ?_
  refine pm ?_
  refine rp rfl w0 rfl (pu_lss rfl rfl) ?_
  refine nx ?_
  refine aw_if h0 rfl (fun hc h0 => ?_) (fun hc h0 => ?_)
  refine sq [0,1,2,3] ?_
  refine rp rfl w0 rfl (pu_move (r := .own _ _ _) rfl) ?_
  refine rs rfl w0 rfl (cv_bo tok rfl rfl rfl rfl rfl rfl rfl rfl rfl rfl) ?_
  obtain ⟨hq12, h0⟩ := chk_e h0
  refine rp rfl w0 rfl (pu_cat rfl rfl hq12) ?_
  refine pa ?_
  refine nx ?_
  refine aw_ret ?_
  refine then_r ?_
  cases h0
  exact ret0_ (rs := [.tmp 2]) rfl
  refine sk ?_
  refine sq [0,1,2] ?_
  refine rp rfl w0 rfl (pu_move (r := .own _ _ _) rfl) ?_
  refine rs rfl w0 rfl (cv_bo tok rfl rfl rfl rfl rfl rfl rfl rfl rfl rfl) ?_
  refine pa ?_
  refine nx ?_
  refine aw_ret ?_
  cases h0
  exact ret0_ (rs := [.tmp 2]) rfl

theorem s_l01Number_c {p0 : ByteArray} {r : Int × Bool} (h0 : s_l01Number_m p0 = some r) : FnC Tryd.prog 37 [] [.d (.v (.string p0))] [] (.tup [.d (.v (.int .i64 r.1)), .d (.v (.bool r.2))]) := by
  refine fnc_intro (T := tt) (N := 56) tok Tryd.func37 rfl rfl (by kernel_rfl) rfl rfl ?_
  unfold s_l01Number_m at h0
  refine sq [0,1] ?_
  refine pa ?_
  refine pa ?_
  refine nx ?_
  refine sq [0,1] ?_
  refine pm ?_
  refine pa ?_
  refine nx ?_
  obtain ⟨v4, h1, h0⟩ := bnd h0
  refine aw_cut ⟨updA (updA ((fun _ => .dead)) 0 (.d (.v (.string p0)))) 4 (.d (.v (.string v4))), lks [.no, .no, .no]⟩ ?_ ?_
  obtain ⟨v2, h2, h1⟩ := bnd h1
  refine aw_cut ⟨updA (updA (updA ((fun _ => .dead)) 0 (.d (.v (.string p0)))) 4 (.d (.v (.string p0)))) 14 (.d (.v (.bool v2))), lks [.no, .no, .no]⟩ ?_ ?_
  refine sr [0,1,2,3,4,5,6] ?_
  refine pm ?_
  refine rp rfl w0 rfl (pu_sneq rfl rfl) ?_
  refine pm ?_
  refine ra_if (u := 10) h2 rfl (fun hc h2 => ?_) (fun hc h2 => ?_)
  refine pm1 ?_
  obtain ⟨v1, hv1, h2⟩ := bnd h2
  refine rp rfl (w1 rfl rfl rfl) rfl (pu_sidx tok hv1 rfl rfl rfl rfl) ?_
  refine rp rfl (w1 rfl rfl rfl) rfl (pu_eql rfl rfl) ?_
  refine pkt ?_
  refine nx ?_
  cases h2
  exact wk [0, 1, 2]
  iterate 3 refine k1 ?_
  refine pkf ?_
  refine nx ?_
  cases h2
  exact wk [0, 1, 2]
  refine aw_ifB h1 rfl (fun hc h1 => ?_) (fun hc h1 => ?_)
  refine sr [0,1,2] ?_
  refine pm ?_
  obtain ⟨hq3, h1⟩ := chk_e h1
  refine rp rfl w0 rfl (pu_ssub tok hq3 rfl (.inr ⟨_, _, rfl, rfl⟩) (.inl ⟨rfl, rfl⟩) rfl rfl) ?_
  refine pa ?_
  refine nx ?_
  cases h1
  exact wk [0, 1, 2]
  refine sk ?_
  cases h1
  exact wk [0, 1, 2]
  refine aw_seq ?_
  obtain ⟨v5, h1, h0⟩ := bnd h0
  refine aw_cut ⟨updA (updA (updA ((fun _ => .dead)) 0 (.d (.v (.string p0)))) 4 (.d (.v (.string v4)))) 24 (.d (.v (.bool v5))), lks [.no, .no, .no]⟩ ?_ ?_
  refine sr [0,1,2,3,4,5,6,7] ?_
  refine pm ?_
  refine rp rfl w0 rfl (pu_len_str tok rfl rfl rfl) ?_
  refine rp rfl w0 rfl (pu_lss rfl rfl) ?_
  refine pm ?_
  refine ra_if (u := 20) h1 rfl (fun hc h1 => ?_) (fun hc h1 => ?_)
  iterate 3 refine k1 ?_
  refine pkt ?_
  refine nx ?_
  cases h1
  exact wk [0, 1, 2]
  refine pm1 ?_
  refine rp rfl (w1 rfl rfl rfl) rfl (pu_len_str tok rfl rfl rfl) ?_
  refine rp rfl (w1 rfl rfl rfl) rfl (pu_gtr rfl rfl) ?_
  refine pkf ?_
  refine nx ?_
  cases h1
  exact wk [0, 1, 2]
  refine aw_ifB h0 rfl (fun hc h0 => ?_) (fun hc h0 => ?_)
  refine sq [0,1] ?_
  refine pa ?_
  refine pa ?_
  refine nx ?_
  refine aw_ret ?_
  refine then_r ?_
  cases h0
  exact ret0_ (rs := [.tmp 2, .tmp 3]) rfl
  refine sk ?_
  refine sq [0] ?_
  refine pa ?_
  refine nx ?_
  obtain ⟨v14x, h1, h0⟩ := bnd h0
  refine aw_cutE v14x (fun v14 => ⟨updA (updA (updA ((fun _ => .dead)) 0 (.d (.v (.string p0)))) 4 (.d (.v (.string v4)))) 5 (.d (.v (.int .i64 v14))), lks [.no, .no, .no]⟩) ?_ ?_
  refine sq [0] ?_
  refine pa ?_
  refine nx ?_
  refine aw_block ?_
  refine aw_loopM (fun s10 => ⟨updA (updA (updA (updA ((fun _ => .dead)) 0 (.d (.v (.string p0)))) 4 (.d (.v (.string v4)))) 5 (.d (.v (.int .i64 s10.1)))) 6 (.d (.v (.int .i64 s10.2))), lks [.no, .no, .no]⟩) h1 ?_ (fun s10 y h2 => ?_)
  exact wk [0, 1, 2]
  refine aw_seq ?_
  refine sq [0,1,2,3] ?_
  refine pm ?_
  refine pm ?_
  refine rp rfl w0 rfl (pu_len_str tok rfl rfl rfl) ?_
  refine rp rfl w0 rfl (pu_lss rfl rfl) ?_
  refine nx ?_
  refine aw_if h2 rfl (fun hc h2 => ?_) (fun hc h2 => ?_)
  refine sk ?_
  refine aw_seq ?_
  refine aw_block ?_
  refine aw_seq ?_
  refine sq [0,1,2,3,4] ?_
  refine pm ?_
  refine pm ?_
  obtain ⟨v11, hv11, h2⟩ := bnd h2
  refine rp rfl w0 rfl (pu_sidx tok hv11 rfl rfl rfl rfl) ?_
  obtain ⟨v12, hv12, h2⟩ := bnd h2
  refine rs rfl w0 rfl (c_call 3 (s_l01Digit_c hv12) rfl rfl rfl) ?_
  refine rp rfl w0 rfl (pu_not rfl) ?_
  refine nx ?_
  refine aw_ifB h2 rfl (fun hc h2 => ?_) (fun hc h2 => ?_)
  refine sq [0,1] ?_
  refine pa ?_
  refine pa ?_
  refine nx ?_
  refine aw_ret ?_
  refine then_r ?_
  refine block_r ?_
  refine then_r ?_
  cases h2
  refine loop_r ⟨_, rfl, fun e => ?_⟩
  subst e
  refine block_r ?_
  replace h0 := orE_s h0
  refine then_r ?_
  cases h0
  exact ret0_ (rs := [.tmp 2, .tmp 3]) rfl
  refine sk ?_
  refine sr [0,1,2,3,4,5,6,7,8] ?_
  refine pm ?_
  refine rp rfl w0 rfl (pw_mul rfl rfl) ?_
  refine pm ?_
  refine pm ?_
  obtain ⟨v13, hv13, h2⟩ := bnd h2
  refine rp rfl w0 rfl (pu_sidx tok hv13 rfl rfl rfl rfl) ?_
  refine rp rfl w0 rfl (pu_subw rfl rfl) ?_
  refine rp rfl w0 rfl (pw_cv tok rfl rfl rfl rfl rfl) ?_
  refine rp rfl w0 rfl (pw_add rfl rfl) ?_
  refine pa ?_
  refine ra_nil ?_
  refine block_n ?_
  refine then_n ?_
  refine sr [0,1,2] ?_
  refine pm ?_
  refine rp rfl w0 rfl (pw_add rfl rfl) ?_
  refine pa ?_
  refine ra_nil ?_
  refine loop_n ?_
  cases h2
  refine ⟨_, rfl, ?_⟩
  exact wk [0, 1, 2]
  refine aw_exit ?_
  refine then_e ?_
  cases h2
  refine loop_x ⟨_, rfl, fun e => ?_⟩
  subst e
  refine block_hit ?_
  refine then_n ?_
  refine ⟨_, rfl, ?_⟩
  exact wk [0, 1, 2]
  rintro v14 rfl
  replace h0 := orE_f h0
  obtain ⟨v15, h1, h0⟩ := bnd h0
  refine aw_cut ⟨updA (updA ((fun _ => .dead)) 0 (.d (.v (.string p0)))) 5 (.d (.v (.int .i64 v15))), lks [.no, .no, .no]⟩ ?_ ?_
  refine sq [0,1,2,3,4] ?_
  refine pm ?_
  refine rp rfl w0 rfl (pu_len_str tok rfl rfl rfl) ?_
  refine pm ?_
  refine rp rfl w0 rfl (pu_len_str tok rfl rfl rfl) ?_
  refine rp rfl w0 rfl (pu_lss rfl rfl) ?_
  refine nx ?_
  refine aw_if h1 rfl (fun hc h1 => ?_) (fun hc h1 => ?_)
  refine sr [0,1,2] ?_
  refine pm ?_
  refine rp rfl w0 rfl (pw_neg rfl) ?_
  refine pa ?_
  refine nx ?_
  cases h1
  exact wk [0, 1, 2]
  refine sk ?_
  cases h1
  exact wk [0, 1, 2]
  refine aw_seq ?_
  refine sq [0,1,2,3] ?_
  refine pm ?_
  obtain ⟨v16, hv16, h0⟩ := bnd h0
  refine rs rfl w0 rfl (c_call 3 (s_l01Dec_c hv16) rfl rfl rfl) ?_
  refine pm ?_
  refine rp rfl w0 rfl (pu_sneq rfl rfl) ?_
  refine nx ?_
  refine aw_if h0 rfl (fun hc h0 => ?_) (fun hc h0 => ?_)
  refine sq [0,1] ?_
  refine pa ?_
  refine pa ?_
  refine nx ?_
  refine aw_ret ?_
  refine then_r ?_
  cases h0
  exact ret0_ (rs := [.tmp 2, .tmp 3]) rfl
  refine sk ?_
  refine sq [0,1,2] ?_
  refine pm ?_
  refine pa ?_
  refine pa ?_
  refine nx ?_
  refine aw_ret ?_
  cases h0
  exact ret0_ (rs := [.tmp 2, .tmp 3]) rfl

theorem s_l00In_c {p0 : Int} {p1 : Int} {p2 : Int} {r : Bool} (h0 : s_l00In_m p0 p1 p2 = some r) : FnC Tryd.prog 51 [] [.d (.v (.int .i64 p0)), .d (.v (.int .i64 p1)), .d (.v (.int .i64 p2))] [] (.d (.v (.bool r))) := by
  refine fnc_intro (T := tt) (N := 15) tok Tryd.func51 rfl rfl (by kernel_rfl) rfl rfl ?_
  unfold s_l00In_m at h0
  refine sq [0] ?_
  refine pa ?_
  refine nx ?_
  refine sq [0,1,2,3,4,5,6,7,8] ?_
  refine pm ?_
  refine pm ?_
  refine rp rfl w0 rfl (pu_geq rfl rfl) ?_
  refine pm ?_
  refine ra_if (u := 10) h0 rfl (fun hc h0 => ?_) (fun hc h0 => ?_)
  refine pm1 ?_
  refine pm1 ?_
  refine rp rfl (w1 rfl rfl rfl) rfl (pu_leq rfl rfl) ?_
  refine pkt ?_
  refine pa ?_
  refine nx ?_
  refine aw_ret ?_
  cases h0
  exact ret0_ (rs := [.tmp 6]) rfl
  iterate 3 refine k1 ?_
  refine pkf ?_
  refine pa ?_
  refine nx ?_
  refine aw_ret ?_
  cases h0
  exact ret0_ (rs := [.tmp 6]) rfl

theorem s_l00Rises_c {p0 : List Int} {p1 : Int} {p2 : Int} {r : Bool} (h0 : s_l00Rises_m p0 p1 p2 = some r) : FnC Tryd.prog 86 [] [.d (.sl (List.map cI p0)), .d (.v (.int .i64 p1)), .d (.v (.int .i64 p2))] [] (.d (.v (.bool r))) := by
  refine fnc_intro (T := tt) (N := 38) tok Tryd.func86 rfl rfl (by kernel_rfl) rfl rfl ?_
  unfold s_l00Rises_m at h0
  refine sq [0] ?_
  refine pa ?_
  refine nx ?_
  obtain ⟨v13x, h1, h0⟩ := bnd h0
  refine aw_cutE v13x (fun v13 => ⟨(fun _ => .dead), lks [.no, .no, .no]⟩) ?_ ?_
  refine sq [0] ?_
  refine pa ?_
  refine nx ?_
  refine aw_block ?_
  refine aw_loopM (fun s7 => ⟨updA (updA (updA (updA ((fun _ => .dead)) 0 (.d (.sl (List.map cI p0)))) 1 (.d (.v (.int .i64 p1)))) 2 (.d (.v (.int .i64 p2)))) 7 (.d (.v (.int .i64 s7))), lks [.no, .no, .no]⟩) h1 ?_ (fun s7 y h2 => ?_)
  exact wk [0, 1, 2]
  refine aw_seq ?_
  refine sq [0,1,2,3] ?_
  refine pm ?_
  refine pm ?_
  refine rp rfl w0 rfl (pu_len_map tok rfl rfl rfl) ?_
  refine rp rfl w0 rfl (pu_lss rfl rfl) ?_
  refine nx ?_
  refine aw_if h2 rfl (fun hc h2 => ?_) (fun hc h2 => ?_)
  refine sk ?_
  refine aw_seq ?_
  refine aw_block ?_
  obtain ⟨v12, h3, h2⟩ := bnd h2
  refine aw_cut ⟨updA (updA (updA (updA (updA ((fun _ => .dead)) 0 (.d (.sl (List.map cI p0)))) 1 (.d (.v (.int .i64 p1)))) 2 (.d (.v (.int .i64 p2)))) 7 (.d (.v (.int .i64 s7)))) 37 (.d (.v (.bool v12))), lks [.no, .no, .no]⟩ ?_ ?_
  refine aw_region_draw (is := [0, 1, 2, 3, 4, 5, 6, 7, 8, 9, 10, 11, 12, 13, 14, 15, 16, 17, 18, 19, 20, 21, 22, 23]) [0, 0, 3, 7, 0, 0, 63, 127, 255, 511, 1023, 2047, 4095, 4095, 12287, 32767, 65535, 4095, 4095, 397311, 921599, 2097151, 4194303, 8388607] follows (by kernel_rfl) ?_
  refine tpm ?_
  refine tpm ?_
  obtain ⟨v8, hv8, h3⟩ := bnd h3
  refine rt_p rfl w0 rfl (sl_ix tok hv8 rfl rfl rfl rfl rfl rfl) ?_
  refine tlr tok ?_
  refine tpm ?_
  refine tpm ?_
  obtain ⟨v9, hv9, h3⟩ := bnd h3
  refine rt_c rfl w0 rfl (b_call 3 (s_l00In_c hv9) rfl rfl rfl) ?_
  refine rt_p rfl w0 rfl (pu_not rfl) ?_
  refine tpm ?_
  refine rt_ifB (u := 22) h3 rfl (fun hc h3 => ?_) (fun hc h3 => ?_)
  iterate 14 refine k2 ?_
  refine tpkt ?_
  refine rt_nil ?_
  refine ⟨by kernel_rfl, ?_⟩
  refine then_n ?_
  cases h3
  exact wk [0, 1, 2]
  refine tpm1 ?_
  refine rt_p rfl (w1 rfl rfl rfl) rfl (pu_gtr rfl rfl) ?_
  refine tpm1 ?_
  refine rt_if (u := 25) h3 rfl (fun hc h3 => ?_) (fun hc h3 => ?_)
  refine tpm1 ?_
  refine tpm1 ?_
  refine rt_p rfl (w1 rfl rfl rfl) rfl (pw_sub rfl rfl) ?_
  obtain ⟨v10, hv10, h3⟩ := bnd h3
  refine rt_p rfl (w1 rfl rfl rfl) rfl (sl_ix tok hv10 rfl rfl rfl rfl rfl rfl) ?_
  refine tlr1 tok ?_
  refine tpm1 ?_
  refine tpm1 ?_
  obtain ⟨v11, hv11, h3⟩ := bnd h3
  refine rt_p rfl (w1 rfl rfl rfl) rfl (sl_ix tok hv11 rfl rfl rfl rfl rfl rfl) ?_
  refine tlr1 tok ?_
  refine rt_p rfl (w1 rfl rfl rfl) rfl (pu_geq rfl rfl) ?_
  refine tpkt1 ?_
  refine tpkf ?_
  refine rt_nil ?_
  refine ⟨by kernel_rfl, ?_⟩
  refine then_n ?_
  cases h3
  exact wk [0, 1, 2]
  iterate 10 refine k2 ?_
  refine tpkf1 ?_
  refine tpkf ?_
  refine rt_nil ?_
  refine ⟨by kernel_rfl, ?_⟩
  refine then_n ?_
  cases h3
  exact wk [0, 1, 2]
  refine aw_ifB h2 rfl (fun hc h2 => ?_) (fun hc h2 => ?_)
  refine sq [0] ?_
  refine pa ?_
  refine nx ?_
  refine aw_ret ?_
  refine block_r ?_
  refine then_r ?_
  cases h2
  refine loop_r ⟨_, rfl, fun e => ?_⟩
  subst e
  refine block_r ?_
  replace h0 := orE_s h0
  refine then_r ?_
  cases h0
  exact ret0_ (rs := [.tmp 6]) rfl
  refine aw_skip ?_
  refine block_n ?_
  refine then_n ?_
  refine sr [0,1,2] ?_
  refine pm ?_
  refine rp rfl w0 rfl (pw_add rfl rfl) ?_
  refine pa ?_
  refine ra_nil ?_
  refine loop_n ?_
  cases h2
  refine ⟨_, rfl, ?_⟩
  exact wk [0, 1, 2]
  refine aw_exit ?_
  refine then_e ?_
  cases h2
  refine loop_x ⟨_, rfl, fun e => ?_⟩
  subst e
  refine block_hit ?_
  refine then_n ?_
  refine ⟨_, rfl, ?_⟩
  exact wk [0, 1, 2]
  rintro v13 rfl
  replace h0 := orE_f h0
  refine sq [0] ?_
  refine pa ?_
  refine nx ?_
  refine aw_ret ?_
  cases h0
  exact ret0_ (rs := [.tmp 6]) rfl

theorem s_l24Ok_c {p0 : Divider_} {r : Bool} (h0 : s_l24Ok_m p0 = some r) : FnC Tryd.prog 70 [] [.agg [.d (.v (.int .i64 p0.Worm)), .d (.sl (List.map cI p0.Circles))]] [] (.d (.v (.bool r))) := by
  refine fnc_intro (T := tt) (N := 17) tok Tryd.func70 rfl rfl (by kernel_rfl) rfl rfl ?_
  unfold s_l24Ok_m at h0
  refine sq [0,1] ?_
  refine rs rfl w0 rfl (st_box 3 (cs := _ :: _) rfl rfl rfl) ?_
  refine pa ?_
  refine nx ?_
  refine sq [0,1,2,3,4,5,6,7,8,9,10,11,12,13,14] ?_
  refine fa tok ?_
  refine ld tok ?_
  obtain ⟨v1, hv1, h0⟩ := bnd h0
  refine rs rfl w0 rfl (c_call 4 (s_l00In_c hv1) rfl rfl rfl) ?_
  refine pm ?_
  refine ra_ifB (u := 6) h0 rfl (fun hc h0 => ?_) (fun hc h0 => ?_)
  refine fa1 tok ?_
  refine ld1 tok ?_
  refine rp rfl (w1 rfl rfl rfl) rfl (pu_len_map tok rfl rfl rfl) ?_
  obtain ⟨v2, hv2, h0⟩ := bnd h0
  refine rs rfl (w1 rfl rfl rfl) rfl (c_call 4 (s_l00In_c hv2) rfl rfl rfl) ?_
  refine pkt ?_
  refine pm ?_
  refine ra_ifB (u := 12) h0 rfl (fun hc h0 => ?_) (fun hc h0 => ?_)
  refine fa1 tok ?_
  refine ld1 tok ?_
  obtain ⟨v3, hv3, h0⟩ := bnd h0
  refine rs rfl (w1 rfl rfl rfl) rfl (c_call 4 (s_l00Rises_c hv3) rfl rfl rfl) ?_
  refine pkt ?_
  refine pa ?_
  refine nx ?_
  refine aw_ret ?_
  cases h0
  exact ret0_ (rs := [.tmp 2]) rfl
  iterate 3 refine k1 ?_
  refine pkf ?_
  refine pa ?_
  refine nx ?_
  refine aw_ret ?_
  cases h0
  exact ret0_ (rs := [.tmp 2]) rfl
  iterate 4 refine k1 ?_
  refine pkf ?_
  refine pm ?_
  iterate 3 refine k1 ?_
  refine pkf ?_
  refine pa ?_
  refine nx ?_
  refine aw_ret ?_
  cases h0
  exact ret0_ (rs := [.tmp 2]) rfl

theorem s_l00Has_c {p0 : List Int} {p1 : Int} {r : Bool} (h0 : s_l00Has_m p0 p1 = some r) : FnC Tryd.prog 74 [] [.d (.sl (List.map cI p0)), .d (.v (.int .i64 p1))] [] (.d (.v (.bool r))) := by
  refine fnc_intro (T := tt) (N := 18) tok Tryd.func74 rfl rfl (by kernel_rfl) rfl rfl ?_
  unfold s_l00Has_m at h0
  refine sq [0] ?_
  refine pa ?_
  refine nx ?_
  obtain ⟨v5x, h1, h0⟩ := bnd h0
  refine aw_cutE v5x (fun v5 => ⟨(fun _ => .dead), lks [.no, .no, .no]⟩) ?_ ?_
  refine sq [0] ?_
  refine pa ?_
  refine nx ?_
  refine aw_block ?_
  refine aw_loopM (fun s3 => ⟨updA (updA (updA ((fun _ => .dead)) 0 (.d (.sl (List.map cI p0)))) 1 (.d (.v (.int .i64 p1)))) 5 (.d (.v (.int .i64 s3))), lks [.no, .no, .no]⟩) h1 ?_ (fun s3 y h2 => ?_)
  exact wk [0, 1, 2]
  refine aw_seq ?_
  refine sq [0,1,2,3] ?_
  refine pm ?_
  refine pm ?_
  refine rp rfl w0 rfl (pu_len_map tok rfl rfl rfl) ?_
  refine rp rfl w0 rfl (pu_lss rfl rfl) ?_
  refine nx ?_
  refine aw_if h2 rfl (fun hc h2 => ?_) (fun hc h2 => ?_)
  refine sk ?_
  refine aw_seq ?_
  refine aw_block ?_
  refine sq [0,1,2,3,4,5] ?_
  refine pm ?_
  refine pm ?_
  obtain ⟨v4, hv4, h2⟩ := bnd h2
  refine rp rfl w0 rfl (sl_ix tok hv4 rfl rfl rfl rfl rfl rfl) ?_
  refine lr tok ?_
  refine pm ?_
  refine rp rfl w0 rfl (pu_eql rfl rfl) ?_
  refine nx ?_
  refine aw_if h2 rfl (fun hc h2 => ?_) (fun hc h2 => ?_)
  refine sq [0] ?_
  refine pa ?_
  refine nx ?_
  refine aw_ret ?_
  refine block_r ?_
  refine then_r ?_
  cases h2
  refine loop_r ⟨_, rfl, fun e => ?_⟩
  subst e
  refine block_r ?_
  replace h0 := orE_s h0
  refine then_r ?_
  cases h0
  exact ret0_ (rs := [.tmp 4]) rfl
  refine aw_skip ?_
  refine block_n ?_
  refine then_n ?_
  refine sr [0,1,2] ?_
  refine pm ?_
  refine rp rfl w0 rfl (pw_add rfl rfl) ?_
  refine pa ?_
  refine ra_nil ?_
  refine loop_n ?_
  cases h2
  refine ⟨_, rfl, ?_⟩
  exact wk [0, 1, 2]
  refine aw_exit ?_
  refine then_e ?_
  cases h2
  refine loop_x ⟨_, rfl, fun e => ?_⟩
  subst e
  refine block_hit ?_
  refine then_n ?_
  refine ⟨_, rfl, ?_⟩
  exact wk [0, 1, 2]
  rintro v5 rfl
  replace h0 := orE_f h0
  refine sq [0] ?_
  refine pa ?_
  refine nx ?_
  refine aw_ret ?_
  cases h0
  exact ret0_ (rs := [.tmp 4]) rfl

theorem s_l24Step_c {p0 : Index_} {r : Int} (h0 : s_l24Step_m p0 = some r) : FnC Tryd.prog 52 [] [.agg [.d (.v (.int .i64 p0.Turns)), .d (.v (.int .i64 p0.Holes)), .d (.v (.int .i64 p0.Circle))]] [] (.d (.v (.int .i64 r))) := by
  refine fnc_intro (T := tt) (N := 11) tok Tryd.func52 rfl rfl (by kernel_rfl) rfl rfl ?_
  unfold s_l24Step_m at h0
  refine sq [0,1] ?_
  refine rs rfl w0 rfl (st_box 3 (cs := _ :: _) rfl rfl rfl) ?_
  refine pa ?_
  refine nx ?_
  refine sq [0,1,2,3,4,5,6,7,8] ?_
  refine fa tok ?_
  refine ld tok ?_
  refine fa tok ?_
  refine ld tok ?_
  refine rp rfl w0 rfl (pw_mul rfl rfl) ?_
  refine fa tok ?_
  refine ld tok ?_
  refine rp rfl w0 rfl (pw_add rfl rfl) ?_
  refine pa ?_
  refine nx ?_
  refine aw_ret ?_
  cases h0
  exact ret0_ (rs := [.tmp 2]) rfl

theorem s_l24Index_c {p0 : Divider_} {p1 : Index_} {r : Bool} (h0 : s_l24Index_m p0 p1 = some r) : FnC Tryd.prog 38 [] [.agg [.d (.v (.int .i64 p0.Worm)), .d (.sl (List.map cI p0.Circles))], .agg [.d (.v (.int .i64 p1.Turns)), .d (.v (.int .i64 p1.Holes)), .d (.v (.int .i64 p1.Circle))]] [] (.d (.v (.bool r))) := by
  refine fnc_intro (T := tt) (N := 39) tok Tryd.func38 rfl rfl (by kernel_rfl) rfl rfl ?_
  unfold s_l24Index_m at h0
  refine sq [0,1,2] ?_
  refine rs rfl w0 rfl (st_box 3 (cs := _ :: _) rfl rfl rfl) ?_
  refine rs rfl w0 rfl (st_box 4 (cs := _ :: _) rfl rfl rfl) ?_
  refine pa ?_
  refine nx ?_
  refine aw_seq ?_
  obtain ⟨v3, h1, h0⟩ := bnd h0
  refine aw_cut ⟨updA (updA (updA ((fun _ => .dead)) 2 (.ptr 3 0 1 0 0)) 3 (.ptr 4 0 1 0 0)) 15 (.d (.v (.bool v3))), lks [.no, .no, .no, .live [⟨30, 2, .av [[.d (.v (.int .i64 p0.Worm)), .d (.sl (List.map cI p0.Circles))]]⟩], .live [⟨27, 3, .av [[.d (.v (.int .i64 p1.Turns)), .d (.v (.int .i64 p1.Holes)), .d (.v (.int .i64 p1.Circle))]]⟩]]⟩ ?_ ?_
  refine sr [0,1,2,3,4,5,6,7,8,9,10] ?_
  refine rl rfl w0 rfl (bx_ldN tok rfl rfl rfl rfl) ?_
  obtain ⟨v1, hv1, h1⟩ := bnd h1
  refine rs rfl w0 rfl (c_call 5 (s_l24Ok_c hv1) rfl rfl rfl) ?_
  refine rp rfl w0 rfl (pu_not rfl) ?_
  refine pm ?_
  refine ra_ifB (u := 8) h1 rfl (fun hc h1 => ?_) (fun hc h1 => ?_)
  iterate 6 refine k1 ?_
  refine pkt ?_
  refine nx ?_
  cases h1
  exact wk [0, 1, 2, 3, 4]
  refine fa1 tok ?_
  refine ld1 tok ?_
  refine fa1 tok ?_
  refine ld1 tok ?_
  obtain ⟨v2, hv2, h1⟩ := bnd h1
  refine rs rfl (w1 rfl rfl rfl) rfl (c_call 5 (s_l00Has_c hv2) rfl rfl rfl) ?_
  refine rp rfl (w1 rfl rfl rfl) rfl (pu_not rfl) ?_
  refine pkf ?_
  refine nx ?_
  cases h1
  exact wk [0, 1, 2, 3, 4]
  refine aw_ifB h0 rfl (fun hc h0 => ?_) (fun hc h0 => ?_)
  refine sq [0] ?_
  refine pa ?_
  refine nx ?_
  refine aw_ret ?_
  refine then_r ?_
  cases h0
  exact ret0_ (rs := [.tmp 4]) rfl
  refine sk ?_
  refine aw_seq ?_
  refine aw_region_draw (is := [0, 1, 2, 3, 4, 5, 6, 7, 8, 9, 10, 11, 12, 13, 14, 16, 17, 18, 19, 20, 15, 21, 22, 23]) [0, 1, 0, 4, 15, 31, 63, 127, 63, 319, 831, 2047, 4095, 8191, 16383, 32767, 16383, 81919, 16383, 278527, 999423, 2097151, 4194303, 8388607] follows (by kernel_rfl) ?_
  refine rt_lk rfl w0 rfl (bx_fa tok rfl rfl rfl rfl rfl rfl rfl) rfl rfl rfl ?_
  refine rt_lk rfl w0 rfl (bx_ld1 tok rfl rfl rfl rfl rfl) rfl rfl rfl ?_
  refine rt_lk rfl w0 rfl (bx_fa tok rfl rfl rfl rfl rfl rfl rfl) rfl rfl rfl ?_
  refine rt_lk rfl w0 rfl (bx_ld1 tok rfl rfl rfl rfl rfl) rfl rfl rfl ?_
  obtain ⟨v4, hv4, h0⟩ := bnd h0
  refine rt_c rfl w0 rfl (b_call 5 (s_l00In_c hv4) rfl rfl rfl) ?_
  refine tpm ?_
  refine rt_ifB (u := 21) h0 rfl (fun hc h0 => ?_) (fun hc h0 => ?_)
  refine rt_lk rfl (w1 rfl rfl rfl) rfl (bx_fa tok rfl rfl rfl rfl rfl rfl rfl) rfl rfl rfl ?_
  refine rt_lk rfl (w1 rfl rfl rfl) rfl (bx_ld1 tok rfl rfl rfl rfl rfl) rfl rfl rfl ?_
  refine rt_lk rfl (w1 rfl rfl rfl) rfl (bx_fa tok rfl rfl rfl rfl rfl rfl rfl) rfl rfl rfl ?_
  refine rt_lk rfl (w1 rfl rfl rfl) rfl (bx_ld1 tok rfl rfl rfl rfl rfl) rfl rfl rfl ?_
  refine rt_p rfl (w1 rfl rfl rfl) rfl (pw_sub rfl rfl) ?_
  obtain ⟨v5, hv5, h0⟩ := bnd h0
  refine rt_c rfl (w1 rfl rfl rfl) rfl (b_call 5 (s_l00In_c hv5) rfl rfl rfl) ?_
  refine tpkt ?_
  refine tpm ?_
  refine rt_ifB (u := 29) h0 rfl (fun hc h0 => ?_) (fun hc h0 => ?_)
  refine rt_lk rfl (w1 rfl rfl rfl) rfl (bx_ldN tok rfl rfl rfl rfl) rfl rfl rfl ?_
  refine rt_lk rfl (w1 rfl rfl rfl) rfl (bx_fa tok rfl rfl rfl rfl rfl rfl rfl) rfl rfl rfl ?_
  refine rt_lk rfl (w1 rfl rfl rfl) rfl (bx_ld1 tok rfl rfl rfl rfl rfl) rfl rfl rfl ?_
  refine rt_lk rfl (w1 rfl rfl rfl) rfl (bx_fa tok rfl rfl rfl rfl rfl rfl rfl) rfl rfl rfl ?_
  refine rt_lk rfl (w1 rfl rfl rfl) rfl (bx_ld1 tok rfl rfl rfl rfl rfl) rfl rfl rfl ?_
  refine rt_p rfl (w1 rfl rfl rfl) rfl (pw_mul rfl rfl) ?_
  obtain ⟨v6, hv6, h0⟩ := bnd h0
  refine rt_c rfl (w1 rfl rfl rfl) rfl (b_call 5 (s_l24Step_c hv6) rfl rfl rfl) ?_
  obtain ⟨v7, hv7, h0⟩ := bnd h0
  refine rt_c rfl (w1 rfl rfl rfl) rfl (b_call 5 (s_l00In_c hv7) rfl rfl rfl) ?_
  refine tpkt ?_
  refine tpa ?_
  refine rt_nil ?_
  refine ⟨by kernel_rfl, ?_⟩
  refine then_n ?_
  refine aw_ret ?_
  cases h0
  exact ret0_ (rs := [.tmp 4]) rfl
  iterate 8 refine k2 ?_
  refine tpkf ?_
  refine tpa ?_
  refine rt_nil ?_
  refine ⟨by kernel_rfl, ?_⟩
  refine then_n ?_
  refine aw_ret ?_
  cases h0
  exact ret0_ (rs := [.tmp 4]) rfl
  iterate 6 refine k2 ?_
  refine tpkf ?_
  refine tpm ?_
  iterate 8 refine k2 ?_
  refine tpkf ?_
  refine tpa ?_
  refine rt_nil ?_
  refine ⟨by kernel_rfl, ?_⟩
  refine then_n ?_
  refine aw_ret ?_
  cases h0
  exact ret0_ (rs := [.tmp 4]) rfl

theorem s_ReadIndex_c {p0 : Divider_} {p1 : ByteArray} {r : Index_ × Bool} (h0 : s_ReadIndex_m p0 p1 = some r) : FnC Tryd.prog 7 [] [.agg [.d (.v (.int .i64 p0.Worm)), .d (.sl (List.map cI p0.Circles))], .d (.v (.string p1))] [] (.tup [.agg [.d (.v (.int .i64 r.1.Turns)), .d (.v (.int .i64 r.1.Holes)), .d (.v (.int .i64 r.1.Circle))], .d (.v (.bool r.2))]) := by
  refine fnc_intro (T := tt) (N := 72) tok Tryd.func7 rfl rfl (by kernel_rfl) rfl rfl ?_
  unfold s_ReadIndex_m at h0
  refine sq [0,1,2] ?_
  refine rs rfl w0 rfl (st_box 3 (cs := _ :: _) rfl rfl rfl) ?_
  refine rs rfl w0 rfl (st_alloc 4 (cs := [.d (.v (.int .i64 0)), .d (.v (.int .i64 0)), .d (.v (.int .i64 0))]) tok rfl rfl rfl) ?_
  refine pa ?_
  refine nx ?_
  refine sq [0,1,2] ?_
  refine pm ?_
  obtain ⟨v1, hv1, h0⟩ := bnd h0
  refine rs rfl w0 rfl (c_call 5 (s_l01Split_c hv1) rfl rfl rfl) ?_
  refine rp rfl w0 rfl (pu_assign (r := .own _ _ _) rfl) ?_
  refine nx ?_
  refine aw_seq ?_
  refine sq [0,1,2] ?_
  refine rp rfl w0 rfl (pu_move (r := .own _ _ _) rfl) ?_
  refine rl rfl w0 rfl (ow_len tok rfl rfl rfl rfl rfl) ?_
  refine rp rfl w0 rfl (pu_neq rfl rfl) ?_
  refine nx ?_
  refine aw_if h0 rfl (fun hc h0 => ?_) (fun hc h0 => ?_)
  refine sq [0,1,2] ?_
  refine rp rfl w0 rfl (pbl (C0 := [.d (.v (.int .i64 0)), .d (.v (.int .i64 0)), .d (.v (.int .i64 0))]) tok rfl rfl rfl) ?_
  refine rw0 rfl w0 (bx_st (cs := _ :: _) tok rfl rfl rfl rfl rfl rfl rfl) ?_
  refine pa ?_
  refine nx ?_
  refine aw_ret ?_
  refine then_r ?_
  cases h0
  exact ret0_ (rs := [.cell 4 27, .tmp 5]) rfl
  refine sk ?_
  refine sq [0,1,2,3,4] ?_
  refine rp rfl w0 rfl (pu_move (r := .own _ _ _) rfl) ?_
  obtain ⟨v2, hv2, h0⟩ := bnd h0
  refine rl rfl w0 rfl (ow_ix tok hv2 rfl rfl rfl rfl rfl rfl rfl rfl) ?_
  refine rl rfl w0 rfl (rw_ld1 tok (atI_e hv2).2.1 rfl rfl rfl rfl rfl rfl) ?_
  obtain ⟨v3, hv3, h0⟩ := bnd h0
  refine rs rfl w0 rfl (c_call 6 (s_l01Split_c hv3) rfl rfl rfl) ?_
  refine rp rfl w0 rfl (pu_assign (r := .own _ _ _) rfl) ?_
  refine nx ?_
  refine aw_seq ?_
  refine sq [0,1,2] ?_
  refine rp rfl w0 rfl (pu_move (r := .own _ _ _) rfl) ?_
  refine rl rfl w0 rfl (ow_len tok rfl rfl rfl rfl rfl) ?_
  refine rp rfl w0 rfl (pu_neq rfl rfl) ?_
  refine nx ?_
  refine aw_if h0 rfl (fun hc h0 => ?_) (fun hc h0 => ?_)
  refine sq [0,1,2] ?_
  refine rp rfl w0 rfl (pbl (C0 := [.d (.v (.int .i64 0)), .d (.v (.int .i64 0)), .d (.v (.int .i64 0))]) tok rfl rfl rfl) ?_
  refine rw0 rfl w0 (bx_st (cs := _ :: _) tok rfl rfl rfl rfl rfl rfl rfl) ?_
  refine pa ?_
  refine nx ?_
  refine aw_ret ?_
  refine then_r ?_
  cases h0
  exact ret0_ (rs := [.cell 4 27, .tmp 5]) rfl
  refine sk ?_
  refine sq [0,1,2,3,4,5,6,7,8] ?_
  refine rp rfl w0 rfl (pu_move (r := .own _ _ _) rfl) ?_
  obtain ⟨v4, hv4, h0⟩ := bnd h0
  refine rl rfl w0 rfl (ow_ix tok hv4 rfl rfl rfl rfl rfl rfl rfl rfl) ?_
  refine rl rfl w0 rfl (rw_ld1 tok (atI_e hv4).2.1 rfl rfl rfl rfl rfl rfl) ?_
  obtain ⟨v5, hv5, h0⟩ := bnd h0
  refine rs rfl w0 rfl (c_call 7 (s_l01Number_c hv5) rfl rfl rfl) ?_
  refine rp rfl w0 rfl (pu_move (r := .tup _) rfl) ?_
  refine rp rfl w0 rfl (pu_extract rfl rfl) ?_
  refine rp rfl w0 rfl (pu_extract rfl rfl) ?_
  refine pa ?_
  refine pa ?_
  refine nx ?_
  refine sq [0,1,2,3,4,5,6,7,8] ?_
  refine rp rfl w0 rfl (pu_move (r := .own _ _ _) rfl) ?_
  obtain ⟨v6, hv6, h0⟩ := bnd h0
  refine rl rfl w0 rfl (ow_ix tok hv6 rfl rfl rfl rfl rfl rfl rfl rfl) ?_
  refine rl rfl w0 rfl (rw_ld1 tok (atI_e hv6).2.1 rfl rfl rfl rfl rfl rfl) ?_
  obtain ⟨v7, hv7, h0⟩ := bnd h0
  refine rs rfl w0 rfl (c_call 7 (s_l01Number_c hv7) rfl rfl rfl) ?_
  refine rp rfl w0 rfl (pu_move (r := .tup _) rfl) ?_
  refine rp rfl w0 rfl (pu_extract rfl rfl) ?_
  refine rp rfl w0 rfl (pu_extract rfl rfl) ?_
  refine pa ?_
  refine pa ?_
  refine nx ?_
  refine sq [0,1,2,3,4,5,6,7,8] ?_
  refine rp rfl w0 rfl (pu_move (r := .own _ _ _) rfl) ?_
  obtain ⟨v8, hv8, h0⟩ := bnd h0
  refine rl rfl w0 rfl (ow_ix tok hv8 rfl rfl rfl rfl rfl rfl rfl rfl) ?_
  refine rl rfl w0 rfl (rw_ld1 tok (atI_e hv8).2.1 rfl rfl rfl rfl rfl rfl) ?_
  obtain ⟨v9, hv9, h0⟩ := bnd h0
  refine rs rfl w0 rfl (c_call 7 (s_l01Number_c hv9) rfl rfl rfl) ?_
  refine rp rfl w0 rfl (pu_move (r := .tup _) rfl) ?_
  refine rp rfl w0 rfl (pu_extract rfl rfl) ?_
  refine rp rfl w0 rfl (pu_extract rfl rfl) ?_
  refine pa ?_
  refine pa ?_
  refine nx ?_
  refine sq [0,1,2,3,4,5] ?_
  iterate 3 refine pm ?_
  refine rp rfl w0 rfl (pbl (C0 := [.d (.v (.int .i64 0)), .d (.v (.int .i64 0)), .d (.v (.int .i64 0))]) tok rfl rfl rfl) ?_
  refine rs rfl w0 rfl (st_alloc 7 (cs := [.d (.v (.int .i64 0)), .d (.v (.int .i64 0)), .d (.v (.int .i64 0))]) tok rfl rfl rfl) ?_
  refine rw0 rfl w0 (bx_st (cs := _ :: _) tok rfl rfl rfl rfl rfl rfl rfl) ?_
  refine nx ?_
  refine aw_seq ?_
  obtain ⟨v11, h1, h0⟩ := bnd h0
  refine aw_cut ⟨updA (updA (updA ((fun _ => .dead)) 4 (.ptr 3 0 1 0 0)) 14 (.ptr 4 0 1 0 0)) 69 (.d (.v (.bool v11))), lks [.no, .no, .no, .live [⟨27, 3, .av [[.d (.v (.int .i64 0)), .d (.v (.int .i64 0)), .d (.v (.int .i64 0))]]⟩], .live [⟨27, 3, .av [[.d (.v (.int .i64 v5.1)), .d (.v (.int .i64 v7.1)), .d (.v (.int .i64 v9.1))]]⟩]]⟩ ?_ ?_
  refine sr [0,1,2,3,4,5,6,7,8,9,10,11,12,13,14,15] ?_
  refine pm ?_
  refine rp rfl w0 rfl (pu_not rfl) ?_
  refine pm ?_
  refine ra_ifB (u := 56) h1 rfl (fun hc h1 => ?_) (fun hc h1 => ?_)
  refine k1 ?_
  refine k1 ?_
  refine pkt ?_
  refine pm ?_
  refine k1 ?_
  refine k1 ?_
  refine pkt ?_
  refine pm ?_
  iterate 4 refine k1 ?_
  refine pkt ?_
  refine nx ?_
  cases h1
  exact wk [0, 1, 2, 4, 7]
  refine pm1 ?_
  refine rp rfl (w1 rfl rfl rfl) rfl (pu_not rfl) ?_
  refine pkf ?_
  refine pm ?_
  refine ra_ifB (u := 60) h1 rfl (fun hc h1 => ?_) (fun hc h1 => ?_)
  refine k1 ?_
  refine k1 ?_
  refine pkt ?_
  refine pm ?_
  iterate 4 refine k1 ?_
  refine pkt ?_
  refine nx ?_
  cases h1
  exact wk [0, 1, 2, 4, 7]
  refine pm1 ?_
  refine rp rfl (w1 rfl rfl rfl) rfl (pu_not rfl) ?_
  refine pkf ?_
  refine pm ?_
  refine ra_ifB (u := 64) h1 rfl (fun hc h1 => ?_) (fun hc h1 => ?_)
  iterate 4 refine k1 ?_
  refine pkt ?_
  refine nx ?_
  cases h1
  exact wk [0, 1, 2, 4, 7]
  refine rl rfl (w1 rfl rfl rfl) rfl (bx_ldN tok rfl rfl rfl rfl) ?_
  refine rl rfl (w1 rfl rfl rfl) rfl (bx_ldN tok rfl rfl rfl rfl) ?_
  obtain ⟨v10, hv10, h1⟩ := bnd h1
  refine rs rfl (w1 rfl rfl rfl) rfl (c_call 8 (s_l24Index_c hv10) rfl rfl rfl) ?_
  refine rp rfl (w1 rfl rfl rfl) rfl (pu_not rfl) ?_
  refine pkf ?_
  refine nx ?_
  cases h1
  exact wk [0, 1, 2, 4, 7]
  refine aw_ifB h0 rfl (fun hc h0 => ?_) (fun hc h0 => ?_)
  refine sq [0,1,2] ?_
  refine rp rfl w0 rfl (pbl (C0 := [.d (.v (.int .i64 0)), .d (.v (.int .i64 0)), .d (.v (.int .i64 0))]) tok rfl rfl rfl) ?_
  refine rw0 rfl w0 (bx_st (cs := _ :: _) tok rfl rfl rfl rfl rfl rfl rfl) ?_
  refine pa ?_
  refine nx ?_
  refine aw_ret ?_
  refine then_r ?_
  cases h0
  exact ret0_ (rs := [.cell 4 27, .tmp 5]) rfl
  refine sk ?_
  refine sq [0,1,2] ?_
  refine rl rfl w0 rfl (bx_ldN tok rfl rfl rfl rfl) ?_
  refine rw0 rfl w0 (bx_st (cs := _ :: _) tok rfl rfl rfl rfl rfl rfl rfl) ?_
  refine pa ?_
  refine nx ?_
  refine aw_ret ?_
  cases h0
  exact ret0_ (rs := [.cell 4 27, .tmp 5]) rfl

theorem internal_stringslite_Index_c {p0 p1 : ByteArray} {r : Int} (h0 : internal_stringslite_Index_m p0 p1 = some r) : FnC Tryd.prog 88 [] [.d (.v (.string p0)), .d (.v (.string p1))] [] (.d (.v (.int .i64 r))) := by
  obtain ⟨q0, h0⟩ := chk_e h0
  cases h0
  obtain ⟨⟨l⟩⟩ := p1
  match l, q0 with
  | [c], _ => exact sh_index

theorem internal_stringslite_Cut_c {p0 : ByteArray} {p1 : ByteArray} {r : ByteArray × ByteArray × Bool} (h0 : internal_stringslite_Cut_m p0 p1 = some r) : FnC Tryd.prog 75 [] [.d (.v (.string p0)), .d (.v (.string p1))] [] (.tup [.d (.v (.string r.1)), .d (.v (.string r.2.1)), .d (.v (.bool r.2.2))]) := by
  refine fnc_intro (T := tt) (N := 23) tok Tryd.func75 rfl rfl (by kernel_rfl) rfl rfl ?_
  unfold internal_stringslite_Cut_m at h0
  refine sq [0,1,2] ?_
  iterate 3 refine pa ?_
  refine nx ?_
  refine aw_seq ?_
  refine sq [0,1,2,3] ?_
  refine pm ?_
  refine pm ?_
  obtain ⟨v1, hv1, h0⟩ := bnd h0
  refine rs rfl w0 rfl (c_call 3 (internal_stringslite_Index_c hv1) rfl rfl rfl) ?_
  refine pa ?_
  refine nx ?_
  refine sq [0,1] ?_
  refine pm ?_
  refine rp rfl w0 rfl (pu_geq rfl rfl) ?_
  refine nx ?_
  refine aw_if h0 rfl (fun hc h0 => ?_) (fun hc h0 => ?_)
  refine aw_seq ?_
  refine aw_region_draw (is := [0, 1, 2, 3, 4, 5, 6, 7, 8, 9, 10, 11]) [0, 0, 3, 0, 0, 0, 32, 112, 248, 7, 1023, 2047] follows (by kernel_rfl) ?_
  refine tpm ?_
  refine tpm ?_
  obtain ⟨hq2, h0⟩ := chk_e h0
  refine rt_p rfl w0 rfl (pu_ssub tok hq2 rfl (.inl ⟨rfl, rfl⟩) (.inr ⟨_, _, rfl, rfl⟩) rfl rfl) ?_
  iterate 3 refine tpm ?_
  refine rt_p rfl w0 rfl (pu_len_str tok rfl rfl rfl) ?_
  refine rt_p rfl w0 rfl (pw_add rfl rfl) ?_
  obtain ⟨hq3, h0⟩ := chk_e h0
  refine rt_p rfl w0 rfl (pu_ssub tok hq3 rfl (.inr ⟨_, _, rfl, rfl⟩) (.inl ⟨rfl, rfl⟩) rfl rfl) ?_
  iterate 3 refine tpa ?_
  refine rt_nil ?_
  refine ⟨by kernel_rfl, ?_⟩
  refine then_n ?_
  refine aw_ret ?_
  refine then_r ?_
  cases h0
  exact ret0_ (rs := [.tmp 4, .tmp 5, .tmp 6]) rfl
  refine sk ?_
  refine sq [0,1,2,3] ?_
  refine pm ?_
  iterate 3 refine pa ?_
  refine nx ?_
  refine aw_ret ?_
  cases h0
  exact ret0_ (rs := [.tmp 4, .tmp 5, .tmp 6]) rfl

theorem strings_Cut_c {p0 : ByteArray} {p1 : ByteArray} {r : ByteArray × ByteArray × Bool} (h0 : strings_Cut_m p0 p1 = some r) : FnC Tryd.prog 40 [] [.d (.v (.string p0)), .d (.v (.string p1))] [] (.tup [.d (.v (.string r.1)), .d (.v (.string r.2.1)), .d (.v (.bool r.2.2))]) := by
  refine fnc_intro (T := tt) (N := 13) tok Tryd.func40 rfl rfl (by kernel_rfl) rfl rfl ?_
  unfold strings_Cut_m at h0
  refine sq [0,1,2] ?_
  iterate 3 refine pa ?_
  refine nx ?_
  refine sq [0,1,2,3,4,5,6,7,8] ?_
  refine pm ?_
  refine pm ?_
  obtain ⟨v1, hv1, h0⟩ := bnd h0
  refine rs rfl w0 rfl (c_call 3 (internal_stringslite_Cut_c hv1) rfl rfl rfl) ?_
  iterate 3 refine rp rfl w0 rfl (pu_extract rfl rfl) ?_
  iterate 3 refine pa ?_
  refine nx ?_
  refine aw_ret ?_
  cases h0
  exact ret0_ (rs := [.tmp 4, .tmp 5, .tmp 6]) rfl

theorem i_ReadDecimal_c {p0 : ByteArray} {r : Int × Bool} (h0 : i_ReadDecimal_m p0 = some r) : FnC Tryd.prog 41 [] [.d (.v (.string p0))] [] (.tup [.d (.v (.int .i64 r.1)), .d (.v (.bool r.2))]) := by
  obtain ⟨q0, h0⟩ := chk_e h0
  cases h0
  exact sh_read q0

theorem i_within_c {p0 : Int} {p1 : Int} {p2 : Int} {r : Bool} (h0 : i_within_m p0 p1 p2 = some r) : FnC Tryd.prog 49 [] [.d (.v (.int .i64 p0)), .d (.v (.int .i64 p1)), .d (.v (.int .i64 p2))] [] (.d (.v (.bool r))) := by
  refine fnc_intro (T := tt) (N := 15) tok Tryd.func49 rfl rfl (by kernel_rfl) rfl rfl ?_
  unfold i_within_m at h0
  refine sq [0] ?_
  refine pa ?_
  refine nx ?_
  refine sq [0,1,2,3,4,5,6,7,8] ?_
  refine pm ?_
  refine pm ?_
  refine rp rfl w0 rfl (pu_geq rfl rfl) ?_
  refine pm ?_
  refine ra_if (u := 10) h0 rfl (fun hc h0 => ?_) (fun hc h0 => ?_)
  refine pm1 ?_
  refine pm1 ?_
  refine rp rfl (w1 rfl rfl rfl) rfl (pu_leq rfl rfl) ?_
  refine pkt ?_
  refine pa ?_
  refine nx ?_
  refine aw_ret ?_
  cases h0
  exact ret0_ (rs := [.tmp 6]) rfl
  iterate 3 refine k1 ?_
  refine pkf ?_
  refine pa ?_
  refine nx ?_
  refine aw_ret ?_
  cases h0
  exact ret0_ (rs := [.tmp 6]) rfl

theorem i_ValidDivider_c {p0 : Divider_} {r : Bool} (h0 : i_ValidDivider_m p0 = some r) : FnC Tryd.prog 30 [] [.agg [.d (.v (.int .i64 p0.Worm)), .d (.sl (List.map cI p0.Circles))]] [] (.d (.v (.bool r))) := by
  refine fnc_intro (T := tt) (N := 46) tok Tryd.func30 rfl rfl (by kernel_rfl) rfl rfl ?_
  unfold i_ValidDivider_m at h0
  refine sq [0,1] ?_
  refine rs rfl w0 rfl (st_box 3 (cs := _ :: _) rfl rfl rfl) ?_
  refine pa ?_
  refine nx ?_
  obtain ⟨v11x, h1, h0⟩ := bnd h0
  refine aw_cutE v11x (fun v11 => ⟨updA ((fun _ => .dead)) 1 (.ptr 3 0 1 0 0), lks [.no, .no, .no, .live [⟨30, 2, .av [[.d (.v (.int .i64 p0.Worm)), .d (.sl (List.map cI p0.Circles))]]⟩]]⟩) ?_ ?_
  refine sq [0,1,2,3] ?_
  refine fa tok ?_
  refine ld tok ?_
  refine rp rfl w0 rfl (pu_len_map tok rfl rfl rfl) ?_
  refine pm ?_
  refine nx ?_
  refine aw_block ?_
  refine aw_loopM (fun s6 => ⟨updA (updA (updA (updA ((fun _ => .dead)) 1 (.ptr 3 0 1 0 0)) 6 (.d (.sl (List.map cI p0.Circles)))) 7 (.d (.v (.int .i64 (p0.Circles.length : Int))))) 8 (.d (.v (.int .i64 s6))), lks [.no, .no, .no, .live [⟨30, 2, .av [[.d (.v (.int .i64 p0.Worm)), .d (.sl (List.map cI p0.Circles))]]⟩]]⟩) h1 ?_ (fun s6 y h2 => ?_)
  exact wk [0, 1, 2, 3]
  refine sq [0] ?_
  refine rp rfl w0 rfl (pu_lss rfl rfl) ?_
  refine nx ?_
  refine aw_seq ?_
  refine aw_if h2 rfl (fun hc h2 => ?_) (fun hc h2 => ?_)
  refine sk ?_
  refine aw_seq ?_
  refine aw_block ?_
  refine sq [0,1,2,3,4] ?_
  refine pm ?_
  obtain ⟨v7, hv7, h2⟩ := bnd h2
  refine rp rfl w0 rfl (sl_ix tok hv7 rfl rfl rfl rfl rfl rfl) ?_
  refine lr tok ?_
  refine pa ?_
  refine pa ?_
  refine nx ?_
  obtain ⟨v10, h3, h2⟩ := bnd h2
  refine aw_cut ⟨updA (updA (updA (updA (updA ((fun _ => .dead)) 1 (.ptr 3 0 1 0 0)) 6 (.d (.sl (List.map cI p0.Circles)))) 7 (.d (.v (.int .i64 (p0.Circles.length : Int))))) 8 (.d (.v (.int .i64 s6)))) 29 (.d (.v (.bool v10))), lks [.no, .no, .no, .live [⟨30, 2, .av [[.d (.v (.int .i64 p0.Worm)), .d (.sl (List.map cI p0.Circles))]]⟩]]⟩ ?_ ?_
  refine sr [0,1,2,3,4,5,6,7,8,9,10,11,12,13,14,15,16] ?_
  refine pm ?_
  obtain ⟨v8, hv8, h3⟩ := bnd h3
  refine rs rfl w0 rfl (c_call 4 (i_within_c hv8) rfl rfl rfl) ?_
  refine rp rfl w0 rfl (pu_not rfl) ?_
  refine pm ?_
  refine ra_ifB (u := 16) h3 rfl (fun hc h3 => ?_) (fun hc h3 => ?_)
  iterate 12 refine k1 ?_
  refine pkt ?_
  refine nx ?_
  cases h3
  exact wk [0, 1, 2, 3]
  refine pm1 ?_
  refine rp rfl (w1 rfl rfl rfl) rfl (pu_gtr rfl rfl) ?_
  refine pm1 ?_
  refine ra_if (u := 19) h3 rfl (fun hc h3 => ?_) (fun hc h3 => ?_)
  refine pm1 ?_
  refine fa1 tok ?_
  refine ld1 tok ?_
  refine pm1 ?_
  refine rp rfl (w1 rfl rfl rfl) rfl (pw_sub rfl rfl) ?_
  obtain ⟨v9, hv9, h3⟩ := bnd h3
  refine rp rfl (w1 rfl rfl rfl) rfl (sl_ix tok hv9 rfl rfl rfl rfl rfl rfl) ?_
  refine lr1 tok ?_
  refine rp rfl (w1 rfl rfl rfl) rfl (pu_leq rfl rfl) ?_
  refine pkt1 ?_
  refine pkf ?_
  refine nx ?_
  cases h3
  exact wk [0, 1, 2, 3]
  iterate 8 refine k1 ?_
  refine pkf1 ?_
  refine pkf ?_
  refine nx ?_
  cases h3
  exact wk [0, 1, 2, 3]
  refine aw_ifB h2 rfl (fun hc h2 => ?_) (fun hc h2 => ?_)
  refine sq [0] ?_
  refine pa ?_
  refine nx ?_
  refine aw_ret ?_
  refine block_r ?_
  refine then_r ?_
  cases h2
  refine loop_r ⟨_, rfl, fun e => ?_⟩
  subst e
  refine block_r ?_
  replace h0 := orE_s h0
  refine then_r ?_
  cases h0
  exact ret0_ (rs := [.tmp 2]) rfl
  refine aw_skip ?_
  refine block_n ?_
  refine then_n ?_
  refine sr [0,1] ?_
  refine rp rfl w0 rfl (pw_add rfl rfl) ?_
  refine pm ?_
  refine ra_nil ?_
  refine loop_n ?_
  cases h2
  refine ⟨_, rfl, ?_⟩
  exact wk [0, 1, 2, 3]
  refine aw_exit ?_
  refine then_e ?_
  cases h2
  refine loop_x ⟨_, rfl, fun e => ?_⟩
  subst e
  refine block_hit ?_
  refine then_n ?_
  refine ⟨_, rfl, ?_⟩
  exact wk [0, 1, 2, 3]
  rintro v11 rfl
  replace h0 := orE_f h0
  refine sq [0,1,2,3,4,5,6,7,8,9,10,11,12,13,14,15] ?_
  refine fa tok ?_
  refine ld tok ?_
  obtain ⟨v12, hv12, h0⟩ := bnd h0
  refine rs rfl w0 rfl (c_call 4 (i_within_c hv12) rfl rfl rfl) ?_
  refine pm ?_
  refine ra_ifB (u := 34) h0 rfl (fun hc h0 => ?_) (fun hc h0 => ?_)
  refine fa1 tok ?_
  refine ld1 tok ?_
  refine rp rfl (w1 rfl rfl rfl) rfl (pu_len_map tok rfl rfl rfl) ?_
  refine rp rfl (w1 rfl rfl rfl) rfl (pu_geq rfl rfl) ?_
  refine pkt ?_
  refine pm ?_
  refine ra_if (u := 40) h0 rfl (fun hc h0 => ?_) (fun hc h0 => ?_)
  refine fa1 tok ?_
  refine ld1 tok ?_
  refine rp rfl (w1 rfl rfl rfl) rfl (pu_len_map tok rfl rfl rfl) ?_
  refine rp rfl (w1 rfl rfl rfl) rfl (pu_leq rfl rfl) ?_
  refine pkt ?_
  refine pa ?_
  refine nx ?_
  refine aw_ret ?_
  cases h0
  exact ret0_ (rs := [.tmp 2]) rfl
  iterate 4 refine k1 ?_
  refine pkf ?_
  refine pa ?_
  refine nx ?_
  refine aw_ret ?_
  cases h0
  exact ret0_ (rs := [.tmp 2]) rfl
  iterate 4 refine k1 ?_
  refine pkf ?_
  refine pm ?_
  iterate 4 refine k1 ?_
  refine pkf ?_
  refine pa ?_
  refine nx ?_
  refine aw_ret ?_
  cases h0
  exact ret0_ (rs := [.tmp 2]) rfl

theorem slices_Index_Lint64_int64_c {p0 : List Int} {p1 : Int} {r : Int} (h0 : slices_Index_Lint64_int64_m p0 p1 = some r) : FnC Tryd.prog 83 [] [.d (.sl (List.map cI p0)), .d (.v (.int .i64 p1))] [] (.d (.v (.int .i64 r))) := by
  refine fnc_intro (T := tt) (N := 19) tok Tryd.func83 rfl rfl (by kernel_rfl) rfl rfl ?_
  unfold slices_Index_Lint64_int64_m at h0
  refine sq [0] ?_
  refine pa ?_
  refine nx ?_
  obtain ⟨v5x, h1, h0⟩ := bnd h0
  refine aw_cutE v5x (fun v5 => ⟨(fun _ => .dead), lks [.no, .no, .no]⟩) ?_ ?_
  refine sq [0,1,2] ?_
  refine pm ?_
  refine rp rfl w0 rfl (pu_len_map tok rfl rfl rfl) ?_
  refine pm ?_
  refine nx ?_
  refine aw_block ?_
  refine aw_loopM (fun s3 => ⟨updA (updA (updA (updA ((fun _ => .dead)) 0 (.d (.sl (List.map cI p0)))) 1 (.d (.v (.int .i64 p1)))) 7 (.d (.v (.int .i64 (p0.length : Int))))) 8 (.d (.v (.int .i64 s3))), lks [.no, .no, .no]⟩) h1 ?_ (fun s3 y h2 => ?_)
  exact wk [0, 1, 2]
  refine sq [0] ?_
  refine rp rfl w0 rfl (pu_lss rfl rfl) ?_
  refine nx ?_
  refine aw_seq ?_
  refine aw_if h2 rfl (fun hc h2 => ?_) (fun hc h2 => ?_)
  refine sk ?_
  refine aw_seq ?_
  refine aw_block ?_
  refine sq [0,1] ?_
  refine pm ?_
  refine pa ?_
  refine nx ?_
  refine sq [0,1,2,3,4,5] ?_
  iterate 3 refine pm ?_
  obtain ⟨v4, hv4, h2⟩ := bnd h2
  refine rp rfl w0 rfl (sl_ix tok hv4 rfl rfl rfl rfl rfl rfl) ?_
  refine lr tok ?_
  refine rp rfl w0 rfl (pu_eql rfl rfl) ?_
  refine nx ?_
  refine aw_if h2 rfl (fun hc h2 => ?_) (fun hc h2 => ?_)
  refine sq [0,1] ?_
  refine pm ?_
  refine pa ?_
  refine nx ?_
  refine aw_ret ?_
  refine block_r ?_
  refine then_r ?_
  cases h2
  refine loop_r ⟨_, rfl, fun e => ?_⟩
  subst e
  refine block_r ?_
  replace h0 := orE_s h0
  refine then_r ?_
  cases h0
  exact ret0_ (rs := [.tmp 4]) rfl
  refine aw_skip ?_
  refine block_n ?_
  refine then_n ?_
  refine sr [0,1] ?_
  refine rp rfl w0 rfl (pw_add rfl rfl) ?_
  refine pm ?_
  refine ra_nil ?_
  refine loop_n ?_
  cases h2
  refine ⟨_, rfl, ?_⟩
  exact wk [0, 1, 2]
  refine aw_exit ?_
  refine then_e ?_
  cases h2
  refine loop_x ⟨_, rfl, fun e => ?_⟩
  subst e
  refine block_hit ?_
  refine then_n ?_
  refine ⟨_, rfl, ?_⟩
  exact wk [0, 1, 2]
  rintro v5 rfl
  replace h0 := orE_f h0
  refine sq [0] ?_
  refine pa ?_
  refine nx ?_
  refine aw_ret ?_
  cases h0
  exact ret0_ (rs := [.tmp 4]) rfl

theorem slices_Contains_Lint64_int64_c {p0 : List Int} {p1 : Int} {r : Bool} (h0 : slices_Contains_Lint64_int64_m p0 p1 = some r) : FnC Tryd.prog 58 [] [.d (.sl (List.map cI p0)), .d (.v (.int .i64 p1))] [] (.d (.v (.bool r))) := by
  refine fnc_intro (T := tt) (N := 9) tok Tryd.func58 rfl rfl (by kernel_rfl) rfl rfl ?_
  unfold slices_Contains_Lint64_int64_m at h0
  refine sq [0] ?_
  refine pa ?_
  refine nx ?_
  refine sq [0,1,2,3,4] ?_
  refine pm ?_
  refine pm ?_
  obtain ⟨v1, hv1, h0⟩ := bnd h0
  refine rs rfl w0 rfl (c_call 3 (slices_Index_Lint64_int64_c hv1) rfl rfl rfl) ?_
  refine rp rfl w0 rfl (pu_geq rfl rfl) ?_
  refine pa ?_
  refine nx ?_
  refine aw_ret ?_
  cases h0
  exact ret0_ (rs := [.tmp 4]) rfl

theorem i_stepOf_c {p0 : Index_} {r : Int} (h0 : i_stepOf_m p0 = some r) : FnC Tryd.prog 50 [] [.agg [.d (.v (.int .i64 p0.Turns)), .d (.v (.int .i64 p0.Holes)), .d (.v (.int .i64 p0.Circle))]] [] (.d (.v (.int .i64 r))) := by
  refine fnc_intro (T := tt) (N := 11) tok Tryd.func50 rfl rfl (by kernel_rfl) rfl rfl ?_
  unfold i_stepOf_m at h0
  refine sq [0,1] ?_
  refine rs rfl w0 rfl (st_box 3 (cs := _ :: _) rfl rfl rfl) ?_
  refine pa ?_
  refine nx ?_
  refine sq [0,1,2,3,4,5,6,7,8] ?_
  refine fa tok ?_
  refine ld tok ?_
  refine fa tok ?_
  refine ld tok ?_
  refine rp rfl w0 rfl (pw_mul rfl rfl) ?_
  refine fa tok ?_
  refine ld tok ?_
  refine rp rfl w0 rfl (pw_add rfl rfl) ?_
  refine pa ?_
  refine nx ?_
  refine aw_ret ?_
  cases h0
  exact ret0_ (rs := [.tmp 2]) rfl

theorem i_ValidIndex_c {p0 : Divider_} {p1 : Index_} {r : Bool} (h0 : i_ValidIndex_m p0 p1 = some r) : FnC Tryd.prog 21 [] [.agg [.d (.v (.int .i64 p0.Worm)), .d (.sl (List.map cI p0.Circles))], .agg [.d (.v (.int .i64 p1.Turns)), .d (.v (.int .i64 p1.Holes)), .d (.v (.int .i64 p1.Circle))]] [] (.d (.v (.bool r))) := by
  refine fnc_intro (T := tt) (N := 41) tok Tryd.func21 rfl rfl (by kernel_rfl) rfl rfl ?_
  unfold i_ValidIndex_m at h0
  refine sq [0,1,2] ?_
  refine rs rfl w0 rfl (st_box 3 (cs := _ :: _) rfl rfl rfl) ?_
  refine rs rfl w0 rfl (st_box 4 (cs := _ :: _) rfl rfl rfl) ?_
  refine pa ?_
  refine nx ?_
  refine aw_seq ?_
  obtain ⟨v5, h1, h0⟩ := bnd h0
  refine aw_cut ⟨updA (updA (updA ((fun _ => .dead)) 2 (.ptr 3 0 1 0 0)) 3 (.ptr 4 0 1 0 0)) 32 (.d (.v (.bool v5))), lks [.no, .no, .no, .live [⟨30, 2, .av [[.d (.v (.int .i64 p0.Worm)), .d (.sl (List.map cI p0.Circles))]]⟩], .live [⟨27, 3, .av [[.d (.v (.int .i64 p1.Turns)), .d (.v (.int .i64 p1.Holes)), .d (.v (.int .i64 p1.Circle))]]⟩]]⟩ ?_ ?_
  refine sr [0,1,2,3,4,5,6,7,8,9,10,11,12,13,14,15,16,17,18,19,20,21,22,23,24,25,26,27] ?_
  refine rl rfl w0 rfl (bx_ldN tok rfl rfl rfl rfl) ?_
  obtain ⟨v1, hv1, h1⟩ := bnd h1
  refine rs rfl w0 rfl (c_call 5 (i_ValidDivider_c hv1) rfl rfl rfl) ?_
  refine rp rfl w0 rfl (pu_not rfl) ?_
  refine pm ?_
  refine ra_ifB (u := 8) h1 rfl (fun hc h1 => ?_) (fun hc h1 => ?_)
  iterate 6 refine k1 ?_
  refine pkt ?_
  refine pm ?_
  iterate 6 refine k1 ?_
  refine pkt ?_
  refine pm ?_
  iterate 7 refine k1 ?_
  refine pkt ?_
  refine nx ?_
  cases h1
  exact wk [0, 1, 2, 3, 4]
  refine fa1 tok ?_
  refine ld1 tok ?_
  refine fa1 tok ?_
  refine ld1 tok ?_
  obtain ⟨v2, hv2, h1⟩ := bnd h1
  refine rs rfl (w1 rfl rfl rfl) rfl (c_call 5 (slices_Contains_Lint64_int64_c hv2) rfl rfl rfl) ?_
  refine rp rfl (w1 rfl rfl rfl) rfl (pu_not rfl) ?_
  refine pkf ?_
  refine pm ?_
  refine ra_ifB (u := 16) h1 rfl (fun hc h1 => ?_) (fun hc h1 => ?_)
  iterate 6 refine k1 ?_
  refine pkt ?_
  refine pm ?_
  iterate 7 refine k1 ?_
  refine pkt ?_
  refine nx ?_
  cases h1
  exact wk [0, 1, 2, 3, 4]
  refine fa1 tok ?_
  refine ld1 tok ?_
  refine fa1 tok ?_
  refine ld1 tok ?_
  obtain ⟨v3, hv3, h1⟩ := bnd h1
  refine rs rfl (w1 rfl rfl rfl) rfl (c_call 5 (i_within_c hv3) rfl rfl rfl) ?_
  refine rp rfl (w1 rfl rfl rfl) rfl (pu_not rfl) ?_
  refine pkf ?_
  refine pm ?_
  refine ra_ifB (u := 24) h1 rfl (fun hc h1 => ?_) (fun hc h1 => ?_)
  iterate 7 refine k1 ?_
  refine pkt ?_
  refine nx ?_
  cases h1
  exact wk [0, 1, 2, 3, 4]
  refine fa1 tok ?_
  refine ld1 tok ?_
  refine fa1 tok ?_
  refine ld1 tok ?_
  refine rp rfl (w1 rfl rfl rfl) rfl (pw_sub rfl rfl) ?_
  obtain ⟨v4, hv4, h1⟩ := bnd h1
  refine rs rfl (w1 rfl rfl rfl) rfl (c_call 5 (i_within_c hv4) rfl rfl rfl) ?_
  refine rp rfl (w1 rfl rfl rfl) rfl (pu_not rfl) ?_
  refine pkf ?_
  refine nx ?_
  cases h1
  exact wk [0, 1, 2, 3, 4]
  refine aw_ifB h0 rfl (fun hc h0 => ?_) (fun hc h0 => ?_)
  refine sq [0] ?_
  refine pa ?_
  refine nx ?_
  refine aw_ret ?_
  refine then_r ?_
  cases h0
  exact ret0_ (rs := [.tmp 4]) rfl
  refine sk ?_
  refine aw_seq ?_
  refine aw_region_draw (is := [0, 2, 3, 4, 5, 6, 1, 7, 8]) [0, 1, 0, 4, 0, 16, 60, 127, 255] follows (by kernel_rfl) ?_
  refine rt_lk rfl w0 rfl (bx_ldN tok rfl rfl rfl rfl) rfl rfl rfl ?_
  refine rt_lk rfl w0 rfl (bx_fa tok rfl rfl rfl rfl rfl rfl rfl) rfl rfl rfl ?_
  refine rt_lk rfl w0 rfl (bx_ld1 tok rfl rfl rfl rfl rfl) rfl rfl rfl ?_
  refine rt_lk rfl w0 rfl (bx_fa tok rfl rfl rfl rfl rfl rfl rfl) rfl rfl rfl ?_
  refine rt_lk rfl w0 rfl (bx_ld1 tok rfl rfl rfl rfl rfl) rfl rfl rfl ?_
  refine rt_p rfl w0 rfl (pw_mul rfl rfl) ?_
  obtain ⟨v6, hv6, h0⟩ := bnd h0
  refine rt_c rfl w0 rfl (b_call 5 (i_stepOf_c hv6) rfl rfl rfl) ?_
  obtain ⟨v7, hv7, h0⟩ := bnd h0
  refine rt_c rfl w0 rfl (b_call 5 (i_within_c hv7) rfl rfl rfl) ?_
  refine tpa ?_
  refine rt_nil ?_
  refine ⟨by kernel_rfl, ?_⟩
  refine then_n ?_
  refine aw_ret ?_
  cases h0
  exact ret0_ (rs := [.tmp 4]) rfl

theorem strconv_FormatInt_c {p0 p1 : Int} {r : ByteArray} (h0 : strconv_FormatInt_m p0 p1 = some r) : FnC Tryd.prog 82 [] [.d (.v (.int .i64 p0)), .d (.v (.int .i64 p1))] [] (.d (.v (.string r))) := by
  obtain ⟨⟨q0, q1, q2⟩, h0⟩ := chk_e h0
  cases h0
  subst q2
  exact sh_fmt q0 q1

theorem i_Decimal_c {p0 : Int} {r : ByteArray} (h0 : i_Decimal_m p0 = some r) : FnC Tryd.prog 57 [] [.d (.v (.int .i64 p0))] [] (.d (.v (.string r))) := by
  refine fnc_intro (T := tt) (N := 5) tok Tryd.func57 rfl rfl (by kernel_rfl) rfl rfl ?_
  unfold i_Decimal_m at h0
  refine sq [0] ?_
  refine pa ?_
  refine nx ?_
  refine sq [0,1,2] ?_
  refine pm ?_
  obtain ⟨v1, hv1, h0⟩ := bnd h0
  refine rs rfl w0 rfl (c_call 3 (strconv_FormatInt_c hv1) rfl rfl rfl) ?_
  refine pa ?_
  refine nx ?_
  refine aw_ret ?_
  cases h0
  exact ret0_ (rs := [.tmp 2]) rfl

theorem i_IndexText_c {p0 : Divider_} {p1 : Index_} {r : ByteArray} (h0 : i_IndexText_m p0 p1 = some r) : FnC Tryd.prog 19 [] [.agg [.d (.v (.int .i64 p0.Worm)), .d (.sl (List.map cI p0.Circles))], .agg [.d (.v (.int .i64 p1.Turns)), .d (.v (.int .i64 p1.Holes)), .d (.v (.int .i64 p1.Circle))]] [] (.d (.v (.string r))) := by
  refine fnc_intro (T := tt) (N := 22) tok Tryd.func19 rfl rfl (by kernel_rfl) rfl rfl ?_
  unfold i_IndexText_m at h0
  refine sq [0,1,2] ?_
  refine rs rfl w0 rfl (st_box 3 (cs := _ :: _) rfl rfl rfl) ?_
  refine rs rfl w0 rfl (st_box 4 (cs := _ :: _) rfl rfl rfl) ?_
  refine pa ?_
  refine nx ?_
  refine aw_seq ?_
  refine sq [0,1,2,3] ?_
  refine rl rfl w0 rfl (bx_ldN tok rfl rfl rfl rfl) ?_
  refine rl rfl w0 rfl (bx_ldN tok rfl rfl rfl rfl) ?_
  obtain ⟨v1, hv1, h0⟩ := bnd h0
  refine rs rfl w0 rfl (c_call 5 (i_ValidIndex_c hv1) rfl rfl rfl) ?_
  refine rp rfl w0 rfl (pu_not rfl) ?_
  refine nx ?_
  refine aw_ifB h0 rfl (fun hc h0 => ?_) (fun hc h0 => ?_)
  refine sq [0] ?_
  refine pa ?_
  refine nx ?_
  refine aw_ret ?_
  refine then_r ?_
  cases h0
  exact ret0_ (rs := [.tmp 4]) rfl
  refine sk ?_
  refine aw_seq ?_
  refine aw_region_draw (is := [0, 1, 4, 5, 9, 10, 2, 3, 6, 7, 8, 11, 12, 13]) [0, 1, 3, 7, 0, 16, 55, 127, 255, 0, 512, 1655, 4095, 8191] follows (by kernel_rfl) ?_
  refine rt_lk rfl w0 rfl (bx_fa tok rfl rfl rfl rfl rfl rfl rfl) rfl rfl rfl ?_
  refine rt_lk rfl w0 rfl (bx_ld1 tok rfl rfl rfl rfl rfl) rfl rfl rfl ?_
  refine rt_lk rfl w0 rfl (bx_fa tok rfl rfl rfl rfl rfl rfl rfl) rfl rfl rfl ?_
  refine rt_lk rfl w0 rfl (bx_ld1 tok rfl rfl rfl rfl rfl) rfl rfl rfl ?_
  refine rt_lk rfl w0 rfl (bx_fa tok rfl rfl rfl rfl rfl rfl rfl) rfl rfl rfl ?_
  refine rt_lk rfl w0 rfl (bx_ld1 tok rfl rfl rfl rfl rfl) rfl rfl rfl ?_
  obtain ⟨v2, hv2, h0⟩ := bnd h0
  refine rt_c rfl w0 rfl (b_call 5 (i_Decimal_c hv2) rfl rfl rfl) ?_
  obtain ⟨hq3, h0⟩ := chk_e h0
  refine rt_p rfl w0 rfl (pu_cat rfl rfl hq3) ?_
  obtain ⟨v4, hv4, h0⟩ := bnd h0
  refine rt_c rfl w0 rfl (b_call 5 (i_Decimal_c hv4) rfl rfl rfl) ?_
  obtain ⟨hq5, h0⟩ := chk_e h0
  refine rt_p rfl w0 rfl (pu_cat rfl rfl hq5) ?_
  obtain ⟨hq6, h0⟩ := chk_e h0
  refine rt_p rfl w0 rfl (pu_cat rfl rfl hq6) ?_
  obtain ⟨v7, hv7, h0⟩ := bnd h0
  refine rt_c rfl w0 rfl (b_call 5 (i_Decimal_c hv7) rfl rfl rfl) ?_
  obtain ⟨hq8, h0⟩ := chk_e h0
  refine rt_p rfl w0 rfl (pu_cat rfl rfl hq8) ?_
  refine tpa ?_
  refine rt_nil ?_
  refine ⟨by kernel_rfl, ?_⟩
  refine then_n ?_
  refine aw_ret ?_
  cases h0
  exact ret0_ (rs := [.tmp 4]) rfl

theorem i_ReadIndex_c {p0 : Divider_} {p1 : ByteArray} {r : Index_ × Bool} (h0 : i_ReadIndex_m p0 p1 = some r) : FnC Tryd.prog 9 [] [.agg [.d (.v (.int .i64 p0.Worm)), .d (.sl (List.map cI p0.Circles))], .d (.v (.string p1))] [] (.tup [.agg [.d (.v (.int .i64 r.1.Turns)), .d (.v (.int .i64 r.1.Holes)), .d (.v (.int .i64 r.1.Circle))], .d (.v (.bool r.2))]) := by
  refine fnc_intro (T := tt) (N := 56) tok Tryd.func9 rfl rfl (by kernel_rfl) rfl rfl ?_
  unfold i_ReadIndex_m at h0
  refine sq [0,1,2] ?_
  refine rs rfl w0 rfl (st_box 3 (cs := _ :: _) rfl rfl rfl) ?_
  refine rs rfl w0 rfl (st_alloc 4 (cs := [.d (.v (.int .i64 0)), .d (.v (.int .i64 0)), .d (.v (.int .i64 0))]) tok rfl rfl rfl) ?_
  refine pa ?_
  refine nx ?_
  refine sq [0,1,2,3,4,5,6,7,8] ?_
  refine pm ?_
  obtain ⟨v1, hv1, h0⟩ := bnd h0
  refine rs rfl w0 rfl (c_call 5 (strings_Cut_c hv1) rfl rfl rfl) ?_
  refine rp rfl w0 rfl (pu_move (r := .tup _) rfl) ?_
  iterate 3 refine rp rfl w0 rfl (pu_extract rfl rfl) ?_
  iterate 3 refine pa ?_
  refine nx ?_
  refine sq [0,1,2,3,4,5,6,7,8] ?_
  refine pm ?_
  obtain ⟨v2, hv2, h0⟩ := bnd h0
  refine rs rfl w0 rfl (c_call 5 (strings_Cut_c hv2) rfl rfl rfl) ?_
  refine rp rfl w0 rfl (pu_move (r := .tup _) rfl) ?_
  iterate 3 refine rp rfl w0 rfl (pu_extract rfl rfl) ?_
  iterate 3 refine pa ?_
  refine nx ?_
  refine sq [0] ?_
  refine rs rfl w0 rfl (st_alloc 5 (cs := [.d (.v (.int .i64 0)), .d (.v (.int .i64 0)), .d (.v (.int .i64 0))]) tok rfl rfl rfl) ?_
  refine nx ?_
  refine sq [0,1,2,3,4,5,6] ?_
  refine pm ?_
  obtain ⟨v3, hv3, h0⟩ := bnd h0
  refine rs rfl w0 rfl (c_call 6 (i_ReadDecimal_c hv3) rfl rfl rfl) ?_
  refine rp rfl w0 rfl (pu_move (r := .tup _) rfl) ?_
  refine rp rfl w0 rfl (pu_extract rfl rfl) ?_
  refine rp rfl w0 rfl (pu_extract rfl rfl) ?_
  refine fa tok ?_
  refine rw0 rfl w0 (bx_st (cs := [.d _]) tok rfl rfl rfl rfl rfl rfl rfl) ?_
  refine nx ?_
  refine sq [0,1,2,3,4,5,6] ?_
  refine pm ?_
  obtain ⟨v4, hv4, h0⟩ := bnd h0
  refine rs rfl w0 rfl (c_call 6 (i_ReadDecimal_c hv4) rfl rfl rfl) ?_
  refine rp rfl w0 rfl (pu_move (r := .tup _) rfl) ?_
  refine rp rfl w0 rfl (pu_extract rfl rfl) ?_
  refine rp rfl w0 rfl (pu_extract rfl rfl) ?_
  refine fa tok ?_
  refine rw0 rfl w0 (bx_st (cs := [.d _]) tok rfl rfl rfl rfl rfl rfl rfl) ?_
  refine nx ?_
  refine sq [0,1,2,3,4,5,6] ?_
  refine pm ?_
  obtain ⟨v5, hv5, h0⟩ := bnd h0
  refine rs rfl w0 rfl (c_call 6 (i_ReadDecimal_c hv5) rfl rfl rfl) ?_
  refine rp rfl w0 rfl (pu_move (r := .tup _) rfl) ?_
  refine rp rfl w0 rfl (pu_extract rfl rfl) ?_
  refine rp rfl w0 rfl (pu_extract rfl rfl) ?_
  refine fa tok ?_
  refine rw0 rfl w0 (bx_st (cs := [.d _]) tok rfl rfl rfl rfl rfl rfl rfl) ?_
  refine nx ?_
  refine aw_seq ?_
  obtain ⟨v8, h1, h0⟩ := bnd h0
  refine aw_cut ⟨updA (updA (updA ((fun _ => .dead)) 4 (.ptr 3 0 1 0 0)) 12 (.ptr 4 0 1 0 0)) 53 (.d (.v (.bool v8))), lks [.no, .no, .no, .live [⟨27, 3, .av [[.d (.v (.int .i64 0)), .d (.v (.int .i64 0)), .d (.v (.int .i64 0))]]⟩], .live [⟨27, 3, .av [[.d (.v (.int .i64 v3.1)), .d (.v (.int .i64 v4.1)), .d (.v (.int .i64 v5.1))]]⟩]]⟩ ?_ ?_
  refine sr [0,1,2,3,4,5,6,7,8,9,10] ?_
  refine rl rfl w0 rfl (bx_ldN tok rfl rfl rfl rfl) ?_
  refine rl rfl w0 rfl (bx_ldN tok rfl rfl rfl rfl) ?_
  obtain ⟨v6, hv6, h1⟩ := bnd h1
  refine rs rfl w0 rfl (c_call 6 (i_ValidIndex_c hv6) rfl rfl rfl) ?_
  refine rp rfl w0 rfl (pu_not rfl) ?_
  refine pm ?_
  refine ra_ifB (u := 47) h1 rfl (fun hc h1 => ?_) (fun hc h1 => ?_)
  iterate 5 refine k1 ?_
  refine pkt ?_
  refine nx ?_
  cases h1
  exact wk [0, 1, 2, 4, 5]
  refine rl rfl (w1 rfl rfl rfl) rfl (bx_ldN tok rfl rfl rfl rfl) ?_
  refine rl rfl (w1 rfl rfl rfl) rfl (bx_ldN tok rfl rfl rfl rfl) ?_
  obtain ⟨v7, hv7, h1⟩ := bnd h1
  refine rs rfl (w1 rfl rfl rfl) rfl (c_call 6 (i_IndexText_c hv7) rfl rfl rfl) ?_
  refine pm1 ?_
  refine rp rfl (w1 rfl rfl rfl) rfl (pu_sneq rfl rfl) ?_
  refine pkf ?_
  refine nx ?_
  cases h1
  exact wk [0, 1, 2, 4, 5]
  refine aw_ifB h0 rfl (fun hc h0 => ?_) (fun hc h0 => ?_)
  refine sq [0,1,2] ?_
  refine rp rfl w0 rfl (pbl (C0 := [.d (.v (.int .i64 0)), .d (.v (.int .i64 0)), .d (.v (.int .i64 0))]) tok rfl rfl rfl) ?_
  refine rw0 rfl w0 (bx_st (cs := _ :: _) tok rfl rfl rfl rfl rfl rfl rfl) ?_
  refine pa ?_
  refine nx ?_
  refine aw_ret ?_
  refine then_r ?_
  cases h0
  exact ret0_ (rs := [.cell 4 27, .tmp 5]) rfl
  refine sk ?_
  refine sq [0,1,2] ?_
  refine rl rfl w0 rfl (bx_ldN tok rfl rfl rfl rfl) ?_
  refine rw0 rfl w0 (bx_st (cs := _ :: _) tok rfl rfl rfl rfl rfl rfl rfl) ?_
  refine pa ?_
  refine nx ?_
  refine aw_ret ?_
  cases h0
  exact ret0_ (rs := [.cell 4 27, .tmp 5]) rfl

theorem l_eqIndex_c {p0 : Index_} {p1 : Index_} {r : Bool} (h0 : l_eqIndex_m p0 p1 = some r) : FnC Tryd.prog 10 [] [.agg [.d (.v (.int .i64 p0.Turns)), .d (.v (.int .i64 p0.Holes)), .d (.v (.int .i64 p0.Circle))], .agg [.d (.v (.int .i64 p1.Turns)), .d (.v (.int .i64 p1.Holes)), .d (.v (.int .i64 p1.Circle))]] [] (.d (.v (.bool r))) := by
  refine fnc_intro (T := tt) (N := 20) tok Tryd.func10 rfl rfl (by kernel_rfl) rfl rfl ?_
  unfold l_eqIndex_m at h0
  refine sq [0,1,2] ?_
  refine rs rfl w0 rfl (st_box 3 (cs := _ :: _) rfl rfl rfl) ?_
  refine rs rfl w0 rfl (st_box 4 (cs := _ :: _) rfl rfl rfl) ?_
  refine pa ?_
  refine nx ?_
  refine aw_seq ?_
  refine sq [0,1,2,3,4] ?_
  refine fa tok ?_
  refine ld tok ?_
  refine fa tok ?_
  refine ld tok ?_
  refine rp rfl w0 rfl (pu_neq rfl rfl) ?_
  refine nx ?_
  refine aw_if h0 rfl (fun hc h0 => ?_) (fun hc h0 => ?_)
  refine sq [0] ?_
  refine pa ?_
  refine nx ?_
  refine aw_ret ?_
  refine then_r ?_
  cases h0
  exact ret0_ (rs := [.tmp 4]) rfl
  refine sk ?_
  refine aw_seq ?_
  refine sq [0,1,2,3,4] ?_
  refine fa tok ?_
  refine ld tok ?_
  refine fa tok ?_
  refine ld tok ?_
  refine rp rfl w0 rfl (pu_neq rfl rfl) ?_
  refine nx ?_
  refine aw_if h0 rfl (fun hc h0 => ?_) (fun hc h0 => ?_)
  refine sq [0] ?_
  refine pa ?_
  refine nx ?_
  refine aw_ret ?_
  refine then_r ?_
  cases h0
  exact ret0_ (rs := [.tmp 4]) rfl
  refine sk ?_
  refine aw_seq ?_
  refine sq [0,1,2,3,4] ?_
  refine fa tok ?_
  refine ld tok ?_
  refine fa tok ?_
  refine ld tok ?_
  refine rp rfl w0 rfl (pu_neq rfl rfl) ?_
  refine nx ?_
  refine aw_if h0 rfl (fun hc h0 => ?_) (fun hc h0 => ?_)
  refine sq [0] ?_
  refine pa ?_
  refine nx ?_
  refine aw_ret ?_
  refine then_r ?_
  cases h0
  exact ret0_ (rs := [.tmp 4]) rfl
  refine sk ?_
  refine sq [0] ?_
  refine pa ?_
  refine nx ?_
  refine aw_ret ?_
  cases h0
  exact ret0_ (rs := [.tmp 4]) rfl

theorem l_eqInt64S_c {p0 : List Int} {p1 : List Int} {r : Bool} (h0 : l_eqInt64S_m p0 p1 = some r) : FnC Tryd.prog 42 [] [.d (.sl (List.map cI p0)), .d (.sl (List.map cI p1))] [] (.d (.v (.bool r))) := by
  refine fnc_intro (T := tt) (N := 26) tok Tryd.func42 rfl rfl (by kernel_rfl) rfl rfl ?_
  unfold l_eqInt64S_m at h0
  refine sq [0] ?_
  refine pa ?_
  refine nx ?_
  refine aw_seq ?_
  refine sq [0,1,2,3,4] ?_
  refine pm ?_
  refine rp rfl w0 rfl (pu_len_map tok rfl rfl rfl) ?_
  refine pm ?_
  refine rp rfl w0 rfl (pu_len_map tok rfl rfl rfl) ?_
  refine rp rfl w0 rfl (pu_neq rfl rfl) ?_
  refine nx ?_
  refine aw_if h0 rfl (fun hc h0 => ?_) (fun hc h0 => ?_)
  refine sq [0] ?_
  refine pa ?_
  refine nx ?_
  refine aw_ret ?_
  refine then_r ?_
  cases h0
  exact ret0_ (rs := [.tmp 4]) rfl
  refine sk ?_
  obtain ⟨v7x, h1, h0⟩ := bnd h0
  refine aw_cutE v7x (fun v7 => ⟨(fun _ => .dead), lks [.no, .no, .no]⟩) ?_ ?_
  refine sq [0] ?_
  refine pa ?_
  refine nx ?_
  refine aw_block ?_
  refine aw_loopM (fun s4 => ⟨updA (updA (updA ((fun _ => .dead)) 0 (.d (.sl (List.map cI p0)))) 1 (.d (.sl (List.map cI p1)))) 5 (.d (.v (.int .i64 s4))), lks [.no, .no, .no]⟩) h1 ?_ (fun s4 y h2 => ?_)
  exact wk [0, 1, 2]
  refine aw_seq ?_
  refine sq [0,1,2,3] ?_
  refine pm ?_
  refine pm ?_
  refine rp rfl w0 rfl (pu_len_map tok rfl rfl rfl) ?_
  refine rp rfl w0 rfl (pu_lss rfl rfl) ?_
  refine nx ?_
  refine aw_if h2 rfl (fun hc h2 => ?_) (fun hc h2 => ?_)
  refine sk ?_
  refine aw_seq ?_
  refine aw_block ?_
  refine aw_seq ?_
  refine aw_region_draw (is := [0, 1, 2, 3, 4, 5, 6, 7, 8]) [0, 0, 3, 7, 0, 0, 48, 112, 255] follows (by kernel_rfl) ?_
  refine tpm ?_
  refine tpm ?_
  obtain ⟨v5, hv5, h2⟩ := bnd h2
  refine rt_p rfl w0 rfl (sl_ix tok hv5 rfl rfl rfl rfl rfl rfl) ?_
  refine tlr tok ?_
  refine tpm ?_
  refine tpm ?_
  obtain ⟨v6, hv6, h2⟩ := bnd h2
  refine rt_p rfl w0 rfl (sl_ix tok hv6 rfl rfl rfl rfl rfl rfl) ?_
  refine tlr tok ?_
  refine rt_p rfl w0 rfl (pu_neq rfl rfl) ?_
  refine rt_nil ?_
  refine ⟨by kernel_rfl, ?_⟩
  refine then_n ?_
  refine aw_if h2 rfl (fun hc h2 => ?_) (fun hc h2 => ?_)
  refine sq [0] ?_
  refine pa ?_
  refine nx ?_
  refine aw_ret ?_
  refine block_r ?_
  refine then_r ?_
  cases h2
  refine loop_r ⟨_, rfl, fun e => ?_⟩
  subst e
  refine block_r ?_
  replace h0 := orE_s h0
  refine then_r ?_
  cases h0
  exact ret0_ (rs := [.tmp 4]) rfl
  refine aw_skip ?_
  refine block_n ?_
  refine then_n ?_
  refine sr [0,1,2] ?_
  refine pm ?_
  refine rp rfl w0 rfl (pw_add rfl rfl) ?_
  refine pa ?_
  refine ra_nil ?_
  refine loop_n ?_
  cases h2
  refine ⟨_, rfl, ?_⟩
  exact wk [0, 1, 2]
  refine aw_exit ?_
  refine then_e ?_
  cases h2
  refine loop_x ⟨_, rfl, fun e => ?_⟩
  subst e
  refine block_hit ?_
  refine then_n ?_
  refine ⟨_, rfl, ?_⟩
  exact wk [0, 1, 2]
  rintro v7 rfl
  replace h0 := orE_f h0
  refine sq [0] ?_
  refine pa ?_
  refine nx ?_
  refine aw_ret ?_
  cases h0
  exact ret0_ (rs := [.tmp 4]) rfl

theorem l_eqDivider_c {p0 : Divider_} {p1 : Divider_} {r : Bool} (h0 : l_eqDivider_m p0 p1 = some r) : FnC Tryd.prog 11 [] [.agg [.d (.v (.int .i64 p0.Worm)), .d (.sl (List.map cI p0.Circles))], .agg [.d (.v (.int .i64 p1.Worm)), .d (.sl (List.map cI p1.Circles))]] [] (.d (.v (.bool r))) := by
  refine fnc_intro (T := tt) (N := 16) tok Tryd.func11 rfl rfl (by kernel_rfl) rfl rfl ?_
  unfold l_eqDivider_m at h0
  refine sq [0,1,2] ?_
  refine rs rfl w0 rfl (st_box 3 (cs := _ :: _) rfl rfl rfl) ?_
  refine rs rfl w0 rfl (st_box 4 (cs := _ :: _) rfl rfl rfl) ?_
  refine pa ?_
  refine nx ?_
  refine aw_seq ?_
  refine sq [0,1,2,3,4] ?_
  refine fa tok ?_
  refine ld tok ?_
  refine fa tok ?_
  refine ld tok ?_
  refine rp rfl w0 rfl (pu_neq rfl rfl) ?_
  refine nx ?_
  refine aw_if h0 rfl (fun hc h0 => ?_) (fun hc h0 => ?_)
  refine sq [0] ?_
  refine pa ?_
  refine nx ?_
  refine aw_ret ?_
  refine then_r ?_
  cases h0
  exact ret0_ (rs := [.tmp 4]) rfl
  refine sk ?_
  refine aw_seq ?_
  refine sq [0,1,2,3,4,5] ?_
  refine fa tok ?_
  refine ld tok ?_
  refine fa tok ?_
  refine ld tok ?_
  obtain ⟨v1, hv1, h0⟩ := bnd h0
  refine rs rfl w0 rfl (c_call 5 (l_eqInt64S_c hv1) rfl rfl rfl) ?_
  refine rp rfl w0 rfl (pu_not rfl) ?_
  refine nx ?_
  refine aw_ifB h0 rfl (fun hc h0 => ?_) (fun hc h0 => ?_)
  refine sq [0] ?_
  refine pa ?_
  refine nx ?_
  refine aw_ret ?_
  refine then_r ?_
  cases h0
  exact ret0_ (rs := [.tmp 4]) rfl
  refine sk ?_
  refine sq [0] ?_
  refine pa ?_
  refine nx ?_
  refine aw_ret ?_
  cases h0
  exact ret0_ (rs := [.tmp 4]) rfl

theorem l_FnExactReadIndex_c {p0 : Divider_} {p1 : ByteArray} {r : Bool} (h0 : l_FnExactReadIndex_m p0 p1 = some r) : FnC Tryd.prog 3 [] [.agg [.d (.v (.int .i64 p0.Worm)), .d (.sl (List.map cI p0.Circles))], .d (.v (.string p1))] [] (.d (.v (.bool r))) := by
  refine fnc_intro (T := tt) (N := 48) tok Tryd.func3 rfl rfl (by kernel_rfl) rfl rfl ?_
  unfold l_FnExactReadIndex_m at h0
  refine sq [0,1] ?_
  refine rs rfl w0 rfl (st_box 3 (cs := _ :: _) rfl rfl rfl) ?_
  refine pa ?_
  refine nx ?_
  refine aw_seq ?_
  refine sq [0,1,2] ?_
  refine pm ?_
  refine rp rfl w0 rfl (pu_len_str tok rfl rfl rfl) ?_
  refine rp rfl w0 rfl (pu_gtr rfl rfl) ?_
  refine nx ?_
  refine aw_if h0 rfl (fun hc h0 => ?_) (fun hc h0 => ?_)
  refine sq [0] ?_
  refine pa ?_
  refine nx ?_
  refine aw_ret ?_
  refine then_r ?_
  cases h0
  exact ret0_ (rs := [.tmp 4]) rfl
  refine sk ?_
  refine sq [0] ?_
  refine pa ?_
  refine nx ?_
  refine sq [0,1,2,3] ?_
  refine rl rfl w0 rfl (bx_ldN tok rfl rfl rfl rfl) ?_
  refine pm ?_
  obtain ⟨v1, hv1, h0⟩ := bnd h0
  refine rs rfl w0 rfl (c_call 4 (l_szDivider_c hv1) rfl rfl rfl) ?_
  refine pa ?_
  refine nx ?_
  refine aw_seq ?_
  refine sq [0,1] ?_
  refine pm ?_
  refine rp rfl w0 rfl (pu_lss rfl rfl) ?_
  refine nx ?_
  refine aw_if h0 rfl (fun hc h0 => ?_) (fun hc h0 => ?_)
  refine sq [0] ?_
  refine pa ?_
  refine nx ?_
  refine aw_ret ?_
  refine then_r ?_
  cases h0
  exact ret0_ (rs := [.tmp 4]) rfl
  refine sk ?_
  refine sq [0,1,2,3,4,5,6,7,8,9] ?_
  refine rl rfl w0 rfl (bx_ldN tok rfl rfl rfl rfl) ?_
  obtain ⟨v2, hv2, h0⟩ := bnd h0
  refine rs rfl w0 rfl (c_call 4 (l_toDivider_c hv2) rfl rfl rfl) ?_
  refine pm ?_
  obtain ⟨v3, hv3, h0⟩ := bnd h0
  refine rs rfl w0 rfl (c_callV 5 (s_ReadIndex_c hv3) rfl rfl) ?_
  refine rp rfl w0 rfl (pu_move (r := .tup _) rfl) ?_
  refine rp rfl w0 rfl (pu_extract rfl rfl) ?_
  refine rp rfl w0 rfl (pu_extract rfl rfl) ?_
  refine rs rfl w0 rfl (st_alloc 5 (cs := [.d (.v (.int .i64 0)), .d (.v (.int .i64 0)), .d (.v (.int .i64 0))]) tok rfl rfl rfl) ?_
  refine rw0 rfl w0 (bx_st (cs := _ :: _) tok rfl rfl rfl rfl rfl rfl rfl) ?_
  refine pa ?_
  refine nx ?_
  refine sq [0,1,2,3] ?_
  refine rl rfl w0 rfl (bx_ldN tok rfl rfl rfl rfl) ?_
  obtain ⟨v4, hv4, h0⟩ := bnd h0
  refine rs rfl w0 rfl (c_call 6 (l_toDivider_c hv4) rfl rfl rfl) ?_
  refine rs rfl w0 rfl (st_alloc 7 (cs := [.d (.v (.int .i64 0)), .d (.v (.slice none 0 0))]) tok rfl rfl rfl) ?_
  refine rw0 rfl w0 (bx_st (cs := _ :: _) tok rfl rfl rfl rfl rfl rfl rfl) ?_
  refine nx ?_
  refine sq [0,1,2,3,4,5,6,7,8] ?_
  refine rl rfl w0 rfl (bx_ldN tok rfl rfl rfl rfl) ?_
  refine pm ?_
  obtain ⟨v5, hv5, h0⟩ := bnd h0
  refine rs rfl w0 rfl (c_callV 8 (i_ReadIndex_c hv5) rfl rfl) ?_
  refine rp rfl w0 rfl (pu_move (r := .tup _) rfl) ?_
  refine rp rfl w0 rfl (pu_extract rfl rfl) ?_
  refine rp rfl w0 rfl (pu_extract rfl rfl) ?_
  refine rs rfl w0 rfl (st_alloc 8 (cs := [.d (.v (.int .i64 0)), .d (.v (.int .i64 0)), .d (.v (.int .i64 0))]) tok rfl rfl rfl) ?_
  refine rw0 rfl w0 (bx_st (cs := _ :: _) tok rfl rfl rfl rfl rfl rfl rfl) ?_
  refine pa ?_
  refine nx ?_
  refine aw_seq ?_
  obtain ⟨v7, h1, h0⟩ := bnd h0
  refine aw_cut ⟨updA (updA (updA ((fun _ => .dead)) 2 (.ptr 3 0 1 0 0)) 8 (.ptr 4 0 1 0 0)) 42 (.d (.v (.bool v7))), lks [.no, .no, .no, .live [⟨24, 2, .av [[.d (.v (.int .i64 p0.Worm)), .d (.sl (List.map cI p0.Circles))]]⟩], .live [⟨30, 2, .av [[.d (.v (.int .i64 v4.Worm)), .own 5 0 (v4.Circles).length]]⟩], .live [⟨2, 1, .data (List.map cI v4.Circles)⟩]]⟩ ?_ ?_
  refine sr [0,1,2,3,4,5,6,7,8] ?_
  refine rl rfl w0 rfl (bx_ldN tok rfl rfl rfl rfl) ?_
  refine rl rfl w0 rfl (bx_ldN tok rfl rfl rfl rfl) ?_
  obtain ⟨v6, hv6, h1⟩ := bnd h1
  refine rs rfl w0 rfl (c_call 9 (l_eqIndex_c hv6) rfl rfl rfl) ?_
  refine rp rfl w0 rfl (pu_not rfl) ?_
  refine pm ?_
  refine ra_ifB (u := 38) h1 rfl (fun hc h1 => ?_) (fun hc h1 => ?_)
  iterate 3 refine k1 ?_
  refine pkt ?_
  refine nx ?_
  cases h1
  exact wk [0, 1, 2, 3, 7, 6]
  refine pm1 ?_
  refine pm1 ?_
  refine rp rfl (w1 rfl rfl rfl) rfl (pu_bneq tok rfl rfl rfl rfl) ?_
  refine pkf ?_
  refine nx ?_
  cases h1
  exact wk [0, 1, 2, 3, 7, 6]
  refine aw_ifB h0 rfl (fun hc h0 => ?_) (fun hc h0 => ?_)
  refine sq [0] ?_
  refine pa ?_
  refine nx ?_
  refine aw_ret ?_
  refine then_r ?_
  cases h0
  exact ret0_ (rs := [.tmp 4]) rfl
  refine sk ?_
  refine aw_seq ?_
  refine aw_seq ?_
  refine aw_region_draw (is := [0, 1, 2, 3, 4]) [0, 0, 2, 7, 15] follows (by kernel_rfl) ?_
  refine rt_lk rfl w0 rfl (bx_ldN tok rfl rfl rfl rfl) rfl rfl rfl ?_
  refine rt_lk rfl w0 rfl (bx_ldN tok rfl rfl rfl rfl) rfl rfl rfl ?_
  obtain ⟨v8, hv8, h0⟩ := bnd h0
  refine rt_c rfl w0 rfl (b_call 6 (l_toDivider_c hv8) rfl rfl rfl) ?_
  obtain ⟨v9, hv9, h0⟩ := bnd h0
  refine rt_c rfl w0 rfl (b_callV 7 (l_eqDivider_c hv9) rfl rfl) ?_
  refine rt_p rfl w0 rfl (pu_not rfl) ?_
  refine rt_nil ?_
  refine ⟨by kernel_rfl, ?_⟩
  refine then_n ?_
  refine aw_ifB h0 rfl (fun hc h0 => ?_) (fun hc h0 => ?_)
  refine sq [0] ?_
  refine pa ?_
  refine nx ?_
  refine aw_ret ?_
  refine then_r ?_
  cases h0
  exact ret0_ (rs := [.tmp 4]) rfl
  refine sk ?_
  refine sq [0] ?_
  refine pa ?_
  refine nx ?_
  refine aw_ret ?_
  cases h0
  exact ret0_ (rs := [.tmp 4]) rfl

end Go.Proofs.YtjhadibjjldpdaaDoor
namespace Go.Proofs.YtjhadibjjldpdaaDoor
set_option linter.unusedVariables false
set_option maxRecDepth 100000
def decB (n : Int) : ByteArray := ⟨(Lib.itoa n).toArray⟩
theorem decB_size {n : Int} (h : osI n) : (decB n).size ≤ 21 := by
  have := Lib.itoa_length_le n h.1 h.2
  simpa [decB, ByteArray.size] using this
def dgs (u : Nat) : List Int := if h : u = 0 then [] else dgs (u / 10) ++ [48 + ((u % 10 : Nat) : Int)]
termination_by u
decreasing_by omega
theorem dgs_zero : dgs 0 = [] := by rw [dgs, dif_pos rfl]
theorem dgs_pos {u : Nat} (h : u ≠ 0) : dgs u = dgs (u / 10) ++ [48 + ((u % 10 : Nat) : Int)] := by rw [dgs, dif_neg h]
theorem u8_dig (d : Nat) (h : d < 10) : UInt8.ofNat (48 + (d : Int)).toNat = 48 + UInt8.ofNat d := by
  rw [show (48 + (d : Int)).toNat = 48 + d by omega, UInt8.ofNat_add]
  rfl
theorem dgs_dec : ∀ (u : Nat), u ≠ 0 → (strOfNums (dgs u)).data.toList = Lib.decDigits u := by
  intro u
  induction u using Nat.strongRecOn with
  | _ u ih =>
    intro h
    rw [dgs_pos h, Lib.decDigits]
    by_cases h1 : u < 10
    · rw [dif_pos h1, show u / 10 = 0 by omega, dgs_zero, show u % 10 = u by omega]
      simp [strOfNums]
      exact u8_dig u (by omega)
    · rw [dif_neg h1, ← ih (u / 10) (by omega) (by omega)]
      simp [strOfNums]
      exact u8_dig (u % 10) (by omega)
theorem dgs_len : ∀ (k u : Nat), u < 10 ^ k → (dgs u).length ≤ k
  | 0, u, h => by
    have : u = 0 := by simpa using h
    subst this
    rw [dgs_zero]; exact Nat.le_refl _
  | k + 1, u, h => by
    by_cases h0 : u = 0
    · subst h0; rw [dgs_zero]; exact Nat.zero_le _
    · rw [dgs_pos h0, List.length_append]
      have := dgs_len k (u / 10) (by rw [Nat.pow_succ] at h; omega)
      simp; omega
theorem s_l01Dec_eq {n : Int} (hn : osI n) : s_l01Dec_m n = some (decB n) := by
  obtain ⟨h0, h1⟩ := hn
  unfold s_l01Dec_m
  rw [loopM_eq (x := dgs n.natAbs) (fun s : Int × List Int => osI s.1 ∧ dgs s.1.natAbs ++ s.2 = dgs n.natAbs) (fun s => s.1.natAbs) (fun s hs => ?_) (s0 := (n, [])) ⟨⟨h0, h1⟩, by simp⟩ (by dsimp only; omega)]
  · simp only [Option.bind_some]
    by_cases hz : n = 0
    · subst hz
      rw [Int.natAbs_zero, dgs_zero, if_pos (by simp)]
      simp [decB, Lib.itoa, Lib.decDigits]
    · have hp : n.natAbs ≠ 0 := by omega
      have hl : (dgs n.natAbs).length ≠ 0 := by rw [dgs_pos hp]; simp
      have hL := dgs_len 19 n.natAbs (by omega)
      have e := dgs_dec n.natAbs hp
      have es : strOfNums (dgs n.natAbs) = ⟨(Lib.decDigits n.natAbs).toArray⟩ := by rw [← e]
      rw [if_neg (by omega)]
      split
      · rename_i hneg
        rw [chk_t (by simp [strOfNums, ByteArray.size]; omega), es]
        simp only [decB, Lib.itoa, if_pos hneg]
        congr 1
      · rename_i hneg
        rw [es]
        simp only [decB, Lib.itoa, if_neg hneg]
        rw [show n.toNat = n.natAbs by omega]
  · obtain ⟨k, out⟩ := s
    obtain ⟨⟨a0, a1⟩, a2⟩ := hs
    simp only at a0 a1 a2 ⊢
    by_cases hk : k = 0
    · right
      subst hk
      rw [Int.natAbs_zero, dgs_zero] at a2
      simp at a2 ⊢
      exact a2
    · left
      rw [if_pos hk]
      have hd : (if k.tmod 10 < 0 then some (w64 (-(k.tmod 10))) else some (k.tmod 10)) = some (((k.natAbs % 10 : Nat)) : Int) := by
        have e1 : ((k.tmod 10).natAbs) = k.natAbs % 10 := Int.natAbs_tmod _ _
        split
        · rw [w64_in (by omega) (by omega)]; congr 1; omega
        · congr 1; omega
      rw [hd]
      simp only [Option.bind_some]
      have hL : (dgs n.natAbs).length ≤ 19 := dgs_len 19 n.natAbs (by omega)
      have hle : out.length ≤ 19 := by rw [← a2] at hL; simp at hL; omega
      have ew : IntKind.u8.wrap (w64 (48 + ((k.natAbs % 10 : Nat) : Int))) = 48 + ((k.natAbs % 10 : Nat) : Int) := by
        rw [w64_in (by omega) (by omega)]
        exact IntWalk.u8_in _ ⟨by omega, by omega⟩
      have eq : (k.tdiv 10).natAbs = k.natAbs / 10 := Int.natAbs_tdiv _ _
      rw [chk_t (by simp; omega), ew, w64_in (by omega) (by omega)]
      refine ⟨_, rfl, ⟨⟨by dsimp only; omega, by dsimp only; omega⟩, ?_⟩, ?_⟩
      · dsimp only
        rw [eq, ← a2, dgs_pos (u := k.natAbs) (by omega)]
        simp
      · dsimp only
        omega
theorem i_Decimal_eq {n : Int} (hn : osI n) : i_Decimal_m n = some (decB n) := by
  unfold i_Decimal_m strconv_FormatInt_m
  rw [chk_t ⟨hn.1, hn.2, rfl⟩]
  rfl
end Go.Proofs.YtjhadibjjldpdaaDoor
namespace Go.Proofs.YtjhadibjjldpdaaDoor
set_option linter.unusedVariables false
set_option maxRecDepth 100000
abbrev tl (s : ByteArray) : List UInt8 := s.data.toList
def ba (l : List UInt8) : ByteArray := ⟨l.toArray⟩
theorem tl_ba (l : List UInt8) : tl (ba l) = l := rfl
theorem ba_tl (s : ByteArray) : ba (tl s) = s := rfl
theorem tl_inj {a b : ByteArray} (h : tl a = tl b) : a = b := by rw [← ba_tl a, ← ba_tl b, h]
theorem ba_size (l : List UInt8) : (ba l).size = l.length := by simp [ba, ByteArray.size]
theorem tl_len (s : ByteArray) : (tl s).length = s.size := by show s.data.toList.length = s.data.size; rw [Array.length_toList]
theorem tl_app (a b : ByteArray) : tl (a ++ b) = tl a ++ tl b := by show (a ++ b).data.toList = _; rw [ByteArray.data_append, Array.toList_append]
theorem tl_ext (s : ByteArray) (i j : Nat) : tl (s.extract i j) = ((tl s).take j).drop i := by
  simp [tl, ByteArray.data_extract, Array.toList_extract, List.extract_eq_take_drop]
  try rw [List.drop_take]
theorem strAt_l (s : ByteArray) (i : Nat) : strAt s (i : Int) = ((tl s)[i]?).map fun b => (b.toNat : Int) := by
  rw [strAt_bytes, atI_nat]
  simp [bytesL, tl]
theorem dig1 (d : Nat) (h : d < 10) : (UInt8.ofNat (48 + d)).toNat = 48 + d := by
  simp [UInt8.toNat_ofNat']; omega
theorem dec_digits : ∀ (u : Nat), ∀ b ∈ Lib.decDigits u, 48 ≤ b.toNat ∧ b.toNat ≤ 57 := by
  intro u
  induction u using Nat.strongRecOn with
  | _ u ih =>
    intro b hb
    rw [Lib.decDigits] at hb
    by_cases h1 : u < 10
    · rw [dif_pos h1, List.mem_singleton] at hb
      subst hb
      rw [dig1 u h1]; omega
    · rw [dif_neg h1, List.mem_append, List.mem_singleton] at hb
      rcases hb with hb | rfl
      · exact ih (u / 10) (by omega) b hb
      · rw [dig1 _ (by omega)]; omega
def valL (a : Nat) (l : List UInt8) : Nat := l.foldl (fun a b => a * 10 + (b.toNat - 48)) a
theorem valL_app (a : Nat) (l m : List UInt8) : valL a (l ++ m) = valL (valL a l) m := by simp [valL]
theorem valL_dec : ∀ (u : Nat), valL 0 (Lib.decDigits u) = u := by
  intro u
  induction u using Nat.strongRecOn with
  | _ u ih =>
    rw [Lib.decDigits]
    by_cases h1 : u < 10
    · rw [dif_pos h1]
      simp only [valL, List.foldl_cons, List.foldl_nil, dig1 u h1]; omega
    · rw [dif_neg h1, valL_app, ih (u / 10) (by omega)]
      simp only [valL, List.foldl_cons, List.foldl_nil, dig1 (u % 10) (by omega)]; omega
theorem valL_ge : ∀ (l : List UInt8) (a : Nat), a ≤ valL a l
  | [], a => Nat.le_refl _
  | b :: l, a => by
    have := valL_ge l (a * 10 + (b.toNat - 48))
    have e : valL a (b :: l) = valL (a * 10 + (b.toNat - 48)) l := rfl
    omega
theorem dec_len {u : Nat} (h : u < 1000000000000000000) : 1 ≤ (Lib.decDigits u).length ∧ (Lib.decDigits u).length ≤ 18 := by
  by_cases h0 : u = 0
  · subst h0; rw [Lib.decDigits]; simp
  · have e := congrArg List.length (dgs_dec u h0)
    have l := dgs_len 18 u (by omega)
    have p : (dgs u).length ≠ 0 := by rw [dgs_pos h0]; simp
    have e2 : (strOfNums (dgs u)).data.toList.length = (dgs u).length := by simp [strOfNums]
    omega
theorem parse_val {M : Nat} (hM : 18446744073709551615 ≤ M) : ∀ (l : List UInt8) (a : Nat), (∀ b ∈ l, 48 ≤ b.toNat ∧ b.toNat ≤ 57) → valL a l < 1844674407370955162 → Lib.parseUintM M a l = .ok (valL a l)
  | [], a, _, _ => rfl
  | b :: l, a, h, hv => by
    have hb := h b (by simp)
    have e : valL a (b :: l) = valL (a * 10 + (b.toNat - 48)) l := rfl
    have g := valL_ge l (a * 10 + (b.toNat - 48))
    rw [Lib.parseUintM, if_pos hb, if_neg (by omega), if_neg (by omega), parse_val hM l _ (fun c hc => h c (by simp [hc])) (by omega), e]
theorem decB_nat {n : Int} (h0 : 0 ≤ n) : tl (decB n) = Lib.decDigits n.toNat := by
  show (Lib.itoa n) = _
  rw [Lib.itoa, if_neg (by omega)]
theorem readD_dec {n : Int} (h0 : 0 ≤ n) (h1 : n < 1000000000000000000) : readD (decB n) = (n, true) := by
  have e := decB_nat h0
  have hl := dec_len (u := n.toNat) (by omega)
  have hd := dec_digits n.toNat
  have hv := valL_dec n.toNat
  obtain ⟨c, r, hcr⟩ : ∃ c r, Lib.decDigits n.toNat = c :: r := by
    cases h : Lib.decDigits n.toNat with
    | nil => rw [h] at hl; simp at hl
    | cons c r => exact ⟨c, r, rfl⟩
  have hc := hd c (by rw [hcr]; simp)
  have e1 : digitsOf (decB n) = decB n := by
    unfold digitsOf
    rw [show (decB n).data.toList = Lib.decDigits n.toNat from e, Lib.trimPrefix, if_neg ?_]
    · exact tl_inj e.symm
    · rw [hcr]
      intro hp
      have : c.toNat = 45 := by
        have hp : Lib.hasPrefix (c :: r) [45] = true := hp
        simp [Lib.hasPrefix] at hp
        first | (rw [hp]; rfl) | (rw [← hp]; rfl)
      omega
  have hs : (decB n).size = (Lib.decDigits n.toNat).length := by rw [← tl_len, e]
  have hp : Lib.parseIntB 64 (decB n).data.toList = .ok n := by
    rw [show (decB n).data.toList = Lib.decDigits n.toNat from e]
    unfold Lib.parseIntB
    rw [hcr]
    simp only
    rw [if_neg (by omega), ← hcr]
    unfold Lib.parseUintB
    rw [if_neg (by rw [hcr]; simp), parse_val (by decide) _ _ hd (by rw [hv]; omega), hv]
    simp only
    rw [if_neg (by omega), if_neg (by omega), if_neg (by omega)]
    congr 1; omega
  unfold readD
  rw [e1, if_neg (by omega), hp]
  simp only
  exact if_pos rfl
theorem idx_app {c : UInt8} : ∀ (a b : List UInt8), c ∉ a → Lib.indexByte (a ++ c :: b) c = a.length
  | [], b, _ => by simp [Lib.indexByte]
  | x :: a, b, h => by
    have hx : (x == c) = false := by simp at h ⊢; exact fun e => h.1 e.symm
    have ih := idx_app a b (fun hc => h (List.mem_cons_of_mem _ hc))
    have hne : ((a.length : Int) == -1) = false := by simp
    simp only [List.cons_append, Lib.indexByte, hx, ih, hne, Bool.false_eq_true, if_false, List.length_cons]
    omega
theorem idx_lt {c : UInt8} : ∀ (a : List UInt8), Lib.indexByte a c < a.length
  | [] => by simp [Lib.indexByte]
  | x :: a => by
    have ih := idx_lt (c := c) a
    unfold Lib.indexByte
    (repeat' split) <;> simp <;> omega
theorem cut_some {p : ByteArray} {c : UInt8} (hp : p.size ≤ 1048576) : ∃ r, strings_Cut_m p ⟨#[c]⟩ = some r ∧ r.1.size ≤ p.size ∧ r.2.1.size ≤ p.size := by
  unfold strings_Cut_m internal_stringslite_Cut_m internal_stringslite_Index_m
  have hl := idx_lt (c := c) (tl p)
  rw [tl_len] at hl
  have hsz : (⟨#[c]⟩ : ByteArray).size = 1 := rfl
  rw [chk_t hsz, Option.bind_some]
  have ei : Lib.indexByte p.data.toList ((⟨#[c]⟩ : ByteArray).data.toList.headD 0) = Lib.indexByte (tl p) c := rfl
  rw [ei]
  by_cases h0 : 0 ≤ Lib.indexByte (tl p) c
  · rw [if_pos h0, chk_t (by omega), hsz, w64_in (by omega) (by omega), chk_t (by omega)]
    refine ⟨_, rfl, ?_, ?_⟩
    · dsimp only; rw [← tl_len, tl_ext, ← tl_len p]; simp; omega
    · dsimp only; rw [← tl_len, tl_ext, ← tl_len p]; simp
  · rw [if_neg h0]
    exact ⟨_, rfl, Nat.le_refl _, Nat.zero_le _⟩
theorem cut_at {a b : List UInt8} {c : UInt8} (hc : c ∉ a) (hp : (a ++ c :: b).length ≤ 1048576) : strings_Cut_m (ba (a ++ c :: b)) ⟨#[c]⟩ = some (ba a, ba b, true) := by
  unfold strings_Cut_m internal_stringslite_Cut_m internal_stringslite_Index_m
  have hsz : (⟨#[c]⟩ : ByteArray).size = 1 := rfl
  have e : Lib.indexByte (ba (a ++ c :: b)).data.toList ((⟨#[c]⟩ : ByteArray).data.toList.headD 0) = a.length := idx_app a b hc
  have hs : (ba (a ++ c :: b)).size = a.length + b.length + 1 := by rw [ba_size]; simp; omega
  simp at hp
  rw [chk_t hsz, Option.bind_some, e, if_pos (by omega), chk_t (by omega), hsz, w64_in (by omega) (by omega), chk_t (by omega), Option.bind_some]
  have e1 : (ba (a ++ c :: b)).extract (0 : Int).toNat ((a.length : Int)).toNat = ba a := tl_inj (by rw [tl_ext, tl_ba, tl_ba]; simp)
  have e2 : (ba (a ++ c :: b)).extract ((a.length : Int) + ((1 : Nat) : Int)).toNat (((ba (a ++ c :: b)).size : Nat) : Int).toNat = ba b := tl_inj (by
    rw [tl_ext, tl_ba, tl_ba, hs, List.take_of_length_le (by simp; omega), show ((a.length : Int) + ((1 : Nat) : Int)).toNat = a.length + 1 by omega, show a ++ c :: b = (a ++ [c]) ++ b by simp, show a.length + 1 = (a ++ [c]).length by simp, List.drop_left])
  rw [e1, e2]
def splitL (c : UInt8) : List UInt8 → List (List UInt8)
  | [] => [[]]
  | b :: l => if b = c then [] :: splitL c l else (b :: (splitL c l).headD []) :: (splitL c l).tail
theorem splitL_ne (c : UInt8) : ∀ l, splitL c l ≠ []
  | [] => by simp [splitL]
  | b :: l => by unfold splitL; split <;> simp
theorem splitL_none {c : UInt8} : ∀ {l : List UInt8}, c ∉ l → splitL c l = [l]
  | [], _ => rfl
  | b :: l, h => by
    have ih := splitL_none (l := l) (fun hc => h (List.mem_cons_of_mem _ hc))
    have hb : b ≠ c := fun e => h (by simp [e])
    unfold splitL
    rw [if_neg hb, ih]; rfl
theorem splitL_app {c : UInt8} : ∀ {a b : List UInt8}, c ∉ a → splitL c (a ++ c :: b) = a :: splitL c b
  | [], b, _ => by simp [splitL]
  | x :: a, b, h => by
    have ih := splitL_app (a := a) (b := b) (fun hc => h (List.mem_cons_of_mem _ hc))
    have hb : x ≠ c := fun e => h (by simp [e])
    rw [List.cons_append, splitL, if_neg hb, ih]; rfl
theorem splitL_one {c : UInt8} : ∀ {l x : List UInt8}, splitL c l = [x] → l = x
  | [], x, h => by simp [splitL] at h; first | exact h | exact h.symm
  | b :: l, x, h => by
    unfold splitL at h
    split at h
    · have := splitL_ne c l
      simp at h; exact absurd h.2 this
    · simp only [List.cons.injEq] at h
      obtain ⟨h1, h2⟩ := h
      cases hs : splitL c l with
      | nil => exact absurd hs (splitL_ne c l)
      | cons y ys =>
        rw [hs] at h1 h2
        simp at h1 h2
        subst h2
        rw [splitL_one hs, ← h1]
theorem splitL_two {c : UInt8} : ∀ {l x y : List UInt8}, splitL c l = [x, y] → l = x ++ c :: y
  | [], x, y, h => by simp [splitL] at h
  | b :: l, x, y, h => by
    unfold splitL at h
    split at h
    · rename_i hb
      simp only [List.cons.injEq] at h
      obtain ⟨h1, h2⟩ := h
      rw [splitL_one h2, ← h1, hb]; rfl
    · simp only [List.cons.injEq] at h
      obtain ⟨h1, h2⟩ := h
      cases hs : splitL c l with
      | nil => exact absurd hs (splitL_ne c l)
      | cons w ws =>
        rw [hs] at h1 h2
        simp at h1 h2
        subst h2
        rw [splitL_two hs, ← h1]; rfl
def glue (out : List (List UInt8)) (pend : List UInt8) (rest : List (List UInt8)) : List (List UInt8) := out ++ (pend ++ rest.headD []) :: rest.tail
theorem s_l01Split_eq {p : ByteArray} {c : UInt8} (hp : p.size ≤ 1048576) : s_l01Split_m p (c.toNat : Int) = some ((splitL c (tl p)).map ba) := by
  unfold s_l01Split_m
  have hl := tl_len p
  refine Exists.elim (loopM_of (S := Int × Int × List ByteArray) (X := Int × List ByteArray) (step := fun s6 => (if s6.2.1 < (p.size : Int) then
      ((((strAt p s6.2.1).bind fun v7 => (if v7 = (c.toNat : Int) then (chk (0 ≤ s6.1 ∧ s6.1 ≤ s6.2.1 ∧ s6.2.1 ≤ (p.size : Int)) (chk ((s6.2.2.length + [p.extract s6.1.toNat s6.2.1.toNat].length) * 1 * 64 ≤ 140737488355328) (some (w64 (s6.2.1 + 1), s6.2.2 ++ [p.extract s6.1.toNat s6.2.1.toNat])))) else some (s6.1, s6.2.2))) : Option (Int × List ByteArray)).bind fun v10 =>
        some (.inl (v10.1, w64 (s6.2.1 + 1), v10.2))) else some (.inr (s6.1, s6.2.2))))
    (fun (s : Int × Int × List ByteArray) => ∃ (f i : Nat) (out : List (List UInt8)), s = ((f : Int), (i : Int), out.map ba) ∧ f ≤ i ∧ i ≤ p.size ∧ out.length ≤ i ∧ glue out (((tl p).take i).drop f) (splitL c ((tl p).drop i)) = splitL c (tl p))
    (fun s => ((p.size : Int) - s.2.1).toNat)
    (fun x => ∃ (f : Nat) (out : List (List UInt8)), x = ((f : Int), out.map ba) ∧ f ≤ p.size ∧ out.length ≤ p.size ∧ out ++ [(tl p).drop f] = splitL c (tl p)) (fun s hI => ?_) (0, 0, []) ⟨0, 0, [], rfl, Nat.le_refl _, Nat.zero_le _, Nat.zero_le _, ?_⟩ (by dsimp only; omega)) (fun x hxP => ?_)
  · obtain ⟨f, i, out, rfl, h1, h2, h3, h4⟩ := hI
    dsimp only
    by_cases hi : i < p.size
    · left
      have hit : i < (tl p).length := by omega
      have hs : strAt p (i : Int) = some (((tl p)[i].toNat : Nat) : Int) := by rw [strAt_l, List.getElem?_eq_getElem hit]; rfl
      have hd : (tl p).drop i = (tl p)[i] :: (tl p).drop (i + 1) := List.drop_eq_getElem_cons hit
      have ht : (tl p).take (i + 1) = (tl p).take i ++ [(tl p)[i]] := List.take_succ_eq_append_getElem hit
      rw [if_pos (by omega), hs, Option.bind_some, w64_in (by omega) (by omega)]
      rw [hd] at h4
      by_cases hb : (tl p)[i] = c
      · rw [if_pos (by rw [hb]), chk_t (by omega), chk_t (by simp; omega)]
        refine ⟨_, rfl, ⟨i + 1, i + 1, out ++ [((tl p).take i).drop f], ?_, Nat.le_refl _, by omega, by simp; omega, ?_⟩, by dsimp only; omega⟩
        · dsimp only
          refine Prod.ext (by push_cast; rfl) (Prod.ext (by push_cast; rfl) ?_)
          dsimp only
          rw [List.map_append]
          congr 1
          simp only [List.map_cons, List.map_nil]
          congr 1
          exact tl_inj (by rw [tl_ext, tl_ba]; simp)
        · rw [← h4, splitL, if_pos hb, ht]
          simp only [glue]
          have e0 : ((tl p).take i ++ [(tl p)[i]]).drop (i + 1) = [] := List.drop_eq_nil_of_le (by simp; omega)
          rw [e0]
          cases hq : splitL c ((tl p).drop (i + 1)) with
          | nil => exact absurd hq (splitL_ne _ _)
          | cons y ys => simp
      · have hbn : ¬ (((tl p)[i].toNat : Nat) : Int) = ((c.toNat : Nat) : Int) := fun e => hb (UInt8.toNat_inj.1 (by omega))
        rw [if_neg hbn]
        refine ⟨_, rfl, ⟨f, i + 1, out, ?_, by omega, by omega, by omega, ?_⟩, by dsimp only; omega⟩
        · exact Prod.ext rfl (Prod.ext (by push_cast; rfl) rfl)
        · rw [← h4, splitL, if_neg hb, ht]
          simp only [glue]
          rw [List.drop_append_of_le_length (by simp; omega)]
          simp
    · right
      have : i = p.size := by omega
      subst this
      rw [if_neg (by omega)]
      refine ⟨_, rfl, f, out, rfl, h1, h3, ?_⟩
      have e1 : (tl p).drop p.size = [] := List.drop_of_length_le (by omega)
      rw [← h4, e1, List.take_of_length_le (by omega)]
      simp [glue, splitL]
  · simp [glue]
    cases hq : splitL c (tl p) with
    | nil => exact absurd hq (splitL_ne _ _)
    | cons y ys => simp
  · obtain ⟨hx, hP⟩ := hxP
    rw [hx, Option.bind_some]
    obtain ⟨f, out, rfl, h1, h2, h3⟩ := hP
    dsimp only
    rw [chk_t (by omega), chk_t (by simp; omega), ← h3]
    congr 1
    rw [List.map_append]
    congr 1
    simp only [List.map_cons, List.map_nil]
    congr 1
    exact tl_inj (by rw [tl_ext, tl_ba, List.take_of_length_le (by omega)]; simp)
end Go.Proofs.YtjhadibjjldpdaaDoor
namespace Go.Proofs.YtjhadibjjldpdaaDoor
set_option linter.unusedVariables false
def smL {α : Type} (sm : α → Prop) (xs : List α) : Prop := xs.length ≤ 1048576 ∧ ∀ m ∈ xs, sm m
end Go.Proofs.YtjhadibjjldpdaaDoor
namespace Go.Proofs.YtjhadibjjldpdaaDoor
open Go.RowKit
set_option linter.unusedVariables false
set_option maxRecDepth 100000
set_option maxHeartbeats 2000000
def smDivider_ (x : Divider_) : Prop := (fun _ => True) x.Worm ∧ (smL (fun _ => True)) x.Circles
theorem toInt64S_eq {x : List Int} (h : (smL (fun _ => True)) x) : l_toInt64S_m x = some x := by
  unfold l_toInt64S_m
  rw [chk_t (by have := h.1; omega), toS_id' (by have := h.1; omega)]; rfl
theorem toDivider_eq {x : Divider_} (h : smDivider_ x) : l_toDivider_m x = some x := by
  unfold l_toDivider_m
  simp only [toInt64S_eq h.2, Option.bind_some]
theorem szInt64S_ok {x : List Int} (h : (osL osI) x) (l : Int) (h0 : 0 ≤ l) (h1 : l ≤ 1048576) : ∃ r, l_szInt64S_m x l = some r ∧ r ≤ l ∧ (0 ≤ r → (smL (fun _ => True)) x) := by
  obtain ⟨hl, hm⟩ := h
  unfold l_szInt64S_m
  rw [w64_in (by omega) (by omega)]
  split
  · exact ⟨_, rfl, by omega, by omega⟩
  · exact ⟨_, rfl, by omega, fun _ => ⟨by omega, fun _ _ => trivial⟩⟩
theorem szDivider_ok {x : Divider_} (h : okDivider_ x) (l : Int) (h0 : 0 ≤ l) (h1 : l ≤ 1048576) : ∃ r, l_szDivider_m x l = some r ∧ r ≤ l ∧ (0 ≤ r → smDivider_ x) := by
  unfold l_szDivider_m
  obtain ⟨r0, e0, f0, s0⟩ := szInt64S_ok h.2 l (by omega) (by omega)
  rw [e0]
  simp only [Option.bind_some]
  by_cases c0 : r0 < 0
  · simp only [if_pos c0]; exact ⟨_, rfl, by omega, by omega⟩
  simp only [if_neg c0]
  exact ⟨_, rfl, by omega, fun _ => ⟨trivial, s0 (by omega)⟩⟩
theorem eqInt64S_refl {x : List Int} (h : (smL (fun _ => True)) x) : l_eqInt64S_m x x = some true := by
  unfold l_eqInt64S_m
  rw [if_neg (by simp), eqS_refl' (by have := h.1; omega)]; rfl
theorem eqDivider_refl {x : Divider_} (h : smDivider_ x) : l_eqDivider_m x x = some true := by
  unfold l_eqDivider_m
  simp [eqInt64S_refl h.2]
end Go.Proofs.YtjhadibjjldpdaaDoor
namespace Go.Proofs.YtjhadibjjldpdaaDoor
set_option linter.unusedVariables false
def riseB (xs : List Int) (lo hi : Int) : Bool := allI xs fun i c => btw c lo hi && (decide (i = 0) || decide (xs.getD (i - 1) 0 < c))
def hasB (xs : List Int) (c : Int) : Bool := xs.any fun v => decide (v = c)
def divB (d : Divider_) : Bool := btw d.Worm 1 360 && (decide (1 ≤ d.Circles.length ∧ d.Circles.length ≤ 20) && riseB d.Circles 2 200)
def stepX (x : Index_) : Int := x.Turns * x.Circle + x.Holes
def idxB (d : Divider_) (x : Index_) : Bool := divB d && (hasB d.Circles x.Circle && (btw x.Turns 0 d.Worm && (btw x.Holes 0 (x.Circle - 1) && btw (stepX x) 1 (d.Worm * x.Circle))))
theorem divB_iff {d : Divider_} (h : divB d = true) : (1 ≤ d.Worm ∧ d.Worm ≤ 360) ∧ (1 ≤ d.Circles.length ∧ d.Circles.length ≤ 20) ∧ ∀ c ∈ d.Circles, 2 ≤ c ∧ c ≤ 200 := by
  unfold divB btw riseB at h
  simp only [Bool.and_eq_true, decide_eq_true_eq, allI_iff] at h
  refine ⟨h.1, h.2.1, fun c hc => ?_⟩
  obtain ⟨i, hi, rfl⟩ := List.getElem_of_mem hc
  have := (h.2.2 i hi).1
  unfold btw at this
  exact of_decide_eq_true this
theorem rise_step {xs : List Int} {lo hi : Int} {i : Nat} (hi' : i < xs.length) (hl : xs.length ≤ 9223372036854775807) {b : Bool} (hb : b = btw xs[i] lo hi) :
    ((if (!b) = true then some true else (if 0 < (i : Int) then ((atI xs (w64 ((i : Int) - 1))).bind fun v9 => some (decide (xs[i] ≤ v9))) else some false)) : Option Bool) = some (!(btw xs[i] lo hi && (decide (i = 0) || decide (xs.getD (i - 1) 0 < xs[i])))) := by
  subst hb
  cases btw xs[i] lo hi
  · rfl
  · by_cases h0 : i = 0
    · subst h0; simp
    · have e : w64 ((i : Int) - 1) = ((i - 1 : Nat) : Int) := by rw [w64_in (by omega) (by omega)]; omega
      have hg : xs.getD (i - 1) 0 = xs[i - 1] := by rw [List.getD_eq_getElem?_getD, List.getElem?_eq_getElem (by omega)]; rfl
      rw [if_neg (by decide), if_pos (by omega), e, atI_lt (show i - 1 < xs.length by omega), Option.bind_some, hg, decide_eq_false h0, Bool.true_and, Bool.false_or]
      congr 1
      by_cases q : xs[i] ≤ xs[i - 1]
      · rw [decide_eq_true q, decide_eq_false (by omega)]; rfl
      · rw [decide_eq_false q, decide_eq_true (by omega)]; rfl
theorem len20 {α : Type} {xs : List α} : (if 1 ≤ (xs.length : Int) then some (decide ((xs.length : Int) ≤ 20)) else some false) = some (decide (1 ≤ xs.length ∧ xs.length ≤ 20)) := by
  rw [itAp, ← Bool.decide_and]
  congr 1
  rw [decide_eq_decide]; omega
theorem i_ValidDivider_eq {d : Divider_} (hl : d.Circles.length ≤ 9223372036854775807) : i_ValidDivider_m d = some (divB d) := by
  unfold i_ValidDivider_m divB riseB
  rw [scanG (e := .inr false) (fun i c => btw c 2 200 && (decide (i = 0) || decide (d.Circles.getD (i - 1) 0 < c))) hl fun i hi => ?_, Option.bind_some, i_within_eq, Option.bind_some, len20, itA, scan_and rfl]
  · congr 1; ac_rfl
  · rw [atI_lt hi, Option.bind_some, i_within_eq, Option.bind_some, rise_step hi hl rfl, Option.bind_some]
    cases (btw d.Circles[i] 2 200 && (decide (i = 0) || decide (d.Circles.getD (i - 1) 0 < d.Circles[i]))) <;> rfl
theorem s_l00Rises_eq {xs : List Int} (lo hi : Int) (hl : xs.length ≤ 9223372036854775807) : s_l00Rises_m xs lo hi = some (riseB xs lo hi) := by
  unfold s_l00Rises_m riseB
  rw [scanG (e := .inr false) (fun i c => btw c lo hi && (decide (i = 0) || decide (xs.getD (i - 1) 0 < c))) hl fun i hi' => ?_, Option.bind_some, scan_and rfl, Bool.and_true]
  simp only [atI_lt hi', Option.bind_some, s_l00In_eq]
  rw [rise_step hi' hl rfl, Option.bind_some]
  cases (btw xs[i] lo hi && (decide (i = 0) || decide (xs.getD (i - 1) 0 < xs[i]))) <;> rfl
theorem s_l24Ok_eq {d : Divider_} (hl : d.Circles.length ≤ 9223372036854775807) : s_l24Ok_m d = some (divB d) := by
  unfold s_l24Ok_m divB
  have e : btw (d.Circles.length : Int) 1 20 = decide (1 ≤ d.Circles.length ∧ d.Circles.length ≤ 20) := by unfold btw; rw [decide_eq_decide]; omega
  simp only [s_l00In_eq, Option.bind_some, s_l00Rises_eq 2 200 hl, itA, e]
theorem s_l00Has_eq {xs : List Int} (c : Int) (hl : xs.length ≤ 9223372036854775807) : s_l00Has_m xs c = some (hasB xs c) := by
  unfold s_l00Has_m hasB
  rw [scanG (e := .inr true) (fun _ v => !decide (v = c)) hl fun i hi => by rw [atI_lt hi, Option.bind_some]; by_cases q : xs[i] = c <;> simp [q], allI_all, Option.bind_some]
  have e : (xs.all fun v => !decide (v = c)) = !(xs.any fun v => decide (v = c)) := by rw [Bool.eq_iff_iff]; simp
  rw [e]
  cases (xs.any fun v => decide (v = c)) <;> rfl
theorem i_has_eq {xs : List Int} (c : Int) (hl : xs.length ≤ 9223372036854775807) : slices_Contains_Lint64_int64_m xs c = some (hasB xs c) := by
  unfold slices_Contains_Lint64_int64_m slices_Index_Lint64_int64_m hasB
  rw [findG (fun v => decide (v = c)) hl fun i hi => by
    rw [atI_lt hi, Option.bind_some]
    by_cases q : c = xs[i]
    · rw [if_pos q, decide_eq_true q.symm]; rfl
    · rw [if_neg q, decide_eq_false (Ne.symm q)]; rfl, Option.bind_some, posOf_nn]
theorem has_in {d : Divider_} (h : divB d = true) {c : Int} (hc : hasB d.Circles c = true) : 2 ≤ c ∧ c ≤ 200 := by
  unfold hasB at hc
  obtain ⟨v, hv, e⟩ := List.any_eq_true.1 hc
  have e := of_decide_eq_true e
  rw [← e]; exact (divB_iff h).2.2 v hv
theorem prod_in {a b A B : Int} (a0 : 0 ≤ a) (a1 : a ≤ A) (b0 : 0 ≤ b) (b1 : b ≤ B) : 0 ≤ a * b ∧ a * b ≤ A * B := ⟨Int.mul_nonneg a0 b0, Int.mul_le_mul a1 b1 b0 (by omega)⟩
theorem idxB_iff {d : Divider_} {x : Index_} (h : idxB d x = true) : divB d = true ∧ (2 ≤ x.Circle ∧ x.Circle ≤ 200) ∧ (0 ≤ x.Turns ∧ x.Turns ≤ d.Worm) ∧ (0 ≤ x.Holes ∧ x.Holes ≤ x.Circle - 1) ∧ 1 ≤ stepX x ∧ stepX x ≤ d.Worm * x.Circle := by
  unfold idxB btw at h
  simp only [Bool.and_eq_true, decide_eq_true_eq] at h
  exact ⟨h.1, has_in h.1 h.2.1, h.2.2.1, h.2.2.2.1, h.2.2.2.2⟩
theorem idx_tail {d : Divider_} {x : Index_} (h1 : divB d = true) (h2 : hasB d.Circles x.Circle = true) (h3 : btw x.Turns 0 d.Worm = true) (h4 : btw x.Holes 0 (x.Circle - 1) = true) : w64 (w64 (x.Turns * x.Circle) + x.Holes) = stepX x ∧ w64 (d.Worm * x.Circle) = d.Worm * x.Circle ∧ w64 (x.Circle - 1) = x.Circle - 1 := by
  have a := divB_iff h1
  have b := has_in h1 h2
  have c := of_decide_eq_true h3
  have e := of_decide_eq_true h4
  have p1 := prod_in (a := x.Turns) (b := x.Circle) (A := 360) (B := 200) c.1 (by omega) (by omega) b.2
  have p2 := prod_in (a := d.Worm) (b := x.Circle) (A := 360) (B := 200) (by omega) (by omega) (by omega) b.2
  refine ⟨?_, w64_in (by omega) (by omega), w64_in (by omega) (by omega)⟩
  rw [w64_in (x := x.Turns * x.Circle) (by omega) (by omega), w64_in (by omega) (by omega)]; rfl
theorem circ1 {d : Divider_} {c : Int} (h1 : divB d = true) (h2 : hasB d.Circles c = true) : w64 (c - 1) = c - 1 := by
  have b := has_in h1 h2
  exact w64_in (by omega) (by omega)
theorem i_ValidIndex_eq {d : Divider_} {x : Index_} (hl : d.Circles.length ≤ 9223372036854775807) : i_ValidIndex_m d x = some (idxB d x) := by
  unfold i_ValidIndex_m idxB
  simp only [i_ValidDivider_eq hl, i_has_eq _ hl, i_within_eq, Option.bind_some, itO, i_stepOf_m]
  cases h1 : divB d
  · rfl
  · cases h2 : hasB d.Circles x.Circle
    · rfl
    · rw [circ1 h1 h2]
      cases h3 : btw x.Turns 0 d.Worm
      · rfl
      · cases h4 : btw x.Holes 0 (x.Circle - 1)
        · rfl
        · obtain ⟨e1, e2, _⟩ := idx_tail h1 h2 h3 h4
          rw [e1, e2]; rfl
theorem s_l24Index_eq {d : Divider_} {x : Index_} (hl : d.Circles.length ≤ 9223372036854775807) : s_l24Index_m d x = some (idxB d x) := by
  unfold s_l24Index_m idxB
  simp only [s_l24Ok_eq hl, s_l00Has_eq _ hl, s_l00In_eq, Option.bind_some, itO, s_l24Step_m]
  cases h1 : divB d
  · rfl
  · cases h2 : hasB d.Circles x.Circle
    · rfl
    · rw [circ1 h1 h2]
      cases h3 : btw x.Turns 0 d.Worm
      · rfl
      · cases h4 : btw x.Holes 0 (x.Circle - 1)
        · rfl
        · obtain ⟨e1, e2, _⟩ := idx_tail h1 h2 h3 h4
          rw [e1, e2]; rfl
end Go.Proofs.YtjhadibjjldpdaaDoor
namespace Go.Proofs.YtjhadibjjldpdaaDoor
set_option linter.unusedVariables false
set_option maxRecDepth 100000
def plusB : ByteArray := ⟨#[43]⟩
def slashB : ByteArray := ⟨#[47]⟩
theorem ba_sz (a b : ByteArray) : (a ++ b).size = a.size + b.size := ByteArray.size_append
def idxT (x : Index_) : ByteArray := (((decB x.Turns ++ plusB) ++ decB x.Holes) ++ slashB) ++ decB x.Circle
theorem idx_os {d : Divider_} {x : Index_} (h : idxB d x = true) : osI x.Turns ∧ osI x.Holes ∧ osI x.Circle := by
  obtain ⟨h1, h2, h3, h4, _⟩ := idxB_iff h
  have h5 := (divB_iff h1).1
  exact ⟨⟨by omega, by omega⟩, ⟨by omega, by omega⟩, ⟨by omega, by omega⟩⟩
theorem i_IndexText_eq {d : Divider_} {x : Index_} (hl : d.Circles.length ≤ 9223372036854775807) : i_IndexText_m d x = some (if idxB d x = true then idxT x else ⟨#[]⟩) := by
  unfold i_IndexText_m
  rw [i_ValidIndex_eq hl, Option.bind_some]
  cases hb : idxB d x
  · rfl
  obtain ⟨h1, h2, h3⟩ := idx_os hb
  have z1 := decB_size h1
  have z2 := decB_size h2
  have z3 := decB_size h3
  rw [show (⟨#[43]⟩ : ByteArray) = plusB from rfl, show (⟨#[47]⟩ : ByteArray) = slashB from rfl, i_Decimal_eq h1, i_Decimal_eq h2, i_Decimal_eq h3]
  have p1 : plusB.size = 1 := rfl
  have p2 : slashB.size = 1 := rfl
  simp only [Option.bind_some, ba_sz, p1, p2, Bool.not_true, Bool.false_eq_true, if_false, if_true]
  rw [chk_t (by omega), chk_t (by omega), chk_t (by omega), chk_t (by omega)]
  rfl
end Go.Proofs.YtjhadibjjldpdaaDoor
namespace Go.Proofs.YtjhadibjjldpdaaDoor
set_option linter.unusedVariables false
set_option maxRecDepth 100000
theorem s_digit (b : Int) : s_l01Digit_m b = some (decide (48 ≤ b ∧ b ≤ 57)) := by
  unfold s_l01Digit_m
  by_cases h : 48 ≤ b <;> simp [h]
theorem u8sub {b : Nat} (h0 : 48 ≤ b) (h1 : b ≤ 57) : w64 (IntKind.u8.wrap ((b : Int) - 48)) = (b : Int) - 48 := by
  have e : IntKind.u8.wrap ((b : Int) - 48) = (b : Int) - 48 := by
    unfold IntKind.wrap
    simp [IntKind.signed, IntKind.bits]
    omega
  rw [e, w64_in (by omega) (by omega)]
theorem num_loop {l : List UInt8} (hl : l.length ≤ 18) {step : Int × Int → Option ((Int × Int) ⊕ (Int ⊕ (Int × Bool)))}
    (hS : ∀ (n : Int) (i : Nat) (b : UInt8), l[i]? = some b → 0 ≤ n → n < 1000000000000000000 → step (n, (i : Int)) = if 48 ≤ b.toNat ∧ b.toNat ≤ 57 then some (.inl (w64 (w64 (10 * n) + ((b.toNat : Int) - 48)), w64 ((i : Int) + 1))) else some (.inr (.inr (0, false))))
    (hE : ∀ n, step (n, (l.length : Int)) = some (.inr (.inl n))) :
    ∃ x, loopM step (0, 0) = some x ∧ ((x = .inr (0, false)) ∨ ∃ n, x = .inl n ∧ 0 ≤ n ∧ n < 1000000000000000000 ∧ n = (valL 0 l : Int)) ∧ ((∀ b ∈ l, 48 ≤ b.toNat ∧ b.toNat ≤ 57) → x = .inl (valL 0 l : Int)) := by
  have pw : ∀ i : Nat, i ≤ 18 → (10 : Int) ^ i ≤ 1000000000000000000 := fun i hi => by
    have : (10 : Nat) ^ i ≤ 10 ^ 18 := Nat.pow_le_pow_right (by omega) hi
    have h2 : ((10 ^ i : Nat) : Int) ≤ ((10 ^ 18 : Nat) : Int) := by omega
    simpa using h2
  refine loopM_of (fun (s : Int × Int) => ∃ i : Nat, i ≤ l.length ∧ s = ((valL 0 (l.take i) : Int), (i : Int)) ∧ (valL 0 (l.take i) : Int) < 10 ^ i) (fun s => ((l.length : Int) - s.2).toNat) _ (fun s hI => ?_) (0, 0) ⟨0, Nat.zero_le _, rfl, by simp [valL]⟩ (by dsimp only; omega)
  obtain ⟨i, hi, rfl, hv⟩ := hI
  have hp := pw i (by omega)
  by_cases hlt : i < l.length
  · have hb : l[i]? = some l[i] := List.getElem?_eq_getElem hlt
    rw [hS _ i l[i] hb (by omega) (by omega)]
    by_cases hd : 48 ≤ l[i].toNat ∧ l[i].toNat ≤ 57
    · left
      have ht : l.take (i + 1) = l.take i ++ [l[i]] := by rw [List.take_add_one, hb]; rfl
      have hval : valL 0 (l.take (i + 1)) = valL 0 (l.take i) * 10 + (l[i].toNat - 48) := by rw [ht, valL_app]; rfl
      have hp2 := pw (i + 1) (by omega)
      have hps : (10 : Int) ^ (i + 1) = 10 * 10 ^ i := by rw [Int.pow_succ]; omega
      rw [if_pos hd, w64_in (x := 10 * _) (by omega) (by omega), w64_in (by omega) (by omega), w64_in (by omega) (by omega)]
      refine ⟨_, rfl, ⟨i + 1, by omega, ?_, ?_⟩, by dsimp only; omega⟩
      · rw [hval]
        refine Prod.ext ?_ (by push_cast; rfl)
        dsimp only
        omega
      · rw [hval, hps]
        omega
    · right
      rw [if_neg hd]
      exact ⟨_, rfl, .inl rfl, fun hall => absurd (hall _ (List.getElem_mem hlt)) hd⟩
  · right
    have : i = l.length := by omega
    subst this
    rw [hE]
    rw [List.take_length] at hv ⊢
    exact ⟨_, rfl, .inr ⟨_, rfl, by omega, by omega, rfl⟩, fun _ => rfl⟩
theorem s_l01Number_ok {p : ByteArray} (hp : p.size ≤ 1048576) : (∃ r, s_l01Number_m p = some r ∧ (r.2 = true → decB r.1 = p ∧ osI r.1)) ∧ ∀ n : Int, 0 ≤ n → n < 1000000000000000000 → p = decB n → s_l01Number_m p = some (n, true) := by
  unfold s_l01Number_m
  -- the text behind the sign
  obtain ⟨t, ht, hts, htd⟩ : ∃ t : ByteArray, ((((if p ≠ (⟨#[]⟩ : ByteArray) then ((strAt p 0).bind fun v1 => some (decide (v1 = 45))) else some false) : Option Bool).bind fun v2 =>
      (if v2 = true then (chk (0 ≤ (1 : Int) ∧ (1 : Int) ≤ (p.size : Int) ∧ (p.size : Int) ≤ (p.size : Int)) (some (p.extract (1 : Int).toNat (p.size : Int).toNat))) else some p)) : Option ByteArray) = some t ∧ t.size ≤ p.size ∧ ((∀ b ∈ tl p, 48 ≤ b.toNat ∧ b.toNat ≤ 57) → t = p) := by
    by_cases he : p = ⟨#[]⟩
    · exact ⟨p, by simp [he], Nat.le_refl _, fun _ => rfl⟩
    · have hpos : 0 < p.size := by
        rcases Nat.eq_zero_or_pos p.size with h | h
        · exact absurd (tl_inj (List.eq_nil_of_length_eq_zero (by rw [tl_len, h]))) he
        · exact h
      have hl := tl_len p
      have h0 : strAt p 0 = some (((tl p)[0].toNat : Nat) : Int) := by
        have := strAt_l p 0
        rw [List.getElem?_eq_getElem (by omega)] at this
        exact this
      rw [if_pos he, h0]
      simp only [Option.bind_some]
      by_cases hm : (((tl p)[0].toNat : Nat) : Int) = 45
      · refine ⟨p.extract (1 : Int).toNat (p.size : Int).toNat, ?_, ?_, fun hall => ?_⟩
        · simp only [hm, decide_true, if_true]
          rw [chk_t (by omega)]
        · rw [← tl_len, tl_ext, ← tl_len]; simp
        · have := hall _ (List.getElem_mem (show 0 < (tl p).length by omega)); omega
      · exact ⟨p, by rw [decide_eq_false hm, if_neg (by decide)], Nat.le_refl _, fun _ => rfl⟩
  rw [ht, Option.bind_some]
  have hl := tl_len t
  by_cases hz : (t.size : Int) < 1 ∨ 18 < (t.size : Int)
  · have e : ((if (t.size : Int) < 1 then some true else some (decide (18 < (t.size : Int)))) : Option Bool) = some true := by
      rcases hz with h | h
      · rw [if_pos h]
      · split
        · rfl
        · rw [decide_eq_true h]
    rw [e, Option.bind_some, if_pos rfl]
    refine ⟨⟨_, rfl, fun h => by cases h⟩, fun n h0 h1 hpn => ?_⟩
    exfalso
    have e2 := decB_nat h0
    have hd := dec_digits n.toNat
    have hln := dec_len (u := n.toNat) (by omega)
    have htp := htd (by rw [hpn, e2]; exact hd)
    rw [htp, ← tl_len, hpn, e2] at hz
    omega
  · have e : ((if (t.size : Int) < 1 then some true else some (decide (18 < (t.size : Int)))) : Option Bool) = some false := by
      rw [if_neg (fun h => hz (.inl h)), decide_eq_false (fun h => hz (.inr h))]
    rw [e, Option.bind_some, if_neg (by decide)]
    obtain ⟨x, hx, hx1, hx2⟩ := num_loop (l := tl t) (by omega) (step := fun s10 => (if s10.2 < (t.size : Int) then ((strAt t s10.2).bind fun v11 => ((s_l01Digit_m v11).bind fun v12 => (if (!v12) = true then some (.inr (.inr (0, false))) else ((strAt t s10.2).bind fun v13 => some (.inl (w64 ((w64 (10 * s10.1)) + (w64 (IntKind.u8.wrap (v13 - 48)))), w64 (s10.2 + 1))))))) else some (.inr (.inl s10.1)))) (fun n i b hb h0 h1 => by
        have hi : i < (tl t).length := (List.getElem?_eq_some_iff.1 hb).1
        have hs : strAt t (i : Int) = some ((b.toNat : Nat) : Int) := by rw [strAt_l, hb]; rfl
        simp only [if_pos (show (i : Int) < (t.size : Int) by omega), hs, Option.bind_some, s_digit]
        by_cases hd : 48 ≤ b.toNat ∧ b.toNat ≤ 57
        · rw [if_pos hd, decide_eq_true (show 48 ≤ ((b.toNat : Nat) : Int) ∧ ((b.toNat : Nat) : Int) ≤ 57 by omega), u8sub hd.1 hd.2]; rfl
        · rw [if_neg hd, decide_eq_false (show ¬ (48 ≤ ((b.toNat : Nat) : Int) ∧ ((b.toNat : Nat) : Int) ≤ 57) by omega)]; rfl) (fun n => by simp only [if_neg (show ¬ ((tl t).length : Int) < (t.size : Int) by omega)])
    rw [hx, Option.bind_some]
    refine ⟨?_, fun n h0 h1 hpn => ?_⟩
    · rcases hx1 with rfl | ⟨v, rfl, v0, v1, _⟩
      · exact ⟨(0, false), rfl, fun h => by cases h⟩
      · simp only [orE_l]
        obtain ⟨m, hm, hmo⟩ : ∃ m, ((if (t.size : Int) < (p.size : Int) then some (w64 (-v)) else some v) : Option Int) = some m ∧ osI m := by
          split
          · exact ⟨_, rfl, by rw [w64_in (by omega) (by omega)]; exact ⟨by omega, by omega⟩⟩
          · exact ⟨_, rfl, by omega, by omega⟩
        rw [hm, Option.bind_some, s_l01Dec_eq hmo, Option.bind_some]
        by_cases hq : decB m = p
        · rw [if_neg (by simp [hq])]
          exact ⟨_, rfl, fun _ => ⟨hq, hmo⟩⟩
        · rw [if_pos hq]
          exact ⟨_, rfl, fun h => by cases h⟩
    · have e2 := decB_nat h0
      have hd := dec_digits n.toNat
      have htp := htd (by rw [hpn, e2]; exact hd)
      have hv := hx2 (by rw [htp, hpn, e2]; exact hd)
      rw [htp, hpn, e2, valL_dec] at hv
      subst hv
      simp only [orE_l]
      rw [if_neg (by rw [htp]; omega), Option.bind_some, show ((n.toNat : Nat) : Int) = n by omega, s_l01Dec_eq ⟨by omega, by omega⟩, Option.bind_some, if_neg (by simp [hpn])]
theorem no_plus {n : Int} (h0 : 0 ≤ n) {c : UInt8} (hc : c.toNat < 48) : c ∉ tl (decB n) := by
  rw [decB_nat h0]
  intro h
  have := dec_digits _ c h
  omega
theorem idxT_l (x : Index_) : tl (idxT x) = tl (decB x.Turns) ++ 43 :: (tl (decB x.Holes) ++ 47 :: tl (decB x.Circle)) := by
  unfold idxT plusB slashB
  simp only [tl_app]
  show (((tl (decB x.Turns) ++ [43]) ++ tl (decB x.Holes)) ++ [47]) ++ tl (decB x.Circle) = _
  simp
def goodX (d : Divider_) (s : ByteArray) (x : Index_) : Prop := idxB d x = true ∧ idxT x = s
theorem idx_pos {d : Divider_} {x : Index_} (h : idxB d x = true) : (0 ≤ x.Turns ∧ x.Turns < 1000000000000000000) ∧ (0 ≤ x.Holes ∧ x.Holes < 1000000000000000000) ∧ 0 ≤ x.Circle ∧ x.Circle < 1000000000000000000 := by
  obtain ⟨h1, h2, h3, h4, _⟩ := idxB_iff h
  have := (divB_iff h1).1
  omega
theorem i_ReadDecimal_eq {p : ByteArray} (hp : p.size ≤ 1048576) : i_ReadDecimal_m p = some (readD p) := by
  unfold i_ReadDecimal_m
  rw [chk_t (by omega)]
theorem i_ReadIndex_ok {d : Divider_} {s : ByteArray} (hd : d.Circles.length ≤ 1048576) (hs : s.size ≤ 1048576) : ∃ r, i_ReadIndex_m d s = some r ∧ ((goodX d s r.1 ∧ r.2 = true) ∨ r = (⟨0, 0, 0⟩, false)) ∧ ∀ x, goodX d s x → r = (x, true) := by
  unfold i_ReadIndex_m
  obtain ⟨r1, c1, c2, c3⟩ := cut_some (c := 43) hs
  obtain ⟨r2, d1, d2, d3⟩ := cut_some (p := r1.2.1) (c := 47) (by omega)
  rw [c1, Option.bind_some, d1, Option.bind_some, i_ReadDecimal_eq (by omega), Option.bind_some, i_ReadDecimal_eq (by omega), Option.bind_some, i_ReadDecimal_eq (by omega), Option.bind_some, i_ValidIndex_eq (by omega), Option.bind_some, i_IndexText_eq (by omega)]
  have good : ∀ x, goodX d s x → (⟨(readD r1.1).1, (readD r2.1).1, (readD r2.2.1).1⟩ : Index_) = x := by
    intro x hx
    obtain ⟨p1, p2, p3⟩ := idx_pos hx.1
    have e := idxT_l x
    rw [hx.2] at e
    have es : s = ba (tl (decB x.Turns) ++ 43 :: (tl (decB x.Holes) ++ 47 :: tl (decB x.Circle))) := tl_inj (by rw [e]; rfl)
    have hl := tl_len s
    have f1 := cut_at (a := tl (decB x.Turns)) (b := tl (decB x.Holes) ++ 47 :: tl (decB x.Circle)) (c := 43) (no_plus p1.1 (by decide)) (by rw [← e]; omega)
    rw [← es, c1] at f1
    injection f1 with f1
    subst f1
    have f2 := cut_at (a := tl (decB x.Holes)) (b := tl (decB x.Circle)) (c := 47) (no_plus p2.1 (by decide)) (by rw [← tl_ba (tl (decB x.Holes) ++ 47 :: tl (decB x.Circle)), tl_len]; exact Nat.le_trans c3 hs)
    dsimp only at d1
    rw [d1] at f2
    injection f2 with f2
    subst f2
    dsimp only
    rw [ba_tl, ba_tl, ba_tl, readD_dec p1.1 p1.2, readD_dec p2.1 p2.2, readD_dec p3.1 p3.2]
  generalize (⟨(readD r1.1).1, (readD r2.1).1, (readD r2.2.1).1⟩ : Index_) = y at good
  by_cases hv : idxB d y = true
  · by_cases ht : idxT y = s
    · refine ⟨(y, true), by simp [hv, ht], .inl ⟨⟨hv, ht⟩, rfl⟩, fun x hx => by rw [good x hx]⟩
    · exact ⟨(⟨0, 0, 0⟩, false), by simp [hv, ht], .inr rfl, fun x hx => absurd (by rw [good x hx]; exact hx.2) ht⟩
  · refine ⟨(⟨0, 0, 0⟩, false), ?_, .inr rfl, fun x hx => absurd (by rw [good x hx]; exact hx.1) hv⟩
    rw [Bool.not_eq_true] at hv
    simp [hv]
theorem two_len {α : Type} {l : List α} (h : (l.length : Int) = 2) : ∃ a b, l = [a, b] := by
  match l, h with
  | [a, b], _ => exact ⟨a, b, rfl⟩
  | [], h => simp at h
  | [a], h => simp at h
  | a :: b :: c :: l, h => simp at h; omega
theorem s_ReadIndex_ok {d : Divider_} {s : ByteArray} (hd : d.Circles.length ≤ 1048576) (hs : s.size ≤ 1048576) : ∃ r, s_ReadIndex_m d s = some r ∧ ((goodX d s r.1 ∧ r.2 = true) ∨ r = (⟨0, 0, 0⟩, false)) ∧ ∀ x, goodX d s x → r = (x, true) := by
  unfold s_ReadIndex_m
  have hl := tl_len s
  have e43 : s_l01Split_m s 43 = _ := s_l01Split_eq (c := 43) hs
  rw [e43, Option.bind_some]
  -- a good text is split so
  have good1 : ∀ x, goodX d s x → splitL 43 (tl s) = [tl (decB x.Turns), tl (decB x.Holes) ++ 47 :: tl (decB x.Circle)] := by
    intro x hx
    obtain ⟨p1, p2, p3⟩ := idx_pos hx.1
    have e := idxT_l x
    rw [hx.2] at e
    rw [e, splitL_app (no_plus p1.1 (by decide)), splitL_none]
    intro hm
    rcases List.mem_append.1 hm with h | h
    · exact no_plus p2.1 (by decide) h
    · rcases List.mem_cons.1 h with h | h
      · exact absurd h (by decide)
      · exact no_plus p3.1 (by decide) h
  by_cases h2 : (((splitL 43 (tl s)).map ba).length : Int) = 2
  · obtain ⟨a, b, hab⟩ := two_len (l := splitL 43 (tl s)) (by simpa using h2)
    have hsab := splitL_two hab
    have hla : a.length ≤ 1048576 ∧ b.length ≤ 1048576 := by
      have := congrArg List.length hsab
      simp at this; omega
    rw [if_neg (fun h => h h2), hab]
    have a1 : atI ([a, b].map ba) 1 = some (ba b) := rfl
    have a0 : atI ([a, b].map ba) 0 = some (ba a) := rfl
    rw [a1, Option.bind_some]
    have e47 : s_l01Split_m (ba b) 47 = _ := s_l01Split_eq (c := 47) (by rw [ba_size]; omega)
    rw [e47, Option.bind_some, tl_ba]
    by_cases h3 : (((splitL 47 b).map ba).length : Int) = 2
    · obtain ⟨u, v, huv⟩ := two_len (l := splitL 47 b) (by simpa using h3)
      have hbuv := splitL_two huv
      have hlu : u.length ≤ 1048576 ∧ v.length ≤ 1048576 := by
        have := congrArg List.length hbuv
        simp at this; omega
      rw [if_neg (fun h => h h3), huv]
      have b1 : atI ([u, v].map ba) 1 = some (ba v) := rfl
      have b0 : atI ([u, v].map ba) 0 = some (ba u) := rfl
      obtain ⟨⟨n1, m1, q1⟩, g1⟩ := s_l01Number_ok (p := ba a) (by rw [ba_size]; omega)
      obtain ⟨⟨n2, m2, q2⟩, g2⟩ := s_l01Number_ok (p := ba u) (by rw [ba_size]; omega)
      obtain ⟨⟨n3, m3, q3⟩, g3⟩ := s_l01Number_ok (p := ba v) (by rw [ba_size]; omega)
      rw [a0, Option.bind_some, m1, Option.bind_some, b0, Option.bind_some, m2, Option.bind_some, b1, Option.bind_some, m3, Option.bind_some, s_l24Index_eq (by omega)]
      have good2 : ∀ x, goodX d s x → n1 = (x.Turns, true) ∧ n2 = (x.Holes, true) ∧ n3 = (x.Circle, true) := by
        intro x hx
        obtain ⟨p1, p2, p3⟩ := idx_pos hx.1
        have e := good1 x hx
        rw [hab] at e
        simp only [List.cons.injEq, and_true] at e
        obtain ⟨rfl, rfl⟩ := e
        rw [splitL_app (no_plus p2.1 (by decide)), splitL_none (no_plus p3.1 (by decide))] at huv
        simp only [List.cons.injEq, and_true] at huv
        obtain ⟨rfl, rfl⟩ := huv
        have k1 := g1 x.Turns p1.1 p1.2 rfl
        have k2 := g2 x.Holes p2.1 p2.2 rfl
        have k3 := g3 x.Circle p3.1 p3.2 rfl
        rw [m1] at k1; rw [m2] at k2; rw [m3] at k3
        exact ⟨Option.some.inj k1, Option.some.inj k2, Option.some.inj k3⟩
      by_cases hall : n1.2 = true ∧ n2.2 = true ∧ n3.2 = true ∧ idxB d ⟨n1.1, n2.1, n3.1⟩ = true
      · obtain ⟨t1, t2, t3, t4⟩ := hall
        refine ⟨(⟨n1.1, n2.1, n3.1⟩, true), by simp [t1, t2, t3, t4], .inl ⟨⟨t4, ?_⟩, rfl⟩, fun x hx => ?_⟩
        · refine tl_inj ?_
          rw [idxT_l]
          dsimp only
          rw [(q1 t1).1, (q2 t2).1, (q3 t3).1, tl_ba, tl_ba, tl_ba, hsab, hbuv]
        · obtain ⟨z1, z2, z3⟩ := good2 x hx
          rw [z1, z2, z3]
      · refine ⟨(⟨0, 0, 0⟩, false), ?_, .inr rfl, fun x hx => ?_⟩
        · cases h1 : n1.2 <;> cases h2 : n2.2 <;> cases h3 : n3.2 <;> cases h4 : idxB d ⟨n1.1, n2.1, n3.1⟩ <;> simp_all
        · obtain ⟨z1, z2, z3⟩ := good2 x hx
          exact absurd ⟨by rw [z1], by rw [z2], by rw [z3], by rw [z1, z2, z3]; exact hx.1⟩ hall
    · rw [if_pos h3]
      refine ⟨(⟨0, 0, 0⟩, false), rfl, .inr rfl, fun x hx => ?_⟩
      exfalso
      obtain ⟨p1, p2, p3⟩ := idx_pos hx.1
      have e := good1 x hx
      rw [hab] at e
      simp only [List.cons.injEq, and_true] at e
      rw [e.2, splitL_app (no_plus p2.1 (by decide)), splitL_none (no_plus p3.1 (by decide))] at h3
      exact h3 rfl
  · rw [if_pos h2]
    refine ⟨(⟨0, 0, 0⟩, false), rfl, .inr rfl, fun x hx => ?_⟩
    exfalso
    rw [good1 x hx] at h2
    exact h2 rfl
theorem read_same {d : Divider_} {s : ByteArray} (hd : d.Circles.length ≤ 1048576) (hs : s.size ≤ 1048576) : ∃ r, i_ReadIndex_m d s = some r ∧ s_ReadIndex_m d s = some r := by
  obtain ⟨a, a1, a2, a3⟩ := i_ReadIndex_ok hd hs
  obtain ⟨b, b1, b2, b3⟩ := s_ReadIndex_ok hd hs
  refine ⟨a, a1, ?_⟩
  rw [b1]
  rcases a2 with ⟨a2, e⟩ | a2
  · rw [b3 _ a2, ← e]
  · rcases b2 with ⟨b2, e⟩ | b2
    · rw [a3 _ b2, ← e]
    · rw [a2, b2]
theorem law_readIndex (p0 : Divider_) (k0 : okDivider_ p0) (p1 : ByteArray) (k1 : osS p1) : l_FnExactReadIndex_m p0 p1 = some true := by
  unfold l_FnExactReadIndex_m
  by_cases hq : 1048576 < (p1.size : Int)
  · rw [if_pos hq]
  · rw [if_neg hq]
    obtain ⟨r, e, l, s⟩ := szDivider_ok k0 1048576 (by omega) (by omega)
    rw [e, Option.bind_some]
    by_cases hr : r < 0
    · rw [if_pos hr]
    · rw [if_neg hr]
      have h0 := s (by omega)
      have hc : p0.Circles.length ≤ 1048576 := h0.2.1
      obtain ⟨x, hi, hs⟩ := read_same hc (show p1.size ≤ 1048576 by omega)
      have hxe : l_eqIndex_m x.1 x.1 = some true := by unfold l_eqIndex_m; simp
      simp [toDivider_eq h0, hs, hi, hxe, eqDivider_refl h0]
end Go.Proofs.YtjhadibjjldpdaaDoor
namespace Go.Proofs.YtjhadibjjldpdaaDoor
open Go.ChangeShapes Go.WideShapes Go.ChangeAt Go.RowKit
set_option linter.unusedVariables false
set_option maxRecDepth 100000
theorem var_block {W : World} {n : String} {g : Nat} {cs : Array Value} (hg : Tryd.prog.globalNamed n = some g) (h : W.var? Tryd.prog n = some cs) : ∃ t f, W.heap[g]? = some (.cells cs t f) ∧ g < W.heap.size := by
  unfold World.var? at h
  rw [hg] at h
  simp only [Option.bind_some] at h
  split at h
  · rename_i cs' t f hh
    cases h
    exact ⟨t, f, hh, (Array.getElem?_eq_some_iff.1 hh).1⟩
  · cases h
def litV : DataW Unit → Value
  | .lit (.int k z) => .int k z
  | _ => .bool false
def valsOf : DataW Unit → Array Value
  | .agg l => (l.map litV).toArray
  | _ => #[]
def putV (cs : Array Value) : Obj → Obj
  | .cells _ t f => .cells cs t f
  | o => o
theorem pow_tab : (Rows.laid_internal_strconv_uint64pow10 : DataW Unit) = Lib.tabData .u64 Lib.pow10Tab := by kernel_rfl
def laidList : List (String × DataW Unit) := [("math/bits.deBruijn32tab", Rows.laid_math_bits_deBruijn32tab), ("math/bits.deBruijn64tab", Rows.laid_math_bits_deBruijn64tab), ("internal/strconv.uint64pow10", Rows.laid_internal_strconv_uint64pow10), ("strconv.ErrRange", Rows.laid_strconv_ErrRange), ("strconv.ErrSyntax", Rows.laid_strconv_ErrSyntax)]
theorem tab_named : Tryd.prog.globalNamed "internal/strconv.uint64pow10" = some 3 := by kernel_rfl
theorem glob_tab {W : World} {rest : List (String × DataW Unit)} (h : laidMet Tryd.prog (("internal/strconv.uint64pow10", Rows.laid_internal_strconv_uint64pow10) :: rest) W) :
    (fun b => b < W.heap.size) 3 ∧ (tabG 3 (Lib.pow10Tab.map fun z => Value.int .u64 z)).p W := by
  rw [pow_tab] at h
  have := Lib.tabIs_of_head (t := 134) (e := 48) (n := 20) tab_named (by kernel_rfl) Tryd.underlying134 Tryd.underlying48 (by kernel_rfl) (by kernel_rfl) h
  obtain ⟨t, f, h1, h2⟩ := var_block tab_named this
  exact ⟨h2, t, f, h1⟩
theorem star_err : "*" ++ "errors.errorString" = "*errors.errorString" := by decide
theorem only_err (u : TypeId) (h : Tryd.prog.typeName? 3 u = some "*errors.errorString") : u = 139 :=
  typeName_ptr_named (nm := "errors.errorString") (by rw [star_err]; kernel_rfl) (by kernel_rfl) (by decide) u (by rw [star_err]; exact h)
theorem err_here {n nm : String} {text : List UInt8} {rest : List (String × DataW Unit)} {W : World} {g : Nat} {ti tp te ts : TypeId} {ms : Array (String × TypeId)} {f : Field} (h : laidMet Tryd.prog ((n, .iface nm (.ptr (.agg [.lit (.string text)]))) :: rest) W)
    (hg : Tryd.prog.globalNamed n = some g) (ht : (Tryd.prog.globals[g]?).map (·.type) = some ti) (hi : Tryd.prog.underlying ti = some (.interface ms)) (hrow : ∀ u, Tryd.prog.typeName? 3 u = some nm → u = tp)
    (hp : Tryd.prog.underlying tp = some (.pointer te)) (he : Tryd.prog.underlying te = some (.struct #[f])) (hft : f.type = ts) (hfo : f.offset = 0) (hs : Tryd.prog.underlying ts = some .string) (hc : Tryd.prog.cellsOf te = 1) (hcs : Tryd.prog.cellsOf ts = 1) :
    (fun b => b < W.heap.size) g ∧ (errG g).p W := by
  obtain ⟨a, s, h1, _⟩ := laid_sentinel h hg ht hi hrow hp he hft hfo hs hc hcs
  obtain ⟨t, f, h2, h3⟩ := var_block hg h1
  exact ⟨h3, tp, .pointer (some a), t, f, h2⟩
theorem glob_of_laid {W : World} (h : laidMet Tryd.prog laidList W) : Glob (fun b => b < W.heap.size) W := by
  intro x hx
  simp only [globs, List.mem_cons, List.not_mem_nil, or_false] at hx
  rcases hx with rfl | rfl | rfl
  · exact glob_tab h.tail.tail
  · exact err_here (ti := 94) (tp := 139) (te := 141) h.tail.tail.tail (by kernel_rfl) (by kernel_rfl) Tryd.underlying94 (fun u hu => only_err u hu) (by kernel_rfl) Tryd.underlying141 rfl rfl (by kernel_rfl) (by kernel_rfl) (by kernel_rfl)
  · exact err_here (ti := 94) (tp := 139) (te := 141) h.tail.tail.tail.tail (by kernel_rfl) (by kernel_rfl) Tryd.underlying94 (fun u hu => only_err u hu) (by kernel_rfl) Tryd.underlying141 rfl rfl (by kernel_rfl) (by kernel_rfl) (by kernel_rfl)
def textOf : DataW Unit → Value
  | .iface _ (.ptr (.agg [.lit (.string t)])) => .string ⟨t.toArray⟩
  | _ => .bool false
noncomputable def laidWorld (os : Os) : World :=
  let w0 := World.holding Tryd.prog os ⟨#[], #[], []⟩
  let h1 := ((w0.heap.modify 4 (putV (valsOf Rows.laid_math_bits_deBruijn32tab))).modify 5 (putV (valsOf Rows.laid_math_bits_deBruijn64tab))).modify 3 (putV (valsOf Rows.laid_internal_strconv_uint64pow10))
  let b := h1.size
  { w0 with heap := (((h1.push (.cells #[textOf Rows.laid_strconv_ErrRange] 141)).push (.cells #[textOf Rows.laid_strconv_ErrSyntax] 141)).modify 2 (putV #[.iface 139 (.pointer (some ⟨b, 0, none⟩))])).modify 1 (putV #[.iface 139 (.pointer (some ⟨b + 1, 0, none⟩))]) }
theorem laidWorld_met (os : Os) (args : Array Value) : laidMet Tryd.prog laidList ((laidWorld os).forCall (fun _ _ => 0) ⟨#[], args, []⟩).memory :=
  laidMet_of_run' 8 (by kernel_rfl) (by kernel_rfl)
end Go.Proofs.YtjhadibjjldpdaaDoor
