/- Texts of this claim, one behind the other (merged by a program of mine). -/
import Derived.Test.YtjhadibjjldpdaaDoorRows
import Derived.ProofKit
import Derived.OpenShut
import Derived.ShutString
import Derived.ChangeOld
import Derived.Below
import Derived.Deep.Slices
import Derived.Test.YtjhadibjjldpdaaDoorProg
import Derived.Shelf.Strconv.Itoa4
import Derived.Shelf.Strconv.ParseIntPublic10
import Derived.Shelf.Strconv.ErrVarParseInt
import Derived.Shelf.Strings.Prefix
import Derived.Ground.NamesProg
import Derived.Lib.AppendIntMem
import Derived.Shelf.Strings.Search2
import Derived.StillTailTactics
import Derived.Laws.OwnMore
import Derived.Deep.AppendLies
import Derived.Deep.Draws
import Derived.Laws.Rows
import Derived.BigCall
import Derived.Lib.ItoaLen
import Derived.Test.YtjhadibjjldpdaaDoorGM2
set_option linter.unusedSimpArgs false
set_option linter.unusedVariables false
namespace Go.Proofs.YtjhadibjjldpdaaDoor
open Go.ChangeShapes Go.WideShapes Go.ChangeAt Go.RowKit
open Go.ChangeMaps (open_string shut_string)
set_option maxRecDepth 100000

theorem own : ownKnob Tryd.prog.godebug = none := by kernel_rfl
theorem laidOut : laidOutB Tryd.prog = true := by kernel_rfl

end Go.Proofs.YtjhadibjjldpdaaDoor
namespace Go.Proofs.YtjhadibjjldpdaaDoor
open Go.ChangeShapes Go.WideShapes Go.ChangeAt Go.RowKit Go.Deep
set_option linter.unusedVariables false
set_option maxRecDepth 100000
theorem cell_ltA {w : World} {a : Addr} {v : Value} (h : w.cell? a = some v) : a.block < w.heap.size := by
  unfold World.cell? at h
  cases hb : w.heap[a.block]? with
  | none => simp [hb] at h
  | some b => exact (Array.getElem?_eq_some_iff.1 hb).1
def RepL (w : World) (cs : List Value) (ds : List DV) : Prop := cs.length = ds.length ∧ ∀ (j : Nat) v x, cs[j]? = some v → ds[j]? = some x → DRep w (fun b => b < w.heap.size) v x
theorem repL_nil {w : World} : RepL w [] [] := ⟨rfl, fun j v x h => by simp at h⟩
theorem repL_cons {w : World} {v : Value} {x : DV} {cs : List Value} {ds : List DV} (h : DRep w (fun b => b < w.heap.size) v x) (k : RepL w cs ds) : RepL w (v :: cs) (x :: ds) := by
  refine ⟨by simp [k.1], fun j a b h1 h2 => ?_⟩
  cases j with
  | zero => simp at h1 h2; subst h1 h2; exact h
  | succ j => simp at h1 h2; exact k.2 j a b h1 h2
theorem repL_int {w : World} (k : IntKind) (z : Int) : DRep w (fun b => b < w.heap.size) (.int k z) (.v (.int k z)) := .v _ rfl
theorem args_nil {w : World} : ∀ (i : Nat) v a, (List.toArray ([] : List Value))[i]? = some v → ([] : List AV)[i]? = some a → ARep w (fun b => b < w.heap.size) (fun _ _ => none) (lks []) v a := fun i v a h => by simp at h
theorem args_cons {w : World} {v0 : Value} {a0 : AV} {vs : List Value} {bs : List AV} (h : ARep w (fun b => b < w.heap.size) (fun _ _ => none) (lks []) v0 a0) (k : ∀ (i : Nat) v a, vs.toArray[i]? = some v → bs[i]? = some a → ARep w (fun b => b < w.heap.size) (fun _ _ => none) (lks []) v a) :
    ∀ (i : Nat) v a, (v0 :: vs).toArray[i]? = some v → (a0 :: bs)[i]? = some a → ARep w (fun b => b < w.heap.size) (fun _ _ => none) (lks []) v a := fun i v a h1 h2 => by
  cases i with
  | zero => simp at h1 h2; subst h1 h2; exact h
  | succ i =>
    simp at h1 h2
    exact k i v a (by simpa using h1) h2
section
variable {H : Type} {enc : TypeId × Value → H} {W : World} {b0 : Nat} {spare : Nat → Bool} {held : Bool} {fuel : Nat} {cs : List Value} {x : DataW H × List MemPlace}
theorem sliceA {P : Program} {t e : TypeId} {α : Type} [Inhabited α] {a : Value} (f : α → List DV) (ok : α → Prop) (sz : Nat) (hf : ∀ a, (f a).length = sz) (hsz : 0 < sz) (ht : P.underlying t = some (.slice e)) (hC : P.cellsOf e = sz)
    (rd : ∀ (fuel : Nat) (cs : List Value) (x : DataW H × List MemPlace), DataW.trod enc P W b0 spare held fuel e cs = some x → ∃ m, RepL W cs (f m) ∧ ok m)
    (h : ∃ n y, DataW.trod enc P W b0 spare held n t [a] = some y) :
    ∃ xs : List α, DRep W (fun b => b < W.heap.size) a (.sl (xs.map f)) ∧ xs.length ≤ 9223372036854775807 ∧ ∀ m ∈ xs, ok m := by
  obtain ⟨n, y, h⟩ := h
  rcases DataW.trod_slice ht h with ⟨h0, _⟩ | ⟨ad, len, cap, elems, rest, n', _, hcs, _, hb, hl, hm, hel, hi, _, _⟩
  · simp at h0
    subst h0
    exact ⟨[], .nil, by simp, fun m hm => by simp at hm⟩
  · simp at hcs
    subst hcs
    rw [hC] at hi
    obtain ⟨q, hq⟩ := choose_lt (α := α) (n := len) (p := fun k q => (∃ cs', W.cells? b0 (ad.add (k * sz)) sz = some cs' ∧ RepL W cs' (f q)) ∧ ok q) (fun k hk => by
      have h1 := hi k hk
      rw [List.getElem?_eq_getElem (by omega)] at h1
      obtain ⟨cs', hc, htr⟩ := Option.bind_eq_some_iff.1 h1
      obtain ⟨m, hm1, hm2⟩ := rd _ _ _ htr
      exact ⟨m, ⟨cs', hc, hm1⟩, hm2⟩)
    have hxl : ((List.range len).map q).length = len := by simp
    refine ⟨(List.range len).map q, ?_, by rw [hxl]; unfold maxLen at hm; omega, fun m hm' => ?_⟩
    · have hcell : ∀ k, k < len → ∀ j, j < sz → ∃ v, W.cell? (ad.add (k * sz + j)) = some v ∧ ∀ x, (f (q k))[j]? = some x → DRep W (fun b => b < W.heap.size) v x := by
        intro k hk j hj
        obtain ⟨⟨cs', hc, hr⟩, _⟩ := hq k hk
        obtain ⟨_, hl', hat⟩ := World.cells?_some hc
        have hjl : j < cs'.length := by rw [hr.1, hf]; exact hj
        refine ⟨cs'[j], ?_, fun x hx => hr.2 j _ x (List.getElem?_eq_getElem hjl) hx⟩
        rw [← Go.Deep.add_add, ← List.getElem?_eq_getElem hjl]
        exact hat j hj
      rcases Nat.eq_zero_or_pos len with h0 | h0
      · subst h0
        exact .emp _ _ hm
      · obtain ⟨v0, h00, _⟩ := hcell 0 h0 0 hsz
        obtain ⟨b, off, spot⟩ := ad
        have hspot : spot = none := by
          have := World.cell?_spot h00
          simpa [Addr.add] using this
        subst hspot
        have hdd : DRep W (fun b => b < W.heap.size) (.slice (some ⟨b, off, none⟩) ((List.range len).map (fun k => f (q k))).length cap) (.sl ((List.range len).map fun k => f (q k))) := by
          refine .sl b off cap sz _ (fun i j => (W.cell? ⟨b, off + i * sz + j, none⟩).getD undef) ?_ (by simpa using hl) hm (fun i e he => ?_) (fun i e j x he hx => ?_) (fun i e j x he hx => ?_)
          · have h01 := cell_ltA h00
            simp only [Addr.add] at h01
            split at h01 <;> exact h01
          · rw [List.getElem?_map] at he
            obtain ⟨k, _, rfl⟩ := Option.map_eq_some_iff.1 he
            exact hf _
          all_goals
            rw [List.getElem?_map] at he
            obtain ⟨k, hk, rfl⟩ := Option.map_eq_some_iff.1 he
            obtain ⟨hil, rfl⟩ := List.getElem?_eq_some_iff.1 hk
            simp only [List.length_range] at hil
            simp only [List.getElem_range] at hx
            have hjl : j < sz := by have := (List.getElem?_eq_some_iff.1 hx).1; rw [hf] at this; exact this
            obtain ⟨v, hv, hr⟩ := hcell i hil j hjl
            rw [add_plain, ← Nat.add_assoc] at hv
            rw [hv]
          · rfl
          · exact hr x hx
        simpa [List.map_map, Function.comp_def] using hdd
    · obtain ⟨k, hk, rfl⟩ := List.mem_map.1 hm'
      exact (hq k (by simpa using hk)).2
end
end Go.Proofs.YtjhadibjjldpdaaDoor
namespace Go.Proofs.YtjhadibjjldpdaaDoor
open Go.ChangeShapes Go.WideShapes Go.ChangeAt Go.RowKit Go.Deep
set_option linter.unusedVariables false
set_option maxRecDepth 100000
def osI (x : Int) : Prop := -9223372036854775808 ≤ x ∧ x ≤ 9223372036854775807
def osU8 (x : Int) : Prop := 0 ≤ x ∧ x ≤ 255
def osL {α : Type} (ok : α → Prop) (xs : List α) : Prop := xs.length ≤ 9223372036854775807 ∧ ∀ m ∈ xs, ok m
section
variable {H : Type} {enc : TypeId × Value → H} {W : World} {b0 : Nat} {spare : Nat → Bool} {held : Bool} {fuel : Nat} {cs : List Value} {x : DataW H × List MemPlace}
theorem sl_one {P : Program} {t e : TypeId} (ht : P.underlying t = some (.slice e)) (h : DataW.trod enc P W b0 spare held fuel t cs = some x) : ∃ v, cs = [v] := by
  rcases DataW.trod_slice ht h with ⟨h0, _⟩ | ⟨ad, len, cap, elems, rest, n', _, hcs, _⟩
  · exact ⟨_, h0⟩
  · exact ⟨_, hcs⟩
theorem sliceX {P : Program} {t e : TypeId} {α : Type} {a : Value} (f : α → List DV) (ok : α → Prop) (sz : Nat) (hf : ∀ a, (f a).length = sz) (hsz : 0 < sz) (ht : P.underlying t = some (.slice e)) (hC : P.cellsOf e = sz)
    (rd : ∀ (fuel : Nat) (cs : List Value) (x : DataW H × List MemPlace), DataW.trod enc P W b0 spare held fuel e cs = some x → ∃ m, RepL W cs (f m) ∧ ok m)
    (h : ∃ n y, DataW.trod enc P W b0 spare held n t [a] = some y) :
    ∃ xs : List α, DRep W (fun b => b < W.heap.size) a (.sl (xs.map f)) ∧ xs.length ≤ 9223372036854775807 ∧ ∀ m ∈ xs, ok m := by
  by_cases hne : Nonempty α
  · haveI : Inhabited α := ⟨Classical.choice hne⟩
    exact sliceA f ok sz hf hsz ht hC rd h
  · obtain ⟨n, y, h⟩ := h
    rcases DataW.trod_slice ht h with ⟨h0, _⟩ | ⟨ad, len, cap, elems, rest, n', _, hcs, _, hb, hl, hm, hel, hi, _, _⟩
    · simp at h0
      subst h0
      exact ⟨[], .nil, by simp, fun m hm => by simp at hm⟩
    · simp at hcs
      subst hcs
      rcases Nat.eq_zero_or_pos len with h0 | h0
      · subst h0
        exact ⟨[], .emp _ _ hm, by simp, fun m hm => by simp at hm⟩
      · exfalso
        have h1 := hi 0 h0
        rw [List.getElem?_eq_getElem (by omega)] at h1
        obtain ⟨cs', hc, htr⟩ := Option.bind_eq_some_iff.1 h1
        obtain ⟨m, _⟩ := rd _ _ _ htr
        exact hne ⟨m⟩
end
end Go.Proofs.YtjhadibjjldpdaaDoor
namespace Go.Proofs.YtjhadibjjldpdaaDoor
open Go.RowKit
set_option linter.unusedVariables false
set_option maxRecDepth 100000
set_option maxHeartbeats 2000000
end Go.Proofs.YtjhadibjjldpdaaDoor
namespace Go.Proofs.YtjhadibjjldpdaaDoor
open Go.ChangeShapes Go.WideShapes Go.ChangeAt Go.RowKit Go.Deep
set_option linter.unusedVariables false
set_option maxRecDepth 100000
set_option maxHeartbeats 2000000
theorem rd_5 {H : Type} {enc : TypeId × Value → H} {W : World} {b0 : Nat} {spare : Nat → Bool} {held : Bool} {fuel : Nat} {cs : List Value} {x : DataW H × List MemPlace} (h : DataW.trod enc Tryd.prog W b0 spare held fuel 5 cs = some x) : ∃ v : Int, RepL W cs (cU8 v) ∧ osU8 v := by
  obtain ⟨z, rfl, _, hw⟩ := DataW.trod_int Tryd.underlying5 h
  exact ⟨z, repL_cons (repL_int _ _) repL_nil, by simpa [osU8, Lit.wf, IntKind.min, IntKind.max, IntKind.bits, IntKind.signed] using hw⟩
theorem rd_35 {H : Type} {enc : TypeId × Value → H} {W : World} {b0 : Nat} {spare : Nat → Bool} {held : Bool} {fuel : Nat} {cs : List Value} {x : DataW H × List MemPlace} (h : DataW.trod enc Tryd.prog W b0 spare held fuel 35 cs = some x) : ∃ v : List Int, RepL W cs ((cL cU8) v) ∧ (osL osU8) v := by
  obtain ⟨v, hv⟩ : ∃ v, cs = [v] := sl_one (t := 35) Tryd.underlying35 h
  subst hv
  obtain ⟨xs, hr, hm, hok⟩ := sliceX cU8 osU8 1 (fun _ => rfl) (by omega) Tryd.underlying35 (by kernel_rfl) (fun fuel cs x h => rd_5 h) ⟨_, _, h⟩
  exact ⟨xs, repL_cons hr repL_nil, hm, hok⟩
theorem open_35 {H : Type} {enc : TypeId × Value → H} {W : World} {b0 base : Nat} {spare : Nat → Bool} {held : Bool} {v : Value} {d : DataW H} {p : List MemPlace} (hv : Value.okWide Tryd.prog W .any base 35 v) (h : DataW.Trod enc Tryd.prog W b0 spare held 35 v d p) : ∃ x : List Int, ARep W (fun b => b < W.heap.size) (fun _ _ => none) (lks []) v (.d (.sl (List.map cU8 x))) ∧ (osL osU8) x := by
  obtain ⟨a, len, cap, rfl⟩ := okWide_slice Tryd.underlying35 hv
  obtain ⟨fuel, hf⟩ := h
  obtain ⟨x, hr, hok⟩ := rd_35 hf
  exact ⟨x, .d _ _ (hr.2 0 _ _ rfl rfl), hok⟩
end Go.Proofs.YtjhadibjjldpdaaDoor
namespace Go.Proofs.YtjhadibjjldpdaaDoor
open Go.RowKit
set_option linter.unusedVariables false
set_option maxRecDepth 100000
theorem ty2 : TyIs Tryd.prog 2 ⟨.int .i64, 1, 8, .int .i64 0⟩ := tyIs_of (by kernel_rfl)
theorem ty3 : TyIs Tryd.prog 3 ⟨.int .i64, 1, 8, .int .i64 0⟩ := tyIs_of (by kernel_rfl)
theorem ty4 : TyIs Tryd.prog 4 ⟨.bool, 1, 1, .bool false⟩ := tyIs_of (by kernel_rfl)
theorem ty5 : TyIs Tryd.prog 5 ⟨.int .u8, 1, 1, .int .u8 0⟩ := tyIs_of (by kernel_rfl)
theorem ty6 : TyIs Tryd.prog 6 ⟨.int .u8, 1, 1, .int .u8 0⟩ := tyIs_of (by kernel_rfl)
theorem ty8 : TyIs Tryd.prog 8 ⟨.struct #[⟨ "x", 2, 0, false, "", "runtime", 0⟩, ⟨ "y", 3, 1, false, "", "runtime", 8⟩, ⟨ "signed", 4, 2, false, "", "runtime", 16⟩, ⟨ "code", 6, 3, false, "", "runtime", 17⟩], 4, 24, .agg #[.int .i64 0, .int .i64 0, .bool false, .int .u8 0]⟩ := tyIs_of (by kernel_rfl)
theorem ty9 : TyIs Tryd.prog 9 ⟨.string, 1, 16, .string ⟨#[]⟩⟩ := tyIs_of (by kernel_rfl)
theorem ty10 : TyIs Tryd.prog 10 ⟨.string, 1, 16, .string ⟨#[]⟩⟩ := tyIs_of (by kernel_rfl)
theorem ty11 : TyIs Tryd.prog 11 ⟨.string, 1, 16, .string ⟨#[]⟩⟩ := tyIs_of (by kernel_rfl)
theorem ty12 : TyIs Tryd.prog 12 ⟨.int .u64, 1, 8, .int .u64 0⟩ := tyIs_of (by kernel_rfl)
theorem ty14 : TyIs Tryd.prog 14 ⟨.struct #[⟨ "msg", 9, 0, false, "", "runtime", 0⟩, ⟨ "addr", 12, 1, false, "", "runtime", 16⟩], 2, 24, .agg #[.string ⟨#[]⟩, .int .u64 0]⟩ := tyIs_of (by kernel_rfl)
theorem ty15 : TyIs Tryd.prog 15 ⟨.pointer 147, 1, 8, .pointer none⟩ := tyIs_of (by kernel_rfl)
theorem ty16 : TyIs Tryd.prog 16 ⟨.pointer 150, 1, 8, .pointer none⟩ := tyIs_of (by kernel_rfl)
theorem ty17 : TyIs Tryd.prog 17 ⟨.pointer 158, 1, 8, .pointer none⟩ := tyIs_of (by kernel_rfl)
theorem ty19 : TyIs Tryd.prog 19 ⟨.struct #[⟨ "typ", 17, 0, false, "", "internal/runtime/maps", 0⟩], 1, 8, .agg #[.pointer none]⟩ := tyIs_of (by kernel_rfl)
theorem ty21 : TyIs Tryd.prog 21 ⟨.int .i32, 1, 4, .int .i32 0⟩ := tyIs_of (by kernel_rfl)
theorem ty22 : TyIs Tryd.prog 22 ⟨.slice 2, 1, 24, .slice none 0 0⟩ := tyIs_of (by kernel_rfl)
theorem ty24 : TyIs Tryd.prog 24 ⟨.struct #[⟨ "Worm", 2, 0, false, "", "", 0⟩, ⟨ "Circles", 22, 1, false, "", "", 8⟩], 2, 32, .agg #[.int .i64 0, .slice none 0 0]⟩ := tyIs_of (by kernel_rfl)
theorem ty27 : TyIs Tryd.prog 27 ⟨.struct #[⟨ "Turns", 2, 0, false, "", "", 0⟩, ⟨ "Holes", 2, 1, false, "", "", 8⟩, ⟨ "Circle", 2, 2, false, "", "", 16⟩], 3, 24, .agg #[.int .i64 0, .int .i64 0, .int .i64 0]⟩ := tyIs_of (by kernel_rfl)
theorem ty30 : TyIs Tryd.prog 30 ⟨.struct #[⟨ "Worm", 2, 0, false, "", "", 0⟩, ⟨ "Circles", 22, 1, false, "", "", 8⟩], 2, 32, .agg #[.int .i64 0, .slice none 0 0]⟩ := tyIs_of (by kernel_rfl)
theorem ty35 : TyIs Tryd.prog 35 ⟨.slice 5, 1, 24, .slice none 0 0⟩ := tyIs_of (by kernel_rfl)
theorem ty46 : TyIs Tryd.prog 46 ⟨.pointer 84, 1, 8, .pointer none⟩ := tyIs_of (by kernel_rfl)
theorem ty48 : TyIs Tryd.prog 48 ⟨.int .u64, 1, 8, .int .u64 0⟩ := tyIs_of (by kernel_rfl)
theorem ty56 : TyIs Tryd.prog 56 ⟨.struct #[⟨ "Num", 2, 0, false, "", "", 0⟩, ⟨ "Den", 2, 1, false, "", "", 8⟩], 2, 16, .agg #[.int .i64 0, .int .i64 0]⟩ := tyIs_of (by kernel_rfl)
theorem ty62 : TyIs Tryd.prog 62 ⟨.slice 9, 1, 24, .slice none 0 0⟩ := tyIs_of (by kernel_rfl)
theorem ty70 : TyIs Tryd.prog 70 ⟨.pointer 98, 1, 8, .pointer none⟩ := tyIs_of (by kernel_rfl)
theorem ty84 : TyIs Tryd.prog 84 ⟨.struct #[⟨ "b", 35, 0, false, "", "loop.example/g00921/laws", 0⟩, ⟨ "i", 3, 1, false, "", "loop.example/g00921/laws", 24⟩, ⟨ "h", 48, 2, false, "", "loop.example/g00921/laws", 32⟩], 3, 40, .agg #[.slice none 0 0, .int .i64 0, .int .u64 0]⟩ := tyIs_of (by kernel_rfl)
theorem ty85 : TyIs Tryd.prog 85 ⟨.int .u64, 1, 8, .int .u64 0⟩ := tyIs_of (by kernel_rfl)
theorem ty98 : TyIs Tryd.prog 98 ⟨.struct #[⟨ "code", 35, 0, false, "", "loop.example/g00921/spec", 0⟩, ⟨ "at", 3, 1, false, "", "loop.example/g00921/spec", 24⟩, ⟨ "seed", 48, 2, false, "", "loop.example/g00921/spec", 32⟩], 3, 40, .agg #[.slice none 0 0, .int .i64 0, .int .u64 0]⟩ := tyIs_of (by kernel_rfl)
theorem ty112 : TyIs Tryd.prog 112 ⟨.int .i64, 1, 8, .int .i64 0⟩ := tyIs_of (by kernel_rfl)
theorem ty115 : TyIs Tryd.prog 115 ⟨.pointer 131, 1, 8, .pointer none⟩ := tyIs_of (by kernel_rfl)
theorem ty119 : TyIs Tryd.prog 119 ⟨.array 24 5, 24, 24, .agg #[.int .u8 0, .int .u8 0, .int .u8 0, .int .u8 0, .int .u8 0, .int .u8 0, .int .u8 0, .int .u8 0, .int .u8 0, .int .u8 0, .int .u8 0, .int .u8 0, .int .u8 0, .int .u8 0, .int .u8 0, .int .u8 0, .int .u8 0, .int .u8 0, .int .u8 0, .int .u8 0, .int .u8 0, .int .u8 0, .int .u8 0, .int .u8 0]⟩ := tyIs_of (by kernel_rfl)
theorem ty124 : TyIs Tryd.prog 124 ⟨.int .u32, 1, 4, .int .u32 0⟩ := tyIs_of (by kernel_rfl)
theorem ty131 : TyIs Tryd.prog 131 ⟨.struct #[⟨ "Func", 9, 0, false, "", "", 0⟩, ⟨ "Num", 9, 1, false, "", "", 16⟩, ⟨ "Err", 94, 2, false, "", "", 32⟩], 3, 48, .agg #[.string ⟨#[]⟩, .string ⟨#[]⟩, .nilIface]⟩ := tyIs_of (by kernel_rfl)
theorem ty134 : TyIs Tryd.prog 134 ⟨.array 20 48, 20, 160, .agg #[.int .u64 0, .int .u64 0, .int .u64 0, .int .u64 0, .int .u64 0, .int .u64 0, .int .u64 0, .int .u64 0, .int .u64 0, .int .u64 0, .int .u64 0, .int .u64 0, .int .u64 0, .int .u64 0, .int .u64 0, .int .u64 0, .int .u64 0, .int .u64 0, .int .u64 0, .int .u64 0]⟩ := tyIs_of (by kernel_rfl)
theorem ty135 : TyIs Tryd.prog 135 ⟨.array 65 5, 65, 65, .agg #[.int .u8 0, .int .u8 0, .int .u8 0, .int .u8 0, .int .u8 0, .int .u8 0, .int .u8 0, .int .u8 0, .int .u8 0, .int .u8 0, .int .u8 0, .int .u8 0, .int .u8 0, .int .u8 0, .int .u8 0, .int .u8 0, .int .u8 0, .int .u8 0, .int .u8 0, .int .u8 0, .int .u8 0, .int .u8 0, .int .u8 0, .int .u8 0, .int .u8 0, .int .u8 0, .int .u8 0, .int .u8 0, .int .u8 0, .int .u8 0, .int .u8 0, .int .u8 0, .int .u8 0, .int .u8 0, .int .u8 0, .int .u8 0, .int .u8 0, .int .u8 0, .int .u8 0, .int .u8 0, .int .u8 0, .int .u8 0, .int .u8 0, .int .u8 0, .int .u8 0, .int .u8 0, .int .u8 0, .int .u8 0, .int .u8 0, .int .u8 0, .int .u8 0, .int .u8 0, .int .u8 0, .int .u8 0, .int .u8 0, .int .u8 0, .int .u8 0, .int .u8 0, .int .u8 0, .int .u8 0, .int .u8 0, .int .u8 0, .int .u8 0, .int .u8 0, .int .u8 0]⟩ := tyIs_of (by kernel_rfl)
theorem ty138 : TyIs Tryd.prog 138 ⟨.pointer 5, 1, 8, .pointer none⟩ := tyIs_of (by kernel_rfl)
theorem ty139 : TyIs Tryd.prog 139 ⟨.pointer 141, 1, 8, .pointer none⟩ := tyIs_of (by kernel_rfl)
theorem ty141 : TyIs Tryd.prog 141 ⟨.struct #[⟨ "s", 9, 0, false, "", "errors", 0⟩], 1, 16, .agg #[.string ⟨#[]⟩]⟩ := tyIs_of (by kernel_rfl)
theorem ty143 : TyIs Tryd.prog 143 ⟨.array 32 5, 32, 32, .agg #[.int .u8 0, .int .u8 0, .int .u8 0, .int .u8 0, .int .u8 0, .int .u8 0, .int .u8 0, .int .u8 0, .int .u8 0, .int .u8 0, .int .u8 0, .int .u8 0, .int .u8 0, .int .u8 0, .int .u8 0, .int .u8 0, .int .u8 0, .int .u8 0, .int .u8 0, .int .u8 0, .int .u8 0, .int .u8 0, .int .u8 0, .int .u8 0, .int .u8 0, .int .u8 0, .int .u8 0, .int .u8 0, .int .u8 0, .int .u8 0, .int .u8 0, .int .u8 0]⟩ := tyIs_of (by kernel_rfl)
theorem ty144 : TyIs Tryd.prog 144 ⟨.array 64 5, 64, 64, .agg #[.int .u8 0, .int .u8 0, .int .u8 0, .int .u8 0, .int .u8 0, .int .u8 0, .int .u8 0, .int .u8 0, .int .u8 0, .int .u8 0, .int .u8 0, .int .u8 0, .int .u8 0, .int .u8 0, .int .u8 0, .int .u8 0, .int .u8 0, .int .u8 0, .int .u8 0, .int .u8 0, .int .u8 0, .int .u8 0, .int .u8 0, .int .u8 0, .int .u8 0, .int .u8 0, .int .u8 0, .int .u8 0, .int .u8 0, .int .u8 0, .int .u8 0, .int .u8 0, .int .u8 0, .int .u8 0, .int .u8 0, .int .u8 0, .int .u8 0, .int .u8 0, .int .u8 0, .int .u8 0, .int .u8 0, .int .u8 0, .int .u8 0, .int .u8 0, .int .u8 0, .int .u8 0, .int .u8 0, .int .u8 0, .int .u8 0, .int .u8 0, .int .u8 0, .int .u8 0, .int .u8 0, .int .u8 0, .int .u8 0, .int .u8 0, .int .u8 0, .int .u8 0, .int .u8 0, .int .u8 0, .int .u8 0, .int .u8 0, .int .u8 0, .int .u8 0]⟩ := tyIs_of (by kernel_rfl)
theorem ty153 : TyIs Tryd.prog 153 ⟨.int .u8, 1, 1, .int .u8 0⟩ := tyIs_of (by kernel_rfl)
def tt : Tab := updT (updT (updT (updT (updT (updT (updT (updT (updT (updT (updT (updT (updT (updT (updT (updT (updT (updT (updT (updT (updT (updT (updT (updT (updT (updT (updT (updT (updT (updT (updT (updT (updT (updT (updT (updT (updT (updT (updT (updT (updT (updT ((fun _ => none)) 2 ⟨.int .i64, 1, 8, .int .i64 0⟩) 3 ⟨.int .i64, 1, 8, .int .i64 0⟩) 4 ⟨.bool, 1, 1, .bool false⟩) 5 ⟨.int .u8, 1, 1, .int .u8 0⟩) 6 ⟨.int .u8, 1, 1, .int .u8 0⟩) 8 ⟨.struct #[⟨ "x", 2, 0, false, "", "runtime", 0⟩, ⟨ "y", 3, 1, false, "", "runtime", 8⟩, ⟨ "signed", 4, 2, false, "", "runtime", 16⟩, ⟨ "code", 6, 3, false, "", "runtime", 17⟩], 4, 24, .agg #[.int .i64 0, .int .i64 0, .bool false, .int .u8 0]⟩) 9 ⟨.string, 1, 16, .string ⟨#[]⟩⟩) 10 ⟨.string, 1, 16, .string ⟨#[]⟩⟩) 11 ⟨.string, 1, 16, .string ⟨#[]⟩⟩) 12 ⟨.int .u64, 1, 8, .int .u64 0⟩) 14 ⟨.struct #[⟨ "msg", 9, 0, false, "", "runtime", 0⟩, ⟨ "addr", 12, 1, false, "", "runtime", 16⟩], 2, 24, .agg #[.string ⟨#[]⟩, .int .u64 0]⟩) 15 ⟨.pointer 147, 1, 8, .pointer none⟩) 16 ⟨.pointer 150, 1, 8, .pointer none⟩) 17 ⟨.pointer 158, 1, 8, .pointer none⟩) 19 ⟨.struct #[⟨ "typ", 17, 0, false, "", "internal/runtime/maps", 0⟩], 1, 8, .agg #[.pointer none]⟩) 21 ⟨.int .i32, 1, 4, .int .i32 0⟩) 22 ⟨.slice 2, 1, 24, .slice none 0 0⟩) 24 ⟨.struct #[⟨ "Worm", 2, 0, false, "", "", 0⟩, ⟨ "Circles", 22, 1, false, "", "", 8⟩], 2, 32, .agg #[.int .i64 0, .slice none 0 0]⟩) 27 ⟨.struct #[⟨ "Turns", 2, 0, false, "", "", 0⟩, ⟨ "Holes", 2, 1, false, "", "", 8⟩, ⟨ "Circle", 2, 2, false, "", "", 16⟩], 3, 24, .agg #[.int .i64 0, .int .i64 0, .int .i64 0]⟩) 30 ⟨.struct #[⟨ "Worm", 2, 0, false, "", "", 0⟩, ⟨ "Circles", 22, 1, false, "", "", 8⟩], 2, 32, .agg #[.int .i64 0, .slice none 0 0]⟩) 35 ⟨.slice 5, 1, 24, .slice none 0 0⟩) 46 ⟨.pointer 84, 1, 8, .pointer none⟩) 48 ⟨.int .u64, 1, 8, .int .u64 0⟩) 56 ⟨.struct #[⟨ "Num", 2, 0, false, "", "", 0⟩, ⟨ "Den", 2, 1, false, "", "", 8⟩], 2, 16, .agg #[.int .i64 0, .int .i64 0]⟩) 62 ⟨.slice 9, 1, 24, .slice none 0 0⟩) 70 ⟨.pointer 98, 1, 8, .pointer none⟩) 84 ⟨.struct #[⟨ "b", 35, 0, false, "", "loop.example/g00921/laws", 0⟩, ⟨ "i", 3, 1, false, "", "loop.example/g00921/laws", 24⟩, ⟨ "h", 48, 2, false, "", "loop.example/g00921/laws", 32⟩], 3, 40, .agg #[.slice none 0 0, .int .i64 0, .int .u64 0]⟩) 85 ⟨.int .u64, 1, 8, .int .u64 0⟩) 98 ⟨.struct #[⟨ "code", 35, 0, false, "", "loop.example/g00921/spec", 0⟩, ⟨ "at", 3, 1, false, "", "loop.example/g00921/spec", 24⟩, ⟨ "seed", 48, 2, false, "", "loop.example/g00921/spec", 32⟩], 3, 40, .agg #[.slice none 0 0, .int .i64 0, .int .u64 0]⟩) 112 ⟨.int .i64, 1, 8, .int .i64 0⟩) 115 ⟨.pointer 131, 1, 8, .pointer none⟩) 119 ⟨.array 24 5, 24, 24, .agg #[.int .u8 0, .int .u8 0, .int .u8 0, .int .u8 0, .int .u8 0, .int .u8 0, .int .u8 0, .int .u8 0, .int .u8 0, .int .u8 0, .int .u8 0, .int .u8 0, .int .u8 0, .int .u8 0, .int .u8 0, .int .u8 0, .int .u8 0, .int .u8 0, .int .u8 0, .int .u8 0, .int .u8 0, .int .u8 0, .int .u8 0, .int .u8 0]⟩) 124 ⟨.int .u32, 1, 4, .int .u32 0⟩) 131 ⟨.struct #[⟨ "Func", 9, 0, false, "", "", 0⟩, ⟨ "Num", 9, 1, false, "", "", 16⟩, ⟨ "Err", 94, 2, false, "", "", 32⟩], 3, 48, .agg #[.string ⟨#[]⟩, .string ⟨#[]⟩, .nilIface]⟩) 134 ⟨.array 20 48, 20, 160, .agg #[.int .u64 0, .int .u64 0, .int .u64 0, .int .u64 0, .int .u64 0, .int .u64 0, .int .u64 0, .int .u64 0, .int .u64 0, .int .u64 0, .int .u64 0, .int .u64 0, .int .u64 0, .int .u64 0, .int .u64 0, .int .u64 0, .int .u64 0, .int .u64 0, .int .u64 0, .int .u64 0]⟩) 135 ⟨.array 65 5, 65, 65, .agg #[.int .u8 0, .int .u8 0, .int .u8 0, .int .u8 0, .int .u8 0, .int .u8 0, .int .u8 0, .int .u8 0, .int .u8 0, .int .u8 0, .int .u8 0, .int .u8 0, .int .u8 0, .int .u8 0, .int .u8 0, .int .u8 0, .int .u8 0, .int .u8 0, .int .u8 0, .int .u8 0, .int .u8 0, .int .u8 0, .int .u8 0, .int .u8 0, .int .u8 0, .int .u8 0, .int .u8 0, .int .u8 0, .int .u8 0, .int .u8 0, .int .u8 0, .int .u8 0, .int .u8 0, .int .u8 0, .int .u8 0, .int .u8 0, .int .u8 0, .int .u8 0, .int .u8 0, .int .u8 0, .int .u8 0, .int .u8 0, .int .u8 0, .int .u8 0, .int .u8 0, .int .u8 0, .int .u8 0, .int .u8 0, .int .u8 0, .int .u8 0, .int .u8 0, .int .u8 0, .int .u8 0, .int .u8 0, .int .u8 0, .int .u8 0, .int .u8 0, .int .u8 0, .int .u8 0, .int .u8 0, .int .u8 0, .int .u8 0, .int .u8 0, .int .u8 0, .int .u8 0]⟩) 138 ⟨.pointer 5, 1, 8, .pointer none⟩) 139 ⟨.pointer 141, 1, 8, .pointer none⟩) 141 ⟨.struct #[⟨ "s", 9, 0, false, "", "errors", 0⟩], 1, 16, .agg #[.string ⟨#[]⟩]⟩) 143 ⟨.array 32 5, 32, 32, .agg #[.int .u8 0, .int .u8 0, .int .u8 0, .int .u8 0, .int .u8 0, .int .u8 0, .int .u8 0, .int .u8 0, .int .u8 0, .int .u8 0, .int .u8 0, .int .u8 0, .int .u8 0, .int .u8 0, .int .u8 0, .int .u8 0, .int .u8 0, .int .u8 0, .int .u8 0, .int .u8 0, .int .u8 0, .int .u8 0, .int .u8 0, .int .u8 0, .int .u8 0, .int .u8 0, .int .u8 0, .int .u8 0, .int .u8 0, .int .u8 0, .int .u8 0, .int .u8 0]⟩) 144 ⟨.array 64 5, 64, 64, .agg #[.int .u8 0, .int .u8 0, .int .u8 0, .int .u8 0, .int .u8 0, .int .u8 0, .int .u8 0, .int .u8 0, .int .u8 0, .int .u8 0, .int .u8 0, .int .u8 0, .int .u8 0, .int .u8 0, .int .u8 0, .int .u8 0, .int .u8 0, .int .u8 0, .int .u8 0, .int .u8 0, .int .u8 0, .int .u8 0, .int .u8 0, .int .u8 0, .int .u8 0, .int .u8 0, .int .u8 0, .int .u8 0, .int .u8 0, .int .u8 0, .int .u8 0, .int .u8 0, .int .u8 0, .int .u8 0, .int .u8 0, .int .u8 0, .int .u8 0, .int .u8 0, .int .u8 0, .int .u8 0, .int .u8 0, .int .u8 0, .int .u8 0, .int .u8 0, .int .u8 0, .int .u8 0, .int .u8 0, .int .u8 0, .int .u8 0, .int .u8 0, .int .u8 0, .int .u8 0, .int .u8 0, .int .u8 0, .int .u8 0, .int .u8 0, .int .u8 0, .int .u8 0, .int .u8 0, .int .u8 0, .int .u8 0, .int .u8 0, .int .u8 0, .int .u8 0]⟩) 153 ⟨.int .u8, 1, 1, .int .u8 0⟩
theorem tok : TOk Tryd.prog tt := (tok_upd (tok_upd (tok_upd (tok_upd (tok_upd (tok_upd (tok_upd (tok_upd (tok_upd (tok_upd (tok_upd (tok_upd (tok_upd (tok_upd (tok_upd (tok_upd (tok_upd (tok_upd (tok_upd (tok_upd (tok_upd (tok_upd (tok_upd (tok_upd (tok_upd (tok_upd (tok_upd (tok_upd (tok_upd (tok_upd (tok_upd (tok_upd (tok_upd (tok_upd (tok_upd (tok_upd (tok_upd (tok_upd (tok_upd (tok_upd (tok_upd (tok_upd (tok_nil _) ty2) ty3) ty4) ty5) ty6) ty8) ty9) ty10) ty11) ty12) ty14) ty15) ty16) ty17) ty19) ty21) ty22) ty24) ty27) ty30) ty35) ty46) ty48) ty56) ty62) ty70) ty84) ty85) ty98) ty112) ty115) ty119) ty124) ty131) ty134) ty135) ty138) ty139) ty141) ty143) ty144) ty153)
theorem follows : Tryd.prog.follows .mixedOrders = true := by kernel_rfl
end Go.Proofs.YtjhadibjjldpdaaDoor
namespace Go.Proofs
open Go.Shelf
def Tryd.layLaysMn173_ren : Go.Shelf.Ren := ⟨fun | 173 => 82 | 246 => 92 | 283 => 104 | 284 => 105 | 285 => 106 | 286 => 107 | 129 => 116 | 317 => 115 | 318 => 117 | 319 => 118 | 320 => 119 | 337 => 121 | 338 => 122 | n => n, fun | 2 => 2 | 3 => 3 | 9 => 9 | 4 => 4 | 171 => 119 | 0 => 0 | 53 => 48 | 37 => 35 | 5 => 5 | 173 => 122 | 212 => 134 | 51 => 124 | 20 => 20 | 213 => 135 | 46 => 85 | 232 => 143 | 233 => 144 | n => n, fun | 17 => 3 | 18 => 4 | 19 => 5 | n => n⟩
theorem Tryd.layLaysMn173 : Go.Proofs.LaysM.n173 Tryd.prog Tryd.layLaysMn173_ren := {
  mixed := by kernel_rfl
  f129 := Tryd.func116.trans (congrArg some (by kernel_rfl))
  f173 := Tryd.func82.trans (congrArg some (by kernel_rfl))
  f246 := Tryd.func92.trans (congrArg some (by kernel_rfl))
  f283 := Tryd.func104.trans (congrArg some (by kernel_rfl))
  f284 := Tryd.func105.trans (congrArg some (by kernel_rfl))
  f285 := Tryd.func106.trans (congrArg some (by kernel_rfl))
  f286 := Tryd.func107.trans (congrArg some (by kernel_rfl))
  f317 := Tryd.func115.trans (congrArg some (by kernel_rfl))
  f318 := Tryd.func117.trans (congrArg some (by kernel_rfl))
  f319 := Tryd.func118.trans (congrArg some (by kernel_rfl))
  f320 := Tryd.func119.trans (congrArg some (by kernel_rfl))
  f337 := Tryd.func121.trans (congrArg some (by kernel_rfl))
  f338 := Tryd.func122.trans (congrArg some (by kernel_rfl))
  t0 := Tryd.underlying0
  a0 := Tryd.isAgg0
  z0 := Tryd.sizeOf0
  v0 := Tryd.zeroValue0
  t2 := Tryd.underlying2
  a2 := Tryd.isAgg2
  z2 := Tryd.sizeOf2
  v2 := Tryd.zeroValue2
  t3 := Tryd.underlying3
  a3 := Tryd.isAgg3
  z3 := Tryd.sizeOf3
  v3 := Tryd.zeroValue3
  t4 := Tryd.underlying4
  a4 := Tryd.isAgg4
  z4 := Tryd.sizeOf4
  v4 := Tryd.zeroValue4
  t5 := Tryd.underlying5
  a5 := Tryd.isAgg5
  z5 := Tryd.sizeOf5
  v5 := Tryd.zeroValue5
  t9 := Tryd.underlying9
  a9 := Tryd.isAgg9
  z9 := Tryd.sizeOf9
  v9 := Tryd.zeroValue9
  t20 := Tryd.underlying20
  a20 := Tryd.isAgg20
  z20 := Tryd.sizeOf20
  v20 := Tryd.zeroValue20
  t37 := Tryd.underlying35
  a37 := Tryd.isAgg35
  z37 := Tryd.sizeOf35
  v37 := Tryd.zeroValue35
  t46 := Tryd.underlying85
  a46 := Tryd.isAgg85
  z46 := Tryd.sizeOf85
  v46 := Tryd.zeroValue85
  t51 := Tryd.underlying124
  a51 := Tryd.isAgg124
  z51 := Tryd.sizeOf124
  v51 := Tryd.zeroValue124
  t53 := Tryd.underlying48
  a53 := Tryd.isAgg48
  z53 := Tryd.sizeOf48
  v53 := Tryd.zeroValue48
  t171 := Tryd.underlying119
  a171 := Tryd.isAgg119
  z171 := Tryd.sizeOf119
  v171 := Tryd.zeroValue119
  t173 := Tryd.underlying122
  a173 := Tryd.isAgg122
  z173 := Tryd.sizeOf122
  v173 := Tryd.zeroValue122
  t212 := Tryd.underlying134
  a212 := Tryd.isAgg134
  z212 := Tryd.sizeOf134
  v212 := Tryd.zeroValue134
  t213 := Tryd.underlying135
  a213 := Tryd.isAgg135
  z213 := Tryd.sizeOf135
  t232 := Tryd.underlying143
  a232 := Tryd.isAgg143
  z232 := Tryd.sizeOf143
  v232 := Tryd.zeroValue143
  t233 := Tryd.underlying144
  a233 := Tryd.isAgg144
  z233 := Tryd.sizeOf144
  v233 := Tryd.zeroValue144
  g17 := by kernel_rfl
  g18 := by kernel_rfl
  g19 := by kernel_rfl
  i0 := by kernel_rfl
  i2 := by kernel_rfl
  i3 := by kernel_rfl
  i4 := by kernel_rfl
  i5 := by kernel_rfl
  i9 := by kernel_rfl
  i20 := by kernel_rfl
  i37 := by kernel_rfl
  i46 := by kernel_rfl
  i51 := by kernel_rfl
  i53 := by kernel_rfl
  i171 := by kernel_rfl
  i173 := by kernel_rfl
  i212 := by kernel_rfl
  i232 := by kernel_rfl
  i233 := by kernel_rfl
  m17 := by kernel_rfl
  m18 := by kernel_rfl
  m19 := by kernel_rfl }
def Tryd.layLaysCn174_ren : Go.Shelf.Ren := ⟨fun | 174 => 77 | 247 => 90 | 245 => 91 | 287 => 99 | 279 => 100 | 280 => 101 | 281 => 102 | 282 => 103 | 321 => 110 | 322 => 111 | 316 => 112 | 171 => 114 | 205 => 113 | 243 => 120 | 246 => 92 | 283 => 104 | 284 => 105 | 285 => 106 | 286 => 107 | 129 => 116 | 317 => 115 | 318 => 117 | 319 => 118 | 320 => 119 | 337 => 121 | 338 => 122 | n => n, fun | 9 => 9 | 3 => 3 | 2 => 2 | 75 => 94 | 85 => 95 | 4 => 4 | 167 => 112 | 5 => 5 | 53 => 48 | 175 => 113 | 46 => 85 | 168 => 115 | 37 => 35 | 0 => 0 | 210 => 131 | 21 => 21 | 127 => 138 | 145 => 141 | 143 => 139 | 171 => 119 | 173 => 122 | 212 => 134 | 51 => 124 | 20 => 20 | 213 => 135 | 232 => 143 | 233 => 144 | 80 => 145 | n => n, fun | 15 => 1 | 16 => 2 | 17 => 3 | 18 => 4 | 19 => 5 | n => n⟩
theorem Tryd.layLaysCn174 : Go.Proofs.LaysC.n174 Tryd.prog Tryd.layLaysCn174_ren := {
  mixed := by kernel_rfl
  f129 := Tryd.func116.trans (congrArg some (by kernel_rfl))
  f171 := Tryd.func114.trans (congrArg some (by kernel_rfl))
  f174 := Tryd.func77.trans (congrArg some (by kernel_rfl))
  f205 := Tryd.func113.trans (congrArg some (by kernel_rfl))
  f243 := Tryd.func120.trans (congrArg some (by kernel_rfl))
  f245 := Tryd.func91.trans (congrArg some (by kernel_rfl))
  f246 := Tryd.func92.trans (congrArg some (by kernel_rfl))
  f247 := Tryd.func90.trans (congrArg some (by kernel_rfl))
  f279 := Tryd.func100.trans (congrArg some (by kernel_rfl))
  f280 := Tryd.func101.trans (congrArg some (by kernel_rfl))
  f281 := Tryd.func102.trans (congrArg some (by kernel_rfl))
  f282 := Tryd.func103.trans (congrArg some (by kernel_rfl))
  f283 := Tryd.func104.trans (congrArg some (by kernel_rfl))
  f284 := Tryd.func105.trans (congrArg some (by kernel_rfl))
  f285 := Tryd.func106.trans (congrArg some (by kernel_rfl))
  f286 := Tryd.func107.trans (congrArg some (by kernel_rfl))
  f287 := Tryd.func99.trans (congrArg some (by kernel_rfl))
  f316 := Tryd.func112.trans (congrArg some (by kernel_rfl))
  f317 := Tryd.func115.trans (congrArg some (by kernel_rfl))
  f318 := Tryd.func117.trans (congrArg some (by kernel_rfl))
  f319 := Tryd.func118.trans (congrArg some (by kernel_rfl))
  f320 := Tryd.func119.trans (congrArg some (by kernel_rfl))
  f321 := Tryd.func110.trans (congrArg some (by kernel_rfl))
  f322 := Tryd.func111.trans (congrArg some (by kernel_rfl))
  f337 := Tryd.func121.trans (congrArg some (by kernel_rfl))
  f338 := Tryd.func122.trans (congrArg some (by kernel_rfl))
  t0 := Tryd.underlying0
  a0 := Tryd.isAgg0
  z0 := Tryd.sizeOf0
  v0 := Tryd.zeroValue0
  t2 := Tryd.underlying2
  a2 := Tryd.isAgg2
  z2 := Tryd.sizeOf2
  v2 := Tryd.zeroValue2
  t3 := Tryd.underlying3
  a3 := Tryd.isAgg3
  z3 := Tryd.sizeOf3
  v3 := Tryd.zeroValue3
  t4 := Tryd.underlying4
  a4 := Tryd.isAgg4
  z4 := Tryd.sizeOf4
  v4 := Tryd.zeroValue4
  t5 := Tryd.underlying5
  a5 := Tryd.isAgg5
  z5 := Tryd.sizeOf5
  v5 := Tryd.zeroValue5
  t9 := Tryd.underlying9
  a9 := Tryd.isAgg9
  z9 := Tryd.sizeOf9
  v9 := Tryd.zeroValue9
  t20 := Tryd.underlying20
  a20 := Tryd.isAgg20
  z20 := Tryd.sizeOf20
  v20 := Tryd.zeroValue20
  t21 := Tryd.underlying21
  a21 := Tryd.isAgg21
  z21 := Tryd.sizeOf21
  v21 := Tryd.zeroValue21
  t37 := Tryd.underlying35
  a37 := Tryd.isAgg35
  z37 := Tryd.sizeOf35
  v37 := Tryd.zeroValue35
  t46 := Tryd.underlying85
  a46 := Tryd.isAgg85
  z46 := Tryd.sizeOf85
  v46 := Tryd.zeroValue85
  t51 := Tryd.underlying124
  a51 := Tryd.isAgg124
  z51 := Tryd.sizeOf124
  v51 := Tryd.zeroValue124
  t53 := Tryd.underlying48
  a53 := Tryd.isAgg48
  z53 := Tryd.sizeOf48
  v53 := Tryd.zeroValue48
  t75 := Tryd.underlying94
  a75 := Tryd.isAgg94
  z75 := Tryd.sizeOf94
  v75 := Tryd.zeroValue94
  t85 := Tryd.underlying95
  a85 := Tryd.isAgg95
  z85 := Tryd.sizeOf95
  v85 := Tryd.zeroValue95
  t127 := Tryd.underlying138
  a127 := Tryd.isAgg138
  z127 := Tryd.sizeOf138
  v127 := Tryd.zeroValue138
  t143 := Tryd.underlying139
  a143 := Tryd.isAgg139
  z143 := Tryd.sizeOf139
  v143 := Tryd.zeroValue139
  t145 := Tryd.underlying141
  a145 := Tryd.isAgg141
  z145 := Tryd.sizeOf141
  v145 := Tryd.zeroValue141
  t167 := Tryd.underlying112
  a167 := Tryd.isAgg112
  z167 := Tryd.sizeOf112
  v167 := Tryd.zeroValue112
  t168 := Tryd.underlying115
  a168 := Tryd.isAgg115
  z168 := Tryd.sizeOf115
  v168 := Tryd.zeroValue115
  t171 := Tryd.underlying119
  a171 := Tryd.isAgg119
  z171 := Tryd.sizeOf119
  v171 := Tryd.zeroValue119
  t173 := Tryd.underlying122
  a173 := Tryd.isAgg122
  z173 := Tryd.sizeOf122
  v173 := Tryd.zeroValue122
  t175 := Tryd.underlying113
  a175 := Tryd.isAgg113
  z175 := Tryd.sizeOf113
  v175 := Tryd.zeroValue113
  t210 := Tryd.underlying131
  a210 := Tryd.isAgg131
  z210 := Tryd.sizeOf131
  v210 := Tryd.zeroValue131
  t212 := Tryd.underlying134
  a212 := Tryd.isAgg134
  z212 := Tryd.sizeOf134
  v212 := Tryd.zeroValue134
  t213 := Tryd.underlying135
  a213 := Tryd.isAgg135
  z213 := Tryd.sizeOf135
  t232 := Tryd.underlying143
  a232 := Tryd.isAgg143
  z232 := Tryd.sizeOf143
  v232 := Tryd.zeroValue143
  t233 := Tryd.underlying144
  a233 := Tryd.isAgg144
  z233 := Tryd.sizeOf144
  v233 := Tryd.zeroValue144
  g15 := by kernel_rfl
  g16 := by kernel_rfl
  g17 := by kernel_rfl
  g18 := by kernel_rfl
  g19 := by kernel_rfl
  t80 := Tryd.underlying145
  a80 := Tryd.isAgg145
  z80 := Tryd.sizeOf145
  v80 := Tryd.zeroValue145
  i0 := by kernel_rfl
  i2 := by kernel_rfl
  i3 := by kernel_rfl
  i4 := by kernel_rfl
  i5 := by kernel_rfl
  i9 := by kernel_rfl
  i20 := by kernel_rfl
  i21 := by kernel_rfl
  i37 := by kernel_rfl
  i46 := by kernel_rfl
  i51 := by kernel_rfl
  i53 := by kernel_rfl
  i75 := by kernel_rfl
  i80 := by kernel_rfl
  i85 := by kernel_rfl
  i127 := by kernel_rfl
  i143 := by kernel_rfl
  i145 := by kernel_rfl
  i167 := by kernel_rfl
  i168 := by kernel_rfl
  i171 := by kernel_rfl
  i173 := by kernel_rfl
  i175 := by kernel_rfl
  i210 := by kernel_rfl
  i212 := by kernel_rfl
  i232 := by kernel_rfl
  i233 := by kernel_rfl
  m15 := by kernel_rfl
  m16 := by kernel_rfl
  m17 := by kernel_rfl
  m18 := by kernel_rfl
  m19 := by kernel_rfl
  c0 := by kernel_rfl
  c2 := by kernel_rfl
  c3 := by kernel_rfl
  c4 := by kernel_rfl
  c5 := by kernel_rfl
  c9 := by kernel_rfl
  c20 := by kernel_rfl
  c21 := by kernel_rfl
  c37 := by kernel_rfl
  c46 := by kernel_rfl
  c51 := by kernel_rfl
  c53 := by kernel_rfl
  c75 := by kernel_rfl
  c80 := by kernel_rfl
  c85 := by kernel_rfl
  c127 := by kernel_rfl
  c143 := by kernel_rfl
  c145 := by kernel_rfl
  c167 := by kernel_rfl
  c168 := by kernel_rfl
  c171 := by kernel_rfl
  c173 := by kernel_rfl
  c175 := by kernel_rfl
  c210 := by kernel_rfl
  c212 := by kernel_rfl
  c213 := by kernel_rfl
  c232 := by kernel_rfl
  c233 := by kernel_rfl }
def Tryd.layLaysn101_ren : Go.Shelf.Ren := ⟨fun | 101 => 76 | 208 => 89 | 206 => 98 | n => n, fun | 9 => 9 | 4 => 4 | 3 => 3 | n => n, fun | n => n⟩
theorem Tryd.layLaysn101 : Go.Proofs.Lays.n101 Tryd.prog Tryd.layLaysn101_ren := {
  mixed := by kernel_rfl
  f101 := Tryd.func76.trans (congrArg some (by kernel_rfl))
  f206 := Tryd.func98.trans (congrArg some (by kernel_rfl))
  f208 := Tryd.func89.trans (congrArg some (by kernel_rfl))
  t3 := Tryd.underlying3
  a3 := Tryd.isAgg3
  z3 := Tryd.sizeOf3
  v3 := Tryd.zeroValue3
  t4 := Tryd.underlying4
  a4 := Tryd.isAgg4
  z4 := Tryd.sizeOf4
  v4 := Tryd.zeroValue4
  t9 := Tryd.underlying9
  a9 := Tryd.isAgg9
  z9 := Tryd.sizeOf9
  v9 := Tryd.zeroValue9 }
end Go.Proofs
namespace Go.Proofs.YtjhadibjjldpdaaDoor
open Go.Shelf Go.RowKit
set_option linter.unusedVariables false
set_option maxRecDepth 100000
theorem tabNamed : Tryd.prog.globalNamed "internal/strconv.uint64pow10" = some 3 := by kernel_rfl
theorem tab_here {W : World} {F : Nat → Prop} (gl : Glob F W) : Lib.TabIs Tryd.prog W "internal/strconv.uint64pow10" .u64 Lib.pow10Tab := by
  obtain ⟨-, t, f, e⟩ := gl (tabG 3 (Lib.pow10Tab.map fun z => Value.int .u64 z)) (by simp [globs])
  unfold Lib.TabIs World.var?
  rw [tabNamed]
  simp [e]
theorem sh_fmt {n : Int} (h0 : -9223372036854775808 ≤ n) (h1 : n ≤ 9223372036854775807) : FnC Tryd.prog 82 [] [.d (.v (.int .i64 n)), .d (.v (.int .i64 10))] [] (.d (.v (.string ⟨(Lib.itoa n).toArray⟩))) :=
  fnc_ofG (v := .string ⟨(Lib.itoa n).toArray⟩) (by kernel_rfl) rfl fun W F gl => (Any.strconv_FormatInt_10 Tryd.layLaysMn173 n h0 h1 W (tab_here gl)).mono (by rintro e w' ⟨rfl, k, os, rfl⟩; exact ⟨rfl, Lib.below_grow _ _ (Nat.le_refl _) _ _⟩)
end Go.Proofs.YtjhadibjjldpdaaDoor
namespace Go.Proofs
open Go.Shelf
def Tryd.layLaysn219_ren : Go.Shelf.Ren := ⟨fun | 219 => 88 | 217 => 94 | 225 => 95 | 224 => 96 | 267 => 97 | 266 => 108 | 314 => 109 | n => n, fun | 9 => 9 | 3 => 3 | 4 => 4 | 5 => 5 | 46 => 85 | 146 => 125 | 51 => 124 | n => n, fun | 1 => 0 | n => n⟩
theorem Tryd.layLaysn219 : Go.Proofs.Lays.n219 Tryd.prog Tryd.layLaysn219_ren := {
  mixed := by kernel_rfl
  f217 := Tryd.func94.trans (congrArg some (by kernel_rfl))
  f219 := Tryd.func88.trans (congrArg some (by kernel_rfl))
  f224 := Tryd.func96.trans (congrArg some (by kernel_rfl))
  f225 := Tryd.func95.trans (congrArg some (by kernel_rfl))
  f266 := Tryd.func108.trans (congrArg some (by kernel_rfl))
  f267 := Tryd.func97.trans (congrArg some (by kernel_rfl))
  f314 := Tryd.func109.trans (congrArg some (by kernel_rfl))
  t3 := Tryd.underlying3
  a3 := Tryd.isAgg3
  z3 := Tryd.sizeOf3
  v3 := Tryd.zeroValue3
  t4 := Tryd.underlying4
  a4 := Tryd.isAgg4
  z4 := Tryd.sizeOf4
  v4 := Tryd.zeroValue4
  t5 := Tryd.underlying5
  a5 := Tryd.isAgg5
  z5 := Tryd.sizeOf5
  v5 := Tryd.zeroValue5
  t9 := Tryd.underlying9
  a9 := Tryd.isAgg9
  z9 := Tryd.sizeOf9
  v9 := Tryd.zeroValue9
  t46 := Tryd.underlying85
  a46 := Tryd.isAgg85
  z46 := Tryd.sizeOf85
  v46 := Tryd.zeroValue85
  t51 := Tryd.underlying124
  a51 := Tryd.isAgg124
  z51 := Tryd.sizeOf124
  v51 := Tryd.zeroValue124
  t146 := Tryd.underlying125
  a146 := Tryd.isAgg125
  z146 := Tryd.sizeOf125
  v146 := Tryd.zeroValue125
  g1 := by kernel_rfl }
end Go.Proofs
namespace Go.Proofs.YtjhadibjjldpdaaDoor
open Go.Shelf Go.RowKit
set_option linter.unusedVariables false
set_option maxRecDepth 100000
theorem sh_index {s : ByteArray} {c : UInt8} : FnC Tryd.prog 88 [] [.d (.v (.string s)), .d (.v (.string ⟨#[c]⟩))] [] (.d (.v (.int .i64 (Lib.indexByte s.data.toList c)))) :=
  fnc_of (v := .int .i64 (Lib.indexByte s.data.toList c)) (by kernel_rfl) rfl fun W => (Any.stringslite_Index_one Tryd.layLaysn219 s c W).mono (by rintro e w' ⟨rfl, rfl⟩; exact ⟨rfl, Below.refl _ _⟩)
end Go.Proofs.YtjhadibjjldpdaaDoor
namespace Go.Proofs.YtjhadibjjldpdaaDoor
open Go.RowKit
set_option linter.unusedVariables false
set_option maxRecDepth 100000

def Row (w : World) (A : Option Addr) (xs : List Value) : Prop :=
  xs = [] ∨ ∃ b off, A = some ⟨b, off, none⟩ ∧ ∀ j (h : j < xs.length), w.cell? ⟨b, off + j, none⟩ = some xs[j]

section
variable {w w' : World} {A : Option Addr} {xs : List Value}
theorem Row.at_ (h : Row w A xs) (hp : 0 < xs.length) : ∃ b off, A = some ⟨b, off, none⟩ ∧ b < w.heap.size ∧ ∀ j (h : j < xs.length), w.cell? ⟨b, off + j, none⟩ = some xs[j] := by
  rcases h with rfl | ⟨b, off, rfl, hc⟩
  · simp at hp
  · refine ⟨b, off, rfl, ?_, hc⟩
    have h0 := hc 0 hp
    rcases Nat.lt_or_ge b w.heap.size with hlt | hge
    · exact hlt
    · unfold World.cell? at h0
      simp [Array.getElem?_eq_none hge] at h0
theorem Row.keep (h : Row w A xs) (hk : ∀ b o, b < w.heap.size → w'.cell? ⟨b, o, none⟩ = w.cell? ⟨b, o, none⟩) : Row w' A xs := by
  rcases Nat.eq_zero_or_pos xs.length with h0 | h0
  · exact .inl (List.eq_nil_of_length_eq_zero h0)
  · obtain ⟨b, off, rfl, hb, hc⟩ := h.at_ h0
    exact .inr ⟨b, off, rfl, fun j hj => (hk _ _ hb).trans (hc j hj)⟩
end

def Blk (w : World) (g : Nat) (t : TypeId) (cs : Array Value) : Prop := w.heap[g]? = some (.cells cs t (0, 0))
section
variable {w w' : World} {g : Nat} {t : TypeId} {cs : Array Value}
theorem Blk.lt (h : Blk w g t cs) : g < w.heap.size := by
  rcases Nat.lt_or_ge g w.heap.size with hlt | hge
  · exact hlt
  · unfold Blk at h; rw [Array.getElem?_eq_none hge] at h; cases h
theorem Blk.cell (h : Blk w g t cs) (i : Nat) : w.cell? ⟨g, i, none⟩ = cs[i]? := cell_of_row w g i cs t (0, 0) h
theorem Blk.frozen (h : Blk w g t cs) (i : Nat) : w.frozen? ⟨g, i, none⟩ = false := by
  unfold Blk at h
  simp [World.frozen?, h]
theorem Blk.new (w : World) (t : TypeId) (cs : Array Value) : Blk (w.alloc (.cells cs t)) w.heap.size t cs := heap_alloc_new w _
theorem Blk.alloc (h : Blk w g t cs) (o : Obj) : Blk (w.alloc o) g t cs := (Below.heap_alloc w o g h.lt).trans h
theorem Blk.set_ (h : Blk w g t cs) (i : Nat) (u : Value) : Blk (w.setCell ⟨g, i, none⟩ u) g t (cs.setIfInBounds i u) := by
  unfold Blk at h ⊢
  simp [World.setCell, Array.getElem?_modify, h]
theorem Blk.far (h : Blk w g t cs) {p : Addr} (hp : g ≠ p.block) (u : Value) : Blk (w.setCell p u) g t cs := (Below.heap_setCell w p u g hp).trans h
theorem Blk.row (h : Blk w g t cs) : Row w (some ⟨g, 0, none⟩) cs.toList :=
  .inr ⟨g, 0, rfl, fun j hj => by rw [Nat.zero_add, h.cell, Array.getElem?_eq_getElem (by simpa using hj)]; simp⟩
end

section
variable {w w' : World} {base size n c : Nat} {e : TypeId} {A : Option Addr} {xs : List Value}
end
def putAt (cs : Array Value) (o : Nat) : List Value → Array Value
  | [] => cs
  | v :: vs => putAt (cs.setIfInBounds o v) (o + 1) vs
def putW (w : World) (g : Nat) (o : Nat) : List Value → World
  | [] => w
  | v :: vs => putW (w.setCell ⟨g, o, none⟩ v) g (o + 1) vs
theorem Blk.put {g : Nat} {t : TypeId} (vs : List Value) : ∀ {w : World} {cs : Array Value} (o : Nat), Blk w g t cs → Blk (putW w g o vs) g t (putAt cs o vs) := by
  induction vs with
  | nil => intro w cs o h; exact h
  | cons v vs ih => intro w cs o h; exact ih (o + 1) (h.set_ o v)
theorem cell_lt {w : World} {a : Addr} {v : Value} (h : w.cell? a = some v) : a.block < w.heap.size := by
  rcases Nat.lt_or_ge a.block w.heap.size with hlt | hge
  · exact hlt
  · unfold World.cell? at h
    simp [Array.getElem?_eq_none hge] at h
theorem kf {w w' : World} {a : Addr} {v : Value} {b : Bool} (hb : Below w.heap.size w w') (h : w.cell? a = some v) (hf : w.frozen? a = b) : w'.frozen? a = b := (hb.frozen (cell_lt h)).trans hf
end Go.Proofs.YtjhadibjjldpdaaDoor
namespace Go.Proofs.YtjhadibjjldpdaaDoor
open Go.Shelf Go.RowKit
set_option linter.unusedVariables false
set_option maxRecDepth 100000
theorem trim_c (s : ByteArray) (w : World) : Calls Tryd.prog 76 #[.string s, .string minusB] w fun e w' => e = .returned (.string (digitsOf s)) ∧ w' = w := Any.strings_TrimPrefix Tryd.layLaysn101 s minusB w
theorem dec_c {n : Int} (h0 : -9223372036854775808 ≤ n) (h1 : n ≤ 9223372036854775807) {w : World} (htab : Lib.TabIs Tryd.prog w "internal/strconv.uint64pow10" .u64 Lib.pow10Tab) :
    Calls Tryd.prog 57 #[.int .i64 n] w fun e w' => e = .returned (.string (decOf n)) ∧ Below w.heap.size w w' := by
  go_enter Tryd.func57, Tryd.ntmps57
  go_wp2_with (go_at_call 82; refine (Any.strconv_FormatInt_10 Tryd.layLaysMn173 n h0 h1 _ htab).mono ?_; rintro e w' ⟨rfl, k, os, rfl⟩)
  go_ret
  exact ⟨rfl, Lib.below_grow _ _ (Nat.le_refl _) _ _⟩
theorem errs {W : World} {F : Nat → Prop} (gl : Glob F W) : (∃ tp p, W.var? Tryd.prog "strconv.ErrSyntax" = some #[.iface tp p]) ∧ ∃ tp p, W.var? Tryd.prog "strconv.ErrRange" = some #[.iface tp p] := by
  have h1 : Tryd.prog.globalNamed "strconv.ErrSyntax" = some 1 := by kernel_rfl
  have h2 : Tryd.prog.globalNamed "strconv.ErrRange" = some 2 := by kernel_rfl
  obtain ⟨-, tp, p, t, f, e⟩ := gl (errG 1) (by simp [globs])
  obtain ⟨-, tp2, p2, t2, f2, e2⟩ := gl (errG 2) (by simp [globs])
  refine ⟨⟨tp, p, ?_⟩, tp2, p2, ?_⟩
  · unfold World.var?; rw [h1]; simp [e]
  · unfold World.var?; rw [h2]; simp [e2]
theorem parse_below {w w' : World} {t : TypeId} (h : w' = w ∨ ∃ l, w' = Lib.bytesWorld w t l) : Below w.heap.size w w' := by
  rcases h with rfl | ⟨l, rfl⟩
  · exact Below.refl _ _
  · exact Lib.bytesWorld_below _ _ _
theorem readDec {s : ByteArray} (hs : s.size ≤ 281474976710656) {W : World} {F : Nat → Prop} (gl : Glob F W) (hF : ∀ b, F b → b < W.heap.size) :
    Calls Tryd.prog 41 #[.string s] W fun e w' => e = .returned (.tuple #[.int .i64 (readD s).1, .bool (readD s).2]) ∧ Below W.heap.size W w' := by
  obtain ⟨⟨tp, p, v1⟩, tp2, p2, v2⟩ := errs gl
  by_cases hd : (digitsOf s).size < 1 ∨ 18 < (digitsOf s).size
  · have e : readD s = (0, false) := if_pos hd
    rw [e]
    go_enter Tryd.func41, Tryd.ntmps41
    go_wp2_with (go_at_call 76; refine (trim_c s _).mono ?_; rintro e w' ⟨rfl, rfl⟩)
    all_goals (refine bodyPost_ret (v := .tuple #[.int .i64 0, .bool false]) (by simp [results, Tryd.results41, go_sem]) rfl ?_)
    all_goals exact ⟨rfl, Below.refl _ _⟩
  · have e0 : readD s = _ := if_neg hd
    rcases hp : Lib.parseIntB 64 s.data.toList with n | _ | _
    · skip
      have hb := Lib.parseIntB_bounds hp
      rw [hp] at e0
      have go : ∀ r : Int × Bool, (if decOf n = s then (n, true) else (0, false)) = r → Calls Tryd.prog 41 #[.string s] W fun e w' => e = .returned (.tuple #[.int .i64 r.1, .bool r.2]) ∧ Below W.heap.size W w' := by
        intro r hr
        by_cases hq : decOf n = s
        · rw [if_pos hq] at hr
          subst hr
          go_enter Tryd.func41, Tryd.ntmps41
          go_wp2_with (first
            | (go_at_call 76; refine (trim_c s _).mono ?_; rintro e w' ⟨rfl, rfl⟩)
            | (go_at_call 77; refine (Any.strconv_ParseInt_10_at64_ok Tryd.layLaysCn174 s (by omega) n hp _).mono ?_; rintro e w1 ⟨rfl, hw⟩; have hb1 : Hid (Below _ _ w1) := parse_below hw; clear hw)
            | (go_at_call 57; refine (dec_c (n := n) (by omega) (by omega) (tab_here (gl.evo (fun b hb => hb1.out.block b (hF b hb)) (fun b h => h)))).mono ?_; rintro e w2 ⟨rfl, hb2⟩))
          refine bodyPost_ret (v := .tuple #[.int .i64 n, .bool true]) (by simp [results, Tryd.results41, go_sem]) rfl ?_
          exact ⟨rfl, hb1.out.trans (hb2.mono hb1.out.size)⟩
        · rw [if_neg hq] at hr
          subst hr
          go_enter Tryd.func41, Tryd.ntmps41
          go_wp2_with (first
            | (go_at_call 76; refine (trim_c s _).mono ?_; rintro e w' ⟨rfl, rfl⟩)
            | (go_at_call 77; refine (Any.strconv_ParseInt_10_at64_ok Tryd.layLaysCn174 s (by omega) n hp _).mono ?_; rintro e w1 ⟨rfl, hw⟩; have hb1 : Hid (Below _ _ w1) := parse_below hw; clear hw)
            | (go_at_call 57; refine (dec_c (n := n) (by omega) (by omega) (tab_here (gl.evo (fun b hb => hb1.out.block b (hF b hb)) (fun b h => h)))).mono ?_; rintro e w2 ⟨rfl, hb2⟩))
          · refine bodyPost_ret (v := .tuple #[.int .i64 0, .bool false]) (by simp [results, Tryd.results41, go_sem]) rfl ?_
            exact ⟨rfl, hb1.out.trans (hb2.mono hb1.out.size)⟩
          · exfalso
            rename_i hx
            refine hq ?_
            have hy : (decOf n).toList = s.toList := by simpa using hx
            rw [ByteArray.toList_eq, ByteArray.toList_eq] at hy
            exact ByteArray.ext (Array.toList_inj.1 hy)
      rw [e0]
      exact go _ rfl
    · skip
      rw [hp] at e0
      rw [e0]
      go_enter Tryd.func41, Tryd.ntmps41
      go_wp2_with (first
        | (go_at_call 76; refine (trim_c s _).mono ?_; rintro e w' ⟨rfl, rfl⟩)
        | (go_at_call 77; refine (Any.strconv_ParseInt_10_at64_syntax_var Tryd.layLaysCn174 s hs hp tp p _ v1).mono ?_; rintro e w1 ⟨N, rfl, -, -, hb⟩))
      refine bodyPost_ret (v := .tuple #[.int .i64 0, .bool false]) (by simp [results, Tryd.results41, go_sem]) rfl ?_
      exact ⟨rfl, hb⟩
    · skip
      rw [hp] at e0
      rw [e0]
      go_enter Tryd.func41, Tryd.ntmps41
      go_wp2_with (first
        | (go_at_call 76; refine (trim_c s _).mono ?_; rintro e w' ⟨rfl, rfl⟩)
        | (go_at_call 77; refine (Any.strconv_ParseInt_10_at64_range_var Tryd.layLaysCn174 s hs hp tp2 p2 _ v2).mono ?_; rintro e w1 ⟨N, rfl, -, -, hb⟩))
      refine bodyPost_ret (v := .tuple #[.int .i64 0, .bool false]) (by simp [results, Tryd.results41, go_sem]) rfl ?_
      exact ⟨rfl, hb⟩
theorem sh_read {s : ByteArray} (hs : s.size ≤ 281474976710656) : FnC Tryd.prog 41 [] [.d (.v (.string s))] [] (.tup [.d (.v (.int .i64 (readD s).1)), .d (.v (.bool (readD s).2))]) := by
  refine ⟨by kernel_rfl, fun w F μ us gl H hs' hr => ?_⟩
  obtain ⟨u0, rfl⟩ : ∃ u0, us = #[u0] := by
    obtain ⟨l⟩ := us
    match l, hs' with
    | [a], _ => exact ⟨a, rfl⟩
  have e1 : u0 = .string s := by
    have := hr 0 u0 _ rfl rfl
    cases this with | d _ _ hd => cases hd; rfl
  subst e1
  refine (readDec hs gl H.fz).mono ?_
  rintro e w' ⟨rfl, hb⟩
  refine ⟨_, F, μ, rfl, H.of_below hb, .tup _ _ rfl fun i v c h1 h2 => ?_⟩
  match i with
  | 0 => simp at h1 h2; subst h1 h2; exact .d _ _ (.v _ rfl)
  | 1 => simp at h1 h2; subst h1 h2; exact .d _ _ (.v _ rfl)
  | i + 2 => simp at h2
end Go.Proofs.YtjhadibjjldpdaaDoor
namespace Go.Proofs.YtjhadibjjldpdaaDoor
open Go.RowKit
set_option linter.unusedVariables false
set_option maxRecDepth 100000
set_option maxHeartbeats 2000000
theorem eqg_Index_ : Tryd.prog.eqGuardType Tryd.prog.depth 27 = false := by kernel_rfl
theorem run_neq_Index_ {x y : Operand} (a b : Index_) (w : World) : (do eqGuard .neq 27 x y (.agg #[.int .i64 a.Turns, .int .i64 a.Holes, .int .i64 a.Circle]) (.agg #[.int .i64 b.Turns, .int .i64 b.Holes, .int .i64 b.Circle]); binOp .neq 27 (.agg #[.int .i64 a.Turns, .int .i64 a.Holes, .int .i64 a.Circle]) (.agg #[.int .i64 b.Turns, .int .i64 b.Holes, .int .i64 b.Circle]) : Sem Value).run Tryd.prog w = .ok (.bool (decide (a ≠ b))) w := by
  have g : (eqGuard .neq 27 x y (.agg #[.int .i64 a.Turns, .int .i64 a.Holes, .int .i64 a.Circle]) (.agg #[.int .i64 b.Turns, .int .i64 b.Holes, .int .i64 b.Circle])).run Tryd.prog w = .ok () w := by simp [eqGuard, eqg_Index_]
  rw [Sem.run_bind, g, Result.andThen_ok]
  obtain ⟨x0, x1, x2⟩ := a
  obtain ⟨y0, y1, y2⟩ := b
  simp [go_sem]
  (repeat' split) <;> simp_all [bytes_inj]
theorem ps_neq_Index_ {N : Nat} {t : Nat → AV} {h : Heap} {d : Tmp} {ty : TypeId} {pos : String} {aft : Array Edge} {g : Option (Nat × Bool)} {x y : Operand} {a b : Index_} (hx : toV (evA N ⟨t, h⟩ x) = some (.agg #[.int .i64 a.Turns, .int .i64 a.Holes, .int .i64 a.Circle])) (hy : toV (evA N ⟨t, h⟩ y) = some (.agg #[.int .i64 b.Turns, .int .i64 b.Holes, .int .i64 b.Circle])) : Pure1 Tryd.prog N ⟨some d, .binOp .neq 27 x y 27, ty, pos, aft, g⟩ ⟨t, h⟩ (.d (.v (.bool (decide (a ≠ b))))) := pu_bin hx hy (fun w => run_neq_Index_ a b w)
theorem l_f6big_c {p0 : List Int} {r : Bool} (h0 : l_f6big_m p0 = some r) : FnC Tryd.prog 12 [] [.d (.sl (List.map cU8 p0))] [] (.d (.v (.bool r))) := by
  refine fnc_intro (T := tt) (N := 6) tok Tryd.func12 rfl rfl (by kernel_rfl) rfl rfl ?_
  unfold l_f6big_m at h0
  refine sq [0] ?_
  refine pa ?_
  refine nx ?_
  refine sq [0,1,2,3] ?_
  refine pm ?_
  refine rp rfl w0 rfl (pu_len_map tok rfl rfl rfl) ?_
  refine rp rfl w0 rfl (pu_gtr rfl rfl) ?_
  refine pa ?_
  refine nx ?_
  refine aw_ret ?_
  cases h0
  exact ret0_ (rs := [.tmp 2]) rfl

theorem s_l00From_c {p0 : List Int} {r : L00Src_} (h0 : s_l00From_m p0 = some r) : FnC Tryd.prog 43 [] [.d (.sl (List.map cU8 p0))] [.live [⟨98, 3, .av [[.d (.sl (List.map cU8 r.code)), .d (.v (.int .i64 r.at_)), .d (.v (.int .u64 r.seed))]]⟩]] (.ptr 0 0 1 0 0) := by
  refine fnc_intro (T := tt) (N := 6) tok Tryd.func43 rfl rfl (by kernel_rfl) rfl rfl ?_
  unfold s_l00From_m at h0
  refine sq [0] ?_
  refine pa ?_
  refine nx ?_
  refine sq [0,1,2,3] ?_
  refine pm ?_
  refine rp rfl w0 rfl (pbl (C0 := [.d (.v (.slice none 0 0)), .d (.v (.int .i64 0)), .d (.v (.int .u64 0))]) tok rfl rfl rfl) ?_
  refine rs rfl w0 rfl (st_box 3 (cs := _ :: _) rfl rfl rfl) ?_
  refine rp rfl w0 rfl (pu_assign (r := .ptr _ _ _ _ _) rfl) ?_
  refine nx ?_
  refine aw_ret ?_
  cases h0
  exact retK_ (rs := [.tmp 2]) [3] rfl

theorem l00Src_next_b_c {p0 : L00Src_} {r : Int × L00Src_} (h0 : l00Src_next_b_m p0 = some r) : FnC Tryd.prog 80 [.live [⟨98, 3, .av [[.d (.sl (List.map cU8 p0.code)), .d (.v (.int .i64 p0.at_)), .d (.v (.int .u64 p0.seed))]]⟩]] [.ptr 0 0 1 0 0] [.live [⟨98, 3, .av [[.d (.sl (List.map cU8 r.2.code)), .d (.v (.int .i64 r.2.at_)), .d (.v (.int .u64 r.2.seed))]]⟩]] (.d (.v (.int .i64 r.1))) := by
  refine fnc_intro (T := tt) (N := 62) tok Tryd.func80 rfl rfl (by kernel_rfl) rfl rfl ?_
  unfold l00Src_next_b_m at h0
  refine sq [0] ?_
  refine pa ?_
  refine nx ?_
  refine sq [0] ?_
  refine pa ?_
  refine nx ?_
  obtain ⟨v2, h1, h0⟩ := bnd h0
  refine aw_cut ⟨updA (updA ((fun _ => .dead)) 0 (.ptr 0 0 1 0 0)) 3 (.d (.v (.int .i64 v2))), lks [.live [⟨98, 3, .av [[.d (.sl (List.map cU8 p0.code)), .d (.v (.int .i64 p0.at_)), .d (.v (.int .u64 p0.seed))]]⟩], .no, .no]⟩ ?_ ?_
  refine aw_seq ?_
  refine aw_region_draw (is := [0, 1, 2, 3, 4, 5, 6, 7, 8, 9]) [0, 1, 3, 7, 0, 16, 48, 112, 240, 511] follows (by kernel_rfl) ?_
  refine rt_p rfl w0 rfl (pu_move (r := .ptr _ _ _ _ _) rfl) ?_
  refine rt_lk rfl w0 rfl (bx_nil rfl rfl) rfl rfl rfl ?_
  refine rt_lk rfl w0 rfl (bx_fa tok rfl rfl rfl rfl rfl rfl rfl) rfl rfl rfl ?_
  refine rt_lk rfl w0 rfl (bx_ld1 tok rfl rfl rfl rfl rfl) rfl rfl rfl ?_
  refine rt_p rfl w0 rfl (pu_move (r := .ptr _ _ _ _ _) rfl) ?_
  refine rt_lk rfl w0 rfl (bx_nil rfl rfl) rfl rfl rfl ?_
  refine rt_lk rfl w0 rfl (bx_fa tok rfl rfl rfl rfl rfl rfl rfl) rfl rfl rfl ?_
  refine rt_lk rfl w0 rfl (bx_ld1 tok rfl rfl rfl rfl rfl) rfl rfl rfl ?_
  refine rt_p rfl w0 rfl (pu_len_map tok rfl rfl rfl) ?_
  refine rt_p rfl w0 rfl (pu_lss rfl rfl) ?_
  refine rt_nil ?_
  refine ⟨by kernel_rfl, ?_⟩
  refine then_n ?_
  refine aw_if h1 rfl (fun hc h1 => ?_) (fun hc h1 => ?_)
  refine aw_region_draw (is := [0, 1, 2, 3, 4, 5, 6, 7, 8, 9, 10, 11]) [0, 1, 3, 7, 0, 16, 48, 112, 255, 511, 1023, 2047] follows (by kernel_rfl) ?_
  refine rt_p rfl w0 rfl (pu_move (r := .ptr _ _ _ _ _) rfl) ?_
  refine rt_lk rfl w0 rfl (bx_nil rfl rfl) rfl rfl rfl ?_
  refine rt_lk rfl w0 rfl (bx_fa tok rfl rfl rfl rfl rfl rfl rfl) rfl rfl rfl ?_
  refine rt_lk rfl w0 rfl (bx_ld1 tok rfl rfl rfl rfl rfl) rfl rfl rfl ?_
  refine rt_p rfl w0 rfl (pu_move (r := .ptr _ _ _ _ _) rfl) ?_
  refine rt_lk rfl w0 rfl (bx_nil rfl rfl) rfl rfl rfl ?_
  refine rt_lk rfl w0 rfl (bx_fa tok rfl rfl rfl rfl rfl rfl rfl) rfl rfl rfl ?_
  refine rt_lk rfl w0 rfl (bx_ld1 tok rfl rfl rfl rfl rfl) rfl rfl rfl ?_
  obtain ⟨v1, hv1, h1⟩ := bnd h1
  refine rt_p rfl w0 rfl (sl_ix tok hv1 rfl rfl rfl rfl rfl rfl) ?_
  refine tlr tok ?_
  refine rt_p rfl w0 rfl (pw_cv tok rfl rfl rfl rfl rfl) ?_
  refine tpa ?_
  refine rt_nil ?_
  refine ⟨by kernel_rfl, ?_⟩
  refine then_n ?_
  cases h1
  exact wk [0, 1, 2]
  refine sk ?_
  cases h1
  exact wk [0, 1, 2]
  refine sq [0,1,2,3,4,5,6,7] ?_
  refine rp rfl w0 rfl (pu_move (r := .ptr _ _ _ _ _) rfl) ?_
  refine rl rfl w0 rfl (bx_nil rfl rfl) ?_
  refine fa tok ?_
  refine ld tok ?_
  refine rp rfl w0 rfl (pw_add rfl rfl) ?_
  refine rl rfl w0 rfl (bx_nil rfl rfl) ?_
  refine fa tok ?_
  refine rw0 rfl w0 (bx_st (cs := [.d _]) tok rfl rfl rfl rfl rfl rfl rfl) ?_
  refine nx ?_
  refine sq [0,1,2,3,4,5,6,7,8,9,10,11,12] ?_
  refine rp rfl w0 rfl (pu_move (r := .ptr _ _ _ _ _) rfl) ?_
  refine rp rfl w0 rfl (pu_move (r := .ptr _ _ _ _ _) rfl) ?_
  refine rl rfl w0 rfl (bx_nil rfl rfl) ?_
  refine fa tok ?_
  refine ld tok ?_
  refine rp rfl w0 rfl (pu_mulw rfl rfl) ?_
  refine pm ?_
  refine rp rfl w0 rfl (pu_ii tok rfl rfl rfl rfl rfl) ?_
  refine rp rfl w0 rfl (pu_addw rfl rfl) ?_
  refine rp rfl w0 rfl (pu_addw rfl rfl) ?_
  refine rl rfl w0 rfl (bx_nil rfl rfl) ?_
  refine fa tok ?_
  refine rw0 rfl w0 (bx_st (cs := [.d _]) tok rfl rfl rfl rfl rfl rfl rfl) ?_
  refine nx ?_
  refine aw_seq ?_
  refine aw_seq ?_
  refine aw_region_draw (is := [0, 1, 2, 3, 4, 5, 6, 7, 8, 9]) [0, 1, 3, 7, 0, 16, 48, 112, 240, 511] follows (by kernel_rfl) ?_
  refine rt_p rfl w0 rfl (pu_move (r := .ptr _ _ _ _ _) rfl) ?_
  refine rt_lk rfl w0 rfl (bx_nil rfl rfl) rfl rfl rfl ?_
  refine rt_lk rfl w0 rfl (bx_fa tok rfl rfl rfl rfl rfl rfl rfl) rfl rfl rfl ?_
  refine rt_lk rfl w0 rfl (bx_ld1 tok rfl rfl rfl rfl rfl) rfl rfl rfl ?_
  refine rt_p rfl w0 rfl (pu_move (r := .ptr _ _ _ _ _) rfl) ?_
  refine rt_lk rfl w0 rfl (bx_nil rfl rfl) rfl rfl rfl ?_
  refine rt_lk rfl w0 rfl (bx_fa tok rfl rfl rfl rfl rfl rfl rfl) rfl rfl rfl ?_
  refine rt_lk rfl w0 rfl (bx_ld1 tok rfl rfl rfl rfl rfl) rfl rfl rfl ?_
  refine rt_p rfl w0 rfl (pu_len_map tok rfl rfl rfl) ?_
  refine rt_p rfl w0 rfl (pu_leq rfl rfl) ?_
  refine rt_nil ?_
  refine ⟨by kernel_rfl, ?_⟩
  refine then_n ?_
  refine aw_if h0 rfl (fun hc h0 => ?_) (fun hc h0 => ?_)
  refine sq [0,1] ?_
  refine pm ?_
  refine pa ?_
  refine nx ?_
  refine aw_ret ?_
  refine then_r ?_
  cases h0
  exact retP_ (rs := [.tmp 2]) 1 rfl rfl
  refine sk ?_
  refine sq [0,1,2,3,4,5,6,7] ?_
  refine rp rfl w0 rfl (pu_move (r := .ptr _ _ _ _ _) rfl) ?_
  refine rl rfl w0 rfl (bx_nil rfl rfl) ?_
  refine fa tok ?_
  refine ld tok ?_
  refine rp rfl w0 rfl (pu_shr rfl rfl (by decide)) ?_
  refine rp rfl w0 rfl (pu_and rfl rfl) ?_
  refine rp rfl w0 rfl (pw_cv tok rfl rfl rfl rfl rfl) ?_
  refine pa ?_
  refine nx ?_
  refine aw_ret ?_
  cases h0
  exact retP_ (rs := [.tmp 2]) 1 rfl rfl

theorem l00Src_pick_b_c {p0 : L00Src_} {p1 : Int} {r : Int × L00Src_} (h0 : l00Src_pick_b_m p0 p1 = some r) : FnC Tryd.prog 46 [.live [⟨98, 3, .av [[.d (.sl (List.map cU8 p0.code)), .d (.v (.int .i64 p0.at_)), .d (.v (.int .u64 p0.seed))]]⟩]] [.ptr 0 0 1 0 0, .d (.v (.int .i64 p1))] [.live [⟨98, 3, .av [[.d (.sl (List.map cU8 r.2.code)), .d (.v (.int .i64 r.2.at_)), .d (.v (.int .u64 r.2.seed))]]⟩]] (.d (.v (.int .i64 r.1))) := by
  refine fnc_intro (T := tt) (N := 20) tok Tryd.func46 rfl rfl (by kernel_rfl) rfl rfl ?_
  unfold l00Src_pick_b_m at h0
  refine sq [0] ?_
  refine pa ?_
  refine nx ?_
  refine aw_seq ?_
  refine sq [0,1] ?_
  refine pm ?_
  refine rp rfl w0 rfl (pu_leq rfl rfl) ?_
  refine nx ?_
  refine aw_if h0 rfl (fun hc h0 => ?_) (fun hc h0 => ?_)
  refine sq [0] ?_
  refine pa ?_
  refine nx ?_
  refine aw_ret ?_
  refine then_r ?_
  cases h0
  exact retP_ (rs := [.tmp 4]) 1 rfl rfl
  refine sk ?_
  refine sq [0,1,2] ?_
  refine rp rfl w0 rfl (pu_move (r := .ptr _ _ _ _ _) rfl) ?_
  obtain ⟨v1, hv1, h0⟩ := bnd h0
  refine rw1 rfl w0 rfl (c_callP [0] 300 (l00Src_next_b_c hv1) rfl rfl) ?_
  refine pa ?_
  refine nx ?_
  obtain ⟨v3, h1, h0⟩ := bnd h0
  refine aw_cut ⟨updA (updA ((fun _ => .dead)) 1 (.d (.v (.int .i64 p1)))) 5 (.d (.v (.int .i64 v3.1))), lks [.live [⟨98, 3, .av [[.d (.sl (List.map cU8 v3.2.code)), .d (.v (.int .i64 v3.2.at_)), .d (.v (.int .u64 v3.2.seed))]]⟩], .no, .no]⟩ ?_ ?_
  refine sq [0,1] ?_
  refine pm ?_
  refine rp rfl w0 rfl (pu_gtr rfl rfl) ?_
  refine nx ?_
  refine aw_if h1 rfl (fun hc h1 => ?_) (fun hc h1 => ?_)
  refine sr [0,1,2,3,4,5] ?_
  refine pm ?_
  refine rp rfl w0 rfl (pw_mul rfl rfl) ?_
  refine rp rfl w0 rfl (pu_move (r := .ptr _ _ _ _ _) rfl) ?_
  obtain ⟨v2, hv2, h1⟩ := bnd h1
  refine rw1 rfl w0 rfl (c_callP [0] 300 (l00Src_next_b_c hv2) rfl rfl) ?_
  refine rp rfl w0 rfl (pw_add rfl rfl) ?_
  refine pa ?_
  refine nx ?_
  cases h1
  exact wk [0, 1, 2]
  refine sk ?_
  cases h1
  exact wk [0, 1, 2]
  refine sq [0,1,2,3] ?_
  refine pm ?_
  refine pm ?_
  obtain ⟨hq4, h0⟩ := chk_e h0
  refine rp rfl w0 rfl (pu_remw rfl rfl hq4) ?_
  refine pa ?_
  refine nx ?_
  refine aw_ret ?_
  cases h0
  exact retP_ (rs := [.tmp 4]) 1 rfl rfl

theorem l00Src_among_b_c {p0 : L00Src_} {p1 : List Int} {r : Int × L00Src_} (h0 : l00Src_among_b_m p0 p1 = some r) : FnC Tryd.prog 48 [.live [⟨98, 3, .av [[.d (.sl (List.map cU8 p0.code)), .d (.v (.int .i64 p0.at_)), .d (.v (.int .u64 p0.seed))]]⟩]] [.ptr 0 0 1 0 0, .d (.sl (List.map cI p1))] [.live [⟨98, 3, .av [[.d (.sl (List.map cU8 r.2.code)), .d (.v (.int .i64 r.2.at_)), .d (.v (.int .u64 r.2.seed))]]⟩]] (.d (.v (.int .i64 r.1))) := by
  refine fnc_intro (T := tt) (N := 12) tok Tryd.func48 rfl rfl (by kernel_rfl) rfl rfl ?_
  unfold l00Src_among_b_m at h0
  refine sq [0] ?_
  refine pa ?_
  refine nx ?_
  refine sq [0,1,2,3,4,5,6,7] ?_
  refine pm ?_
  refine rp rfl w0 rfl (pu_move (r := .ptr _ _ _ _ _) rfl) ?_
  refine pm ?_
  refine rp rfl w0 rfl (pu_len_map tok rfl rfl rfl) ?_
  obtain ⟨v1, hv1, h0⟩ := bnd h0
  refine rw1 rfl w0 rfl (c_callP [0] 300 (l00Src_pick_b_c hv1) rfl rfl) ?_
  obtain ⟨v2, hv2, h0⟩ := bnd h0
  refine rp rfl w0 rfl (sl_ix tok hv2 rfl rfl rfl rfl rfl rfl) ?_
  refine lr tok ?_
  refine pa ?_
  refine nx ?_
  refine aw_ret ?_
  cases h0
  exact retP_ (rs := [.tmp 4]) 1 rfl rfl

theorem l00Src_one_b_c {p0 : L00Src_} {p1 : Int} {r : Bool × L00Src_} (h0 : l00Src_one_b_m p0 p1 = some r) : FnC Tryd.prog 47 [.live [⟨98, 3, .av [[.d (.sl (List.map cU8 p0.code)), .d (.v (.int .i64 p0.at_)), .d (.v (.int .u64 p0.seed))]]⟩]] [.ptr 0 0 1 0 0, .d (.v (.int .i64 p1))] [.live [⟨98, 3, .av [[.d (.sl (List.map cU8 r.2.code)), .d (.v (.int .i64 r.2.at_)), .d (.v (.int .u64 r.2.seed))]]⟩]] (.d (.v (.bool r.1))) := by
  refine fnc_intro (T := tt) (N := 9) tok Tryd.func47 rfl rfl (by kernel_rfl) rfl rfl ?_
  unfold l00Src_one_b_m at h0
  refine sq [0] ?_
  refine pa ?_
  refine nx ?_
  refine sq [0,1,2,3,4] ?_
  refine rp rfl w0 rfl (pu_move (r := .ptr _ _ _ _ _) rfl) ?_
  refine pm ?_
  obtain ⟨v1, hv1, h0⟩ := bnd h0
  refine rw1 rfl w0 rfl (c_callP [0] 300 (l00Src_pick_b_c hv1) rfl rfl) ?_
  refine rp rfl w0 rfl (pu_eql rfl rfl) ?_
  refine pa ?_
  refine nx ?_
  refine aw_ret ?_
  cases h0
  exact retP_ (rs := [.tmp 4]) 1 rfl rfl

theorem s_l24Draw_b_c {p0 : L00Src_} {r : Divider_ × L00Src_} (h0 : s_l24Draw_b_m p0 = some r) : FnC Tryd.prog 78 [.live [⟨98, 3, .av [[.d (.sl (List.map cU8 p0.code)), .d (.v (.int .i64 p0.at_)), .d (.v (.int .u64 p0.seed))]]⟩]] [.ptr 0 0 1 0 0] [.live [⟨98, 3, .av [[.d (.sl (List.map cU8 r.2.code)), .d (.v (.int .i64 r.2.at_)), .d (.v (.int .u64 r.2.seed))]]⟩], .live [⟨2, 1, .data (List.map cI r.1.Circles)⟩]] (.agg [.d (.v (.int .i64 r.1.Worm)), .own 1 0 r.1.Circles.length]) := by
  refine fnc_intro (T := tt) (N := 43) tok Tryd.func78 rfl rfl (by kernel_rfl) rfl rfl ?_
  unfold s_l24Draw_b_m at h0
  refine sq [0] ?_
  refine rs rfl w0 rfl (st_alloc 3 (cs := [.d (.v (.int .i64 0)), .d (.v (.slice none 0 0))]) tok rfl rfl rfl) ?_
  refine nx ?_
  refine sq [0,1,2,3,4,5] ?_
  refine rp rfl w0 rfl (pu_move (r := .ptr _ _ _ _ _) rfl) ?_
  refine rs rfl w0 rfl (bs_val tok cI [40, 60, 1, 5, 72] rfl rfl rfl (by repeat (first | exact Els.nil _ | apply Els.cons (cs := [.d _]) rfl rfl rfl | apply Els.cons (cs := _ :: _) rfl rfl rfl)) rfl rfl rfl (by repeat (first | exact AllDD.nil | (apply AllDD.cons; (repeat (first | exact AllD.nil | apply AllD.cons))))) rfl) ?_
  obtain ⟨v1, hv1, h0⟩ := bnd h0
  refine rw1 rfl w0 rfl (c_callP [0] 300 (l00Src_among_b_c hv1) rfl rfl) ?_
  refine rp rfl w0 rfl (pbl (C0 := [.d (.v (.int .i64 0)), .d (.v (.slice none 0 0))]) tok rfl rfl rfl) ?_
  refine rs rfl w0 rfl (st_alloc 4 (cs := [.d (.v (.int .i64 0)), .d (.v (.slice none 0 0))]) tok rfl rfl rfl) ?_
  refine rw0 rfl w0 (bx_st (cs := _ :: _) tok rfl rfl rfl rfl rfl rfl rfl) ?_
  refine nx ?_
  obtain ⟨v4, h1, h0⟩ := bnd h0
  refine aw_cut ⟨updA (updA (updA ((fun _ => .dead)) 0 (.ptr 0 0 1 0 0)) 2 (.ptr 3 0 1 0 0)) 3 (.ptr 4 0 1 0 0), lks [.live [⟨98, 3, .av [[.d (.sl (List.map cU8 v4.1.code)), .d (.v (.int .i64 v4.1.at_)), .d (.v (.int .u64 v4.1.seed))]]⟩], .no, .no, .live [⟨30, 2, .av [[.d (.v (.int .i64 0)), .d (.v (.slice none 0 0))]]⟩], .live [⟨30, 2, .av [[.d (.v (.int .i64 v4.2)), .d (.v (.slice none 0 0))]]⟩]]⟩ ?_ ?_
  refine sq [0,1] ?_
  refine rp rfl w0 rfl (pu_move (r := .ptr _ _ _ _ _) rfl) ?_
  obtain ⟨v2, hv2, h1⟩ := bnd h1
  refine rw1 rfl w0 rfl (c_callP [0] 300 (l00Src_one_b_c hv2) rfl rfl) ?_
  refine nx ?_
  refine aw_ifB h1 rfl (fun hc h1 => ?_) (fun hc h1 => ?_)
  refine sr [0,1,2,3,4] ?_
  refine rp rfl w0 rfl (pu_move (r := .ptr _ _ _ _ _) rfl) ?_
  obtain ⟨v3, hv3, h1⟩ := bnd h1
  refine rw1 rfl w0 rfl (c_callP [0] 300 (l00Src_pick_b_c hv3) rfl rfl) ?_
  refine rp rfl w0 rfl (pw_add rfl rfl) ?_
  refine fa tok ?_
  refine rw0 rfl w0 (bx_st (cs := [.d _]) tok rfl rfl rfl rfl rfl rfl rfl) ?_
  refine nx ?_
  cases h1
  exact wk [0, 1, 2, 3, 4]
  refine sk ?_
  cases h1
  exact wk [0, 1, 2, 3, 4]
  refine aw_seq ?_
  refine sq [0,1] ?_
  refine rp rfl w0 rfl (pu_move (r := .ptr _ _ _ _ _) rfl) ?_
  obtain ⟨v5, hv5, h0⟩ := bnd h0
  refine rw1 rfl w0 rfl (c_callP [0] 300 (l00Src_one_b_c hv5) rfl rfl) ?_
  refine nx ?_
  refine aw_ifB h0 rfl (fun hc h0 => ?_) (fun hc h0 => ?_)
  refine sq [0,1,2] ?_
  refine rs rfl w0 rfl (bs_own 5 tok cI [15, 16, 17, 18, 19, 20, 21, 23, 27] rfl rfl rfl (by repeat (first | exact Els.nil _ | apply Els.cons (cs := [.d _]) rfl rfl rfl | apply Els.cons (cs := _ :: _) rfl rfl rfl)) rfl rfl rfl (by repeat (first | exact AllDD.nil | (apply AllDD.cons; (repeat (first | exact AllD.nil | apply AllD.cons))))) rfl rfl) ?_
  refine fa tok ?_
  refine rw0 rfl w0 (bx_st (cs := [.own _ _ _]) tok rfl rfl rfl rfl rfl rfl rfl) ?_
  refine nx ?_
  refine sq [0,1] ?_
  refine rl rfl w0 rfl (bx_ldN tok rfl rfl rfl rfl) ?_
  refine rw0 rfl w0 (bx_st (cs := _ :: _) tok rfl rfl rfl rfl rfl rfl rfl) ?_
  refine nx ?_
  refine aw_ret ?_
  refine then_r ?_
  cases h0
  exact retM_ (rs := [.cell 2 30]) 1 [0, 5] rfl
  refine sk ?_
  refine sq [0,1,2,3] ?_
  refine rp rfl w0 rfl (pu_move (r := .ptr _ _ _ _ _) rfl) ?_
  obtain ⟨v6, hv6, h0⟩ := bnd h0
  refine rw1 rfl w0 rfl (c_callP [0] 300 (l00Src_pick_b_c hv6) rfl rfl) ?_
  refine rp rfl w0 rfl (pw_add rfl rfl) ?_
  refine pa ?_
  refine nx ?_
  obtain ⟨v14, h1, h0⟩ := bnd h0
  refine aw_cut ⟨updA (updA ((fun _ => .dead)) 2 (.ptr 3 0 1 0 0)) 3 (.ptr 4 0 1 0 0), lks [.live [⟨98, 3, .av [[.d (.sl (List.map cU8 v14.1.code)), .d (.v (.int .i64 v14.1.at_)), .d (.v (.int .u64 v14.1.seed))]]⟩], .no, .no, .live [⟨30, 2, .av [[.d (.v (.int .i64 0)), .d (.v (.slice none 0 0))]]⟩], .live [⟨30, 2, .av [[.d (.v (.int .i64 v4.2)), .own 5 0 (v14.2).length]]⟩], .live [⟨2, 1, .data (List.map cI v14.2)⟩]]⟩ ?_ ?_
  refine sq [0,1,2,3] ?_
  refine rp rfl w0 rfl (pu_move (r := .ptr _ _ _ _ _) rfl) ?_
  obtain ⟨v7, hv7, h1⟩ := bnd h1
  refine rw1 rfl w0 rfl (c_callP [0] 300 (l00Src_pick_b_c hv7) rfl rfl) ?_
  refine rp rfl w0 rfl (pw_add rfl rfl) ?_
  refine pa ?_
  refine nx ?_
  refine aw_block ?_
  refine aw_loopM (fun s11 => ⟨updA (updA (updA (updA (updA ((fun _ => .dead)) 0 (.ptr 0 0 1 0 0)) 2 (.ptr 3 0 1 0 0)) 3 (.ptr 4 0 1 0 0)) 4 (.d (.v (.int .i64 s11.1)))) 5 (.d (.v (.int .i64 s11.2.1))), lks [.live [⟨98, 3, .av [[.d (.sl (List.map cU8 s11.2.2.1.code)), .d (.v (.int .i64 s11.2.2.1.at_)), .d (.v (.int .u64 s11.2.2.1.seed))]]⟩], .no, .no, .live [⟨30, 2, .av [[.d (.v (.int .i64 0)), .d (.v (.slice none 0 0))]]⟩], .live [⟨30, 2, .av [[.d (.v (.int .i64 v4.2)), .own 5 0 (s11.2.2.2).length]]⟩], .live [⟨2, 1, .data (List.map cI s11.2.2.2)⟩]]⟩) h1 ?_ (fun s11 y h2 => ?_)
  refine Weak.trans_ (weak_adopt 5 rfl 2 1 (kb := 4) (j := 1) rfl rfl (by repeat (first | exact Spl.z _ | apply Spl.t | apply Spl.d))) ?_
  exact wk [0, 1, 2, 3, 4, 5]
  refine aw_seq ?_
  refine sq [0,1] ?_
  refine pm ?_
  refine rp rfl w0 rfl (pu_gtr rfl rfl) ?_
  refine nx ?_
  refine aw_if h2 rfl (fun hc h2 => ?_) (fun hc h2 => ?_)
  refine sk ?_
  refine aw_seq ?_
  refine aw_block ?_
  refine sq [0,1,2,3,4,5,6] ?_
  refine fa tok ?_
  refine ld tok ?_
  refine pm ?_
  refine rs rfl w0 rfl (bs_val tok cI [s11.1] rfl rfl rfl (by repeat (first | exact Els.nil _ | apply Els.cons (cs := [.d _]) rfl rfl rfl | apply Els.cons (cs := _ :: _) rfl rfl rfl)) rfl rfl rfl (by repeat (first | exact AllDD.nil | (apply AllDD.cons; (repeat (first | exact AllD.nil | apply AllD.cons))))) rfl) ?_
  obtain ⟨hq12, h2⟩ := chk_e h2
  refine rw1 rfl w0 rfl (ap_own tok hq12 rfl rfl rfl rfl rfl rfl rfl rfl rfl rfl rfl rfl (fun _ => rfl)) ?_
  refine fa tok ?_
  refine rw0 rfl w0 (bx_st (cs := [.own _ _ _]) tok rfl rfl rfl rfl rfl rfl rfl) ?_
  refine nx ?_
  refine sr [0,1,2,3,4,5] ?_
  refine pm ?_
  refine rp rfl w0 rfl (pu_move (r := .ptr _ _ _ _ _) rfl) ?_
  obtain ⟨v13, hv13, h2⟩ := bnd h2
  refine rw1 rfl w0 rfl (c_callP [0] 300 (l00Src_pick_b_c hv13) rfl rfl) ?_
  refine rp rfl w0 rfl (pw_add rfl rfl) ?_
  refine rp rfl w0 rfl (pw_add rfl rfl) ?_
  refine pa ?_
  refine ra_nil ?_
  refine block_n ?_
  refine then_n ?_
  refine sr [0,1,2] ?_
  refine pm ?_
  refine rp rfl w0 rfl (pw_sub rfl rfl) ?_
  refine pa ?_
  refine ra_nil ?_
  refine loop_n ?_
  cases h2
  refine ⟨_, rfl, ?_⟩
  exact wk [0, 1, 2, 3, 4, 5]
  refine aw_exit ?_
  refine then_e ?_
  cases h2
  refine loop_x ⟨_, rfl, fun e => ?_⟩
  subst e
  refine block_hit ?_
  refine then_n ?_
  exact wk [0, 1, 2, 3, 4, 5]
  refine sq [0,1] ?_
  refine rl rfl w0 rfl (bx_ldN tok rfl rfl rfl rfl) ?_
  refine rw0 rfl w0 (bx_st (cs := _ :: _) tok rfl rfl rfl rfl rfl rfl rfl) ?_
  refine nx ?_
  refine aw_ret ?_
  cases h0
  exact retM_ (rs := [.cell 2 30]) 1 [0, 5] rfl

theorem s_l24Bent_b_c {p0 : L00Src_} {r : Divider_ × L00Src_} (h0 : s_l24Bent_b_m p0 = some r) : FnC Tryd.prog 44 [.live [⟨98, 3, .av [[.d (.sl (List.map cU8 p0.code)), .d (.v (.int .i64 p0.at_)), .d (.v (.int .u64 p0.seed))]]⟩]] [.ptr 0 0 1 0 0] [.live [⟨98, 3, .av [[.d (.sl (List.map cU8 r.2.code)), .d (.v (.int .i64 r.2.at_)), .d (.v (.int .u64 r.2.seed))]]⟩], .live [⟨2, 1, .data (List.map cI r.1.Circles)⟩]] (.agg [.d (.v (.int .i64 r.1.Worm)), .own 1 0 r.1.Circles.length]) := by
  refine fnc_intro (T := tt) (N := 47) tok Tryd.func44 rfl rfl (by kernel_rfl) rfl rfl ?_
  unfold s_l24Bent_b_m at h0
  refine sq [0] ?_
  refine rs rfl w0 rfl (st_alloc 3 (cs := [.d (.v (.int .i64 0)), .d (.v (.slice none 0 0))]) tok rfl rfl rfl) ?_
  refine nx ?_
  refine sq [0,1,2,3] ?_
  refine rp rfl w0 rfl (pu_move (r := .ptr _ _ _ _ _) rfl) ?_
  obtain ⟨v1, hv1, h0⟩ := bnd h0
  refine rw1 rfl w0 rfl (c_callP [0, 4] 300 (fnc_pad 1 (s_l24Draw_b_c hv1)) rfl rfl) ?_
  refine rs rfl w0 rfl (st_alloc 5 (cs := [.d (.v (.int .i64 0)), .d (.v (.slice none 0 0))]) tok rfl rfl rfl) ?_
  refine rw0 rfl w0 (bx_st (cs := _ :: _) tok rfl rfl rfl rfl rfl rfl rfl) ?_
  refine nx ?_
  obtain ⟨v12, h1, h0⟩ := bnd h0
  refine aw_cut ⟨updA (updA ((fun _ => .dead)) 2 (.ptr 3 0 1 0 0)) 3 (.ptr 4 0 1 0 0), lks [.live [⟨98, 3, .av [[.d (.sl (List.map cU8 v12.1.code)), .d (.v (.int .i64 v12.1.at_)), .d (.v (.int .u64 v12.1.seed))]]⟩], .no, .no, .live [⟨30, 2, .av [[.d (.v (.int .i64 0)), .d (.v (.slice none 0 0))]]⟩], .live [⟨30, 2, .av [[.d (.v (.int .i64 v12.2.1)), .own 5 0 (v12.2.2).length]]⟩], .live [⟨2, 1, .data (List.map cI v12.2.2)⟩]]⟩ ?_ ?_
  refine sq [0,1] ?_
  refine rp rfl w0 rfl (pu_move (r := .ptr _ _ _ _ _) rfl) ?_
  obtain ⟨v2, hv2, h1⟩ := bnd h1
  refine rw1 rfl w0 rfl (c_callP [0] 300 (l00Src_pick_b_c hv2) rfl rfl) ?_
  refine nx ?_
  refine aw_block ?_
  refine sq [0,1] ?_
  refine rp rfl w0 rfl (pu_eql rfl rfl) ?_
  refine pa ?_
  refine nx ?_
  refine aw_if h1 rfl (fun hc h1 => ?_) (fun hc h1 => ?_)
  refine sr [0,1,2,3,4] ?_
  refine rp rfl w0 rfl (pu_move (r := .ptr _ _ _ _ _) rfl) ?_
  refine rs rfl w0 rfl (bs_val tok cI [0, 360, 361] rfl rfl rfl (by repeat (first | exact Els.nil _ | apply Els.cons (cs := [.d _]) rfl rfl rfl | apply Els.cons (cs := _ :: _) rfl rfl rfl)) rfl rfl rfl (by repeat (first | exact AllDD.nil | (apply AllDD.cons; (repeat (first | exact AllD.nil | apply AllD.cons))))) rfl) ?_
  obtain ⟨v3, hv3, h1⟩ := bnd h1
  refine rw1 rfl w0 rfl (c_callP [0] 300 (l00Src_among_b_c hv3) rfl rfl) ?_
  refine fa tok ?_
  refine rw0 rfl w0 (bx_st (cs := [.d _]) tok rfl rfl rfl rfl rfl rfl rfl) ?_
  refine ra_nil ?_
  refine block_n ?_
  refine then_n ?_
  cases h1
  exact wk [0, 1, 2, 3, 5, 4]
  refine sq [0,1] ?_
  refine rp rfl w0 rfl (pu_eql rfl rfl) ?_
  refine pa ?_
  refine nx ?_
  refine aw_if h1 rfl (fun hc h1 => ?_) (fun hc h1 => ?_)
  refine sr [0,1] ?_
  refine fa tok ?_
  refine rw0 rfl w0 (bx_st (cs := [.d _]) tok rfl rfl rfl rfl rfl rfl rfl) ?_
  refine ra_nil ?_
  refine block_n ?_
  refine then_n ?_
  cases h1
  refine Weak.trans_ (weak_adopt 6 rfl 2 1 (kb := 5) (j := 1) rfl rfl (by repeat (first | exact Spl.z _ | apply Spl.t | apply Spl.d))) ?_
  exact wk [0, 1, 2, 3, 5, 6]
  refine sq [0,1] ?_
  refine rp rfl w0 rfl (pu_eql rfl rfl) ?_
  refine pa ?_
  refine nx ?_
  refine aw_if h1 rfl (fun hc h1 => ?_) (fun hc h1 => ?_)
  refine aw_region_draw (is := [0, 1, 2, 3, 4, 5, 6, 7, 8]) [0, 1, 0, 0, 12, 28, 63, 127, 255] follows (by kernel_rfl) ?_
  refine rt_lk rfl w0 rfl (bx_fa tok rfl rfl rfl rfl rfl rfl rfl) rfl rfl rfl ?_
  refine rt_lk rfl w0 rfl (bx_ld1 tok rfl rfl rfl rfl rfl) rfl rfl rfl ?_
  refine rt_p rfl w0 rfl (pu_move (r := .ptr _ _ _ _ _) rfl) ?_
  refine rt_s rfl w0 rfl (bs_val tok cI [200, 201, 2] rfl rfl rfl (by repeat (first | exact Els.nil _ | apply Els.cons (cs := [.d _]) rfl rfl rfl | apply Els.cons (cs := _ :: _) rfl rfl rfl)) rfl rfl rfl (by repeat (first | exact AllDD.nil | (apply AllDD.cons; (repeat (first | exact AllD.nil | apply AllD.cons))))) rfl) ?_
  obtain ⟨v4, hv4, h1⟩ := bnd h1
  refine rt_wkd rfl w0 rfl (c_callP [0] 300 (l00Src_among_b_c hv4) rfl rfl) ?_
  refine rt_s rfl w0 rfl (bs_val tok cI [v4.1] rfl rfl rfl (by repeat (first | exact Els.nil _ | apply Els.cons (cs := [.d _]) rfl rfl rfl | apply Els.cons (cs := _ :: _) rfl rfl rfl)) rfl rfl rfl (by repeat (first | exact AllDD.nil | (apply AllDD.cons; (repeat (first | exact AllD.nil | apply AllD.cons))))) rfl) ?_
  obtain ⟨hq5, h1⟩ := chk_e h1
  refine rt_wkd rfl w0 rfl (ap_own tok hq5 rfl rfl rfl rfl rfl rfl rfl rfl rfl rfl rfl rfl (fun _ => rfl)) ?_
  refine rt_lk rfl w0 rfl (bx_fa tok rfl rfl rfl rfl rfl rfl rfl) rfl rfl rfl ?_
  refine rt_wk rfl w0 (bx_st (cs := [.own _ _ _]) tok rfl rfl rfl rfl rfl rfl rfl) ?_
  refine rt_nil ?_
  refine ⟨by kernel_rfl, ?_⟩
  refine block_n ?_
  refine then_n ?_
  cases h1
  exact wk [0, 1, 2, 3, 5, 4]
  refine sq [0,1] ?_
  refine rp rfl w0 rfl (pu_eql rfl rfl) ?_
  refine pa ?_
  refine nx ?_
  refine aw_if h1 rfl (fun hc h1 => ?_) (fun hc h1 => ?_)
  refine sq [0,1] ?_
  refine fa tok ?_
  refine rw0 rfl w0 (bx_st (cs := [.d _]) tok rfl rfl rfl rfl rfl rfl rfl) ?_
  refine nx ?_
  refine sq [0] ?_
  refine pa ?_
  refine nx ?_
  refine aw_block ?_
  refine aw_loopM (fun s9 => ⟨updA (updA (updA (updA ((fun _ => .dead)) 0 (.ptr 0 0 1 0 0)) 2 (.ptr 3 0 1 0 0)) 3 (.ptr 4 0 1 0 0)) 4 (.d (.v (.int .i64 s9.1))), lks [.live [⟨98, 3, .av [[.d (.sl (List.map cU8 s9.2.1.code)), .d (.v (.int .i64 s9.2.1.at_)), .d (.v (.int .u64 s9.2.1.seed))]]⟩], .no, .no, .live [⟨30, 2, .av [[.d (.v (.int .i64 0)), .d (.v (.slice none 0 0))]]⟩], .live [⟨30, 2, .av [[.d (.v (.int .i64 v1.1.Worm)), .own 5 0 (s9.2.2).length]]⟩], .live [⟨2, 1, .data (List.map cI s9.2.2)⟩]]⟩) h1 ?_ (fun s9 y h2 => ?_)
  refine Weak.trans_ (weak_adopt 6 rfl 2 1 (kb := 5) (j := 1) rfl rfl (by repeat (first | exact Spl.z _ | apply Spl.t | apply Spl.d))) ?_
  exact wk [0, 1, 2, 3, 5, 6]
  refine aw_seq ?_
  refine sq [0,1,2,3,4] ?_
  refine pm ?_
  refine rp rfl w0 rfl (pu_move (r := .ptr _ _ _ _ _) rfl) ?_
  obtain ⟨v10, hv10, h2⟩ := bnd h2
  refine rw1 rfl w0 rfl (c_callP [0] 300 (l00Src_pick_b_c hv10) rfl rfl) ?_
  refine rp rfl w0 rfl (pw_add rfl rfl) ?_
  refine rp rfl w0 rfl (pu_lss rfl rfl) ?_
  refine nx ?_
  refine aw_if h2 rfl (fun hc h2 => ?_) (fun hc h2 => ?_)
  refine sk ?_
  refine aw_seq ?_
  refine aw_block ?_
  refine sr [0,1,2,3,4,5,6,7,8] ?_
  refine fa tok ?_
  refine ld tok ?_
  refine pm ?_
  refine rp rfl w0 rfl (pw_mul rfl rfl) ?_
  refine rp rfl w0 rfl (pw_add rfl rfl) ?_
  refine rs rfl w0 rfl (bs_val tok cI [w64 (5 + (w64 (2 * s9.1)))] rfl rfl rfl (by repeat (first | exact Els.nil _ | apply Els.cons (cs := [.d _]) rfl rfl rfl | apply Els.cons (cs := _ :: _) rfl rfl rfl)) rfl rfl rfl (by repeat (first | exact AllDD.nil | (apply AllDD.cons; (repeat (first | exact AllD.nil | apply AllD.cons))))) rfl) ?_
  obtain ⟨hq11, h2⟩ := chk_e h2
  refine rw1 rfl w0 rfl (ap_own tok hq11 rfl rfl rfl rfl rfl rfl rfl rfl rfl rfl rfl rfl (fun _ => rfl)) ?_
  refine fa tok ?_
  refine rw0 rfl w0 (bx_st (cs := [.own _ _ _]) tok rfl rfl rfl rfl rfl rfl rfl) ?_
  refine ra_nil ?_
  refine block_n ?_
  refine then_n ?_
  refine sr [0,1,2] ?_
  refine pm ?_
  refine rp rfl w0 rfl (pw_add rfl rfl) ?_
  refine pa ?_
  refine ra_nil ?_
  refine loop_n ?_
  cases h2
  refine ⟨_, rfl, ?_⟩
  exact wk [0, 1, 2, 3, 4, 5]
  refine aw_exit ?_
  refine then_e ?_
  cases h2
  refine loop_x ⟨_, rfl, fun e => ?_⟩
  subst e
  refine block_hit ?_
  refine block_n ?_
  refine then_n ?_
  exact wk [0, 1, 2, 3, 4, 5]
  refine aw_skip ?_
  refine block_n ?_
  refine then_n ?_
  cases h1
  exact wk [0, 1, 2, 3, 5, 4]
  refine sq [0,1] ?_
  refine rl rfl w0 rfl (bx_ldN tok rfl rfl rfl rfl) ?_
  refine rw0 rfl w0 (bx_st (cs := _ :: _) tok rfl rfl rfl rfl rfl rfl rfl) ?_
  refine nx ?_
  refine aw_ret ?_
  cases h0
  exact retM_ (rs := [.cell 2 30]) 1 [0, 5] rfl

theorem s_l00In_c {p0 : Int} {p1 : Int} {p2 : Int} {r : Bool} (h0 : s_l00In_m p0 p1 p2 = some r) : FnC Tryd.prog 51 [] [.d (.v (.int .i64 p0)), .d (.v (.int .i64 p1)), .d (.v (.int .i64 p2))] [] (.d (.v (.bool r))) := by
  refine fnc_intro (T := tt) (N := 15) tok Tryd.func51 rfl rfl (by kernel_rfl) rfl rfl ?_
  unfold s_l00In_m at h0
  refine sq [0] ?_
  refine pa ?_
  refine nx ?_
  refine sq [0,1,2,3,4,5,6,7,8] ?_
  refine pm ?_
  refine pm ?_
  refine rp rfl w0 rfl (pu_geq rfl rfl) ?_
  refine pm ?_
  refine ra_if (u := 10) h0 rfl (fun hc h0 => ?_) (fun hc h0 => ?_)
  refine pm1 ?_
  refine pm1 ?_
  refine rp rfl (w1 rfl rfl rfl) rfl (pu_leq rfl rfl) ?_
  refine pkt ?_
  refine pa ?_
  refine nx ?_
  refine aw_ret ?_
  cases h0
  exact ret0_ (rs := [.tmp 6]) rfl
  iterate 3 refine k1 ?_
  refine pkf ?_
  refine pa ?_
  refine nx ?_
  refine aw_ret ?_
  cases h0
  exact ret0_ (rs := [.tmp 6]) rfl

theorem s_l00Rises_c {p0 : List Int} {p1 : Int} {p2 : Int} {r : Bool} (h0 : s_l00Rises_m p0 p1 p2 = some r) : FnC Tryd.prog 86 [] [.d (.sl (List.map cI p0)), .d (.v (.int .i64 p1)), .d (.v (.int .i64 p2))] [] (.d (.v (.bool r))) := by
  refine fnc_intro (T := tt) (N := 38) tok Tryd.func86 rfl rfl (by kernel_rfl) rfl rfl ?_
  unfold s_l00Rises_m at h0
  refine sq [0] ?_
  refine pa ?_
  refine nx ?_
  obtain ⟨v13x, h1, h0⟩ := bnd h0
  refine aw_cutE v13x (fun v13 => ⟨(fun _ => .dead), lks [.no, .no, .no]⟩) ?_ ?_
  refine sq [0] ?_
  refine pa ?_
  refine nx ?_
  refine aw_block ?_
  refine aw_loopM (fun s7 => ⟨updA (updA (updA (updA ((fun _ => .dead)) 0 (.d (.sl (List.map cI p0)))) 1 (.d (.v (.int .i64 p1)))) 2 (.d (.v (.int .i64 p2)))) 7 (.d (.v (.int .i64 s7))), lks [.no, .no, .no]⟩) h1 ?_ (fun s7 y h2 => ?_)
  exact wk [0, 1, 2]
  refine aw_seq ?_
  refine sq [0,1,2,3] ?_
  refine pm ?_
  refine pm ?_
  refine rp rfl w0 rfl (pu_len_map tok rfl rfl rfl) ?_
  refine rp rfl w0 rfl (pu_lss rfl rfl) ?_
  refine nx ?_
  refine aw_if h2 rfl (fun hc h2 => ?_) (fun hc h2 => ?_)
  refine sk ?_
  refine aw_seq ?_
  refine aw_block ?_
  obtain ⟨v12, h3, h2⟩ := bnd h2
  refine aw_cut ⟨updA (updA (updA (updA (updA ((fun _ => .dead)) 0 (.d (.sl (List.map cI p0)))) 1 (.d (.v (.int .i64 p1)))) 2 (.d (.v (.int .i64 p2)))) 7 (.d (.v (.int .i64 s7)))) 37 (.d (.v (.bool v12))), lks [.no, .no, .no]⟩ ?_ ?_
  refine aw_region_draw (is := [0, 1, 2, 3, 4, 5, 6, 7, 8, 9, 10, 11, 12, 13, 14, 15, 16, 17, 18, 19, 20, 21, 22, 23]) [0, 0, 3, 7, 0, 0, 63, 127, 255, 511, 1023, 2047, 4095, 4095, 12287, 32767, 65535, 4095, 4095, 397311, 921599, 2097151, 4194303, 8388607] follows (by kernel_rfl) ?_
  refine tpm ?_
  refine tpm ?_
  obtain ⟨v8, hv8, h3⟩ := bnd h3
  refine rt_p rfl w0 rfl (sl_ix tok hv8 rfl rfl rfl rfl rfl rfl) ?_
  refine tlr tok ?_
  refine tpm ?_
  refine tpm ?_
  obtain ⟨v9, hv9, h3⟩ := bnd h3
  refine rt_c rfl w0 rfl (b_call 3 (s_l00In_c hv9) rfl rfl rfl) ?_
  refine rt_p rfl w0 rfl (pu_not rfl) ?_
  refine tpm ?_
  refine rt_ifB (u := 22) h3 rfl (fun hc h3 => ?_) (fun hc h3 => ?_)
  iterate 14 refine k2 ?_
  refine tpkt ?_
  refine rt_nil ?_
  refine ⟨by kernel_rfl, ?_⟩
  refine then_n ?_
  cases h3
  exact wk [0, 1, 2]
  refine tpm1 ?_
  refine rt_p rfl (w1 rfl rfl rfl) rfl (pu_gtr rfl rfl) ?_
  refine tpm1 ?_
  refine rt_if (u := 25) h3 rfl (fun hc h3 => ?_) (fun hc h3 => ?_)
  refine tpm1 ?_
  refine tpm1 ?_
  refine rt_p rfl (w1 rfl rfl rfl) rfl (pw_sub rfl rfl) ?_
  obtain ⟨v10, hv10, h3⟩ := bnd h3
  refine rt_p rfl (w1 rfl rfl rfl) rfl (sl_ix tok hv10 rfl rfl rfl rfl rfl rfl) ?_
  refine tlr1 tok ?_
  refine tpm1 ?_
  refine tpm1 ?_
  obtain ⟨v11, hv11, h3⟩ := bnd h3
  refine rt_p rfl (w1 rfl rfl rfl) rfl (sl_ix tok hv11 rfl rfl rfl rfl rfl rfl) ?_
  refine tlr1 tok ?_
  refine rt_p rfl (w1 rfl rfl rfl) rfl (pu_geq rfl rfl) ?_
  refine tpkt1 ?_
  refine tpkf ?_
  refine rt_nil ?_
  refine ⟨by kernel_rfl, ?_⟩
  refine then_n ?_
  cases h3
  exact wk [0, 1, 2]
  iterate 10 refine k2 ?_
  refine tpkf1 ?_
  refine tpkf ?_
  refine rt_nil ?_
  refine ⟨by kernel_rfl, ?_⟩
  refine then_n ?_
  cases h3
  exact wk [0, 1, 2]
  refine aw_ifB h2 rfl (fun hc h2 => ?_) (fun hc h2 => ?_)
  refine sq [0] ?_
  refine pa ?_
  refine nx ?_
  refine aw_ret ?_
  refine block_r ?_
  refine then_r ?_
  cases h2
  refine loop_r ⟨_, rfl, fun e => ?_⟩
  subst e
  refine block_r ?_
  replace h0 := orE_s h0
  refine then_r ?_
  cases h0
  exact ret0_ (rs := [.tmp 6]) rfl
  refine aw_skip ?_
  refine block_n ?_
  refine then_n ?_
  refine sr [0,1,2] ?_
  refine pm ?_
  refine rp rfl w0 rfl (pw_add rfl rfl) ?_
  refine pa ?_
  refine ra_nil ?_
  refine loop_n ?_
  cases h2
  refine ⟨_, rfl, ?_⟩
  exact wk [0, 1, 2]
  refine aw_exit ?_
  refine then_e ?_
  cases h2
  refine loop_x ⟨_, rfl, fun e => ?_⟩
  subst e
  refine block_hit ?_
  refine then_n ?_
  refine ⟨_, rfl, ?_⟩
  exact wk [0, 1, 2]
  rintro v13 rfl
  replace h0 := orE_f h0
  refine sq [0] ?_
  refine pa ?_
  refine nx ?_
  refine aw_ret ?_
  cases h0
  exact ret0_ (rs := [.tmp 6]) rfl

theorem s_l24Ok_c {p0 : Divider_} {r : Bool} (h0 : s_l24Ok_m p0 = some r) : FnC Tryd.prog 70 [] [.agg [.d (.v (.int .i64 p0.Worm)), .d (.sl (List.map cI p0.Circles))]] [] (.d (.v (.bool r))) := by
  refine fnc_intro (T := tt) (N := 17) tok Tryd.func70 rfl rfl (by kernel_rfl) rfl rfl ?_
  unfold s_l24Ok_m at h0
  refine sq [0,1] ?_
  refine rs rfl w0 rfl (st_box 3 (cs := _ :: _) rfl rfl rfl) ?_
  refine pa ?_
  refine nx ?_
  refine sq [0,1,2,3,4,5,6,7,8,9,10,11,12,13,14] ?_
  refine fa tok ?_
  refine ld tok ?_
  obtain ⟨v1, hv1, h0⟩ := bnd h0
  refine rs rfl w0 rfl (c_call 4 (s_l00In_c hv1) rfl rfl rfl) ?_
  refine pm ?_
  refine ra_ifB (u := 6) h0 rfl (fun hc h0 => ?_) (fun hc h0 => ?_)
  refine fa1 tok ?_
  refine ld1 tok ?_
  refine rp rfl (w1 rfl rfl rfl) rfl (pu_len_map tok rfl rfl rfl) ?_
  obtain ⟨v2, hv2, h0⟩ := bnd h0
  refine rs rfl (w1 rfl rfl rfl) rfl (c_call 4 (s_l00In_c hv2) rfl rfl rfl) ?_
  refine pkt ?_
  refine pm ?_
  refine ra_ifB (u := 12) h0 rfl (fun hc h0 => ?_) (fun hc h0 => ?_)
  refine fa1 tok ?_
  refine ld1 tok ?_
  obtain ⟨v3, hv3, h0⟩ := bnd h0
  refine rs rfl (w1 rfl rfl rfl) rfl (c_call 4 (s_l00Rises_c hv3) rfl rfl rfl) ?_
  refine pkt ?_
  refine pa ?_
  refine nx ?_
  refine aw_ret ?_
  cases h0
  exact ret0_ (rs := [.tmp 2]) rfl
  iterate 3 refine k1 ?_
  refine pkf ?_
  refine pa ?_
  refine nx ?_
  refine aw_ret ?_
  cases h0
  exact ret0_ (rs := [.tmp 2]) rfl
  iterate 4 refine k1 ?_
  refine pkf ?_
  refine pm ?_
  iterate 3 refine k1 ?_
  refine pkf ?_
  refine pa ?_
  refine nx ?_
  refine aw_ret ?_
  cases h0
  exact ret0_ (rs := [.tmp 2]) rfl

theorem s_l00Min_c {p0 : Int} {p1 : Int} {r : Int} (h0 : s_l00Min_m p0 p1 = some r) : FnC Tryd.prog 79 [] [.d (.v (.int .i64 p0)), .d (.v (.int .i64 p1))] [] (.d (.v (.int .i64 r))) := by
  refine fnc_intro (T := tt) (N := 10) tok Tryd.func79 rfl rfl (by kernel_rfl) rfl rfl ?_
  unfold s_l00Min_m at h0
  refine sq [0] ?_
  refine pa ?_
  refine nx ?_
  refine aw_seq ?_
  refine sq [0,1,2] ?_
  refine pm ?_
  refine pm ?_
  refine rp rfl w0 rfl (pu_lss rfl rfl) ?_
  refine nx ?_
  refine aw_if h0 rfl (fun hc h0 => ?_) (fun hc h0 => ?_)
  refine sq [0,1] ?_
  refine pm ?_
  refine pa ?_
  refine nx ?_
  refine aw_ret ?_
  refine then_r ?_
  cases h0
  exact ret0_ (rs := [.tmp 4]) rfl
  refine sk ?_
  refine sq [0,1] ?_
  refine pm ?_
  refine pa ?_
  refine nx ?_
  refine aw_ret ?_
  cases h0
  exact ret0_ (rs := [.tmp 4]) rfl

theorem s_l24Make_c {p0 : Int} {p1 : Int} {r : Index_} (h0 : s_l24Make_m p0 p1 = some r) : FnC Tryd.prog 69 [] [.d (.v (.int .i64 p0)), .d (.v (.int .i64 p1))] [] (.agg [.d (.v (.int .i64 r.Turns)), .d (.v (.int .i64 r.Holes)), .d (.v (.int .i64 r.Circle))]) := by
  refine fnc_intro (T := tt) (N := 13) tok Tryd.func69 rfl rfl (by kernel_rfl) rfl rfl ?_
  unfold s_l24Make_m at h0
  refine sq [0] ?_
  refine rs rfl w0 rfl (st_alloc 3 (cs := [.d (.v (.int .i64 0)), .d (.v (.int .i64 0)), .d (.v (.int .i64 0))]) tok rfl rfl rfl) ?_
  refine nx ?_
  refine aw_seq ?_
  refine aw_region_draw (is := [0, 1, 2, 3, 4, 5, 6, 7, 8]) [0, 0, 3, 0, 0, 24, 0, 127, 255] follows (by kernel_rfl) ?_
  refine tpm ?_
  refine tpm ?_
  obtain ⟨hq1, h0⟩ := chk_e h0
  refine rt_p rfl w0 rfl (pw_quo rfl rfl hq1) ?_
  refine tpm ?_
  refine tpm ?_
  obtain ⟨hq2, h0⟩ := chk_e h0
  refine rt_p rfl w0 rfl (pu_remw rfl rfl hq2) ?_
  refine tpm ?_
  refine rt_p rfl w0 rfl (pbl (C0 := [.d (.v (.int .i64 0)), .d (.v (.int .i64 0)), .d (.v (.int .i64 0))]) tok rfl rfl rfl) ?_
  refine rt_wk rfl w0 (bx_st (cs := _ :: _) tok rfl rfl rfl rfl rfl rfl rfl) ?_
  refine rt_nil ?_
  refine ⟨by kernel_rfl, ?_⟩
  refine then_n ?_
  refine aw_ret ?_
  cases h0
  exact ret0_ (rs := [.cell 4 27]) rfl

theorem s_l24DrawIndex_b_c {p0 : L00Src_} {p1 : Divider_} {r : Index_ × L00Src_} (h0 : s_l24DrawIndex_b_m p0 p1 = some r) : FnC Tryd.prog 45 [.live [⟨98, 3, .av [[.d (.sl (List.map cU8 p0.code)), .d (.v (.int .i64 p0.at_)), .d (.v (.int .u64 p0.seed))]]⟩]] [.ptr 0 0 1 0 0, .agg [.d (.v (.int .i64 p1.Worm)), .d (.sl (List.map cI p1.Circles))]] [.live [⟨98, 3, .av [[.d (.sl (List.map cU8 r.2.code)), .d (.v (.int .i64 r.2.at_)), .d (.v (.int .u64 r.2.seed))]]⟩]] (.agg [.d (.v (.int .i64 r.1.Turns)), .d (.v (.int .i64 r.1.Holes)), .d (.v (.int .i64 r.1.Circle))]) := by
  refine fnc_intro (T := tt) (N := 58) tok Tryd.func45 rfl rfl (by kernel_rfl) rfl rfl ?_
  unfold s_l24DrawIndex_b_m at h0
  refine sq [0,1] ?_
  refine rs rfl w0 rfl (st_box 3 (cs := _ :: _) rfl rfl rfl) ?_
  refine rs rfl w0 rfl (st_alloc 4 (cs := [.d (.v (.int .i64 0)), .d (.v (.int .i64 0)), .d (.v (.int .i64 0))]) tok rfl rfl rfl) ?_
  refine nx ?_
  refine aw_seq ?_
  refine sq [0,1,2] ?_
  refine rl rfl w0 rfl (bx_ldN tok rfl rfl rfl rfl) ?_
  obtain ⟨v1, hv1, h0⟩ := bnd h0
  refine rs rfl w0 rfl (c_call 5 (s_l24Ok_c hv1) rfl rfl rfl) ?_
  refine rp rfl w0 rfl (pu_not rfl) ?_
  refine nx ?_
  refine aw_ifB h0 rfl (fun hc h0 => ?_) (fun hc h0 => ?_)
  refine sq [0,1] ?_
  refine rp rfl w0 rfl (pbl (C0 := [.d (.v (.int .i64 0)), .d (.v (.int .i64 0)), .d (.v (.int .i64 0))]) tok rfl rfl rfl) ?_
  refine rw0 rfl w0 (bx_st (cs := _ :: _) tok rfl rfl rfl rfl rfl rfl rfl) ?_
  refine nx ?_
  refine aw_ret ?_
  refine then_r ?_
  cases h0
  exact retP_ (rs := [.cell 4 27]) 1 rfl rfl
  refine sk ?_
  refine aw_seq ?_
  refine aw_region_draw (is := [0, 1, 2, 3, 4, 5, 6, 7, 8, 9]) [0, 1, 0, 0, 8, 24, 60, 127, 255, 511] follows (by kernel_rfl) ?_
  refine rt_lk rfl w0 rfl (bx_fa tok rfl rfl rfl rfl rfl rfl rfl) rfl rfl rfl ?_
  refine rt_lk rfl w0 rfl (bx_ld1 tok rfl rfl rfl rfl rfl) rfl rfl rfl ?_
  refine rt_p rfl w0 rfl (pu_move (r := .ptr _ _ _ _ _) rfl) ?_
  refine rt_lk rfl w0 rfl (bx_fa tok rfl rfl rfl rfl rfl rfl rfl) rfl rfl rfl ?_
  refine rt_lk rfl w0 rfl (bx_ld1 tok rfl rfl rfl rfl rfl) rfl rfl rfl ?_
  refine rt_p rfl w0 rfl (pu_len_map tok rfl rfl rfl) ?_
  obtain ⟨v2, hv2, h0⟩ := bnd h0
  refine rt_wkd rfl w0 rfl (c_callP [0] 300 (l00Src_pick_b_c hv2) rfl rfl) ?_
  obtain ⟨v3, hv3, h0⟩ := bnd h0
  refine rt_p rfl w0 rfl (sl_ix tok hv3 rfl rfl rfl rfl rfl rfl) ?_
  refine tlr tok ?_
  refine tpa ?_
  refine rt_nil ?_
  refine ⟨by kernel_rfl, ?_⟩
  refine then_n ?_
  refine sq [0,1,2,3,4,5,6,7,8,9,10,11] ?_
  refine rp rfl w0 rfl (pu_move (r := .ptr _ _ _ _ _) rfl) ?_
  refine fa tok ?_
  refine ld tok ?_
  refine pm ?_
  refine rp rfl w0 rfl (pw_mul rfl rfl) ?_
  obtain ⟨v4, hv4, h0⟩ := bnd h0
  refine rs rfl w0 rfl (c_call 5 (s_l00Min_c hv4) rfl rfl rfl) ?_
  obtain ⟨v5, hv5, h0⟩ := bnd h0
  refine rw1 rfl w0 rfl (c_callP [0] 300 (l00Src_pick_b_c hv5) rfl rfl) ?_
  refine rp rfl w0 rfl (pw_add rfl rfl) ?_
  refine pm ?_
  obtain ⟨v6, hv6, h0⟩ := bnd h0
  refine rs rfl w0 rfl (c_call 5 (s_l24Make_c hv6) rfl rfl rfl) ?_
  refine rs rfl w0 rfl (st_alloc 5 (cs := [.d (.v (.int .i64 0)), .d (.v (.int .i64 0)), .d (.v (.int .i64 0))]) tok rfl rfl rfl) ?_
  refine rw0 rfl w0 (bx_st (cs := _ :: _) tok rfl rfl rfl rfl rfl rfl rfl) ?_
  refine nx ?_
  obtain ⟨v10, h1, h0⟩ := bnd h0
  refine aw_cut ⟨updA (updA ((fun _ => .dead)) 4 (.ptr 3 0 1 0 0)) 6 (.ptr 4 0 1 0 0), lks [.live [⟨98, 3, .av [[.d (.sl (List.map cU8 v10.1.code)), .d (.v (.int .i64 v10.1.at_)), .d (.v (.int .u64 v10.1.seed))]]⟩], .no, .no, .live [⟨27, 3, .av [[.d (.v (.int .i64 0)), .d (.v (.int .i64 0)), .d (.v (.int .i64 0))]]⟩], .live [⟨27, 3, .av [[.d (.v (.int .i64 v10.2.Turns)), .d (.v (.int .i64 v10.2.Holes)), .d (.v (.int .i64 v10.2.Circle))]]⟩]]⟩ ?_ ?_
  refine sq [0,1] ?_
  refine rp rfl w0 rfl (pu_move (r := .ptr _ _ _ _ _) rfl) ?_
  obtain ⟨v7, hv7, h1⟩ := bnd h1
  refine rw1 rfl w0 rfl (c_callP [0] 300 (l00Src_pick_b_c hv7) rfl rfl) ?_
  refine nx ?_
  refine aw_block ?_
  refine sq [0,1] ?_
  refine rp rfl w0 rfl (pu_eql rfl rfl) ?_
  refine pa ?_
  refine nx ?_
  refine aw_if h1 rfl (fun hc h1 => ?_) (fun hc h1 => ?_)
  refine sr [0,1,2,3,4,5,6,7] ?_
  refine rp rfl w0 rfl (pu_move (r := .ptr _ _ _ _ _) rfl) ?_
  refine pm ?_
  refine rp rfl w0 rfl (pw_sub rfl rfl) ?_
  refine pm ?_
  refine rs rfl w0 rfl (bs_val tok cI [-1, 0, w64 (v3 - 1), v3] rfl rfl rfl (by repeat (first | exact Els.nil _ | apply Els.cons (cs := [.d _]) rfl rfl rfl | apply Els.cons (cs := _ :: _) rfl rfl rfl)) rfl rfl rfl (by repeat (first | exact AllDD.nil | (apply AllDD.cons; (repeat (first | exact AllD.nil | apply AllD.cons))))) rfl) ?_
  obtain ⟨v8, hv8, h1⟩ := bnd h1
  refine rw1 rfl w0 rfl (c_callP [0] 300 (l00Src_among_b_c hv8) rfl rfl) ?_
  refine fa tok ?_
  refine rw0 rfl w0 (bx_st (cs := [.d _]) tok rfl rfl rfl rfl rfl rfl rfl) ?_
  refine ra_nil ?_
  refine block_n ?_
  refine then_n ?_
  cases h1
  exact wk [0, 1, 2, 4, 5]
  refine sq [0,1] ?_
  refine rp rfl w0 rfl (pu_eql rfl rfl) ?_
  refine pa ?_
  refine nx ?_
  refine aw_if h1 rfl (fun hc h1 => ?_) (fun hc h1 => ?_)
  refine sr [0,1,2,3,4,5,6,7,8,9] ?_
  refine rp rfl w0 rfl (pu_move (r := .ptr _ _ _ _ _) rfl) ?_
  refine fa tok ?_
  refine ld tok ?_
  refine fa tok ?_
  refine ld tok ?_
  refine rp rfl w0 rfl (pw_add rfl rfl) ?_
  refine rs rfl w0 rfl (bs_val tok cI [-1, 0, p1.Worm, w64 (p1.Worm + 1)] rfl rfl rfl (by repeat (first | exact Els.nil _ | apply Els.cons (cs := [.d _]) rfl rfl rfl | apply Els.cons (cs := _ :: _) rfl rfl rfl)) rfl rfl rfl (by repeat (first | exact AllDD.nil | (apply AllDD.cons; (repeat (first | exact AllD.nil | apply AllD.cons))))) rfl) ?_
  obtain ⟨v9, hv9, h1⟩ := bnd h1
  refine rw1 rfl w0 rfl (c_callP [0] 300 (l00Src_among_b_c hv9) rfl rfl) ?_
  refine fa tok ?_
  refine rw0 rfl w0 (bx_st (cs := [.d _]) tok rfl rfl rfl rfl rfl rfl rfl) ?_
  refine ra_nil ?_
  refine block_n ?_
  refine then_n ?_
  cases h1
  exact wk [0, 1, 2, 4, 5]
  refine sq [0,1] ?_
  refine rp rfl w0 rfl (pu_eql rfl rfl) ?_
  refine pa ?_
  refine nx ?_
  refine aw_if h1 rfl (fun hc h1 => ?_) (fun hc h1 => ?_)
  refine sr [0,1,2,3] ?_
  refine pm ?_
  refine rp rfl w0 rfl (pw_add rfl rfl) ?_
  refine fa tok ?_
  refine rw0 rfl w0 (bx_st (cs := [.d _]) tok rfl rfl rfl rfl rfl rfl rfl) ?_
  refine ra_nil ?_
  refine block_n ?_
  refine then_n ?_
  cases h1
  exact wk [0, 1, 2, 4, 5]
  refine aw_skip ?_
  refine block_n ?_
  refine then_n ?_
  cases h1
  exact wk [0, 1, 2, 4, 5]
  refine sq [0,1] ?_
  refine rl rfl w0 rfl (bx_ldN tok rfl rfl rfl rfl) ?_
  refine rw0 rfl w0 (bx_st (cs := _ :: _) tok rfl rfl rfl rfl rfl rfl rfl) ?_
  refine nx ?_
  refine aw_ret ?_
  cases h0
  exact retP_ (rs := [.cell 4 27]) 1 rfl rfl

theorem s_DrawHolesAfter_c {p0 : List Int} {r : Divider_ × Index_ × Int} (h0 : s_DrawHolesAfter_m p0 = some r) : FnC Tryd.prog 13 [] [.d (.sl (List.map cU8 p0))] [] (.tup [.agg [.d (.v (.int .i64 r.1.Worm)), .d (.sl (List.map cI r.1.Circles))], .agg [.d (.v (.int .i64 r.2.1.Turns)), .d (.v (.int .i64 r.2.1.Holes)), .d (.v (.int .i64 r.2.1.Circle))], .d (.v (.int .i64 r.2.2))]) := by
  refine fnc_intro (T := tt) (N := 26) tok Tryd.func13 rfl rfl (by kernel_rfl) rfl rfl ?_
  unfold s_DrawHolesAfter_m at h0
  refine sq [0,1,2] ?_
  refine rs rfl w0 rfl (st_alloc 3 (cs := [.d (.v (.int .i64 0)), .d (.v (.slice none 0 0))]) tok rfl rfl rfl) ?_
  refine rs rfl w0 rfl (st_alloc 4 (cs := [.d (.v (.int .i64 0)), .d (.v (.int .i64 0)), .d (.v (.int .i64 0))]) tok rfl rfl rfl) ?_
  refine pa ?_
  refine nx ?_
  refine sq [0,1,2] ?_
  refine pm ?_
  obtain ⟨v1, hv1, h0⟩ := bnd h0
  refine rs rfl w0 rfl (c_call 5 (s_l00From_c hv1) rfl rfl rfl) ?_
  refine rp rfl w0 rfl (pu_assign (r := .ptr _ _ _ _ _) rfl) ?_
  refine nx ?_
  refine sq [0,1,2,3] ?_
  refine rp rfl w0 rfl (pu_move (r := .ptr _ _ _ _ _) rfl) ?_
  obtain ⟨v2, hv2, h0⟩ := bnd h0
  refine rw1 rfl w0 rfl (c_callP [5, 6] 300 (fnc_pad 1 (s_l24Bent_b_c hv2)) rfl rfl) ?_
  refine rs rfl w0 rfl (st_alloc 7 (cs := [.d (.v (.int .i64 0)), .d (.v (.slice none 0 0))]) tok rfl rfl rfl) ?_
  refine rw0 rfl w0 (bx_st (cs := _ :: _) tok rfl rfl rfl rfl rfl rfl rfl) ?_
  refine nx ?_
  refine sq [0,1,2,3,4] ?_
  refine rp rfl w0 rfl (pu_move (r := .ptr _ _ _ _ _) rfl) ?_
  refine rl rfl w0 rfl (bx_ldN tok rfl rfl rfl rfl) ?_
  obtain ⟨v3, hv3, h0⟩ := bnd h0
  refine ra_weak (fz_r (k := 6) (t' := updA (updA (updA (updA (updA (updA ((fun _ => .dead)) 2 (.ptr 3 0 1 0 0)) 3 (.ptr 4 0 1 0 0)) 5 (.ptr 5 0 1 0 0)) 6 (.ptr 7 0 1 0 0)) 13 (.ptr 5 0 1 0 0)) 14 (.agg [.d (.v (.int .i64 v2.1.Worm)), .d (.sl (List.map cI v2.1.Circles))])) rfl (FzL.box (kb := 7) (ds := [.d (.v (.int .i64 v2.1.Worm)), .d (.sl (List.map cI v2.1.Circles))]) rfl rfl (by repeat (first | exact FzRL.nil | apply FzRL.cons | exact FzR.d _ | exact FzR.own rfl (by first | rfl | (simp; done) | (simp; omega)) | exact FzR.ptr rfl (by repeat (first | exact Drp.z _ | apply Drp.d)) | exact FzR.own' | exact FzR.ptr' | exact FzR.ref _ | apply FzR.agg | apply FzR.tup | apply FzR.fn | exact FzR.dead _)) (FzL.nil))) ?_
  refine rw1 rfl w0 rfl (c_callP [5] 300 (s_l24DrawIndex_b_c hv3) rfl rfl) ?_
  refine rs rfl w0 rfl (st_alloc 8 (cs := [.d (.v (.int .i64 0)), .d (.v (.int .i64 0)), .d (.v (.int .i64 0))]) tok rfl rfl rfl) ?_
  refine rw0 rfl w0 (bx_st (cs := _ :: _) tok rfl rfl rfl rfl rfl rfl rfl) ?_
  refine nx ?_
  refine sq [0,1,2] ?_
  refine rp rfl w0 rfl (pu_move (r := .ptr _ _ _ _ _) rfl) ?_
  obtain ⟨v4, hv4, h0⟩ := bnd h0
  refine rw1 rfl w0 rfl (c_callP [5] 300 (l00Src_pick_b_c hv4) rfl rfl) ?_
  refine pa ?_
  refine nx ?_
  obtain ⟨v7, h1, h0⟩ := bnd h0
  refine aw_cut ⟨updA (updA (updA (updA (updA ((fun _ => .dead)) 2 (.ptr 3 0 1 0 0)) 3 (.ptr 4 0 1 0 0)) 6 (.ptr 5 0 1 0 0)) 7 (.ptr 6 0 1 0 0)) 8 (.d (.v (.int .i64 v7))), lks [.no, .no, .no, .live [⟨30, 2, .av [[.d (.v (.int .i64 0)), .d (.v (.slice none 0 0))]]⟩], .live [⟨27, 3, .av [[.d (.v (.int .i64 0)), .d (.v (.int .i64 0)), .d (.v (.int .i64 0))]]⟩], .live [⟨30, 2, .av [[.d (.v (.int .i64 v2.1.Worm)), .d (.sl (List.map cI v2.1.Circles))]]⟩], .live [⟨27, 3, .av [[.d (.v (.int .i64 v3.1.Turns)), .d (.v (.int .i64 v3.1.Holes)), .d (.v (.int .i64 v3.1.Circle))]]⟩]]⟩ ?_ ?_
  refine sq [0,1] ?_
  refine rp rfl w0 rfl (pu_move (r := .ptr _ _ _ _ _) rfl) ?_
  obtain ⟨v5, hv5, h1⟩ := bnd h1
  refine rw1 rfl w0 rfl (c_callP [5] 300 (l00Src_one_b_c hv5) rfl rfl) ?_
  refine nx ?_
  refine aw_ifB h1 rfl (fun hc h1 => ?_) (fun hc h1 => ?_)
  refine sr [0,1,2,3] ?_
  refine rp rfl w0 rfl (pu_move (r := .ptr _ _ _ _ _) rfl) ?_
  refine rs rfl w0 rfl (bs_val tok cI [-1, 0, 1000000000, 1000000001] rfl rfl rfl (by repeat (first | exact Els.nil _ | apply Els.cons (cs := [.d _]) rfl rfl rfl | apply Els.cons (cs := _ :: _) rfl rfl rfl)) rfl rfl rfl (by repeat (first | exact AllDD.nil | (apply AllDD.cons; (repeat (first | exact AllD.nil | apply AllD.cons))))) rfl) ?_
  obtain ⟨v6, hv6, h1⟩ := bnd h1
  refine rw1 rfl w0 rfl (c_callP [5] 300 (l00Src_among_b_c hv6) rfl rfl) ?_
  refine pa ?_
  refine nx ?_
  cases h1
  exact wk [0, 1, 2, 3, 4, 7, 8]
  refine sk ?_
  cases h1
  exact wk [0, 1, 2, 3, 4, 7, 8]
  refine aw_seq ?_
  refine aw_region_draw (is := [0, 1, 2, 3, 4, 5]) [0, 0, 0, 1, 11, 31] follows (by kernel_rfl) ?_
  refine rt_lk rfl w0 rfl (bx_ldN tok rfl rfl rfl rfl) rfl rfl rfl ?_
  refine rt_lk rfl w0 rfl (bx_ldN tok rfl rfl rfl rfl) rfl rfl rfl ?_
  refine tpm ?_
  refine rt_wk rfl w0 (bx_st (cs := _ :: _) tok rfl rfl rfl rfl rfl rfl rfl) ?_
  refine rt_wk rfl w0 (bx_st (cs := _ :: _) tok rfl rfl rfl rfl rfl rfl rfl) ?_
  refine tpa ?_
  refine rt_nil ?_
  refine ⟨by kernel_rfl, ?_⟩
  refine then_n ?_
  refine aw_ret ?_
  cases h0
  exact ret0_ (rs := [.cell 2 30, .cell 3 27, .tmp 4]) rfl

theorem i_within_c {p0 : Int} {p1 : Int} {p2 : Int} {r : Bool} (h0 : i_within_m p0 p1 p2 = some r) : FnC Tryd.prog 49 [] [.d (.v (.int .i64 p0)), .d (.v (.int .i64 p1)), .d (.v (.int .i64 p2))] [] (.d (.v (.bool r))) := by
  refine fnc_intro (T := tt) (N := 15) tok Tryd.func49 rfl rfl (by kernel_rfl) rfl rfl ?_
  unfold i_within_m at h0
  refine sq [0] ?_
  refine pa ?_
  refine nx ?_
  refine sq [0,1,2,3,4,5,6,7,8] ?_
  refine pm ?_
  refine pm ?_
  refine rp rfl w0 rfl (pu_geq rfl rfl) ?_
  refine pm ?_
  refine ra_if (u := 10) h0 rfl (fun hc h0 => ?_) (fun hc h0 => ?_)
  refine pm1 ?_
  refine pm1 ?_
  refine rp rfl (w1 rfl rfl rfl) rfl (pu_leq rfl rfl) ?_
  refine pkt ?_
  refine pa ?_
  refine nx ?_
  refine aw_ret ?_
  cases h0
  exact ret0_ (rs := [.tmp 6]) rfl
  iterate 3 refine k1 ?_
  refine pkf ?_
  refine pa ?_
  refine nx ?_
  refine aw_ret ?_
  cases h0
  exact ret0_ (rs := [.tmp 6]) rfl

theorem i_ValidDivider_c {p0 : Divider_} {r : Bool} (h0 : i_ValidDivider_m p0 = some r) : FnC Tryd.prog 30 [] [.agg [.d (.v (.int .i64 p0.Worm)), .d (.sl (List.map cI p0.Circles))]] [] (.d (.v (.bool r))) := by
  refine fnc_intro (T := tt) (N := 46) tok Tryd.func30 rfl rfl (by kernel_rfl) rfl rfl ?_
  unfold i_ValidDivider_m at h0
  refine sq [0,1] ?_
  refine rs rfl w0 rfl (st_box 3 (cs := _ :: _) rfl rfl rfl) ?_
  refine pa ?_
  refine nx ?_
  obtain ⟨v11x, h1, h0⟩ := bnd h0
  refine aw_cutE v11x (fun v11 => ⟨updA ((fun _ => .dead)) 1 (.ptr 3 0 1 0 0), lks [.no, .no, .no, .live [⟨30, 2, .av [[.d (.v (.int .i64 p0.Worm)), .d (.sl (List.map cI p0.Circles))]]⟩]]⟩) ?_ ?_
  refine sq [0,1,2,3] ?_
  refine fa tok ?_
  refine ld tok ?_
  refine rp rfl w0 rfl (pu_len_map tok rfl rfl rfl) ?_
  refine pm ?_
  refine nx ?_
  refine aw_block ?_
  refine aw_loopM (fun s6 => ⟨updA (updA (updA (updA ((fun _ => .dead)) 1 (.ptr 3 0 1 0 0)) 6 (.d (.sl (List.map cI p0.Circles)))) 7 (.d (.v (.int .i64 (p0.Circles.length : Int))))) 8 (.d (.v (.int .i64 s6))), lks [.no, .no, .no, .live [⟨30, 2, .av [[.d (.v (.int .i64 p0.Worm)), .d (.sl (List.map cI p0.Circles))]]⟩]]⟩) h1 ?_ (fun s6 y h2 => ?_)
  exact wk [0, 1, 2, 3]
  refine sq [0] ?_
  refine rp rfl w0 rfl (pu_lss rfl rfl) ?_
  refine nx ?_
  refine aw_seq ?_
  refine aw_if h2 rfl (fun hc h2 => ?_) (fun hc h2 => ?_)
  refine sk ?_
  refine aw_seq ?_
  refine aw_block ?_
  refine sq [0,1,2,3,4] ?_
  refine pm ?_
  obtain ⟨v7, hv7, h2⟩ := bnd h2
  refine rp rfl w0 rfl (sl_ix tok hv7 rfl rfl rfl rfl rfl rfl) ?_
  refine lr tok ?_
  refine pa ?_
  refine pa ?_
  refine nx ?_
  obtain ⟨v10, h3, h2⟩ := bnd h2
  refine aw_cut ⟨updA (updA (updA (updA (updA ((fun _ => .dead)) 1 (.ptr 3 0 1 0 0)) 6 (.d (.sl (List.map cI p0.Circles)))) 7 (.d (.v (.int .i64 (p0.Circles.length : Int))))) 8 (.d (.v (.int .i64 s6)))) 29 (.d (.v (.bool v10))), lks [.no, .no, .no, .live [⟨30, 2, .av [[.d (.v (.int .i64 p0.Worm)), .d (.sl (List.map cI p0.Circles))]]⟩]]⟩ ?_ ?_
  refine sr [0,1,2,3,4,5,6,7,8,9,10,11,12,13,14,15,16] ?_
  refine pm ?_
  obtain ⟨v8, hv8, h3⟩ := bnd h3
  refine rs rfl w0 rfl (c_call 4 (i_within_c hv8) rfl rfl rfl) ?_
  refine rp rfl w0 rfl (pu_not rfl) ?_
  refine pm ?_
  refine ra_ifB (u := 16) h3 rfl (fun hc h3 => ?_) (fun hc h3 => ?_)
  iterate 12 refine k1 ?_
  refine pkt ?_
  refine nx ?_
  cases h3
  exact wk [0, 1, 2, 3]
  refine pm1 ?_
  refine rp rfl (w1 rfl rfl rfl) rfl (pu_gtr rfl rfl) ?_
  refine pm1 ?_
  refine ra_if (u := 19) h3 rfl (fun hc h3 => ?_) (fun hc h3 => ?_)
  refine pm1 ?_
  refine fa1 tok ?_
  refine ld1 tok ?_
  refine pm1 ?_
  refine rp rfl (w1 rfl rfl rfl) rfl (pw_sub rfl rfl) ?_
  obtain ⟨v9, hv9, h3⟩ := bnd h3
  refine rp rfl (w1 rfl rfl rfl) rfl (sl_ix tok hv9 rfl rfl rfl rfl rfl rfl) ?_
  refine lr1 tok ?_
  refine rp rfl (w1 rfl rfl rfl) rfl (pu_leq rfl rfl) ?_
  refine pkt1 ?_
  refine pkf ?_
  refine nx ?_
  cases h3
  exact wk [0, 1, 2, 3]
  iterate 8 refine k1 ?_
  refine pkf1 ?_
  refine pkf ?_
  refine nx ?_
  cases h3
  exact wk [0, 1, 2, 3]
  refine aw_ifB h2 rfl (fun hc h2 => ?_) (fun hc h2 => ?_)
  refine sq [0] ?_
  refine pa ?_
  refine nx ?_
  refine aw_ret ?_
  refine block_r ?_
  refine then_r ?_
  cases h2
  refine loop_r ⟨_, rfl, fun e => ?_⟩
  subst e
  refine block_r ?_
  replace h0 := orE_s h0
  refine then_r ?_
  cases h0
  exact ret0_ (rs := [.tmp 2]) rfl
  refine aw_skip ?_
  refine block_n ?_
  refine then_n ?_
  refine sr [0,1] ?_
  refine rp rfl w0 rfl (pw_add rfl rfl) ?_
  refine pm ?_
  refine ra_nil ?_
  refine loop_n ?_
  cases h2
  refine ⟨_, rfl, ?_⟩
  exact wk [0, 1, 2, 3]
  refine aw_exit ?_
  refine then_e ?_
  cases h2
  refine loop_x ⟨_, rfl, fun e => ?_⟩
  subst e
  refine block_hit ?_
  refine then_n ?_
  refine ⟨_, rfl, ?_⟩
  exact wk [0, 1, 2, 3]
  rintro v11 rfl
  replace h0 := orE_f h0
  refine sq [0,1,2,3,4,5,6,7,8,9,10,11,12,13,14,15] ?_
  refine fa tok ?_
  refine ld tok ?_
  obtain ⟨v12, hv12, h0⟩ := bnd h0
  refine rs rfl w0 rfl (c_call 4 (i_within_c hv12) rfl rfl rfl) ?_
  refine pm ?_
  refine ra_ifB (u := 34) h0 rfl (fun hc h0 => ?_) (fun hc h0 => ?_)
  refine fa1 tok ?_
  refine ld1 tok ?_
  refine rp rfl (w1 rfl rfl rfl) rfl (pu_len_map tok rfl rfl rfl) ?_
  refine rp rfl (w1 rfl rfl rfl) rfl (pu_geq rfl rfl) ?_
  refine pkt ?_
  refine pm ?_
  refine ra_if (u := 40) h0 rfl (fun hc h0 => ?_) (fun hc h0 => ?_)
  refine fa1 tok ?_
  refine ld1 tok ?_
  refine rp rfl (w1 rfl rfl rfl) rfl (pu_len_map tok rfl rfl rfl) ?_
  refine rp rfl (w1 rfl rfl rfl) rfl (pu_leq rfl rfl) ?_
  refine pkt ?_
  refine pa ?_
  refine nx ?_
  refine aw_ret ?_
  cases h0
  exact ret0_ (rs := [.tmp 2]) rfl
  iterate 4 refine k1 ?_
  refine pkf ?_
  refine pa ?_
  refine nx ?_
  refine aw_ret ?_
  cases h0
  exact ret0_ (rs := [.tmp 2]) rfl
  iterate 4 refine k1 ?_
  refine pkf ?_
  refine pm ?_
  iterate 4 refine k1 ?_
  refine pkf ?_
  refine pa ?_
  refine nx ?_
  refine aw_ret ?_
  cases h0
  exact ret0_ (rs := [.tmp 2]) rfl

theorem slices_Index_Lint64_int64_c {p0 : List Int} {p1 : Int} {r : Int} (h0 : slices_Index_Lint64_int64_m p0 p1 = some r) : FnC Tryd.prog 83 [] [.d (.sl (List.map cI p0)), .d (.v (.int .i64 p1))] [] (.d (.v (.int .i64 r))) := by
  refine fnc_intro (T := tt) (N := 19) tok Tryd.func83 rfl rfl (by kernel_rfl) rfl rfl ?_
  unfold slices_Index_Lint64_int64_m at h0
  refine sq [0] ?_
  refine pa ?_
  refine nx ?_
  obtain ⟨v5x, h1, h0⟩ := bnd h0
  refine aw_cutE v5x (fun v5 => ⟨(fun _ => .dead), lks [.no, .no, .no]⟩) ?_ ?_
  refine sq [0,1,2] ?_
  refine pm ?_
  refine rp rfl w0 rfl (pu_len_map tok rfl rfl rfl) ?_
  refine pm ?_
  refine nx ?_
  refine aw_block ?_
  refine aw_loopM (fun s3 => ⟨updA (updA (updA (updA ((fun _ => .dead)) 0 (.d (.sl (List.map cI p0)))) 1 (.d (.v (.int .i64 p1)))) 7 (.d (.v (.int .i64 (p0.length : Int))))) 8 (.d (.v (.int .i64 s3))), lks [.no, .no, .no]⟩) h1 ?_ (fun s3 y h2 => ?_)
  exact wk [0, 1, 2]
  refine sq [0] ?_
  refine rp rfl w0 rfl (pu_lss rfl rfl) ?_
  refine nx ?_
  refine aw_seq ?_
  refine aw_if h2 rfl (fun hc h2 => ?_) (fun hc h2 => ?_)
  refine sk ?_
  refine aw_seq ?_
  refine aw_block ?_
  refine sq [0,1] ?_
  refine pm ?_
  refine pa ?_
  refine nx ?_
  refine sq [0,1,2,3,4,5] ?_
  iterate 3 refine pm ?_
  obtain ⟨v4, hv4, h2⟩ := bnd h2
  refine rp rfl w0 rfl (sl_ix tok hv4 rfl rfl rfl rfl rfl rfl) ?_
  refine lr tok ?_
  refine rp rfl w0 rfl (pu_eql rfl rfl) ?_
  refine nx ?_
  refine aw_if h2 rfl (fun hc h2 => ?_) (fun hc h2 => ?_)
  refine sq [0,1] ?_
  refine pm ?_
  refine pa ?_
  refine nx ?_
  refine aw_ret ?_
  refine block_r ?_
  refine then_r ?_
  cases h2
  refine loop_r ⟨_, rfl, fun e => ?_⟩
  subst e
  refine block_r ?_
  replace h0 := orE_s h0
  refine then_r ?_
  cases h0
  exact ret0_ (rs := [.tmp 4]) rfl
  refine aw_skip ?_
  refine block_n ?_
  refine then_n ?_
  refine sr [0,1] ?_
  refine rp rfl w0 rfl (pw_add rfl rfl) ?_
  refine pm ?_
  refine ra_nil ?_
  refine loop_n ?_
  cases h2
  refine ⟨_, rfl, ?_⟩
  exact wk [0, 1, 2]
  refine aw_exit ?_
  refine then_e ?_
  cases h2
  refine loop_x ⟨_, rfl, fun e => ?_⟩
  subst e
  refine block_hit ?_
  refine then_n ?_
  refine ⟨_, rfl, ?_⟩
  exact wk [0, 1, 2]
  rintro v5 rfl
  replace h0 := orE_f h0
  refine sq [0] ?_
  refine pa ?_
  refine nx ?_
  refine aw_ret ?_
  cases h0
  exact ret0_ (rs := [.tmp 4]) rfl

theorem slices_Contains_Lint64_int64_c {p0 : List Int} {p1 : Int} {r : Bool} (h0 : slices_Contains_Lint64_int64_m p0 p1 = some r) : FnC Tryd.prog 58 [] [.d (.sl (List.map cI p0)), .d (.v (.int .i64 p1))] [] (.d (.v (.bool r))) := by
  refine fnc_intro (T := tt) (N := 9) tok Tryd.func58 rfl rfl (by kernel_rfl) rfl rfl ?_
  unfold slices_Contains_Lint64_int64_m at h0
  refine sq [0] ?_
  refine pa ?_
  refine nx ?_
  refine sq [0,1,2,3,4] ?_
  refine pm ?_
  refine pm ?_
  obtain ⟨v1, hv1, h0⟩ := bnd h0
  refine rs rfl w0 rfl (c_call 3 (slices_Index_Lint64_int64_c hv1) rfl rfl rfl) ?_
  refine rp rfl w0 rfl (pu_geq rfl rfl) ?_
  refine pa ?_
  refine nx ?_
  refine aw_ret ?_
  cases h0
  exact ret0_ (rs := [.tmp 4]) rfl

theorem i_stepOf_c {p0 : Index_} {r : Int} (h0 : i_stepOf_m p0 = some r) : FnC Tryd.prog 50 [] [.agg [.d (.v (.int .i64 p0.Turns)), .d (.v (.int .i64 p0.Holes)), .d (.v (.int .i64 p0.Circle))]] [] (.d (.v (.int .i64 r))) := by
  refine fnc_intro (T := tt) (N := 11) tok Tryd.func50 rfl rfl (by kernel_rfl) rfl rfl ?_
  unfold i_stepOf_m at h0
  refine sq [0,1] ?_
  refine rs rfl w0 rfl (st_box 3 (cs := _ :: _) rfl rfl rfl) ?_
  refine pa ?_
  refine nx ?_
  refine sq [0,1,2,3,4,5,6,7,8] ?_
  refine fa tok ?_
  refine ld tok ?_
  refine fa tok ?_
  refine ld tok ?_
  refine rp rfl w0 rfl (pw_mul rfl rfl) ?_
  refine fa tok ?_
  refine ld tok ?_
  refine rp rfl w0 rfl (pw_add rfl rfl) ?_
  refine pa ?_
  refine nx ?_
  refine aw_ret ?_
  cases h0
  exact ret0_ (rs := [.tmp 2]) rfl

theorem i_ValidIndex_c {p0 : Divider_} {p1 : Index_} {r : Bool} (h0 : i_ValidIndex_m p0 p1 = some r) : FnC Tryd.prog 21 [] [.agg [.d (.v (.int .i64 p0.Worm)), .d (.sl (List.map cI p0.Circles))], .agg [.d (.v (.int .i64 p1.Turns)), .d (.v (.int .i64 p1.Holes)), .d (.v (.int .i64 p1.Circle))]] [] (.d (.v (.bool r))) := by
  refine fnc_intro (T := tt) (N := 41) tok Tryd.func21 rfl rfl (by kernel_rfl) rfl rfl ?_
  unfold i_ValidIndex_m at h0
  refine sq [0,1,2] ?_
  refine rs rfl w0 rfl (st_box 3 (cs := _ :: _) rfl rfl rfl) ?_
  refine rs rfl w0 rfl (st_box 4 (cs := _ :: _) rfl rfl rfl) ?_
  refine pa ?_
  refine nx ?_
  refine aw_seq ?_
  obtain ⟨v5, h1, h0⟩ := bnd h0
  refine aw_cut ⟨updA (updA (updA ((fun _ => .dead)) 2 (.ptr 3 0 1 0 0)) 3 (.ptr 4 0 1 0 0)) 32 (.d (.v (.bool v5))), lks [.no, .no, .no, .live [⟨30, 2, .av [[.d (.v (.int .i64 p0.Worm)), .d (.sl (List.map cI p0.Circles))]]⟩], .live [⟨27, 3, .av [[.d (.v (.int .i64 p1.Turns)), .d (.v (.int .i64 p1.Holes)), .d (.v (.int .i64 p1.Circle))]]⟩]]⟩ ?_ ?_
  refine sr [0,1,2,3,4,5,6,7,8,9,10,11,12,13,14,15,16,17,18,19,20,21,22,23,24,25,26,27] ?_
  refine rl rfl w0 rfl (bx_ldN tok rfl rfl rfl rfl) ?_
  obtain ⟨v1, hv1, h1⟩ := bnd h1
  refine rs rfl w0 rfl (c_call 5 (i_ValidDivider_c hv1) rfl rfl rfl) ?_
  refine rp rfl w0 rfl (pu_not rfl) ?_
  refine pm ?_
  refine ra_ifB (u := 8) h1 rfl (fun hc h1 => ?_) (fun hc h1 => ?_)
  iterate 6 refine k1 ?_
  refine pkt ?_
  refine pm ?_
  iterate 6 refine k1 ?_
  refine pkt ?_
  refine pm ?_
  iterate 7 refine k1 ?_
  refine pkt ?_
  refine nx ?_
  cases h1
  exact wk [0, 1, 2, 3, 4]
  refine fa1 tok ?_
  refine ld1 tok ?_
  refine fa1 tok ?_
  refine ld1 tok ?_
  obtain ⟨v2, hv2, h1⟩ := bnd h1
  refine rs rfl (w1 rfl rfl rfl) rfl (c_call 5 (slices_Contains_Lint64_int64_c hv2) rfl rfl rfl) ?_
  refine rp rfl (w1 rfl rfl rfl) rfl (pu_not rfl) ?_
  refine pkf ?_
  refine pm ?_
  refine ra_ifB (u := 16) h1 rfl (fun hc h1 => ?_) (fun hc h1 => ?_)
  iterate 6 refine k1 ?_
  refine pkt ?_
  refine pm ?_
  iterate 7 refine k1 ?_
  refine pkt ?_
  refine nx ?_
  cases h1
  exact wk [0, 1, 2, 3, 4]
  refine fa1 tok ?_
  refine ld1 tok ?_
  refine fa1 tok ?_
  refine ld1 tok ?_
  obtain ⟨v3, hv3, h1⟩ := bnd h1
  refine rs rfl (w1 rfl rfl rfl) rfl (c_call 5 (i_within_c hv3) rfl rfl rfl) ?_
  refine rp rfl (w1 rfl rfl rfl) rfl (pu_not rfl) ?_
  refine pkf ?_
  refine pm ?_
  refine ra_ifB (u := 24) h1 rfl (fun hc h1 => ?_) (fun hc h1 => ?_)
  iterate 7 refine k1 ?_
  refine pkt ?_
  refine nx ?_
  cases h1
  exact wk [0, 1, 2, 3, 4]
  refine fa1 tok ?_
  refine ld1 tok ?_
  refine fa1 tok ?_
  refine ld1 tok ?_
  refine rp rfl (w1 rfl rfl rfl) rfl (pw_sub rfl rfl) ?_
  obtain ⟨v4, hv4, h1⟩ := bnd h1
  refine rs rfl (w1 rfl rfl rfl) rfl (c_call 5 (i_within_c hv4) rfl rfl rfl) ?_
  refine rp rfl (w1 rfl rfl rfl) rfl (pu_not rfl) ?_
  refine pkf ?_
  refine nx ?_
  cases h1
  exact wk [0, 1, 2, 3, 4]
  refine aw_ifB h0 rfl (fun hc h0 => ?_) (fun hc h0 => ?_)
  refine sq [0] ?_
  refine pa ?_
  refine nx ?_
  refine aw_ret ?_
  refine then_r ?_
  cases h0
  exact ret0_ (rs := [.tmp 4]) rfl
  refine sk ?_
  refine aw_seq ?_
  refine aw_region_draw (is := [0, 2, 3, 4, 5, 6, 1, 7, 8]) [0, 1, 0, 4, 0, 16, 60, 127, 255] follows (by kernel_rfl) ?_
  refine rt_lk rfl w0 rfl (bx_ldN tok rfl rfl rfl rfl) rfl rfl rfl ?_
  refine rt_lk rfl w0 rfl (bx_fa tok rfl rfl rfl rfl rfl rfl rfl) rfl rfl rfl ?_
  refine rt_lk rfl w0 rfl (bx_ld1 tok rfl rfl rfl rfl rfl) rfl rfl rfl ?_
  refine rt_lk rfl w0 rfl (bx_fa tok rfl rfl rfl rfl rfl rfl rfl) rfl rfl rfl ?_
  refine rt_lk rfl w0 rfl (bx_ld1 tok rfl rfl rfl rfl rfl) rfl rfl rfl ?_
  refine rt_p rfl w0 rfl (pw_mul rfl rfl) ?_
  obtain ⟨v6, hv6, h0⟩ := bnd h0
  refine rt_c rfl w0 rfl (b_call 5 (i_stepOf_c hv6) rfl rfl rfl) ?_
  obtain ⟨v7, hv7, h0⟩ := bnd h0
  refine rt_c rfl w0 rfl (b_call 5 (i_within_c hv7) rfl rfl rfl) ?_
  refine tpa ?_
  refine rt_nil ?_
  refine ⟨by kernel_rfl, ?_⟩
  refine then_n ?_
  refine aw_ret ?_
  cases h0
  exact ret0_ (rs := [.tmp 4]) rfl

theorem i_HolesAfter_c {p0 : Divider_} {p1 : Index_} {p2 : Int} {r : Int × Int} (h0 : i_HolesAfter_m p0 p1 p2 = some r) : FnC Tryd.prog 14 [] [.agg [.d (.v (.int .i64 p0.Worm)), .d (.sl (List.map cI p0.Circles))], .agg [.d (.v (.int .i64 p1.Turns)), .d (.v (.int .i64 p1.Holes)), .d (.v (.int .i64 p1.Circle))], .d (.v (.int .i64 p2))] [] (.tup [.d (.v (.int .i64 r.1)), .d (.v (.int .i64 r.2))]) := by
  refine fnc_intro (T := tt) (N := 25) tok Tryd.func14 rfl rfl (by kernel_rfl) rfl rfl ?_
  unfold i_HolesAfter_m at h0
  refine sq [0,1,2,3] ?_
  refine rs rfl w0 rfl (st_box 3 (cs := _ :: _) rfl rfl rfl) ?_
  refine rs rfl w0 rfl (st_box 4 (cs := _ :: _) rfl rfl rfl) ?_
  refine pa ?_
  refine pa ?_
  refine nx ?_
  refine aw_seq ?_
  refine sq [0,1,2,3] ?_
  refine rl rfl w0 rfl (bx_ldN tok rfl rfl rfl rfl) ?_
  refine rl rfl w0 rfl (bx_ldN tok rfl rfl rfl rfl) ?_
  obtain ⟨v1, hv1, h0⟩ := bnd h0
  refine rs rfl w0 rfl (c_call 5 (i_ValidIndex_c hv1) rfl rfl rfl) ?_
  refine rp rfl w0 rfl (pu_not rfl) ?_
  refine nx ?_
  refine aw_ifB h0 rfl (fun hc h0 => ?_) (fun hc h0 => ?_)
  refine sq [0,1] ?_
  refine pa ?_
  refine pa ?_
  refine nx ?_
  refine aw_ret ?_
  refine then_r ?_
  cases h0
  exact ret0_ (rs := [.tmp 6, .tmp 7]) rfl
  refine sk ?_
  refine aw_seq ?_
  refine sq [0,1,2] ?_
  refine pm ?_
  obtain ⟨v2, hv2, h0⟩ := bnd h0
  refine rs rfl w0 rfl (c_call 5 (i_within_c hv2) rfl rfl rfl) ?_
  refine rp rfl w0 rfl (pu_not rfl) ?_
  refine nx ?_
  refine aw_ifB h0 rfl (fun hc h0 => ?_) (fun hc h0 => ?_)
  refine sq [0,1] ?_
  refine pa ?_
  refine pa ?_
  refine nx ?_
  refine aw_ret ?_
  refine then_r ?_
  cases h0
  exact ret0_ (rs := [.tmp 6, .tmp 7]) rfl
  refine sk ?_
  refine aw_seq ?_
  refine aw_region_draw (is := [0, 1, 4, 5, 6, 7, 8, 2, 3, 9, 10, 11]) [0, 0, 2, 7, 0, 16, 0, 64, 240, 511, 1023, 2047] follows (by kernel_rfl) ?_
  refine tpm ?_
  refine rt_lk rfl w0 rfl (bx_ldN tok rfl rfl rfl rfl) rfl rfl rfl ?_
  refine rt_lk rfl w0 rfl (bx_fa tok rfl rfl rfl rfl rfl rfl rfl) rfl rfl rfl ?_
  refine rt_lk rfl w0 rfl (bx_ld1 tok rfl rfl rfl rfl rfl) rfl rfl rfl ?_
  refine rt_lk rfl w0 rfl (bx_fa tok rfl rfl rfl rfl rfl rfl rfl) rfl rfl rfl ?_
  refine rt_lk rfl w0 rfl (bx_ld1 tok rfl rfl rfl rfl rfl) rfl rfl rfl ?_
  refine rt_p rfl w0 rfl (pw_mul rfl rfl) ?_
  obtain ⟨v3, hv3, h0⟩ := bnd h0
  refine rt_c rfl w0 rfl (b_call 5 (i_stepOf_c hv3) rfl rfl rfl) ?_
  refine rt_p rfl w0 rfl (pw_mul rfl rfl) ?_
  obtain ⟨hq4, h0⟩ := chk_e h0
  refine rt_p rfl w0 rfl (pu_remw rfl rfl hq4) ?_
  refine tpa ?_
  refine tpa ?_
  refine rt_nil ?_
  refine ⟨by kernel_rfl, ?_⟩
  refine then_n ?_
  refine aw_ret ?_
  cases h0
  exact ret0_ (rs := [.tmp 6, .tmp 7]) rfl

theorem s_l00Has_c {p0 : List Int} {p1 : Int} {r : Bool} (h0 : s_l00Has_m p0 p1 = some r) : FnC Tryd.prog 74 [] [.d (.sl (List.map cI p0)), .d (.v (.int .i64 p1))] [] (.d (.v (.bool r))) := by
  refine fnc_intro (T := tt) (N := 18) tok Tryd.func74 rfl rfl (by kernel_rfl) rfl rfl ?_
  unfold s_l00Has_m at h0
  refine sq [0] ?_
  refine pa ?_
  refine nx ?_
  obtain ⟨v5x, h1, h0⟩ := bnd h0
  refine aw_cutE v5x (fun v5 => ⟨(fun _ => .dead), lks [.no, .no, .no]⟩) ?_ ?_
  refine sq [0] ?_
  refine pa ?_
  refine nx ?_
  refine aw_block ?_
  refine aw_loopM (fun s3 => ⟨updA (updA (updA ((fun _ => .dead)) 0 (.d (.sl (List.map cI p0)))) 1 (.d (.v (.int .i64 p1)))) 5 (.d (.v (.int .i64 s3))), lks [.no, .no, .no]⟩) h1 ?_ (fun s3 y h2 => ?_)
  exact wk [0, 1, 2]
  refine aw_seq ?_
  refine sq [0,1,2,3] ?_
  refine pm ?_
  refine pm ?_
  refine rp rfl w0 rfl (pu_len_map tok rfl rfl rfl) ?_
  refine rp rfl w0 rfl (pu_lss rfl rfl) ?_
  refine nx ?_
  refine aw_if h2 rfl (fun hc h2 => ?_) (fun hc h2 => ?_)
  refine sk ?_
  refine aw_seq ?_
  refine aw_block ?_
  refine sq [0,1,2,3,4,5] ?_
  refine pm ?_
  refine pm ?_
  obtain ⟨v4, hv4, h2⟩ := bnd h2
  refine rp rfl w0 rfl (sl_ix tok hv4 rfl rfl rfl rfl rfl rfl) ?_
  refine lr tok ?_
  refine pm ?_
  refine rp rfl w0 rfl (pu_eql rfl rfl) ?_
  refine nx ?_
  refine aw_if h2 rfl (fun hc h2 => ?_) (fun hc h2 => ?_)
  refine sq [0] ?_
  refine pa ?_
  refine nx ?_
  refine aw_ret ?_
  refine block_r ?_
  refine then_r ?_
  cases h2
  refine loop_r ⟨_, rfl, fun e => ?_⟩
  subst e
  refine block_r ?_
  replace h0 := orE_s h0
  refine then_r ?_
  cases h0
  exact ret0_ (rs := [.tmp 4]) rfl
  refine aw_skip ?_
  refine block_n ?_
  refine then_n ?_
  refine sr [0,1,2] ?_
  refine pm ?_
  refine rp rfl w0 rfl (pw_add rfl rfl) ?_
  refine pa ?_
  refine ra_nil ?_
  refine loop_n ?_
  cases h2
  refine ⟨_, rfl, ?_⟩
  exact wk [0, 1, 2]
  refine aw_exit ?_
  refine then_e ?_
  cases h2
  refine loop_x ⟨_, rfl, fun e => ?_⟩
  subst e
  refine block_hit ?_
  refine then_n ?_
  refine ⟨_, rfl, ?_⟩
  exact wk [0, 1, 2]
  rintro v5 rfl
  replace h0 := orE_f h0
  refine sq [0] ?_
  refine pa ?_
  refine nx ?_
  refine aw_ret ?_
  cases h0
  exact ret0_ (rs := [.tmp 4]) rfl

theorem s_l24Step_c {p0 : Index_} {r : Int} (h0 : s_l24Step_m p0 = some r) : FnC Tryd.prog 52 [] [.agg [.d (.v (.int .i64 p0.Turns)), .d (.v (.int .i64 p0.Holes)), .d (.v (.int .i64 p0.Circle))]] [] (.d (.v (.int .i64 r))) := by
  refine fnc_intro (T := tt) (N := 11) tok Tryd.func52 rfl rfl (by kernel_rfl) rfl rfl ?_
  unfold s_l24Step_m at h0
  refine sq [0,1] ?_
  refine rs rfl w0 rfl (st_box 3 (cs := _ :: _) rfl rfl rfl) ?_
  refine pa ?_
  refine nx ?_
  refine sq [0,1,2,3,4,5,6,7,8] ?_
  refine fa tok ?_
  refine ld tok ?_
  refine fa tok ?_
  refine ld tok ?_
  refine rp rfl w0 rfl (pw_mul rfl rfl) ?_
  refine fa tok ?_
  refine ld tok ?_
  refine rp rfl w0 rfl (pw_add rfl rfl) ?_
  refine pa ?_
  refine nx ?_
  refine aw_ret ?_
  cases h0
  exact ret0_ (rs := [.tmp 2]) rfl

theorem s_l24Index_c {p0 : Divider_} {p1 : Index_} {r : Bool} (h0 : s_l24Index_m p0 p1 = some r) : FnC Tryd.prog 38 [] [.agg [.d (.v (.int .i64 p0.Worm)), .d (.sl (List.map cI p0.Circles))], .agg [.d (.v (.int .i64 p1.Turns)), .d (.v (.int .i64 p1.Holes)), .d (.v (.int .i64 p1.Circle))]] [] (.d (.v (.bool r))) := by
  refine fnc_intro (T := tt) (N := 39) tok Tryd.func38 rfl rfl (by kernel_rfl) rfl rfl ?_
  unfold s_l24Index_m at h0
  refine sq [0,1,2] ?_
  refine rs rfl w0 rfl (st_box 3 (cs := _ :: _) rfl rfl rfl) ?_
  refine rs rfl w0 rfl (st_box 4 (cs := _ :: _) rfl rfl rfl) ?_
  refine pa ?_
  refine nx ?_
  refine aw_seq ?_
  obtain ⟨v3, h1, h0⟩ := bnd h0
  refine aw_cut ⟨updA (updA (updA ((fun _ => .dead)) 2 (.ptr 3 0 1 0 0)) 3 (.ptr 4 0 1 0 0)) 15 (.d (.v (.bool v3))), lks [.no, .no, .no, .live [⟨30, 2, .av [[.d (.v (.int .i64 p0.Worm)), .d (.sl (List.map cI p0.Circles))]]⟩], .live [⟨27, 3, .av [[.d (.v (.int .i64 p1.Turns)), .d (.v (.int .i64 p1.Holes)), .d (.v (.int .i64 p1.Circle))]]⟩]]⟩ ?_ ?_
  refine sr [0,1,2,3,4,5,6,7,8,9,10] ?_
  refine rl rfl w0 rfl (bx_ldN tok rfl rfl rfl rfl) ?_
  obtain ⟨v1, hv1, h1⟩ := bnd h1
  refine rs rfl w0 rfl (c_call 5 (s_l24Ok_c hv1) rfl rfl rfl) ?_
  refine rp rfl w0 rfl (pu_not rfl) ?_
  refine pm ?_
  refine ra_ifB (u := 8) h1 rfl (fun hc h1 => ?_) (fun hc h1 => ?_)
  iterate 6 refine k1 ?_
  refine pkt ?_
  refine nx ?_
  cases h1
  exact wk [0, 1, 2, 3, 4]
  refine fa1 tok ?_
  refine ld1 tok ?_
  refine fa1 tok ?_
  refine ld1 tok ?_
  obtain ⟨v2, hv2, h1⟩ := bnd h1
  refine rs rfl (w1 rfl rfl rfl) rfl (c_call 5 (s_l00Has_c hv2) rfl rfl rfl) ?_
  refine rp rfl (w1 rfl rfl rfl) rfl (pu_not rfl) ?_
  refine pkf ?_
  refine nx ?_
  cases h1
  exact wk [0, 1, 2, 3, 4]
  refine aw_ifB h0 rfl (fun hc h0 => ?_) (fun hc h0 => ?_)
  refine sq [0] ?_
  refine pa ?_
  refine nx ?_
  refine aw_ret ?_
  refine then_r ?_
  cases h0
  exact ret0_ (rs := [.tmp 4]) rfl
  refine sk ?_
  refine aw_seq ?_
  refine aw_region_draw (is := [0, 1, 2, 3, 4, 5, 6, 7, 8, 9, 10, 11, 12, 13, 14, 16, 17, 18, 19, 20, 15, 21, 22, 23]) [0, 1, 0, 4, 15, 31, 63, 127, 63, 319, 831, 2047, 4095, 8191, 16383, 32767, 16383, 81919, 16383, 278527, 999423, 2097151, 4194303, 8388607] follows (by kernel_rfl) ?_
  refine rt_lk rfl w0 rfl (bx_fa tok rfl rfl rfl rfl rfl rfl rfl) rfl rfl rfl ?_
  refine rt_lk rfl w0 rfl (bx_ld1 tok rfl rfl rfl rfl rfl) rfl rfl rfl ?_
  refine rt_lk rfl w0 rfl (bx_fa tok rfl rfl rfl rfl rfl rfl rfl) rfl rfl rfl ?_
  refine rt_lk rfl w0 rfl (bx_ld1 tok rfl rfl rfl rfl rfl) rfl rfl rfl ?_
  obtain ⟨v4, hv4, h0⟩ := bnd h0
  refine rt_c rfl w0 rfl (b_call 5 (s_l00In_c hv4) rfl rfl rfl) ?_
  refine tpm ?_
  refine rt_ifB (u := 21) h0 rfl (fun hc h0 => ?_) (fun hc h0 => ?_)
  refine rt_lk rfl (w1 rfl rfl rfl) rfl (bx_fa tok rfl rfl rfl rfl rfl rfl rfl) rfl rfl rfl ?_
  refine rt_lk rfl (w1 rfl rfl rfl) rfl (bx_ld1 tok rfl rfl rfl rfl rfl) rfl rfl rfl ?_
  refine rt_lk rfl (w1 rfl rfl rfl) rfl (bx_fa tok rfl rfl rfl rfl rfl rfl rfl) rfl rfl rfl ?_
  refine rt_lk rfl (w1 rfl rfl rfl) rfl (bx_ld1 tok rfl rfl rfl rfl rfl) rfl rfl rfl ?_
  refine rt_p rfl (w1 rfl rfl rfl) rfl (pw_sub rfl rfl) ?_
  obtain ⟨v5, hv5, h0⟩ := bnd h0
  refine rt_c rfl (w1 rfl rfl rfl) rfl (b_call 5 (s_l00In_c hv5) rfl rfl rfl) ?_
  refine tpkt ?_
  refine tpm ?_
  refine rt_ifB (u := 29) h0 rfl (fun hc h0 => ?_) (fun hc h0 => ?_)
  refine rt_lk rfl (w1 rfl rfl rfl) rfl (bx_ldN tok rfl rfl rfl rfl) rfl rfl rfl ?_
  refine rt_lk rfl (w1 rfl rfl rfl) rfl (bx_fa tok rfl rfl rfl rfl rfl rfl rfl) rfl rfl rfl ?_
  refine rt_lk rfl (w1 rfl rfl rfl) rfl (bx_ld1 tok rfl rfl rfl rfl rfl) rfl rfl rfl ?_
  refine rt_lk rfl (w1 rfl rfl rfl) rfl (bx_fa tok rfl rfl rfl rfl rfl rfl rfl) rfl rfl rfl ?_
  refine rt_lk rfl (w1 rfl rfl rfl) rfl (bx_ld1 tok rfl rfl rfl rfl rfl) rfl rfl rfl ?_
  refine rt_p rfl (w1 rfl rfl rfl) rfl (pw_mul rfl rfl) ?_
  obtain ⟨v6, hv6, h0⟩ := bnd h0
  refine rt_c rfl (w1 rfl rfl rfl) rfl (b_call 5 (s_l24Step_c hv6) rfl rfl rfl) ?_
  obtain ⟨v7, hv7, h0⟩ := bnd h0
  refine rt_c rfl (w1 rfl rfl rfl) rfl (b_call 5 (s_l00In_c hv7) rfl rfl rfl) ?_
  refine tpkt ?_
  refine tpa ?_
  refine rt_nil ?_
  refine ⟨by kernel_rfl, ?_⟩
  refine then_n ?_
  refine aw_ret ?_
  cases h0
  exact ret0_ (rs := [.tmp 4]) rfl
  iterate 8 refine k2 ?_
  refine tpkf ?_
  refine tpa ?_
  refine rt_nil ?_
  refine ⟨by kernel_rfl, ?_⟩
  refine then_n ?_
  refine aw_ret ?_
  cases h0
  exact ret0_ (rs := [.tmp 4]) rfl
  iterate 6 refine k2 ?_
  refine tpkf ?_
  refine tpm ?_
  iterate 8 refine k2 ?_
  refine tpkf ?_
  refine tpa ?_
  refine rt_nil ?_
  refine ⟨by kernel_rfl, ?_⟩
  refine then_n ?_
  refine aw_ret ?_
  cases h0
  exact ret0_ (rs := [.tmp 4]) rfl

theorem s_HolesAfter_c {p0 : Divider_} {p1 : Index_} {p2 : Int} {r : Int × Int} (h0 : s_HolesAfter_m p0 p1 p2 = some r) : FnC Tryd.prog 15 [] [.agg [.d (.v (.int .i64 p0.Worm)), .d (.sl (List.map cI p0.Circles))], .agg [.d (.v (.int .i64 p1.Turns)), .d (.v (.int .i64 p1.Holes)), .d (.v (.int .i64 p1.Circle))], .d (.v (.int .i64 p2))] [] (.tup [.d (.v (.int .i64 r.1)), .d (.v (.int .i64 r.2))]) := by
  refine fnc_intro (T := tt) (N := 25) tok Tryd.func15 rfl rfl (by kernel_rfl) rfl rfl ?_
  unfold s_HolesAfter_m at h0
  refine sq [0,1,2,3] ?_
  refine rs rfl w0 rfl (st_box 3 (cs := _ :: _) rfl rfl rfl) ?_
  refine rs rfl w0 rfl (st_box 4 (cs := _ :: _) rfl rfl rfl) ?_
  refine pa ?_
  refine pa ?_
  refine nx ?_
  refine aw_seq ?_
  refine sq [0,1,2,3] ?_
  refine rl rfl w0 rfl (bx_ldN tok rfl rfl rfl rfl) ?_
  refine rl rfl w0 rfl (bx_ldN tok rfl rfl rfl rfl) ?_
  obtain ⟨v1, hv1, h0⟩ := bnd h0
  refine rs rfl w0 rfl (c_call 5 (s_l24Index_c hv1) rfl rfl rfl) ?_
  refine rp rfl w0 rfl (pu_not rfl) ?_
  refine nx ?_
  refine aw_ifB h0 rfl (fun hc h0 => ?_) (fun hc h0 => ?_)
  refine sq [0,1] ?_
  refine pa ?_
  refine pa ?_
  refine nx ?_
  refine aw_ret ?_
  refine then_r ?_
  cases h0
  exact ret0_ (rs := [.tmp 6, .tmp 7]) rfl
  refine sk ?_
  refine aw_seq ?_
  refine sq [0,1,2] ?_
  refine pm ?_
  obtain ⟨v2, hv2, h0⟩ := bnd h0
  refine rs rfl w0 rfl (c_call 5 (s_l00In_c hv2) rfl rfl rfl) ?_
  refine rp rfl w0 rfl (pu_not rfl) ?_
  refine nx ?_
  refine aw_ifB h0 rfl (fun hc h0 => ?_) (fun hc h0 => ?_)
  refine sq [0,1] ?_
  refine pa ?_
  refine pa ?_
  refine nx ?_
  refine aw_ret ?_
  refine then_r ?_
  cases h0
  exact ret0_ (rs := [.tmp 6, .tmp 7]) rfl
  refine sk ?_
  refine aw_seq ?_
  refine aw_region_draw (is := [0, 1, 4, 5, 6, 7, 8, 2, 3, 9, 10, 11]) [0, 0, 2, 7, 0, 16, 0, 64, 240, 511, 1023, 2047] follows (by kernel_rfl) ?_
  refine tpm ?_
  refine rt_lk rfl w0 rfl (bx_ldN tok rfl rfl rfl rfl) rfl rfl rfl ?_
  refine rt_lk rfl w0 rfl (bx_fa tok rfl rfl rfl rfl rfl rfl rfl) rfl rfl rfl ?_
  refine rt_lk rfl w0 rfl (bx_ld1 tok rfl rfl rfl rfl rfl) rfl rfl rfl ?_
  refine rt_lk rfl w0 rfl (bx_fa tok rfl rfl rfl rfl rfl rfl rfl) rfl rfl rfl ?_
  refine rt_lk rfl w0 rfl (bx_ld1 tok rfl rfl rfl rfl rfl) rfl rfl rfl ?_
  refine rt_p rfl w0 rfl (pw_mul rfl rfl) ?_
  obtain ⟨v3, hv3, h0⟩ := bnd h0
  refine rt_c rfl w0 rfl (b_call 5 (s_l24Step_c hv3) rfl rfl rfl) ?_
  refine rt_p rfl w0 rfl (pw_mul rfl rfl) ?_
  obtain ⟨hq4, h0⟩ := chk_e h0
  refine rt_p rfl w0 rfl (pu_remw rfl rfl hq4) ?_
  refine tpa ?_
  refine tpa ?_
  refine rt_nil ?_
  refine ⟨by kernel_rfl, ?_⟩
  refine then_n ?_
  refine aw_ret ?_
  cases h0
  exact ret0_ (rs := [.tmp 6, .tmp 7]) rfl

theorem i_gcd_c {p0 : Int} {p1 : Int} {r : Int} (h0 : i_gcd_m p0 p1 = some r) : FnC Tryd.prog 53 [] [.d (.v (.int .i64 p0)), .d (.v (.int .i64 p1))] [] (.d (.v (.int .i64 r))) := by
  refine fnc_intro (T := tt) (N := 16) tok Tryd.func53 rfl rfl (by kernel_rfl) rfl rfl ?_
  unfold i_gcd_m at h0
  refine sq [0] ?_
  refine pa ?_
  refine nx ?_
  obtain ⟨v5, h1, h0⟩ := bnd h0
  refine aw_cut ⟨updA ((fun _ => .dead)) 0 (.d (.v (.int .i64 v5))), lks [.no, .no, .no]⟩ ?_ ?_
  refine aw_block ?_
  refine aw_loopM (fun s3 => ⟨updA (updA ((fun _ => .dead)) 0 (.d (.v (.int .i64 s3.1)))) 1 (.d (.v (.int .i64 s3.2))), lks [.no, .no, .no]⟩) h1 ?_ (fun s3 y h2 => ?_)
  exact wk [0, 1, 2]
  refine aw_seq ?_
  refine sq [0,1] ?_
  refine pm ?_
  refine rp rfl w0 rfl (pu_neq rfl rfl) ?_
  refine nx ?_
  refine aw_if h2 rfl (fun hc h2 => ?_) (fun hc h2 => ?_)
  refine sk ?_
  refine aw_block ?_
  refine aw_region_draw (is := [0, 1, 2, 3, 4, 5]) [0, 0, 0, 6, 3, 31] follows (by kernel_rfl) ?_
  iterate 3 refine tpm ?_
  obtain ⟨hq4, h2⟩ := chk_e h2
  refine rt_p rfl w0 rfl (pu_remw rfl rfl hq4) ?_
  refine tpa ?_
  refine tpa ?_
  refine rt_nil ?_
  refine ⟨by kernel_rfl, ?_⟩
  refine block_n ?_
  refine loop_n ?_
  cases h2
  refine ⟨_, rfl, ?_⟩
  exact wk [0, 1, 2]
  refine aw_exit ?_
  refine then_e ?_
  cases h2
  refine loop_x ⟨_, rfl, fun e => ?_⟩
  subst e
  refine block_hit ?_
  refine then_n ?_
  exact wk [0, 1, 2]
  refine aw_seq ?_
  refine sq [0,1] ?_
  refine pm ?_
  refine rp rfl w0 rfl (pu_lss rfl rfl) ?_
  refine nx ?_
  refine aw_if h0 rfl (fun hc h0 => ?_) (fun hc h0 => ?_)
  refine sq [0,1,2] ?_
  refine pm ?_
  refine rp rfl w0 rfl (pw_neg rfl) ?_
  refine pa ?_
  refine nx ?_
  refine aw_ret ?_
  refine then_r ?_
  cases h0
  exact ret0_ (rs := [.tmp 4]) rfl
  refine sk ?_
  refine sq [0,1] ?_
  refine pm ?_
  refine pa ?_
  refine nx ?_
  refine aw_ret ?_
  cases h0
  exact ret0_ (rs := [.tmp 4]) rfl

theorem i_ClosesAfter_c {p0 : Divider_} {p1 : Index_} {r : Int × Int} (h0 : i_ClosesAfter_m p0 p1 = some r) : FnC Tryd.prog 16 [] [.agg [.d (.v (.int .i64 p0.Worm)), .d (.sl (List.map cI p0.Circles))], .agg [.d (.v (.int .i64 p1.Turns)), .d (.v (.int .i64 p1.Holes)), .d (.v (.int .i64 p1.Circle))]] [] (.tup [.d (.v (.int .i64 r.1)), .d (.v (.int .i64 r.2))]) := by
  refine fnc_intro (T := tt) (N := 22) tok Tryd.func16 rfl rfl (by kernel_rfl) rfl rfl ?_
  unfold i_ClosesAfter_m at h0
  refine sq [0,1,2,3] ?_
  refine rs rfl w0 rfl (st_box 3 (cs := _ :: _) rfl rfl rfl) ?_
  refine rs rfl w0 rfl (st_box 4 (cs := _ :: _) rfl rfl rfl) ?_
  refine pa ?_
  refine pa ?_
  refine nx ?_
  refine aw_seq ?_
  refine sq [0,1,2,3] ?_
  refine rl rfl w0 rfl (bx_ldN tok rfl rfl rfl rfl) ?_
  refine rl rfl w0 rfl (bx_ldN tok rfl rfl rfl rfl) ?_
  obtain ⟨v1, hv1, h0⟩ := bnd h0
  refine rs rfl w0 rfl (c_call 5 (i_ValidIndex_c hv1) rfl rfl rfl) ?_
  refine rp rfl w0 rfl (pu_not rfl) ?_
  refine nx ?_
  refine aw_ifB h0 rfl (fun hc h0 => ?_) (fun hc h0 => ?_)
  refine sq [0,1] ?_
  refine pa ?_
  refine pa ?_
  refine nx ?_
  refine aw_ret ?_
  refine then_r ?_
  cases h0
  exact ret0_ (rs := [.tmp 4, .tmp 5]) rfl
  refine sk ?_
  refine sq [0,1,2,3,4,5] ?_
  refine fa tok ?_
  refine ld tok ?_
  refine fa tok ?_
  refine ld tok ?_
  refine rp rfl w0 rfl (pw_mul rfl rfl) ?_
  refine pa ?_
  refine nx ?_
  refine sq [0,1,2,3,4,5,6,7] ?_
  refine pm ?_
  refine pm ?_
  refine rl rfl w0 rfl (bx_ldN tok rfl rfl rfl rfl) ?_
  obtain ⟨v2, hv2, h0⟩ := bnd h0
  refine rs rfl w0 rfl (c_call 5 (i_stepOf_c hv2) rfl rfl rfl) ?_
  obtain ⟨v3, hv3, h0⟩ := bnd h0
  refine rs rfl w0 rfl (c_call 5 (i_gcd_c hv3) rfl rfl rfl) ?_
  obtain ⟨hq4, h0⟩ := chk_e h0
  refine rp rfl w0 rfl (pw_quo rfl rfl hq4) ?_
  refine pa ?_
  refine pa ?_
  refine nx ?_
  refine aw_ret ?_
  cases h0
  exact ret0_ (rs := [.tmp 4, .tmp 5]) rfl

theorem s_l02Gcd_c {p0 : Int} {p1 : Int} {r : Int} (h0 : s_l02Gcd_m p0 p1 = some r) : FnC Tryd.prog 54 [] [.d (.v (.int .i64 p0)), .d (.v (.int .i64 p1))] [] (.d (.v (.int .i64 r))) := by
  refine fnc_intro (T := tt) (N := 14) tok Tryd.func54 rfl rfl (by kernel_rfl) rfl rfl ?_
  unfold s_l02Gcd_m at h0
  refine sq [0] ?_
  refine pa ?_
  refine nx ?_
  obtain ⟨v5, h1, h0⟩ := bnd h0
  refine aw_cut ⟨updA ((fun _ => .dead)) 0 (.d (.v (.int .i64 v5))), lks [.no, .no, .no]⟩ ?_ ?_
  refine aw_block ?_
  refine aw_loopM (fun s3 => ⟨updA (updA ((fun _ => .dead)) 0 (.d (.v (.int .i64 s3.1)))) 1 (.d (.v (.int .i64 s3.2))), lks [.no, .no, .no]⟩) h1 ?_ (fun s3 y h2 => ?_)
  exact wk [0, 1, 2]
  refine aw_seq ?_
  refine sq [0,1] ?_
  refine pm ?_
  refine rp rfl w0 rfl (pu_gtr rfl rfl) ?_
  refine nx ?_
  refine aw_if h2 rfl (fun hc h2 => ?_) (fun hc h2 => ?_)
  refine sk ?_
  refine aw_block ?_
  refine sq [0,1,2,3] ?_
  refine pm ?_
  refine pm ?_
  obtain ⟨hq4, h2⟩ := chk_e h2
  refine rp rfl w0 rfl (pu_remw rfl rfl hq4) ?_
  refine pa ?_
  refine nx ?_
  refine sq [0,1] ?_
  refine pm ?_
  refine pa ?_
  refine nx ?_
  refine sr [0,1] ?_
  refine pm ?_
  refine pa ?_
  refine ra_nil ?_
  refine block_n ?_
  refine loop_n ?_
  cases h2
  refine ⟨_, rfl, ?_⟩
  exact wk [0, 1, 2]
  refine aw_exit ?_
  refine then_e ?_
  cases h2
  refine loop_x ⟨_, rfl, fun e => ?_⟩
  subst e
  refine block_hit ?_
  refine then_n ?_
  exact wk [0, 1, 2]
  refine sq [0,1] ?_
  refine pm ?_
  refine pa ?_
  refine nx ?_
  refine aw_ret ?_
  cases h0
  exact ret0_ (rs := [.tmp 4]) rfl

theorem s_ClosesAfter_c {p0 : Divider_} {p1 : Index_} {r : Int × Int} (h0 : s_ClosesAfter_m p0 p1 = some r) : FnC Tryd.prog 17 [] [.agg [.d (.v (.int .i64 p0.Worm)), .d (.sl (List.map cI p0.Circles))], .agg [.d (.v (.int .i64 p1.Turns)), .d (.v (.int .i64 p1.Holes)), .d (.v (.int .i64 p1.Circle))]] [] (.tup [.d (.v (.int .i64 r.1)), .d (.v (.int .i64 r.2))]) := by
  refine fnc_intro (T := tt) (N := 22) tok Tryd.func17 rfl rfl (by kernel_rfl) rfl rfl ?_
  unfold s_ClosesAfter_m at h0
  refine sq [0,1,2,3] ?_
  refine rs rfl w0 rfl (st_box 3 (cs := _ :: _) rfl rfl rfl) ?_
  refine rs rfl w0 rfl (st_box 4 (cs := _ :: _) rfl rfl rfl) ?_
  refine pa ?_
  refine pa ?_
  refine nx ?_
  refine aw_seq ?_
  refine sq [0,1,2,3] ?_
  refine rl rfl w0 rfl (bx_ldN tok rfl rfl rfl rfl) ?_
  refine rl rfl w0 rfl (bx_ldN tok rfl rfl rfl rfl) ?_
  obtain ⟨v1, hv1, h0⟩ := bnd h0
  refine rs rfl w0 rfl (c_call 5 (s_l24Index_c hv1) rfl rfl rfl) ?_
  refine rp rfl w0 rfl (pu_not rfl) ?_
  refine nx ?_
  refine aw_ifB h0 rfl (fun hc h0 => ?_) (fun hc h0 => ?_)
  refine sq [0,1] ?_
  refine pa ?_
  refine pa ?_
  refine nx ?_
  refine aw_ret ?_
  refine then_r ?_
  cases h0
  exact ret0_ (rs := [.tmp 4, .tmp 5]) rfl
  refine sk ?_
  refine sq [0,1,2,3,4,5] ?_
  refine fa tok ?_
  refine ld tok ?_
  refine fa tok ?_
  refine ld tok ?_
  refine rp rfl w0 rfl (pw_mul rfl rfl) ?_
  refine pa ?_
  refine nx ?_
  refine sq [0,1,2,3,4,5,6,7] ?_
  refine pm ?_
  refine pm ?_
  refine rl rfl w0 rfl (bx_ldN tok rfl rfl rfl rfl) ?_
  obtain ⟨v2, hv2, h0⟩ := bnd h0
  refine rs rfl w0 rfl (c_call 5 (s_l24Step_c hv2) rfl rfl rfl) ?_
  obtain ⟨v3, hv3, h0⟩ := bnd h0
  refine rs rfl w0 rfl (c_call 5 (s_l02Gcd_c hv3) rfl rfl rfl) ?_
  obtain ⟨hq4, h0⟩ := chk_e h0
  refine rp rfl w0 rfl (pw_quo rfl rfl hq4) ?_
  refine pa ?_
  refine pa ?_
  refine nx ?_
  refine aw_ret ?_
  cases h0
  exact ret0_ (rs := [.tmp 4, .tmp 5]) rfl

theorem s_l01Dec_c {p0 : Int} {r : ByteArray} (h0 : s_l01Dec_m p0 = some r) : FnC Tryd.prog 73 [] [.d (.v (.int .i64 p0))] [] (.d (.v (.string r))) := by
  refine fnc_intro (T := tt) (N := 34) tok Tryd.func73 rfl rfl (by kernel_rfl) rfl rfl ?_
  unfold s_l01Dec_m at h0
  refine sq [0] ?_
  refine pa ?_
  refine nx ?_
  refine sq [0,1] ?_
  refine rs rfl w0 rfl (st_slice0 3 tok rfl rfl rfl rfl) ?_
  refine rp rfl w0 rfl (pu_assign (r := .own _ _ _) rfl) ?_
  refine nx ?_
  obtain ⟨v11, h1, h0⟩ := bnd h0
  refine aw_cut ⟨updA (updA ((fun _ => .dead)) 0 (.d (.v (.int .i64 p0)))) 3 (.own 3 0 (v11).length), lks [.no, .no, .no, .live [⟨5, 1, .data (List.map cU8 v11)⟩]]⟩ ?_ ?_
  refine sq [0,1] ?_
  refine pm ?_
  refine pa ?_
  refine nx ?_
  refine aw_block ?_
  refine aw_loopM (fun s6 => ⟨updA (updA (updA ((fun _ => .dead)) 0 (.d (.v (.int .i64 p0)))) 3 (.own 3 0 (s6.2).length)) 4 (.d (.v (.int .i64 s6.1))), lks [.no, .no, .no, .live [⟨5, 1, .data (List.map cU8 s6.2)⟩]]⟩) h1 ?_ (fun s6 y h2 => ?_)
  exact wk [0, 1, 2, 3]
  refine aw_seq ?_
  refine sq [0,1] ?_
  refine pm ?_
  refine rp rfl w0 rfl (pu_neq rfl rfl) ?_
  refine nx ?_
  refine aw_if h2 rfl (fun hc h2 => ?_) (fun hc h2 => ?_)
  refine sk ?_
  refine aw_seq ?_
  refine aw_block ?_
  refine sq [0,1,2] ?_
  refine pm ?_
  refine rp rfl w0 rfl (pu_remw rfl rfl (by decide)) ?_
  refine pa ?_
  refine nx ?_
  obtain ⟨v8, h3, h2⟩ := bnd h2
  refine aw_cut ⟨updA (updA (updA (updA ((fun _ => .dead)) 0 (.d (.v (.int .i64 p0)))) 3 (.own 3 0 (s6.2).length)) 4 (.d (.v (.int .i64 s6.1)))) 5 (.d (.v (.int .i64 v8))), lks [.no, .no, .no, .live [⟨5, 1, .data (List.map cU8 s6.2)⟩]]⟩ ?_ ?_
  refine sq [0,1] ?_
  refine pm ?_
  refine rp rfl w0 rfl (pu_lss rfl rfl) ?_
  refine nx ?_
  refine aw_if h3 rfl (fun hc h3 => ?_) (fun hc h3 => ?_)
  refine sr [0,1,2] ?_
  refine pm ?_
  refine rp rfl w0 rfl (pw_neg rfl) ?_
  refine pa ?_
  refine nx ?_
  cases h3
  exact wk [0, 1, 2, 3]
  refine sk ?_
  cases h3
  exact wk [0, 1, 2, 3]
  refine sr [0,1,2,3,4,5,6] ?_
  refine pm ?_
  refine rp rfl w0 rfl (pw_add rfl rfl) ?_
  refine rp rfl w0 rfl (pu_ii tok rfl rfl rfl rfl rfl) ?_
  refine rs rfl w0 rfl (bs_own 4 tok cU8 [IntKind.u8.wrap (w64 (48 + v8))] rfl rfl rfl (by repeat (first | exact Els.nil _ | apply Els.cons (cs := [.d _]) rfl rfl rfl | apply Els.cons (cs := _ :: _) rfl rfl rfl)) rfl rfl rfl (by repeat (first | exact AllDD.nil | (apply AllDD.cons; (repeat (first | exact AllD.nil | apply AllD.cons))))) rfl rfl) ?_
  refine rp rfl w0 rfl (pu_move (r := .own _ _ _) rfl) ?_
  obtain ⟨hq9, h2⟩ := chk_e h2
  refine rw1 rfl w0 rfl (ap_oo tok hq9 rfl rfl rfl rfl rfl rfl rfl rfl rfl rfl rfl rfl rfl rfl rfl) ?_
  refine rp rfl w0 rfl (pu_assign (r := .own _ _ _) rfl) ?_
  refine ra_nil ?_
  refine block_n ?_
  refine then_n ?_
  refine sr [0,1,2] ?_
  refine pm ?_
  refine rp rfl w0 rfl (pw_quo rfl rfl (by decide)) ?_
  refine pa ?_
  refine ra_nil ?_
  refine loop_n ?_
  cases h2
  refine ⟨_, rfl, ?_⟩
  exact wk [0, 1, 2, 4]
  refine aw_exit ?_
  refine then_e ?_
  cases h2
  refine loop_x ⟨_, rfl, fun e => ?_⟩
  subst e
  refine block_hit ?_
  refine then_n ?_
  exact wk [0, 1, 2, 3]
  refine aw_seq ?_
  refine sq [0,1,2] ?_
  refine rp rfl w0 rfl (pu_move (r := .own _ _ _) rfl) ?_
  refine rl rfl w0 rfl (ow_len tok rfl rfl rfl rfl rfl) ?_
  refine rp rfl w0 rfl (pu_eql rfl rfl) ?_
  refine nx ?_
  refine aw_if h0 rfl (fun hc h0 => ?_) (fun hc h0 => ?_)
  refine sq [0] ?_
  refine pa ?_
  refine nx ?_
  refine aw_ret ?_
  refine then_r ?_
  cases h0
  exact ret0_ (rs := [.tmp 2]) rfl
  refine sk ?_
  refine aw_seq ?_
  refine sq [0,1] ?_
  refine pm ?_
  refine rp rfl w0 rfl (pu_lss rfl rfl) ?_
  refine nx ?_
  refine aw_if h0 rfl (fun hc h0 => ?_) (fun hc h0 => ?_)
  refine sq [0,1,2,3] ?_
  refine rp rfl w0 rfl (pu_move (r := .own _ _ _) rfl) ?_
  refine rs rfl w0 rfl (cv_bo tok rfl rfl rfl rfl rfl rfl rfl rfl rfl rfl) ?_
  obtain ⟨hq12, h0⟩ := chk_e h0
  refine rp rfl w0 rfl (pu_cat rfl rfl hq12) ?_
  refine pa ?_
  refine nx ?_
  refine aw_ret ?_
  refine then_r ?_
  cases h0
  exact ret0_ (rs := [.tmp 2]) rfl
  refine sk ?_
  refine sq [0,1,2] ?_
  refine rp rfl w0 rfl (pu_move (r := .own _ _ _) rfl) ?_
  refine rs rfl w0 rfl (cv_bo tok rfl rfl rfl rfl rfl rfl rfl rfl rfl rfl) ?_
  refine pa ?_
  refine nx ?_
  refine aw_ret ?_
  cases h0
  exact ret0_ (rs := [.tmp 2]) rfl

theorem s_l24Text_c {p0 : Index_} {r : ByteArray} (h0 : s_l24Text_m p0 = some r) : FnC Tryd.prog 56 [] [.agg [.d (.v (.int .i64 p0.Turns)), .d (.v (.int .i64 p0.Holes)), .d (.v (.int .i64 p0.Circle))]] [] (.d (.v (.string r))) := by
  refine fnc_intro (T := tt) (N := 16) tok Tryd.func56 rfl rfl (by kernel_rfl) rfl rfl ?_
  unfold s_l24Text_m at h0
  refine sq [0,1] ?_
  refine rs rfl w0 rfl (st_box 3 (cs := _ :: _) rfl rfl rfl) ?_
  refine pa ?_
  refine nx ?_
  refine aw_seq ?_
  refine aw_region_draw (is := [0, 1, 4, 5, 9, 10, 2, 3, 6, 7, 8, 11, 12, 13]) [0, 1, 3, 7, 0, 16, 55, 127, 255, 0, 512, 1655, 4095, 8191] follows (by kernel_rfl) ?_
  refine rt_lk rfl w0 rfl (bx_fa tok rfl rfl rfl rfl rfl rfl rfl) rfl rfl rfl ?_
  refine rt_lk rfl w0 rfl (bx_ld1 tok rfl rfl rfl rfl rfl) rfl rfl rfl ?_
  refine rt_lk rfl w0 rfl (bx_fa tok rfl rfl rfl rfl rfl rfl rfl) rfl rfl rfl ?_
  refine rt_lk rfl w0 rfl (bx_ld1 tok rfl rfl rfl rfl rfl) rfl rfl rfl ?_
  refine rt_lk rfl w0 rfl (bx_fa tok rfl rfl rfl rfl rfl rfl rfl) rfl rfl rfl ?_
  refine rt_lk rfl w0 rfl (bx_ld1 tok rfl rfl rfl rfl rfl) rfl rfl rfl ?_
  obtain ⟨v1, hv1, h0⟩ := bnd h0
  refine rt_c rfl w0 rfl (b_call 4 (s_l01Dec_c hv1) rfl rfl rfl) ?_
  obtain ⟨hq2, h0⟩ := chk_e h0
  refine rt_p rfl w0 rfl (pu_cat rfl rfl hq2) ?_
  obtain ⟨v3, hv3, h0⟩ := bnd h0
  refine rt_c rfl w0 rfl (b_call 4 (s_l01Dec_c hv3) rfl rfl rfl) ?_
  obtain ⟨hq4, h0⟩ := chk_e h0
  refine rt_p rfl w0 rfl (pu_cat rfl rfl hq4) ?_
  obtain ⟨hq5, h0⟩ := chk_e h0
  refine rt_p rfl w0 rfl (pu_cat rfl rfl hq5) ?_
  obtain ⟨v6, hv6, h0⟩ := bnd h0
  refine rt_c rfl w0 rfl (b_call 4 (s_l01Dec_c hv6) rfl rfl rfl) ?_
  obtain ⟨hq7, h0⟩ := chk_e h0
  refine rt_p rfl w0 rfl (pu_cat rfl rfl hq7) ?_
  refine tpa ?_
  refine rt_nil ?_
  refine ⟨by kernel_rfl, ?_⟩
  refine then_n ?_
  refine aw_ret ?_
  cases h0
  exact ret0_ (rs := [.tmp 2]) rfl

theorem l00Src_text_b_c {p0 : L00Src_} {p1 : List ByteArray} {r : ByteArray × L00Src_} (h0 : l00Src_text_b_m p0 p1 = some r) : FnC Tryd.prog 81 [.live [⟨98, 3, .av [[.d (.sl (List.map cU8 p0.code)), .d (.v (.int .i64 p0.at_)), .d (.v (.int .u64 p0.seed))]]⟩]] [.ptr 0 0 1 0 0, .d (.sl (List.map cS p1))] [.live [⟨98, 3, .av [[.d (.sl (List.map cU8 r.2.code)), .d (.v (.int .i64 r.2.at_)), .d (.v (.int .u64 r.2.seed))]]⟩]] (.d (.v (.string r.1))) := by
  refine fnc_intro (T := tt) (N := 12) tok Tryd.func81 rfl rfl (by kernel_rfl) rfl rfl ?_
  unfold l00Src_text_b_m at h0
  refine sq [0] ?_
  refine pa ?_
  refine nx ?_
  refine sq [0,1,2,3,4,5,6,7] ?_
  refine pm ?_
  refine rp rfl w0 rfl (pu_move (r := .ptr _ _ _ _ _) rfl) ?_
  refine pm ?_
  refine rp rfl w0 rfl (pu_len_map tok rfl rfl rfl) ?_
  obtain ⟨v1, hv1, h0⟩ := bnd h0
  refine rw1 rfl w0 rfl (c_callP [0] 300 (l00Src_pick_b_c hv1) rfl rfl) ?_
  obtain ⟨v2, hv2, h0⟩ := bnd h0
  refine rp rfl w0 rfl (sl_ix tok hv2 rfl rfl rfl rfl rfl rfl) ?_
  refine lr tok ?_
  refine pa ?_
  refine nx ?_
  refine aw_ret ?_
  cases h0
  exact retP_ (rs := [.tmp 4]) 1 rfl rfl

theorem s_l01Spoil_b_c {p0 : L00Src_} {p1 : ByteArray} {r : ByteArray × L00Src_} (h0 : s_l01Spoil_b_m p0 p1 = some r) : FnC Tryd.prog 55 [.live [⟨98, 3, .av [[.d (.sl (List.map cU8 p0.code)), .d (.v (.int .i64 p0.at_)), .d (.v (.int .u64 p0.seed))]]⟩]] [.ptr 0 0 1 0 0, .d (.v (.string p1))] [.live [⟨98, 3, .av [[.d (.sl (List.map cU8 r.2.code)), .d (.v (.int .i64 r.2.at_)), .d (.v (.int .u64 r.2.seed))]]⟩]] (.d (.v (.string r.1))) := by
  refine fnc_intro (T := tt) (N := 44) tok Tryd.func55 rfl rfl (by kernel_rfl) rfl rfl ?_
  unfold s_l01Spoil_b_m at h0
  refine sq [0] ?_
  refine pa ?_
  refine nx ?_
  obtain ⟨v12, h1, h0⟩ := bnd h0
  refine aw_cut ⟨updA ((fun _ => .dead)) 1 (.d (.v (.string v12.1))), lks [.live [⟨98, 3, .av [[.d (.sl (List.map cU8 v12.2.code)), .d (.v (.int .i64 v12.2.at_)), .d (.v (.int .u64 v12.2.seed))]]⟩], .no, .no]⟩ ?_ ?_
  refine sq [0,1] ?_
  refine rp rfl w0 rfl (pu_move (r := .ptr _ _ _ _ _) rfl) ?_
  obtain ⟨v1, hv1, h1⟩ := bnd h1
  refine rw1 rfl w0 rfl (c_callP [0] 300 (l00Src_pick_b_c hv1) rfl rfl) ?_
  refine nx ?_
  refine aw_block ?_
  refine sq [0,1] ?_
  refine rp rfl w0 rfl (pu_eql rfl rfl) ?_
  refine pa ?_
  refine nx ?_
  refine aw_if h1 rfl (fun hc h1 => ?_) (fun hc h1 => ?_)
  refine sq [0,1,2,3,4,5] ?_
  refine rp rfl w0 rfl (pu_move (r := .ptr _ _ _ _ _) rfl) ?_
  refine pm ?_
  refine rp rfl w0 rfl (pu_len_str tok rfl rfl rfl) ?_
  refine rp rfl w0 rfl (pw_add rfl rfl) ?_
  obtain ⟨v2, hv2, h1⟩ := bnd h1
  refine rw1 rfl w0 rfl (c_callP [0] 300 (l00Src_pick_b_c hv2) rfl rfl) ?_
  refine pa ?_
  refine nx ?_
  refine aw_region_draw (is := [0, 1, 2, 3, 7, 8, 9, 4, 5, 6, 10, 11]) [0, 0, 3, 0, 0, 24, 63, 0, 0, 384, 1023, 2047] follows (by kernel_rfl) ?_
  refine tpm ?_
  refine tpm ?_
  obtain ⟨hq3, h1⟩ := chk_e h1
  refine rt_p rfl w0 rfl (pu_ssub tok hq3 rfl (.inl ⟨rfl, rfl⟩) (.inr ⟨_, _, rfl, rfl⟩) rfl rfl) ?_
  refine rt_p rfl w0 rfl (pu_move (r := .ptr _ _ _ _ _) rfl) ?_
  refine tpm ?_
  refine tpm ?_
  obtain ⟨hq4, h1⟩ := chk_e h1
  refine rt_p rfl w0 rfl (pu_ssub tok hq4 rfl (.inr ⟨_, _, rfl, rfl⟩) (.inl ⟨rfl, rfl⟩) rfl rfl) ?_
  refine rt_s rfl w0 rfl (bs_val tok cS [(⟨#[32]⟩ : ByteArray), (⟨#[48]⟩ : ByteArray), (⟨#[45]⟩ : ByteArray), (⟨#[120]⟩ : ByteArray), (⟨#[49]⟩ : ByteArray), (⟨#[57]⟩ : ByteArray), (⟨#[46]⟩ : ByteArray)] rfl rfl rfl (by repeat (first | exact Els.nil _ | apply Els.cons (cs := [.d _]) rfl rfl rfl | apply Els.cons (cs := _ :: _) rfl rfl rfl)) rfl rfl rfl (by repeat (first | exact AllDD.nil | (apply AllDD.cons; (repeat (first | exact AllD.nil | apply AllD.cons))))) rfl) ?_
  obtain ⟨v5, hv5, h1⟩ := bnd h1
  refine rt_wkd rfl w0 rfl (c_callP [0] 300 (l00Src_text_b_c hv5) rfl rfl) ?_
  obtain ⟨hq6, h1⟩ := chk_e h1
  refine rt_p rfl w0 rfl (pu_cat rfl rfl hq6) ?_
  obtain ⟨hq7, h1⟩ := chk_e h1
  refine rt_p rfl w0 rfl (pu_cat rfl rfl hq7) ?_
  refine tpa ?_
  refine rt_nil ?_
  refine ⟨by kernel_rfl, ?_⟩
  refine block_n ?_
  refine then_n ?_
  cases h1
  exact wk [0, 1, 2]
  refine sq [0,1] ?_
  refine rp rfl w0 rfl (pu_eql rfl rfl) ?_
  refine pa ?_
  refine nx ?_
  refine aw_if h1 rfl (fun hc h1 => ?_) (fun hc h1 => ?_)
  refine sq [0,1] ?_
  refine pm ?_
  refine rp rfl w0 rfl (pu_sneq rfl rfl) ?_
  refine nx ?_
  refine aw_if h1 rfl (fun hc h1 => ?_) (fun hc h1 => ?_)
  refine sq [0,1,2,3,4] ?_
  refine rp rfl w0 rfl (pu_move (r := .ptr _ _ _ _ _) rfl) ?_
  refine pm ?_
  refine rp rfl w0 rfl (pu_len_str tok rfl rfl rfl) ?_
  obtain ⟨v8, hv8, h1⟩ := bnd h1
  refine rw1 rfl w0 rfl (c_callP [0] 300 (l00Src_pick_b_c hv8) rfl rfl) ?_
  refine pa ?_
  refine nx ?_
  refine aw_region_draw (is := [0, 1, 2, 3, 4, 5, 6, 7, 8]) [0, 0, 3, 0, 0, 16, 56, 127, 255] follows (by kernel_rfl) ?_
  refine tpm ?_
  refine tpm ?_
  obtain ⟨hq9, h1⟩ := chk_e h1
  refine rt_p rfl w0 rfl (pu_ssub tok hq9 rfl (.inl ⟨rfl, rfl⟩) (.inr ⟨_, _, rfl, rfl⟩) rfl rfl) ?_
  refine tpm ?_
  refine tpm ?_
  refine rt_p rfl w0 rfl (pw_add rfl rfl) ?_
  obtain ⟨hq10, h1⟩ := chk_e h1
  refine rt_p rfl w0 rfl (pu_ssub tok hq10 rfl (.inr ⟨_, _, rfl, rfl⟩) (.inl ⟨rfl, rfl⟩) rfl rfl) ?_
  obtain ⟨hq11, h1⟩ := chk_e h1
  refine rt_p rfl w0 rfl (pu_cat rfl rfl hq11) ?_
  refine tpa ?_
  refine rt_nil ?_
  refine ⟨by kernel_rfl, ?_⟩
  refine block_n ?_
  refine then_n ?_
  cases h1
  exact wk [0, 1, 2]
  refine aw_skip ?_
  refine block_n ?_
  refine then_n ?_
  cases h1
  exact wk [0, 1, 2]
  refine aw_skip ?_
  refine block_n ?_
  refine then_n ?_
  cases h1
  exact wk [0, 1, 2]
  refine sq [0,1] ?_
  refine pm ?_
  refine pa ?_
  refine nx ?_
  refine aw_ret ?_
  cases h0
  exact retP_ (rs := [.tmp 4]) 1 rfl rfl

theorem s_DrawReadIndex_c {p0 : List Int} {r : Divider_ × ByteArray} (h0 : s_DrawReadIndex_m p0 = some r) : FnC Tryd.prog 18 [] [.d (.sl (List.map cU8 p0))] [] (.tup [.agg [.d (.v (.int .i64 r.1.Worm)), .d (.sl (List.map cI r.1.Circles))], .d (.v (.string r.2))]) := by
  refine fnc_intro (T := tt) (N := 19) tok Tryd.func18 rfl rfl (by kernel_rfl) rfl rfl ?_
  unfold s_DrawReadIndex_m at h0
  refine sq [0,1] ?_
  refine rs rfl w0 rfl (st_alloc 3 (cs := [.d (.v (.int .i64 0)), .d (.v (.slice none 0 0))]) tok rfl rfl rfl) ?_
  refine pa ?_
  refine nx ?_
  refine sq [0,1,2] ?_
  refine pm ?_
  obtain ⟨v1, hv1, h0⟩ := bnd h0
  refine rs rfl w0 rfl (c_call 4 (s_l00From_c hv1) rfl rfl rfl) ?_
  refine rp rfl w0 rfl (pu_assign (r := .ptr _ _ _ _ _) rfl) ?_
  refine nx ?_
  refine sq [0,1,2,3] ?_
  refine rp rfl w0 rfl (pu_move (r := .ptr _ _ _ _ _) rfl) ?_
  obtain ⟨v2, hv2, h0⟩ := bnd h0
  refine rw1 rfl w0 rfl (c_callP [4, 5] 300 (fnc_pad 1 (s_l24Bent_b_c hv2)) rfl rfl) ?_
  refine rs rfl w0 rfl (st_alloc 6 (cs := [.d (.v (.int .i64 0)), .d (.v (.slice none 0 0))]) tok rfl rfl rfl) ?_
  refine rw0 rfl w0 (bx_st (cs := _ :: _) tok rfl rfl rfl rfl rfl rfl rfl) ?_
  refine nx ?_
  refine sq [0,1,2,3,4] ?_
  refine rp rfl w0 rfl (pu_move (r := .ptr _ _ _ _ _) rfl) ?_
  refine rl rfl w0 rfl (bx_ldN tok rfl rfl rfl rfl) ?_
  obtain ⟨v3, hv3, h0⟩ := bnd h0
  refine ra_weak (fz_r (k := 5) (t' := updA (updA (updA (updA (updA ((fun _ => .dead)) 2 (.ptr 3 0 1 0 0)) 4 (.ptr 4 0 1 0 0)) 5 (.ptr 6 0 1 0 0)) 11 (.ptr 4 0 1 0 0)) 12 (.agg [.d (.v (.int .i64 v2.1.Worm)), .d (.sl (List.map cI v2.1.Circles))])) rfl (FzL.box (kb := 6) (ds := [.d (.v (.int .i64 v2.1.Worm)), .d (.sl (List.map cI v2.1.Circles))]) rfl rfl (by repeat (first | exact FzRL.nil | apply FzRL.cons | exact FzR.d _ | exact FzR.own rfl (by first | rfl | (simp; done) | (simp; omega)) | exact FzR.ptr rfl (by repeat (first | exact Drp.z _ | apply Drp.d)) | exact FzR.own' | exact FzR.ptr' | exact FzR.ref _ | apply FzR.agg | apply FzR.tup | apply FzR.fn | exact FzR.dead _)) (FzL.nil))) ?_
  refine rw1 rfl w0 rfl (c_callP [4] 300 (s_l24DrawIndex_b_c hv3) rfl rfl) ?_
  refine rs rfl w0 rfl (st_alloc 7 (cs := [.d (.v (.int .i64 0)), .d (.v (.int .i64 0)), .d (.v (.int .i64 0))]) tok rfl rfl rfl) ?_
  refine rw0 rfl w0 (bx_st (cs := _ :: _) tok rfl rfl rfl rfl rfl rfl rfl) ?_
  refine nx ?_
  refine aw_seq ?_
  refine aw_region_draw (is := [0, 1, 2, 3, 4, 5, 6]) [0, 0, 0, 4, 14, 31, 63] follows (by kernel_rfl) ?_
  refine rt_lk rfl w0 rfl (bx_ldN tok rfl rfl rfl rfl) rfl rfl rfl ?_
  refine rt_p rfl w0 rfl (pu_move (r := .ptr _ _ _ _ _) rfl) ?_
  refine rt_lk rfl w0 rfl (bx_ldN tok rfl rfl rfl rfl) rfl rfl rfl ?_
  obtain ⟨v4, hv4, h0⟩ := bnd h0
  refine rt_c rfl w0 rfl (b_call 8 (s_l24Text_c hv4) rfl rfl rfl) ?_
  obtain ⟨v5, hv5, h0⟩ := bnd h0
  refine rt_wkd rfl w0 rfl (c_callP [4] 300 (s_l01Spoil_b_c hv5) rfl rfl) ?_
  refine rt_wk rfl w0 (bx_st (cs := _ :: _) tok rfl rfl rfl rfl rfl rfl rfl) ?_
  refine tpa ?_
  refine rt_nil ?_
  refine ⟨by kernel_rfl, ?_⟩
  refine then_n ?_
  refine aw_ret ?_
  cases h0
  exact ret0_ (rs := [.cell 2 30, .tmp 3]) rfl

theorem internal_stringslite_Index_c {p0 p1 : ByteArray} {r : Int} (h0 : internal_stringslite_Index_m p0 p1 = some r) : FnC Tryd.prog 88 [] [.d (.v (.string p0)), .d (.v (.string p1))] [] (.d (.v (.int .i64 r))) := by
  obtain ⟨q0, h0⟩ := chk_e h0
  cases h0
  obtain ⟨⟨l⟩⟩ := p1
  match l, q0 with
  | [c], _ => exact sh_index

theorem internal_stringslite_Cut_c {p0 : ByteArray} {p1 : ByteArray} {r : ByteArray × ByteArray × Bool} (h0 : internal_stringslite_Cut_m p0 p1 = some r) : FnC Tryd.prog 75 [] [.d (.v (.string p0)), .d (.v (.string p1))] [] (.tup [.d (.v (.string r.1)), .d (.v (.string r.2.1)), .d (.v (.bool r.2.2))]) := by
  refine fnc_intro (T := tt) (N := 23) tok Tryd.func75 rfl rfl (by kernel_rfl) rfl rfl ?_
  unfold internal_stringslite_Cut_m at h0
  refine sq [0,1,2] ?_
  iterate 3 refine pa ?_
  refine nx ?_
  refine aw_seq ?_
  refine sq [0,1,2,3] ?_
  refine pm ?_
  refine pm ?_
  obtain ⟨v1, hv1, h0⟩ := bnd h0
  refine rs rfl w0 rfl (c_call 3 (internal_stringslite_Index_c hv1) rfl rfl rfl) ?_
  refine pa ?_
  refine nx ?_
  refine sq [0,1] ?_
  refine pm ?_
  refine rp rfl w0 rfl (pu_geq rfl rfl) ?_
  refine nx ?_
  refine aw_if h0 rfl (fun hc h0 => ?_) (fun hc h0 => ?_)
  refine aw_seq ?_
  refine aw_region_draw (is := [0, 1, 2, 3, 4, 5, 6, 7, 8, 9, 10, 11]) [0, 0, 3, 0, 0, 0, 32, 112, 248, 7, 1023, 2047] follows (by kernel_rfl) ?_
  refine tpm ?_
  refine tpm ?_
  obtain ⟨hq2, h0⟩ := chk_e h0
  refine rt_p rfl w0 rfl (pu_ssub tok hq2 rfl (.inl ⟨rfl, rfl⟩) (.inr ⟨_, _, rfl, rfl⟩) rfl rfl) ?_
  iterate 3 refine tpm ?_
  refine rt_p rfl w0 rfl (pu_len_str tok rfl rfl rfl) ?_
  refine rt_p rfl w0 rfl (pw_add rfl rfl) ?_
  obtain ⟨hq3, h0⟩ := chk_e h0
  refine rt_p rfl w0 rfl (pu_ssub tok hq3 rfl (.inr ⟨_, _, rfl, rfl⟩) (.inl ⟨rfl, rfl⟩) rfl rfl) ?_
  iterate 3 refine tpa ?_
  refine rt_nil ?_
  refine ⟨by kernel_rfl, ?_⟩
  refine then_n ?_
  refine aw_ret ?_
  refine then_r ?_
  cases h0
  exact ret0_ (rs := [.tmp 4, .tmp 5, .tmp 6]) rfl
  refine sk ?_
  refine sq [0,1,2,3] ?_
  refine pm ?_
  iterate 3 refine pa ?_
  refine nx ?_
  refine aw_ret ?_
  cases h0
  exact ret0_ (rs := [.tmp 4, .tmp 5, .tmp 6]) rfl

theorem strings_Cut_c {p0 : ByteArray} {p1 : ByteArray} {r : ByteArray × ByteArray × Bool} (h0 : strings_Cut_m p0 p1 = some r) : FnC Tryd.prog 40 [] [.d (.v (.string p0)), .d (.v (.string p1))] [] (.tup [.d (.v (.string r.1)), .d (.v (.string r.2.1)), .d (.v (.bool r.2.2))]) := by
  refine fnc_intro (T := tt) (N := 13) tok Tryd.func40 rfl rfl (by kernel_rfl) rfl rfl ?_
  unfold strings_Cut_m at h0
  refine sq [0,1,2] ?_
  iterate 3 refine pa ?_
  refine nx ?_
  refine sq [0,1,2,3,4,5,6,7,8] ?_
  refine pm ?_
  refine pm ?_
  obtain ⟨v1, hv1, h0⟩ := bnd h0
  refine rs rfl w0 rfl (c_call 3 (internal_stringslite_Cut_c hv1) rfl rfl rfl) ?_
  iterate 3 refine rp rfl w0 rfl (pu_extract rfl rfl) ?_
  iterate 3 refine pa ?_
  refine nx ?_
  refine aw_ret ?_
  cases h0
  exact ret0_ (rs := [.tmp 4, .tmp 5, .tmp 6]) rfl

theorem i_ReadDecimal_c {p0 : ByteArray} {r : Int × Bool} (h0 : i_ReadDecimal_m p0 = some r) : FnC Tryd.prog 41 [] [.d (.v (.string p0))] [] (.tup [.d (.v (.int .i64 r.1)), .d (.v (.bool r.2))]) := by
  obtain ⟨q0, h0⟩ := chk_e h0
  cases h0
  exact sh_read q0

theorem strconv_FormatInt_c {p0 p1 : Int} {r : ByteArray} (h0 : strconv_FormatInt_m p0 p1 = some r) : FnC Tryd.prog 82 [] [.d (.v (.int .i64 p0)), .d (.v (.int .i64 p1))] [] (.d (.v (.string r))) := by
  obtain ⟨⟨q0, q1, q2⟩, h0⟩ := chk_e h0
  cases h0
  subst q2
  exact sh_fmt q0 q1

theorem i_Decimal_c {p0 : Int} {r : ByteArray} (h0 : i_Decimal_m p0 = some r) : FnC Tryd.prog 57 [] [.d (.v (.int .i64 p0))] [] (.d (.v (.string r))) := by
  refine fnc_intro (T := tt) (N := 5) tok Tryd.func57 rfl rfl (by kernel_rfl) rfl rfl ?_
  unfold i_Decimal_m at h0
  refine sq [0] ?_
  refine pa ?_
  refine nx ?_
  refine sq [0,1,2] ?_
  refine pm ?_
  obtain ⟨v1, hv1, h0⟩ := bnd h0
  refine rs rfl w0 rfl (c_call 3 (strconv_FormatInt_c hv1) rfl rfl rfl) ?_
  refine pa ?_
  refine nx ?_
  refine aw_ret ?_
  cases h0
  exact ret0_ (rs := [.tmp 2]) rfl

theorem i_IndexText_c {p0 : Divider_} {p1 : Index_} {r : ByteArray} (h0 : i_IndexText_m p0 p1 = some r) : FnC Tryd.prog 19 [] [.agg [.d (.v (.int .i64 p0.Worm)), .d (.sl (List.map cI p0.Circles))], .agg [.d (.v (.int .i64 p1.Turns)), .d (.v (.int .i64 p1.Holes)), .d (.v (.int .i64 p1.Circle))]] [] (.d (.v (.string r))) := by
  refine fnc_intro (T := tt) (N := 22) tok Tryd.func19 rfl rfl (by kernel_rfl) rfl rfl ?_
  unfold i_IndexText_m at h0
  refine sq [0,1,2] ?_
  refine rs rfl w0 rfl (st_box 3 (cs := _ :: _) rfl rfl rfl) ?_
  refine rs rfl w0 rfl (st_box 4 (cs := _ :: _) rfl rfl rfl) ?_
  refine pa ?_
  refine nx ?_
  refine aw_seq ?_
  refine sq [0,1,2,3] ?_
  refine rl rfl w0 rfl (bx_ldN tok rfl rfl rfl rfl) ?_
  refine rl rfl w0 rfl (bx_ldN tok rfl rfl rfl rfl) ?_
  obtain ⟨v1, hv1, h0⟩ := bnd h0
  refine rs rfl w0 rfl (c_call 5 (i_ValidIndex_c hv1) rfl rfl rfl) ?_
  refine rp rfl w0 rfl (pu_not rfl) ?_
  refine nx ?_
  refine aw_ifB h0 rfl (fun hc h0 => ?_) (fun hc h0 => ?_)
  refine sq [0] ?_
  refine pa ?_
  refine nx ?_
  refine aw_ret ?_
  refine then_r ?_
  cases h0
  exact ret0_ (rs := [.tmp 4]) rfl
  refine sk ?_
  refine aw_seq ?_
  refine aw_region_draw (is := [0, 1, 4, 5, 9, 10, 2, 3, 6, 7, 8, 11, 12, 13]) [0, 1, 3, 7, 0, 16, 55, 127, 255, 0, 512, 1655, 4095, 8191] follows (by kernel_rfl) ?_
  refine rt_lk rfl w0 rfl (bx_fa tok rfl rfl rfl rfl rfl rfl rfl) rfl rfl rfl ?_
  refine rt_lk rfl w0 rfl (bx_ld1 tok rfl rfl rfl rfl rfl) rfl rfl rfl ?_
  refine rt_lk rfl w0 rfl (bx_fa tok rfl rfl rfl rfl rfl rfl rfl) rfl rfl rfl ?_
  refine rt_lk rfl w0 rfl (bx_ld1 tok rfl rfl rfl rfl rfl) rfl rfl rfl ?_
  refine rt_lk rfl w0 rfl (bx_fa tok rfl rfl rfl rfl rfl rfl rfl) rfl rfl rfl ?_
  refine rt_lk rfl w0 rfl (bx_ld1 tok rfl rfl rfl rfl rfl) rfl rfl rfl ?_
  obtain ⟨v2, hv2, h0⟩ := bnd h0
  refine rt_c rfl w0 rfl (b_call 5 (i_Decimal_c hv2) rfl rfl rfl) ?_
  obtain ⟨hq3, h0⟩ := chk_e h0
  refine rt_p rfl w0 rfl (pu_cat rfl rfl hq3) ?_
  obtain ⟨v4, hv4, h0⟩ := bnd h0
  refine rt_c rfl w0 rfl (b_call 5 (i_Decimal_c hv4) rfl rfl rfl) ?_
  obtain ⟨hq5, h0⟩ := chk_e h0
  refine rt_p rfl w0 rfl (pu_cat rfl rfl hq5) ?_
  obtain ⟨hq6, h0⟩ := chk_e h0
  refine rt_p rfl w0 rfl (pu_cat rfl rfl hq6) ?_
  obtain ⟨v7, hv7, h0⟩ := bnd h0
  refine rt_c rfl w0 rfl (b_call 5 (i_Decimal_c hv7) rfl rfl rfl) ?_
  obtain ⟨hq8, h0⟩ := chk_e h0
  refine rt_p rfl w0 rfl (pu_cat rfl rfl hq8) ?_
  refine tpa ?_
  refine rt_nil ?_
  refine ⟨by kernel_rfl, ?_⟩
  refine then_n ?_
  refine aw_ret ?_
  cases h0
  exact ret0_ (rs := [.tmp 4]) rfl

theorem i_ReadIndex_c {p0 : Divider_} {p1 : ByteArray} {r : Index_ × Bool} (h0 : i_ReadIndex_m p0 p1 = some r) : FnC Tryd.prog 9 [] [.agg [.d (.v (.int .i64 p0.Worm)), .d (.sl (List.map cI p0.Circles))], .d (.v (.string p1))] [] (.tup [.agg [.d (.v (.int .i64 r.1.Turns)), .d (.v (.int .i64 r.1.Holes)), .d (.v (.int .i64 r.1.Circle))], .d (.v (.bool r.2))]) := by
  refine fnc_intro (T := tt) (N := 56) tok Tryd.func9 rfl rfl (by kernel_rfl) rfl rfl ?_
  unfold i_ReadIndex_m at h0
  refine sq [0,1,2] ?_
  refine rs rfl w0 rfl (st_box 3 (cs := _ :: _) rfl rfl rfl) ?_
  refine rs rfl w0 rfl (st_alloc 4 (cs := [.d (.v (.int .i64 0)), .d (.v (.int .i64 0)), .d (.v (.int .i64 0))]) tok rfl rfl rfl) ?_
  refine pa ?_
  refine nx ?_
  refine sq [0,1,2,3,4,5,6,7,8] ?_
  refine pm ?_
  obtain ⟨v1, hv1, h0⟩ := bnd h0
  refine rs rfl w0 rfl (c_call 5 (strings_Cut_c hv1) rfl rfl rfl) ?_
  refine rp rfl w0 rfl (pu_move (r := .tup _) rfl) ?_
  iterate 3 refine rp rfl w0 rfl (pu_extract rfl rfl) ?_
  iterate 3 refine pa ?_
  refine nx ?_
  refine sq [0,1,2,3,4,5,6,7,8] ?_
  refine pm ?_
  obtain ⟨v2, hv2, h0⟩ := bnd h0
  refine rs rfl w0 rfl (c_call 5 (strings_Cut_c hv2) rfl rfl rfl) ?_
  refine rp rfl w0 rfl (pu_move (r := .tup _) rfl) ?_
  iterate 3 refine rp rfl w0 rfl (pu_extract rfl rfl) ?_
  iterate 3 refine pa ?_
  refine nx ?_
  refine sq [0] ?_
  refine rs rfl w0 rfl (st_alloc 5 (cs := [.d (.v (.int .i64 0)), .d (.v (.int .i64 0)), .d (.v (.int .i64 0))]) tok rfl rfl rfl) ?_
  refine nx ?_
  refine sq [0,1,2,3,4,5,6] ?_
  refine pm ?_
  obtain ⟨v3, hv3, h0⟩ := bnd h0
  refine rs rfl w0 rfl (c_call 6 (i_ReadDecimal_c hv3) rfl rfl rfl) ?_
  refine rp rfl w0 rfl (pu_move (r := .tup _) rfl) ?_
  refine rp rfl w0 rfl (pu_extract rfl rfl) ?_
  refine rp rfl w0 rfl (pu_extract rfl rfl) ?_
  refine fa tok ?_
  refine rw0 rfl w0 (bx_st (cs := [.d _]) tok rfl rfl rfl rfl rfl rfl rfl) ?_
  refine nx ?_
  refine sq [0,1,2,3,4,5,6] ?_
  refine pm ?_
  obtain ⟨v4, hv4, h0⟩ := bnd h0
  refine rs rfl w0 rfl (c_call 6 (i_ReadDecimal_c hv4) rfl rfl rfl) ?_
  refine rp rfl w0 rfl (pu_move (r := .tup _) rfl) ?_
  refine rp rfl w0 rfl (pu_extract rfl rfl) ?_
  refine rp rfl w0 rfl (pu_extract rfl rfl) ?_
  refine fa tok ?_
  refine rw0 rfl w0 (bx_st (cs := [.d _]) tok rfl rfl rfl rfl rfl rfl rfl) ?_
  refine nx ?_
  refine sq [0,1,2,3,4,5,6] ?_
  refine pm ?_
  obtain ⟨v5, hv5, h0⟩ := bnd h0
  refine rs rfl w0 rfl (c_call 6 (i_ReadDecimal_c hv5) rfl rfl rfl) ?_
  refine rp rfl w0 rfl (pu_move (r := .tup _) rfl) ?_
  refine rp rfl w0 rfl (pu_extract rfl rfl) ?_
  refine rp rfl w0 rfl (pu_extract rfl rfl) ?_
  refine fa tok ?_
  refine rw0 rfl w0 (bx_st (cs := [.d _]) tok rfl rfl rfl rfl rfl rfl rfl) ?_
  refine nx ?_
  refine aw_seq ?_
  obtain ⟨v8, h1, h0⟩ := bnd h0
  refine aw_cut ⟨updA (updA (updA ((fun _ => .dead)) 4 (.ptr 3 0 1 0 0)) 12 (.ptr 4 0 1 0 0)) 53 (.d (.v (.bool v8))), lks [.no, .no, .no, .live [⟨27, 3, .av [[.d (.v (.int .i64 0)), .d (.v (.int .i64 0)), .d (.v (.int .i64 0))]]⟩], .live [⟨27, 3, .av [[.d (.v (.int .i64 v3.1)), .d (.v (.int .i64 v4.1)), .d (.v (.int .i64 v5.1))]]⟩]]⟩ ?_ ?_
  refine sr [0,1,2,3,4,5,6,7,8,9,10] ?_
  refine rl rfl w0 rfl (bx_ldN tok rfl rfl rfl rfl) ?_
  refine rl rfl w0 rfl (bx_ldN tok rfl rfl rfl rfl) ?_
  obtain ⟨v6, hv6, h1⟩ := bnd h1
  refine rs rfl w0 rfl (c_call 6 (i_ValidIndex_c hv6) rfl rfl rfl) ?_
  refine rp rfl w0 rfl (pu_not rfl) ?_
  refine pm ?_
  refine ra_ifB (u := 47) h1 rfl (fun hc h1 => ?_) (fun hc h1 => ?_)
  iterate 5 refine k1 ?_
  refine pkt ?_
  refine nx ?_
  cases h1
  exact wk [0, 1, 2, 4, 5]
  refine rl rfl (w1 rfl rfl rfl) rfl (bx_ldN tok rfl rfl rfl rfl) ?_
  refine rl rfl (w1 rfl rfl rfl) rfl (bx_ldN tok rfl rfl rfl rfl) ?_
  obtain ⟨v7, hv7, h1⟩ := bnd h1
  refine rs rfl (w1 rfl rfl rfl) rfl (c_call 6 (i_IndexText_c hv7) rfl rfl rfl) ?_
  refine pm1 ?_
  refine rp rfl (w1 rfl rfl rfl) rfl (pu_sneq rfl rfl) ?_
  refine pkf ?_
  refine nx ?_
  cases h1
  exact wk [0, 1, 2, 4, 5]
  refine aw_ifB h0 rfl (fun hc h0 => ?_) (fun hc h0 => ?_)
  refine sq [0,1,2] ?_
  refine rp rfl w0 rfl (pbl (C0 := [.d (.v (.int .i64 0)), .d (.v (.int .i64 0)), .d (.v (.int .i64 0))]) tok rfl rfl rfl) ?_
  refine rw0 rfl w0 (bx_st (cs := _ :: _) tok rfl rfl rfl rfl rfl rfl rfl) ?_
  refine pa ?_
  refine nx ?_
  refine aw_ret ?_
  refine then_r ?_
  cases h0
  exact ret0_ (rs := [.cell 4 27, .tmp 5]) rfl
  refine sk ?_
  refine sq [0,1,2] ?_
  refine rl rfl w0 rfl (bx_ldN tok rfl rfl rfl rfl) ?_
  refine rw0 rfl w0 (bx_st (cs := _ :: _) tok rfl rfl rfl rfl rfl rfl rfl) ?_
  refine pa ?_
  refine nx ?_
  refine aw_ret ?_
  cases h0
  exact ret0_ (rs := [.cell 4 27, .tmp 5]) rfl

theorem s_l01Split_c {p0 : ByteArray} {p1 : Int} {r : List ByteArray} (h0 : s_l01Split_m p0 p1 = some r) : FnC Tryd.prog 36 [] [.d (.v (.string p0)), .d (.v (.int .u8 p1))] [.live [⟨9, 1, .data (List.map cS r)⟩]] (.own 0 0 r.length) := by
  refine fnc_intro (T := tt) (N := 35) tok Tryd.func36 rfl rfl (by kernel_rfl) rfl rfl ?_
  unfold s_l01Split_m at h0
  refine sq [0] ?_
  refine pa ?_
  refine nx ?_
  refine sq [0,1] ?_
  refine rs rfl w0 rfl (st_slice0 3 tok rfl rfl rfl rfl) ?_
  refine rp rfl w0 rfl (pu_assign (r := .own _ _ _) rfl) ?_
  refine nx ?_
  refine sq [0] ?_
  refine pa ?_
  refine nx ?_
  obtain ⟨v11, h1, h0⟩ := bnd h0
  refine aw_cut ⟨updA (updA (updA ((fun _ => .dead)) 0 (.d (.v (.string p0)))) 5 (.own 3 0 (v11.2).length)) 6 (.d (.v (.int .i64 v11.1))), lks [.no, .no, .no, .live [⟨9, 1, .data (List.map cS v11.2)⟩]]⟩ ?_ ?_
  refine sq [0] ?_
  refine pa ?_
  refine nx ?_
  refine aw_block ?_
  refine aw_loopM (fun s6 => ⟨updA (updA (updA (updA (updA ((fun _ => .dead)) 0 (.d (.v (.string p0)))) 1 (.d (.v (.int .u8 p1)))) 5 (.own 3 0 (s6.2.2).length)) 6 (.d (.v (.int .i64 s6.1)))) 7 (.d (.v (.int .i64 s6.2.1))), lks [.no, .no, .no, .live [⟨9, 1, .data (List.map cS s6.2.2)⟩]]⟩) h1 ?_ (fun s6 y h2 => ?_)
  exact wk [0, 1, 2, 3]
  refine aw_seq ?_
  refine sq [0,1,2,3] ?_
  refine pm ?_
  refine pm ?_
  refine rp rfl w0 rfl (pu_len_str tok rfl rfl rfl) ?_
  refine rp rfl w0 rfl (pu_lss rfl rfl) ?_
  refine nx ?_
  refine aw_if h2 rfl (fun hc h2 => ?_) (fun hc h2 => ?_)
  refine sk ?_
  obtain ⟨v10, h3, h2⟩ := bnd h2
  refine aw_cut ⟨updA (updA (updA (updA (updA ((fun _ => .dead)) 0 (.d (.v (.string p0)))) 1 (.d (.v (.int .u8 p1)))) 5 (.own 3 0 (v10.2).length)) 6 (.d (.v (.int .i64 v10.1)))) 7 (.d (.v (.int .i64 s6.2.1))), lks [.no, .no, .no, .live [⟨9, 1, .data (List.map cS v10.2)⟩]]⟩ ?_ ?_
  refine aw_block ?_
  refine sq [0,1,2,3,4] ?_
  refine pm ?_
  refine pm ?_
  obtain ⟨v7, hv7, h3⟩ := bnd h3
  refine rp rfl w0 rfl (pu_sidx tok hv7 rfl rfl rfl rfl) ?_
  refine pm ?_
  refine rp rfl w0 rfl (pu_eql rfl rfl) ?_
  refine nx ?_
  refine aw_if h3 rfl (fun hc h3 => ?_) (fun hc h3 => ?_)
  refine sq [0,1,2,3,4,5,6,7] ?_
  refine rp rfl w0 rfl (pu_move (r := .own _ _ _) rfl) ?_
  iterate 3 refine pm ?_
  obtain ⟨hq8, h3⟩ := chk_e h3
  refine rp rfl w0 rfl (pu_ssub tok hq8 rfl (.inr ⟨_, _, rfl, rfl⟩) (.inr ⟨_, _, rfl, rfl⟩) rfl rfl) ?_
  refine rs rfl w0 rfl (bs_val tok cS [p0.extract s6.1.toNat s6.2.1.toNat] rfl rfl rfl (by repeat (first | exact Els.nil _ | apply Els.cons (cs := [.d _]) rfl rfl rfl | apply Els.cons (cs := _ :: _) rfl rfl rfl)) rfl rfl rfl (by repeat (first | exact AllDD.nil | (apply AllDD.cons; (repeat (first | exact AllD.nil | apply AllD.cons))))) rfl) ?_
  obtain ⟨hq9, h3⟩ := chk_e h3
  refine rw1 rfl w0 rfl (ap_own tok hq9 rfl rfl rfl rfl rfl rfl rfl rfl rfl rfl rfl rfl (fun _ => rfl)) ?_
  refine rp rfl w0 rfl (pu_assign (r := .own _ _ _) rfl) ?_
  refine nx ?_
  refine sr [0,1,2] ?_
  refine pm ?_
  refine rp rfl w0 rfl (pw_add rfl rfl) ?_
  refine pa ?_
  refine ra_nil ?_
  refine block_n ?_
  refine then_n ?_
  cases h3
  exact wk [0, 1, 2, 3]
  refine aw_skip ?_
  refine block_n ?_
  refine then_n ?_
  cases h3
  exact wk [0, 1, 2, 3]
  refine sr [0,1,2] ?_
  refine pm ?_
  refine rp rfl w0 rfl (pw_add rfl rfl) ?_
  refine pa ?_
  refine ra_nil ?_
  refine loop_n ?_
  cases h2
  refine ⟨_, rfl, ?_⟩
  exact wk [0, 1, 2, 3]
  refine aw_exit ?_
  refine then_e ?_
  cases h2
  refine loop_x ⟨_, rfl, fun e => ?_⟩
  subst e
  refine block_hit ?_
  refine then_n ?_
  exact wk [0, 1, 2, 3]
  refine sq [0,1,2,3,4,5,6] ?_
  refine rp rfl w0 rfl (pu_move (r := .own _ _ _) rfl) ?_
  refine pm ?_
  refine pm ?_
  obtain ⟨hq12, h0⟩ := chk_e h0
  refine rp rfl w0 rfl (pu_ssub tok hq12 rfl (.inr ⟨_, _, rfl, rfl⟩) (.inl ⟨rfl, rfl⟩) rfl rfl) ?_
  refine rs rfl w0 rfl (bs_val tok cS [p0.extract v11.1.toNat (p0.size : Int).toNat] rfl rfl rfl (by repeat (first | exact Els.nil _ | apply Els.cons (cs := [.d _]) rfl rfl rfl | apply Els.cons (cs := _ :: _) rfl rfl rfl)) rfl rfl rfl (by repeat (first | exact AllDD.nil | (apply AllDD.cons; (repeat (first | exact AllD.nil | apply AllD.cons))))) rfl) ?_
  obtain ⟨hq13, h0⟩ := chk_e h0
  refine rw1 rfl w0 rfl (ap_own tok hq13 rfl rfl rfl rfl rfl rfl rfl rfl rfl rfl rfl rfl (fun _ => rfl)) ?_
  refine rp rfl w0 rfl (pu_assign (r := .own _ _ _) rfl) ?_
  refine nx ?_
  refine aw_ret ?_
  cases h0
  exact retK_ (rs := [.tmp 4]) [3] rfl

theorem s_l01Digit_c {p0 : Int} {r : Bool} (h0 : s_l01Digit_m p0 = some r) : FnC Tryd.prog 72 [] [.d (.v (.int .u8 p0))] [] (.d (.v (.bool r))) := by
  refine fnc_intro (T := tt) (N := 9) tok Tryd.func72 rfl rfl (by kernel_rfl) rfl rfl ?_
  unfold s_l01Digit_m at h0
  refine sq [0] ?_
  refine pa ?_
  refine nx ?_
  refine sq [0,1,2,3,4,5,6] ?_
  refine pm ?_
  refine rp rfl w0 rfl (pu_geq rfl rfl) ?_
  refine pm ?_
  refine ra_if (u := 5) h0 rfl (fun hc h0 => ?_) (fun hc h0 => ?_)
  refine pm1 ?_
  refine rp rfl (w1 rfl rfl rfl) rfl (pu_leq rfl rfl) ?_
  refine pkt ?_
  refine pa ?_
  refine nx ?_
  refine aw_ret ?_
  cases h0
  exact ret0_ (rs := [.tmp 2]) rfl
  refine k1 ?_
  refine k1 ?_
  refine pkf ?_
  refine pa ?_
  refine nx ?_
  refine aw_ret ?_
  cases h0
  exact ret0_ (rs := [.tmp 2]) rfl

theorem s_l01Number_c {p0 : ByteArray} {r : Int × Bool} (h0 : s_l01Number_m p0 = some r) : FnC Tryd.prog 37 [] [.d (.v (.string p0))] [] (.tup [.d (.v (.int .i64 r.1)), .d (.v (.bool r.2))]) := by
  refine fnc_intro (T := tt) (N := 56) tok Tryd.func37 rfl rfl (by kernel_rfl) rfl rfl ?_
  unfold s_l01Number_m at h0
  refine sq [0,1] ?_
  refine pa ?_
  refine pa ?_
  refine nx ?_
  refine sq [0,1] ?_
  refine pm ?_
  refine pa ?_
  refine nx ?_
  obtain ⟨v4, h1, h0⟩ := bnd h0
  refine aw_cut ⟨updA (updA ((fun _ => .dead)) 0 (.d (.v (.string p0)))) 4 (.d (.v (.string v4))), lks [.no, .no, .no]⟩ ?_ ?_
  obtain ⟨v2, h2, h1⟩ := bnd h1
  refine aw_cut ⟨updA (updA (updA ((fun _ => .dead)) 0 (.d (.v (.string p0)))) 4 (.d (.v (.string p0)))) 14 (.d (.v (.bool v2))), lks [.no, .no, .no]⟩ ?_ ?_
  refine sr [0,1,2,3,4,5,6] ?_
  refine pm ?_
  refine rp rfl w0 rfl (pu_sneq rfl rfl) ?_
  refine pm ?_
  refine ra_if (u := 10) h2 rfl (fun hc h2 => ?_) (fun hc h2 => ?_)
  refine pm1 ?_
  obtain ⟨v1, hv1, h2⟩ := bnd h2
  refine rp rfl (w1 rfl rfl rfl) rfl (pu_sidx tok hv1 rfl rfl rfl rfl) ?_
  refine rp rfl (w1 rfl rfl rfl) rfl (pu_eql rfl rfl) ?_
  refine pkt ?_
  refine nx ?_
  cases h2
  exact wk [0, 1, 2]
  iterate 3 refine k1 ?_
  refine pkf ?_
  refine nx ?_
  cases h2
  exact wk [0, 1, 2]
  refine aw_ifB h1 rfl (fun hc h1 => ?_) (fun hc h1 => ?_)
  refine sr [0,1,2] ?_
  refine pm ?_
  obtain ⟨hq3, h1⟩ := chk_e h1
  refine rp rfl w0 rfl (pu_ssub tok hq3 rfl (.inr ⟨_, _, rfl, rfl⟩) (.inl ⟨rfl, rfl⟩) rfl rfl) ?_
  refine pa ?_
  refine nx ?_
  cases h1
  exact wk [0, 1, 2]
  refine sk ?_
  cases h1
  exact wk [0, 1, 2]
  refine aw_seq ?_
  obtain ⟨v5, h1, h0⟩ := bnd h0
  refine aw_cut ⟨updA (updA (updA ((fun _ => .dead)) 0 (.d (.v (.string p0)))) 4 (.d (.v (.string v4)))) 24 (.d (.v (.bool v5))), lks [.no, .no, .no]⟩ ?_ ?_
  refine sr [0,1,2,3,4,5,6,7] ?_
  refine pm ?_
  refine rp rfl w0 rfl (pu_len_str tok rfl rfl rfl) ?_
  refine rp rfl w0 rfl (pu_lss rfl rfl) ?_
  refine pm ?_
  refine ra_if (u := 20) h1 rfl (fun hc h1 => ?_) (fun hc h1 => ?_)
  iterate 3 refine k1 ?_
  refine pkt ?_
  refine nx ?_
  cases h1
  exact wk [0, 1, 2]
  refine pm1 ?_
  refine rp rfl (w1 rfl rfl rfl) rfl (pu_len_str tok rfl rfl rfl) ?_
  refine rp rfl (w1 rfl rfl rfl) rfl (pu_gtr rfl rfl) ?_
  refine pkf ?_
  refine nx ?_
  cases h1
  exact wk [0, 1, 2]
  refine aw_ifB h0 rfl (fun hc h0 => ?_) (fun hc h0 => ?_)
  refine sq [0,1] ?_
  refine pa ?_
  refine pa ?_
  refine nx ?_
  refine aw_ret ?_
  refine then_r ?_
  cases h0
  exact ret0_ (rs := [.tmp 2, .tmp 3]) rfl
  refine sk ?_
  refine sq [0] ?_
  refine pa ?_
  refine nx ?_
  obtain ⟨v14x, h1, h0⟩ := bnd h0
  refine aw_cutE v14x (fun v14 => ⟨updA (updA (updA ((fun _ => .dead)) 0 (.d (.v (.string p0)))) 4 (.d (.v (.string v4)))) 5 (.d (.v (.int .i64 v14))), lks [.no, .no, .no]⟩) ?_ ?_
  refine sq [0] ?_
  refine pa ?_
  refine nx ?_
  refine aw_block ?_
  refine aw_loopM (fun s10 => ⟨updA (updA (updA (updA ((fun _ => .dead)) 0 (.d (.v (.string p0)))) 4 (.d (.v (.string v4)))) 5 (.d (.v (.int .i64 s10.1)))) 6 (.d (.v (.int .i64 s10.2))), lks [.no, .no, .no]⟩) h1 ?_ (fun s10 y h2 => ?_)
  exact wk [0, 1, 2]
  refine aw_seq ?_
  refine sq [0,1,2,3] ?_
  refine pm ?_
  refine pm ?_
  refine rp rfl w0 rfl (pu_len_str tok rfl rfl rfl) ?_
  refine rp rfl w0 rfl (pu_lss rfl rfl) ?_
  refine nx ?_
  refine aw_if h2 rfl (fun hc h2 => ?_) (fun hc h2 => ?_)
  refine sk ?_
  refine aw_seq ?_
  refine aw_block ?_
  refine aw_seq ?_
  refine sq [0,1,2,3,4] ?_
  refine pm ?_
  refine pm ?_
  obtain ⟨v11, hv11, h2⟩ := bnd h2
  refine rp rfl w0 rfl (pu_sidx tok hv11 rfl rfl rfl rfl) ?_
  obtain ⟨v12, hv12, h2⟩ := bnd h2
  refine rs rfl w0 rfl (c_call 3 (s_l01Digit_c hv12) rfl rfl rfl) ?_
  refine rp rfl w0 rfl (pu_not rfl) ?_
  refine nx ?_
  refine aw_ifB h2 rfl (fun hc h2 => ?_) (fun hc h2 => ?_)
  refine sq [0,1] ?_
  refine pa ?_
  refine pa ?_
  refine nx ?_
  refine aw_ret ?_
  refine then_r ?_
  refine block_r ?_
  refine then_r ?_
  cases h2
  refine loop_r ⟨_, rfl, fun e => ?_⟩
  subst e
  refine block_r ?_
  replace h0 := orE_s h0
  refine then_r ?_
  cases h0
  exact ret0_ (rs := [.tmp 2, .tmp 3]) rfl
  refine sk ?_
  refine sr [0,1,2,3,4,5,6,7,8] ?_
  refine pm ?_
  refine rp rfl w0 rfl (pw_mul rfl rfl) ?_
  refine pm ?_
  refine pm ?_
  obtain ⟨v13, hv13, h2⟩ := bnd h2
  refine rp rfl w0 rfl (pu_sidx tok hv13 rfl rfl rfl rfl) ?_
  refine rp rfl w0 rfl (pu_subw rfl rfl) ?_
  refine rp rfl w0 rfl (pw_cv tok rfl rfl rfl rfl rfl) ?_
  refine rp rfl w0 rfl (pw_add rfl rfl) ?_
  refine pa ?_
  refine ra_nil ?_
  refine block_n ?_
  refine then_n ?_
  refine sr [0,1,2] ?_
  refine pm ?_
  refine rp rfl w0 rfl (pw_add rfl rfl) ?_
  refine pa ?_
  refine ra_nil ?_
  refine loop_n ?_
  cases h2
  refine ⟨_, rfl, ?_⟩
  exact wk [0, 1, 2]
  refine aw_exit ?_
  refine then_e ?_
  cases h2
  refine loop_x ⟨_, rfl, fun e => ?_⟩
  subst e
  refine block_hit ?_
  refine then_n ?_
  refine ⟨_, rfl, ?_⟩
  exact wk [0, 1, 2]
  rintro v14 rfl
  replace h0 := orE_f h0
  obtain ⟨v15, h1, h0⟩ := bnd h0
  refine aw_cut ⟨updA (updA ((fun _ => .dead)) 0 (.d (.v (.string p0)))) 5 (.d (.v (.int .i64 v15))), lks [.no, .no, .no]⟩ ?_ ?_
  refine sq [0,1,2,3,4] ?_
  refine pm ?_
  refine rp rfl w0 rfl (pu_len_str tok rfl rfl rfl) ?_
  refine pm ?_
  refine rp rfl w0 rfl (pu_len_str tok rfl rfl rfl) ?_
  refine rp rfl w0 rfl (pu_lss rfl rfl) ?_
  refine nx ?_
  refine aw_if h1 rfl (fun hc h1 => ?_) (fun hc h1 => ?_)
  refine sr [0,1,2] ?_
  refine pm ?_
  refine rp rfl w0 rfl (pw_neg rfl) ?_
  refine pa ?_
  refine nx ?_
  cases h1
  exact wk [0, 1, 2]
  refine sk ?_
  cases h1
  exact wk [0, 1, 2]
  refine aw_seq ?_
  refine sq [0,1,2,3] ?_
  refine pm ?_
  obtain ⟨v16, hv16, h0⟩ := bnd h0
  refine rs rfl w0 rfl (c_call 3 (s_l01Dec_c hv16) rfl rfl rfl) ?_
  refine pm ?_
  refine rp rfl w0 rfl (pu_sneq rfl rfl) ?_
  refine nx ?_
  refine aw_if h0 rfl (fun hc h0 => ?_) (fun hc h0 => ?_)
  refine sq [0,1] ?_
  refine pa ?_
  refine pa ?_
  refine nx ?_
  refine aw_ret ?_
  refine then_r ?_
  cases h0
  exact ret0_ (rs := [.tmp 2, .tmp 3]) rfl
  refine sk ?_
  refine sq [0,1,2] ?_
  refine pm ?_
  refine pa ?_
  refine pa ?_
  refine nx ?_
  refine aw_ret ?_
  cases h0
  exact ret0_ (rs := [.tmp 2, .tmp 3]) rfl

theorem s_ReadIndex_c {p0 : Divider_} {p1 : ByteArray} {r : Index_ × Bool} (h0 : s_ReadIndex_m p0 p1 = some r) : FnC Tryd.prog 7 [] [.agg [.d (.v (.int .i64 p0.Worm)), .d (.sl (List.map cI p0.Circles))], .d (.v (.string p1))] [] (.tup [.agg [.d (.v (.int .i64 r.1.Turns)), .d (.v (.int .i64 r.1.Holes)), .d (.v (.int .i64 r.1.Circle))], .d (.v (.bool r.2))]) := by
  refine fnc_intro (T := tt) (N := 72) tok Tryd.func7 rfl rfl (by kernel_rfl) rfl rfl ?_
  unfold s_ReadIndex_m at h0
  refine sq [0,1,2] ?_
  refine rs rfl w0 rfl (st_box 3 (cs := _ :: _) rfl rfl rfl) ?_
  refine rs rfl w0 rfl (st_alloc 4 (cs := [.d (.v (.int .i64 0)), .d (.v (.int .i64 0)), .d (.v (.int .i64 0))]) tok rfl rfl rfl) ?_
  refine pa ?_
  refine nx ?_
  refine sq [0,1,2] ?_
  refine pm ?_
  obtain ⟨v1, hv1, h0⟩ := bnd h0
  refine rs rfl w0 rfl (c_call 5 (s_l01Split_c hv1) rfl rfl rfl) ?_
  refine rp rfl w0 rfl (pu_assign (r := .own _ _ _) rfl) ?_
  refine nx ?_
  refine aw_seq ?_
  refine sq [0,1,2] ?_
  refine rp rfl w0 rfl (pu_move (r := .own _ _ _) rfl) ?_
  refine rl rfl w0 rfl (ow_len tok rfl rfl rfl rfl rfl) ?_
  refine rp rfl w0 rfl (pu_neq rfl rfl) ?_
  refine nx ?_
  refine aw_if h0 rfl (fun hc h0 => ?_) (fun hc h0 => ?_)
  refine sq [0,1,2] ?_
  refine rp rfl w0 rfl (pbl (C0 := [.d (.v (.int .i64 0)), .d (.v (.int .i64 0)), .d (.v (.int .i64 0))]) tok rfl rfl rfl) ?_
  refine rw0 rfl w0 (bx_st (cs := _ :: _) tok rfl rfl rfl rfl rfl rfl rfl) ?_
  refine pa ?_
  refine nx ?_
  refine aw_ret ?_
  refine then_r ?_
  cases h0
  exact ret0_ (rs := [.cell 4 27, .tmp 5]) rfl
  refine sk ?_
  refine sq [0,1,2,3,4] ?_
  refine rp rfl w0 rfl (pu_move (r := .own _ _ _) rfl) ?_
  obtain ⟨v2, hv2, h0⟩ := bnd h0
  refine rl rfl w0 rfl (ow_ix tok hv2 rfl rfl rfl rfl rfl rfl rfl rfl) ?_
  refine rl rfl w0 rfl (rw_ld1 tok (atI_e hv2).2.1 rfl rfl rfl rfl rfl rfl) ?_
  obtain ⟨v3, hv3, h0⟩ := bnd h0
  refine rs rfl w0 rfl (c_call 6 (s_l01Split_c hv3) rfl rfl rfl) ?_
  refine rp rfl w0 rfl (pu_assign (r := .own _ _ _) rfl) ?_
  refine nx ?_
  refine aw_seq ?_
  refine sq [0,1,2] ?_
  refine rp rfl w0 rfl (pu_move (r := .own _ _ _) rfl) ?_
  refine rl rfl w0 rfl (ow_len tok rfl rfl rfl rfl rfl) ?_
  refine rp rfl w0 rfl (pu_neq rfl rfl) ?_
  refine nx ?_
  refine aw_if h0 rfl (fun hc h0 => ?_) (fun hc h0 => ?_)
  refine sq [0,1,2] ?_
  refine rp rfl w0 rfl (pbl (C0 := [.d (.v (.int .i64 0)), .d (.v (.int .i64 0)), .d (.v (.int .i64 0))]) tok rfl rfl rfl) ?_
  refine rw0 rfl w0 (bx_st (cs := _ :: _) tok rfl rfl rfl rfl rfl rfl rfl) ?_
  refine pa ?_
  refine nx ?_
  refine aw_ret ?_
  refine then_r ?_
  cases h0
  exact ret0_ (rs := [.cell 4 27, .tmp 5]) rfl
  refine sk ?_
  refine sq [0,1,2,3,4,5,6,7,8] ?_
  refine rp rfl w0 rfl (pu_move (r := .own _ _ _) rfl) ?_
  obtain ⟨v4, hv4, h0⟩ := bnd h0
  refine rl rfl w0 rfl (ow_ix tok hv4 rfl rfl rfl rfl rfl rfl rfl rfl) ?_
  refine rl rfl w0 rfl (rw_ld1 tok (atI_e hv4).2.1 rfl rfl rfl rfl rfl rfl) ?_
  obtain ⟨v5, hv5, h0⟩ := bnd h0
  refine rs rfl w0 rfl (c_call 7 (s_l01Number_c hv5) rfl rfl rfl) ?_
  refine rp rfl w0 rfl (pu_move (r := .tup _) rfl) ?_
  refine rp rfl w0 rfl (pu_extract rfl rfl) ?_
  refine rp rfl w0 rfl (pu_extract rfl rfl) ?_
  refine pa ?_
  refine pa ?_
  refine nx ?_
  refine sq [0,1,2,3,4,5,6,7,8] ?_
  refine rp rfl w0 rfl (pu_move (r := .own _ _ _) rfl) ?_
  obtain ⟨v6, hv6, h0⟩ := bnd h0
  refine rl rfl w0 rfl (ow_ix tok hv6 rfl rfl rfl rfl rfl rfl rfl rfl) ?_
  refine rl rfl w0 rfl (rw_ld1 tok (atI_e hv6).2.1 rfl rfl rfl rfl rfl rfl) ?_
  obtain ⟨v7, hv7, h0⟩ := bnd h0
  refine rs rfl w0 rfl (c_call 7 (s_l01Number_c hv7) rfl rfl rfl) ?_
  refine rp rfl w0 rfl (pu_move (r := .tup _) rfl) ?_
  refine rp rfl w0 rfl (pu_extract rfl rfl) ?_
  refine rp rfl w0 rfl (pu_extract rfl rfl) ?_
  refine pa ?_
  refine pa ?_
  refine nx ?_
  refine sq [0,1,2,3,4,5,6,7,8] ?_
  refine rp rfl w0 rfl (pu_move (r := .own _ _ _) rfl) ?_
  obtain ⟨v8, hv8, h0⟩ := bnd h0
  refine rl rfl w0 rfl (ow_ix tok hv8 rfl rfl rfl rfl rfl rfl rfl rfl) ?_
  refine rl rfl w0 rfl (rw_ld1 tok (atI_e hv8).2.1 rfl rfl rfl rfl rfl rfl) ?_
  obtain ⟨v9, hv9, h0⟩ := bnd h0
  refine rs rfl w0 rfl (c_call 7 (s_l01Number_c hv9) rfl rfl rfl) ?_
  refine rp rfl w0 rfl (pu_move (r := .tup _) rfl) ?_
  refine rp rfl w0 rfl (pu_extract rfl rfl) ?_
  refine rp rfl w0 rfl (pu_extract rfl rfl) ?_
  refine pa ?_
  refine pa ?_
  refine nx ?_
  refine sq [0,1,2,3,4,5] ?_
  iterate 3 refine pm ?_
  refine rp rfl w0 rfl (pbl (C0 := [.d (.v (.int .i64 0)), .d (.v (.int .i64 0)), .d (.v (.int .i64 0))]) tok rfl rfl rfl) ?_
  refine rs rfl w0 rfl (st_alloc 7 (cs := [.d (.v (.int .i64 0)), .d (.v (.int .i64 0)), .d (.v (.int .i64 0))]) tok rfl rfl rfl) ?_
  refine rw0 rfl w0 (bx_st (cs := _ :: _) tok rfl rfl rfl rfl rfl rfl rfl) ?_
  refine nx ?_
  refine aw_seq ?_
  obtain ⟨v11, h1, h0⟩ := bnd h0
  refine aw_cut ⟨updA (updA (updA ((fun _ => .dead)) 4 (.ptr 3 0 1 0 0)) 14 (.ptr 4 0 1 0 0)) 69 (.d (.v (.bool v11))), lks [.no, .no, .no, .live [⟨27, 3, .av [[.d (.v (.int .i64 0)), .d (.v (.int .i64 0)), .d (.v (.int .i64 0))]]⟩], .live [⟨27, 3, .av [[.d (.v (.int .i64 v5.1)), .d (.v (.int .i64 v7.1)), .d (.v (.int .i64 v9.1))]]⟩]]⟩ ?_ ?_
  refine sr [0,1,2,3,4,5,6,7,8,9,10,11,12,13,14,15] ?_
  refine pm ?_
  refine rp rfl w0 rfl (pu_not rfl) ?_
  refine pm ?_
  refine ra_ifB (u := 56) h1 rfl (fun hc h1 => ?_) (fun hc h1 => ?_)
  refine k1 ?_
  refine k1 ?_
  refine pkt ?_
  refine pm ?_
  refine k1 ?_
  refine k1 ?_
  refine pkt ?_
  refine pm ?_
  iterate 4 refine k1 ?_
  refine pkt ?_
  refine nx ?_
  cases h1
  exact wk [0, 1, 2, 4, 7]
  refine pm1 ?_
  refine rp rfl (w1 rfl rfl rfl) rfl (pu_not rfl) ?_
  refine pkf ?_
  refine pm ?_
  refine ra_ifB (u := 60) h1 rfl (fun hc h1 => ?_) (fun hc h1 => ?_)
  refine k1 ?_
  refine k1 ?_
  refine pkt ?_
  refine pm ?_
  iterate 4 refine k1 ?_
  refine pkt ?_
  refine nx ?_
  cases h1
  exact wk [0, 1, 2, 4, 7]
  refine pm1 ?_
  refine rp rfl (w1 rfl rfl rfl) rfl (pu_not rfl) ?_
  refine pkf ?_
  refine pm ?_
  refine ra_ifB (u := 64) h1 rfl (fun hc h1 => ?_) (fun hc h1 => ?_)
  iterate 4 refine k1 ?_
  refine pkt ?_
  refine nx ?_
  cases h1
  exact wk [0, 1, 2, 4, 7]
  refine rl rfl (w1 rfl rfl rfl) rfl (bx_ldN tok rfl rfl rfl rfl) ?_
  refine rl rfl (w1 rfl rfl rfl) rfl (bx_ldN tok rfl rfl rfl rfl) ?_
  obtain ⟨v10, hv10, h1⟩ := bnd h1
  refine rs rfl (w1 rfl rfl rfl) rfl (c_call 8 (s_l24Index_c hv10) rfl rfl rfl) ?_
  refine rp rfl (w1 rfl rfl rfl) rfl (pu_not rfl) ?_
  refine pkf ?_
  refine nx ?_
  cases h1
  exact wk [0, 1, 2, 4, 7]
  refine aw_ifB h0 rfl (fun hc h0 => ?_) (fun hc h0 => ?_)
  refine sq [0,1,2] ?_
  refine rp rfl w0 rfl (pbl (C0 := [.d (.v (.int .i64 0)), .d (.v (.int .i64 0)), .d (.v (.int .i64 0))]) tok rfl rfl rfl) ?_
  refine rw0 rfl w0 (bx_st (cs := _ :: _) tok rfl rfl rfl rfl rfl rfl rfl) ?_
  refine pa ?_
  refine nx ?_
  refine aw_ret ?_
  refine then_r ?_
  cases h0
  exact ret0_ (rs := [.cell 4 27, .tmp 5]) rfl
  refine sk ?_
  refine sq [0,1,2] ?_
  refine rl rfl w0 rfl (bx_ldN tok rfl rfl rfl rfl) ?_
  refine rw0 rfl w0 (bx_st (cs := _ :: _) tok rfl rfl rfl rfl rfl rfl rfl) ?_
  refine pa ?_
  refine nx ?_
  refine aw_ret ?_
  cases h0
  exact ret0_ (rs := [.cell 4 27, .tmp 5]) rfl

theorem s_IndexText_c {p0 : Divider_} {p1 : Index_} {r : ByteArray} (h0 : s_IndexText_m p0 p1 = some r) : FnC Tryd.prog 20 [] [.agg [.d (.v (.int .i64 p0.Worm)), .d (.sl (List.map cI p0.Circles))], .agg [.d (.v (.int .i64 p1.Turns)), .d (.v (.int .i64 p1.Holes)), .d (.v (.int .i64 p1.Circle))]] [] (.d (.v (.string r))) := by
  refine fnc_intro (T := tt) (N := 11) tok Tryd.func20 rfl rfl (by kernel_rfl) rfl rfl ?_
  unfold s_IndexText_m at h0
  refine sq [0,1,2] ?_
  refine rs rfl w0 rfl (st_box 3 (cs := _ :: _) rfl rfl rfl) ?_
  refine rs rfl w0 rfl (st_box 4 (cs := _ :: _) rfl rfl rfl) ?_
  refine pa ?_
  refine nx ?_
  refine aw_seq ?_
  refine sq [0,1,2,3] ?_
  refine rl rfl w0 rfl (bx_ldN tok rfl rfl rfl rfl) ?_
  refine rl rfl w0 rfl (bx_ldN tok rfl rfl rfl rfl) ?_
  obtain ⟨v1, hv1, h0⟩ := bnd h0
  refine rs rfl w0 rfl (c_call 5 (s_l24Index_c hv1) rfl rfl rfl) ?_
  refine rp rfl w0 rfl (pu_not rfl) ?_
  refine nx ?_
  refine aw_ifB h0 rfl (fun hc h0 => ?_) (fun hc h0 => ?_)
  refine sq [0] ?_
  refine pa ?_
  refine nx ?_
  refine aw_ret ?_
  refine then_r ?_
  cases h0
  exact ret0_ (rs := [.tmp 4]) rfl
  refine sk ?_
  refine sq [0,1,2] ?_
  refine rl rfl w0 rfl (bx_ldN tok rfl rfl rfl rfl) ?_
  obtain ⟨v2, hv2, h0⟩ := bnd h0
  refine rs rfl w0 rfl (c_call 5 (s_l24Text_c hv2) rfl rfl rfl) ?_
  refine pa ?_
  refine nx ?_
  refine aw_ret ?_
  cases h0
  exact ret0_ (rs := [.tmp 4]) rfl

theorem s_ValidIndex_c {p0 : Divider_} {p1 : Index_} {r : Bool} (h0 : s_ValidIndex_m p0 p1 = some r) : FnC Tryd.prog 22 [] [.agg [.d (.v (.int .i64 p0.Worm)), .d (.sl (List.map cI p0.Circles))], .agg [.d (.v (.int .i64 p1.Turns)), .d (.v (.int .i64 p1.Holes)), .d (.v (.int .i64 p1.Circle))]] [] (.d (.v (.bool r))) := by
  refine fnc_intro (T := tt) (N := 8) tok Tryd.func22 rfl rfl (by kernel_rfl) rfl rfl ?_
  unfold s_ValidIndex_m at h0
  refine sq [0,1,2] ?_
  refine rs rfl w0 rfl (st_box 3 (cs := _ :: _) rfl rfl rfl) ?_
  refine rs rfl w0 rfl (st_box 4 (cs := _ :: _) rfl rfl rfl) ?_
  refine pa ?_
  refine nx ?_
  refine sq [0,1,2,3] ?_
  refine rl rfl w0 rfl (bx_ldN tok rfl rfl rfl rfl) ?_
  refine rl rfl w0 rfl (bx_ldN tok rfl rfl rfl rfl) ?_
  obtain ⟨v1, hv1, h0⟩ := bnd h0
  refine rs rfl w0 rfl (c_call 5 (s_l24Index_c hv1) rfl rfl rfl) ?_
  refine pa ?_
  refine nx ?_
  refine aw_ret ?_
  cases h0
  exact ret0_ (rs := [.tmp 4]) rfl

theorem l_f6roll_c {p0 : List Int} {p1 : Int} {r : F6dice_} (h0 : l_f6roll_m p0 p1 = some r) : FnC Tryd.prog 23 [] [.d (.sl (List.map cU8 p0)), .d (.v (.int .u64 p1))] [.live [⟨84, 3, .av [[.d (.sl (List.map cU8 r.b)), .d (.v (.int .i64 r.i)), .d (.v (.int .u64 r.h))]]⟩]] (.ptr 0 0 1 0 0) := by
  refine fnc_intro (T := tt) (N := 38) tok Tryd.func23 rfl rfl (by kernel_rfl) rfl rfl ?_
  unfold l_f6roll_m at h0
  refine sq [0] ?_
  refine pa ?_
  refine nx ?_
  refine sq [0,1,2,3,4,5,6,7,8,9] ?_
  refine pm ?_
  refine pm ?_
  refine rp rfl w0 rfl (pu_mulw rfl rfl) ?_
  refine pm ?_
  refine rp rfl w0 rfl (pu_len_map tok rfl rfl rfl) ?_
  refine rp rfl w0 rfl (pu_ii tok rfl rfl rfl rfl rfl) ?_
  refine rp rfl w0 rfl (pu_addw rfl rfl) ?_
  refine rp rfl w0 rfl (pbl (C0 := [.d (.v (.slice none 0 0)), .d (.v (.int .i64 0)), .d (.v (.int .u64 0))]) tok rfl rfl rfl) ?_
  refine rs rfl w0 rfl (st_box 3 (cs := _ :: _) rfl rfl rfl) ?_
  refine rp rfl w0 rfl (pu_assign (r := .ptr _ _ _ _ _) rfl) ?_
  refine nx ?_
  obtain ⟨v5, h1, h0⟩ := bnd h0
  refine aw_cut ⟨updA ((fun _ => .dead)) 5 (.ptr 3 0 1 0 0), lks [.no, .no, .no, .live [⟨84, 3, .av [[.d (.sl (List.map cU8 v5.b)), .d (.v (.int .i64 v5.i)), .d (.v (.int .u64 v5.h))]]⟩]]⟩ ?_ ?_
  refine sq [0] ?_
  refine pa ?_
  refine nx ?_
  refine aw_block ?_
  refine aw_loopM (fun s3 => ⟨updA (updA (updA ((fun _ => .dead)) 0 (.d (.sl (List.map cU8 p0)))) 5 (.ptr 3 0 1 0 0)) 6 (.d (.v (.int .i64 s3.1))), lks [.no, .no, .no, .live [⟨84, 3, .av [[.d (.sl (List.map cU8 s3.2.b)), .d (.v (.int .i64 s3.2.i)), .d (.v (.int .u64 s3.2.h))]]⟩]]⟩) h1 ?_ (fun s3 y h2 => ?_)
  exact wk [0, 1, 2, 3]
  refine aw_seq ?_
  refine sq [0,1,2,3] ?_
  refine pm ?_
  refine pm ?_
  refine rp rfl w0 rfl (pu_len_map tok rfl rfl rfl) ?_
  refine rp rfl w0 rfl (pu_lss rfl rfl) ?_
  refine nx ?_
  refine aw_if h2 rfl (fun hc h2 => ?_) (fun hc h2 => ?_)
  refine sk ?_
  refine aw_seq ?_
  refine aw_block ?_
  refine aw_region_draw (is := [0, 1, 2, 3, 4, 5, 6, 7, 8, 9, 10, 11, 12, 13, 14, 15]) [0, 0, 2, 6, 14, 30, 0, 0, 192, 448, 960, 2046, 4094, 8191, 16383, 32767] follows (by kernel_rfl) ?_
  refine rt_p rfl w0 rfl (pu_move (r := .ptr _ _ _ _ _) rfl) ?_
  refine rt_p rfl w0 rfl (pu_move (r := .ptr _ _ _ _ _) rfl) ?_
  refine rt_lk rfl w0 rfl (bx_nil rfl rfl) rfl rfl rfl ?_
  refine rt_lk rfl w0 rfl (bx_fa tok rfl rfl rfl rfl rfl rfl rfl) rfl rfl rfl ?_
  refine rt_lk rfl w0 rfl (bx_ld1 tok rfl rfl rfl rfl rfl) rfl rfl rfl ?_
  refine rt_p rfl w0 rfl (pu_mulw rfl rfl) ?_
  refine tpm ?_
  refine tpm ?_
  obtain ⟨v4, hv4, h2⟩ := bnd h2
  refine rt_p rfl w0 rfl (sl_ix tok hv4 rfl rfl rfl rfl rfl rfl) ?_
  refine tlr tok ?_
  refine rt_p rfl w0 rfl (pu_ii tok rfl rfl rfl rfl rfl) ?_
  refine rt_p rfl w0 rfl (pu_addw rfl rfl) ?_
  refine rt_p rfl w0 rfl (pu_addw rfl rfl) ?_
  refine rt_lk rfl w0 rfl (bx_nil rfl rfl) rfl rfl rfl ?_
  refine rt_lk rfl w0 rfl (bx_fa tok rfl rfl rfl rfl rfl rfl rfl) rfl rfl rfl ?_
  refine rt_wk rfl w0 (bx_st (cs := [.d _]) tok rfl rfl rfl rfl rfl rfl rfl) ?_
  refine rt_nil ?_
  refine ⟨by kernel_rfl, ?_⟩
  refine block_n ?_
  refine then_n ?_
  refine sr [0,1,2] ?_
  refine pm ?_
  refine rp rfl w0 rfl (pw_add rfl rfl) ?_
  refine pa ?_
  refine ra_nil ?_
  refine loop_n ?_
  cases h2
  refine ⟨_, rfl, ?_⟩
  exact wk [0, 1, 2, 3]
  refine aw_exit ?_
  refine then_e ?_
  cases h2
  refine loop_x ⟨_, rfl, fun e => ?_⟩
  subst e
  refine block_hit ?_
  refine then_n ?_
  exact wk [0, 1, 2, 3]
  refine sq [0,1] ?_
  refine rp rfl w0 rfl (pu_move (r := .ptr _ _ _ _ _) rfl) ?_
  refine rp rfl w0 rfl (pu_assign (r := .ptr _ _ _ _ _) rfl) ?_
  refine nx ?_
  refine aw_ret ?_
  cases h0
  exact retK_ (rs := [.tmp 4]) [3] rfl

theorem laws_f6dice_below_b_c {p0 : F6dice_} {p1 : Int} {r : Int × F6dice_} (h0 : laws_f6dice_below_b_m p0 p1 = some r) : FnC Tryd.prog 24 [.live [⟨84, 3, .av [[.d (.sl (List.map cU8 p0.b)), .d (.v (.int .i64 p0.i)), .d (.v (.int .u64 p0.h))]]⟩]] [.ptr 0 0 1 0 0, .d (.v (.int .i64 p1))] [.live [⟨84, 3, .av [[.d (.sl (List.map cU8 r.2.b)), .d (.v (.int .i64 r.2.i)), .d (.v (.int .u64 r.2.h))]]⟩]] (.d (.v (.int .i64 r.1))) := by
  refine fnc_intro (T := tt) (N := 56) tok Tryd.func24 rfl rfl (by kernel_rfl) rfl rfl ?_
  unfold laws_f6dice_below_b_m at h0
  refine sq [0] ?_
  refine pa ?_
  refine nx ?_
  refine sq [0,1,2,3,4,5,6,7,8,9] ?_
  refine rp rfl w0 rfl (pu_move (r := .ptr _ _ _ _ _) rfl) ?_
  refine rp rfl w0 rfl (pu_move (r := .ptr _ _ _ _ _) rfl) ?_
  refine rl rfl w0 rfl (bx_nil rfl rfl) ?_
  refine fa tok ?_
  refine ld tok ?_
  refine rp rfl w0 rfl (pu_mulw rfl rfl) ?_
  refine rp rfl w0 rfl (pu_addw rfl rfl) ?_
  refine rl rfl w0 rfl (bx_nil rfl rfl) ?_
  refine fa tok ?_
  refine rw0 rfl w0 (bx_st (cs := [.d _]) tok rfl rfl rfl rfl rfl rfl rfl) ?_
  refine nx ?_
  refine sq [0,1,2,3,4,5,6,7] ?_
  refine rp rfl w0 rfl (pu_move (r := .ptr _ _ _ _ _) rfl) ?_
  refine rl rfl w0 rfl (bx_nil rfl rfl) ?_
  refine fa tok ?_
  refine ld tok ?_
  refine rp rfl w0 rfl (pu_shr rfl rfl (by decide)) ?_
  refine rp rfl w0 rfl (pu_and rfl rfl) ?_
  refine rp rfl w0 rfl (pw_cv tok rfl rfl rfl rfl rfl) ?_
  refine pa ?_
  refine nx ?_
  obtain ⟨v3, h1, h0⟩ := bnd h0
  refine aw_cut ⟨updA (updA ((fun _ => .dead)) 1 (.d (.v (.int .i64 p1)))) 5 (.d (.v (.int .i64 v3.1))), lks [.live [⟨84, 3, .av [[.d (.sl (List.map cU8 v3.2.b)), .d (.v (.int .i64 v3.2.i)), .d (.v (.int .u64 v3.2.h))]]⟩], .no, .no]⟩ ?_ ?_
  refine aw_seq ?_
  refine aw_region_draw (is := [0, 1, 2, 3, 4, 5, 6, 7, 8, 9]) [0, 1, 3, 7, 0, 16, 48, 112, 240, 511] follows (by kernel_rfl) ?_
  refine rt_p rfl w0 rfl (pu_move (r := .ptr _ _ _ _ _) rfl) ?_
  refine rt_lk rfl w0 rfl (bx_nil rfl rfl) rfl rfl rfl ?_
  refine rt_lk rfl w0 rfl (bx_fa tok rfl rfl rfl rfl rfl rfl rfl) rfl rfl rfl ?_
  refine rt_lk rfl w0 rfl (bx_ld1 tok rfl rfl rfl rfl rfl) rfl rfl rfl ?_
  refine rt_p rfl w0 rfl (pu_move (r := .ptr _ _ _ _ _) rfl) ?_
  refine rt_lk rfl w0 rfl (bx_nil rfl rfl) rfl rfl rfl ?_
  refine rt_lk rfl w0 rfl (bx_fa tok rfl rfl rfl rfl rfl rfl rfl) rfl rfl rfl ?_
  refine rt_lk rfl w0 rfl (bx_ld1 tok rfl rfl rfl rfl rfl) rfl rfl rfl ?_
  refine rt_p rfl w0 rfl (pu_len_map tok rfl rfl rfl) ?_
  refine rt_p rfl w0 rfl (pu_lss rfl rfl) ?_
  refine rt_nil ?_
  refine ⟨by kernel_rfl, ?_⟩
  refine then_n ?_
  refine aw_if h1 rfl (fun hc h1 => ?_) (fun hc h1 => ?_)
  refine aw_seq ?_
  refine aw_region_draw (is := [0, 1, 2, 3, 4, 5, 6, 7, 8, 9, 10, 11, 12, 13]) [0, 0, 2, 6, 14, 0, 32, 96, 224, 510, 1022, 2046, 4095, 8191] follows (by kernel_rfl) ?_
  refine tpm ?_
  refine rt_p rfl w0 rfl (pu_move (r := .ptr _ _ _ _ _) rfl) ?_
  refine rt_lk rfl w0 rfl (bx_nil rfl rfl) rfl rfl rfl ?_
  refine rt_lk rfl w0 rfl (bx_fa tok rfl rfl rfl rfl rfl rfl rfl) rfl rfl rfl ?_
  refine rt_lk rfl w0 rfl (bx_ld1 tok rfl rfl rfl rfl rfl) rfl rfl rfl ?_
  refine rt_p rfl w0 rfl (pu_move (r := .ptr _ _ _ _ _) rfl) ?_
  refine rt_lk rfl w0 rfl (bx_nil rfl rfl) rfl rfl rfl ?_
  refine rt_lk rfl w0 rfl (bx_fa tok rfl rfl rfl rfl rfl rfl rfl) rfl rfl rfl ?_
  refine rt_lk rfl w0 rfl (bx_ld1 tok rfl rfl rfl rfl rfl) rfl rfl rfl ?_
  obtain ⟨v2, hv2, h1⟩ := bnd h1
  refine rt_p rfl w0 rfl (sl_ix tok hv2 rfl rfl rfl rfl rfl rfl) ?_
  refine tlr tok ?_
  refine rt_p rfl w0 rfl (pw_cv tok rfl rfl rfl rfl rfl) ?_
  refine rt_p rfl w0 rfl (pw_add rfl rfl) ?_
  refine tpa ?_
  refine rt_nil ?_
  refine ⟨by kernel_rfl, ?_⟩
  refine then_n ?_
  refine sr [0,1,2,3,4,5,6,7,8] ?_
  refine rp rfl w0 rfl (pu_move (r := .ptr _ _ _ _ _) rfl) ?_
  refine rp rfl w0 rfl (pu_move (r := .ptr _ _ _ _ _) rfl) ?_
  refine rl rfl w0 rfl (bx_nil rfl rfl) ?_
  refine fa tok ?_
  refine ld tok ?_
  refine rp rfl w0 rfl (pw_add rfl rfl) ?_
  refine rl rfl w0 rfl (bx_nil rfl rfl) ?_
  refine fa tok ?_
  refine rw0 rfl w0 (bx_st (cs := [.d _]) tok rfl rfl rfl rfl rfl rfl rfl) ?_
  refine nx ?_
  cases h1
  exact wk [0, 1, 2]
  refine sk ?_
  cases h1
  exact wk [0, 1, 2]
  refine sq [0,1,2,3] ?_
  refine pm ?_
  refine pm ?_
  obtain ⟨hq4, h0⟩ := chk_e h0
  refine rp rfl w0 rfl (pu_remw rfl rfl hq4) ?_
  refine pa ?_
  refine nx ?_
  refine aw_ret ?_
  cases h0
  exact retP_ (rs := [.tmp 4]) 1 rfl rfl

theorem l_FnMotions_c {p0 : List Int} {r : Bool} (h0 : l_FnMotions_m p0 = some r) : FnC Tryd.prog 4 [] [.d (.sl (List.map cU8 p0))] [] (.d (.v (.bool r))) := by
  refine fnc_intro (T := tt) (N := 209) tok Tryd.func4 rfl rfl (by kernel_rfl) rfl rfl ?_
  unfold l_FnMotions_m at h0
  refine sq [0] ?_
  refine pa ?_
  refine nx ?_
  refine aw_seq ?_
  refine sq [0,1] ?_
  refine pm ?_
  obtain ⟨v1, hv1, h0⟩ := bnd h0
  refine rs rfl w0 rfl (c_call 3 (l_f6big_c hv1) rfl rfl rfl) ?_
  refine nx ?_
  refine aw_ifB h0 rfl (fun hc h0 => ?_) (fun hc h0 => ?_)
  refine sq [0] ?_
  refine pa ?_
  refine nx ?_
  refine aw_ret ?_
  refine then_r ?_
  cases h0
  exact ret0_ (rs := [.tmp 2]) rfl
  refine sk ?_
  refine sq [0,1,2,3,4,5,6,7,8,9,10] ?_
  refine pm ?_
  obtain ⟨v2, hv2, h0⟩ := bnd h0
  refine rs rfl w0 rfl (c_call 3 (s_DrawHolesAfter_c hv2) rfl rfl rfl) ?_
  refine rp rfl w0 rfl (pu_move (r := .tup _) rfl) ?_
  iterate 3 refine rp rfl w0 rfl (pu_extract rfl rfl) ?_
  refine rs rfl w0 rfl (st_alloc 3 (cs := [.d (.v (.int .i64 0)), .d (.v (.slice none 0 0))]) tok rfl rfl rfl) ?_
  refine rs rfl w0 rfl (st_alloc 4 (cs := [.d (.v (.int .i64 0)), .d (.v (.int .i64 0)), .d (.v (.int .i64 0))]) tok rfl rfl rfl) ?_
  refine rw0 rfl w0 (bx_st (cs := _ :: _) tok rfl rfl rfl rfl rfl rfl rfl) ?_
  refine rw0 rfl w0 (bx_st (cs := _ :: _) tok rfl rfl rfl rfl rfl rfl rfl) ?_
  refine pa ?_
  refine nx ?_
  refine sq [0,1,2,3,4,5,6,7,8] ?_
  refine rl rfl w0 rfl (bx_ldN tok rfl rfl rfl rfl) ?_
  refine rl rfl w0 rfl (bx_ldN tok rfl rfl rfl rfl) ?_
  refine pm ?_
  obtain ⟨v3, hv3, h0⟩ := bnd h0
  refine rs rfl w0 rfl (c_call 5 (i_HolesAfter_c hv3) rfl rfl rfl) ?_
  refine rp rfl w0 rfl (pu_move (r := .tup _) rfl) ?_
  refine rp rfl w0 rfl (pu_extract rfl rfl) ?_
  refine rp rfl w0 rfl (pu_extract rfl rfl) ?_
  refine pa ?_
  refine pa ?_
  refine nx ?_
  refine sq [0,1,2,3,4,5,6,7,8] ?_
  refine rl rfl w0 rfl (bx_ldN tok rfl rfl rfl rfl) ?_
  refine rl rfl w0 rfl (bx_ldN tok rfl rfl rfl rfl) ?_
  refine pm ?_
  obtain ⟨v4, hv4, h0⟩ := bnd h0
  refine rs rfl w0 rfl (c_call 5 (s_HolesAfter_c hv4) rfl rfl rfl) ?_
  refine rp rfl w0 rfl (pu_move (r := .tup _) rfl) ?_
  refine rp rfl w0 rfl (pu_extract rfl rfl) ?_
  refine rp rfl w0 rfl (pu_extract rfl rfl) ?_
  refine pa ?_
  refine pa ?_
  refine nx ?_
  refine sq [0,1,2,3,4,5,6,7] ?_
  refine rl rfl w0 rfl (bx_ldN tok rfl rfl rfl rfl) ?_
  refine rl rfl w0 rfl (bx_ldN tok rfl rfl rfl rfl) ?_
  obtain ⟨v5, hv5, h0⟩ := bnd h0
  refine rs rfl w0 rfl (c_call 5 (i_ClosesAfter_c hv5) rfl rfl rfl) ?_
  refine rp rfl w0 rfl (pu_move (r := .tup _) rfl) ?_
  refine rp rfl w0 rfl (pu_extract rfl rfl) ?_
  refine rp rfl w0 rfl (pu_extract rfl rfl) ?_
  refine pa ?_
  refine pa ?_
  refine nx ?_
  refine sq [0,1,2,3,4,5,6,7] ?_
  refine rl rfl w0 rfl (bx_ldN tok rfl rfl rfl rfl) ?_
  refine rl rfl w0 rfl (bx_ldN tok rfl rfl rfl rfl) ?_
  obtain ⟨v6, hv6, h0⟩ := bnd h0
  refine rs rfl w0 rfl (c_call 5 (s_ClosesAfter_c hv6) rfl rfl rfl) ?_
  refine rp rfl w0 rfl (pu_move (r := .tup _) rfl) ?_
  refine rp rfl w0 rfl (pu_extract rfl rfl) ?_
  refine rp rfl w0 rfl (pu_extract rfl rfl) ?_
  refine pa ?_
  refine pa ?_
  refine nx ?_
  refine sq [0,1,2,3,4,5,6,7] ?_
  refine pm ?_
  obtain ⟨v7, hv7, h0⟩ := bnd h0
  refine rs rfl w0 rfl (c_call 5 (s_DrawReadIndex_c hv7) rfl rfl rfl) ?_
  refine rp rfl w0 rfl (pu_move (r := .tup _) rfl) ?_
  refine rp rfl w0 rfl (pu_extract rfl rfl) ?_
  refine rp rfl w0 rfl (pu_extract rfl rfl) ?_
  refine rs rfl w0 rfl (st_alloc 5 (cs := [.d (.v (.int .i64 0)), .d (.v (.slice none 0 0))]) tok rfl rfl rfl) ?_
  refine rw0 rfl w0 (bx_st (cs := _ :: _) tok rfl rfl rfl rfl rfl rfl rfl) ?_
  refine pa ?_
  refine nx ?_
  refine sq [0,1,2,3,4,5,6,7,8] ?_
  refine rl rfl w0 rfl (bx_ldN tok rfl rfl rfl rfl) ?_
  refine pm ?_
  obtain ⟨v8, hv8, h0⟩ := bnd h0
  refine rs rfl w0 rfl (c_call 6 (i_ReadIndex_c hv8) rfl rfl rfl) ?_
  refine rp rfl w0 rfl (pu_move (r := .tup _) rfl) ?_
  refine rp rfl w0 rfl (pu_extract rfl rfl) ?_
  refine rp rfl w0 rfl (pu_extract rfl rfl) ?_
  refine rs rfl w0 rfl (st_alloc 6 (cs := [.d (.v (.int .i64 0)), .d (.v (.int .i64 0)), .d (.v (.int .i64 0))]) tok rfl rfl rfl) ?_
  refine rw0 rfl w0 (bx_st (cs := _ :: _) tok rfl rfl rfl rfl rfl rfl rfl) ?_
  refine pa ?_
  refine nx ?_
  refine sq [0,1,2,3,4,5,6,7,8] ?_
  refine rl rfl w0 rfl (bx_ldN tok rfl rfl rfl rfl) ?_
  refine pm ?_
  obtain ⟨v9, hv9, h0⟩ := bnd h0
  refine rs rfl w0 rfl (c_call 7 (s_ReadIndex_c hv9) rfl rfl rfl) ?_
  refine rp rfl w0 rfl (pu_move (r := .tup _) rfl) ?_
  refine rp rfl w0 rfl (pu_extract rfl rfl) ?_
  refine rp rfl w0 rfl (pu_extract rfl rfl) ?_
  refine rs rfl w0 rfl (st_alloc 7 (cs := [.d (.v (.int .i64 0)), .d (.v (.int .i64 0)), .d (.v (.int .i64 0))]) tok rfl rfl rfl) ?_
  refine rw0 rfl w0 (bx_st (cs := _ :: _) tok rfl rfl rfl rfl rfl rfl rfl) ?_
  refine pa ?_
  refine nx ?_
  refine aw_seq ?_
  obtain ⟨v14, h1, h0⟩ := bnd h0
  refine aw_cut ⟨updA (updA (updA (updA (updA (updA (updA (updA ((fun _ => .dead)) 0 (.d (.sl (List.map cU8 p0)))) 3 (.ptr 3 0 1 0 0)) 4 (.ptr 4 0 1 0 0)) 5 (.d (.v (.int .i64 v2.2.2)))) 6 (.d (.v (.int .i64 v3.1)))) 7 (.d (.v (.int .i64 v3.2)))) 12 (.d (.v (.int .i64 v6.1)))) 127 (.d (.v (.bool v14))), lks [.no, .no, .no, .live [⟨30, 2, .av [[.d (.v (.int .i64 v2.1.Worm)), .d (.sl (List.map cI v2.1.Circles))]]⟩], .live [⟨27, 3, .av [[.d (.v (.int .i64 v2.2.1.Turns)), .d (.v (.int .i64 v2.2.1.Holes)), .d (.v (.int .i64 v2.2.1.Circle))]]⟩]]⟩ ?_ ?_
  refine aw_region_draw (is := [0, 1, 2, 3, 4, 5, 6, 7, 8, 9, 10, 11, 12, 13, 14, 15, 16, 17, 18, 19, 20, 21, 22, 23, 24, 25, 26, 27, 28, 29, 30, 32, 33, 31, 34, 35, 36, 37, 38, 39, 41, 42, 40, 43, 44, 45]) [0, 0, 3, 7, 15, 15, 63, 127, 255, 511, 511, 2047, 4095, 8191, 16383, 16383, 65535, 131071, 262143, 524287, 524287, 2097151, 4194303, 8388607, 16777215, 16777215, 67108863, 134217727, 268435455, 536870911, 536870911, 2147483647, 536870911, 536870911, 17179869183, 34359738367, 68719476735, 137438953471, 274877906943, 274877906943, 1099511627775, 274877906943, 274877906943, 8796093022207, 17592186044415, 35184372088831] follows (by kernel_rfl) ?_
  refine tpm ?_
  refine tpm ?_
  refine rt_p rfl w0 rfl (pu_neq rfl rfl) ?_
  refine tpm ?_
  refine rt_if (u := 85) h1 rfl (fun hc h1 => ?_) (fun hc h1 => ?_)
  iterate 3 refine k2 ?_
  refine tpkt ?_
  refine tpm ?_
  iterate 3 refine k2 ?_
  refine tpkt ?_
  refine tpm ?_
  iterate 3 refine k2 ?_
  refine tpkt ?_
  refine tpm ?_
  iterate 3 refine k2 ?_
  refine tpkt ?_
  refine tpm ?_
  iterate 3 refine k2 ?_
  refine tpkt ?_
  refine tpm ?_
  iterate 7 refine k2 ?_
  refine tpkt ?_
  refine tpm ?_
  iterate 7 refine k2 ?_
  refine tpkt ?_
  refine rt_nil ?_
  refine ⟨by kernel_rfl, ?_⟩
  refine then_n ?_
  cases h1
  exact wk [0, 1, 2, 3, 4]
  refine tpm1 ?_
  refine tpm1 ?_
  refine rt_p rfl (w1 rfl rfl rfl) rfl (pu_neq rfl rfl) ?_
  refine tpkf ?_
  refine tpm ?_
  refine rt_if (u := 90) h1 rfl (fun hc h1 => ?_) (fun hc h1 => ?_)
  iterate 3 refine k2 ?_
  refine tpkt ?_
  refine tpm ?_
  iterate 3 refine k2 ?_
  refine tpkt ?_
  refine tpm ?_
  iterate 3 refine k2 ?_
  refine tpkt ?_
  refine tpm ?_
  iterate 3 refine k2 ?_
  refine tpkt ?_
  refine tpm ?_
  iterate 7 refine k2 ?_
  refine tpkt ?_
  refine tpm ?_
  iterate 7 refine k2 ?_
  refine tpkt ?_
  refine rt_nil ?_
  refine ⟨by kernel_rfl, ?_⟩
  refine then_n ?_
  cases h1
  exact wk [0, 1, 2, 3, 4]
  refine tpm1 ?_
  refine tpm1 ?_
  refine rt_p rfl (w1 rfl rfl rfl) rfl (pu_neq rfl rfl) ?_
  refine tpkf ?_
  refine tpm ?_
  refine rt_if (u := 95) h1 rfl (fun hc h1 => ?_) (fun hc h1 => ?_)
  iterate 3 refine k2 ?_
  refine tpkt ?_
  refine tpm ?_
  iterate 3 refine k2 ?_
  refine tpkt ?_
  refine tpm ?_
  iterate 3 refine k2 ?_
  refine tpkt ?_
  refine tpm ?_
  iterate 7 refine k2 ?_
  refine tpkt ?_
  refine tpm ?_
  iterate 7 refine k2 ?_
  refine tpkt ?_
  refine rt_nil ?_
  refine ⟨by kernel_rfl, ?_⟩
  refine then_n ?_
  cases h1
  exact wk [0, 1, 2, 3, 4]
  refine tpm1 ?_
  refine tpm1 ?_
  refine rt_p rfl (w1 rfl rfl rfl) rfl (pu_neq rfl rfl) ?_
  refine tpkf ?_
  refine tpm ?_
  refine rt_if (u := 100) h1 rfl (fun hc h1 => ?_) (fun hc h1 => ?_)
  iterate 3 refine k2 ?_
  refine tpkt ?_
  refine tpm ?_
  iterate 3 refine k2 ?_
  refine tpkt ?_
  refine tpm ?_
  iterate 7 refine k2 ?_
  refine tpkt ?_
  refine tpm ?_
  iterate 7 refine k2 ?_
  refine tpkt ?_
  refine rt_nil ?_
  refine ⟨by kernel_rfl, ?_⟩
  refine then_n ?_
  cases h1
  exact wk [0, 1, 2, 3, 4]
  refine tpm1 ?_
  refine tpm1 ?_
  refine rt_p rfl (w1 rfl rfl rfl) rfl (pu_bneq tok rfl rfl rfl rfl) ?_
  refine tpkf ?_
  refine tpm ?_
  refine rt_ifB (u := 105) h1 rfl (fun hc h1 => ?_) (fun hc h1 => ?_)
  iterate 3 refine k2 ?_
  refine tpkt ?_
  refine tpm ?_
  iterate 7 refine k2 ?_
  refine tpkt ?_
  refine tpm ?_
  iterate 7 refine k2 ?_
  refine tpkt ?_
  refine rt_nil ?_
  refine ⟨by kernel_rfl, ?_⟩
  refine then_n ?_
  cases h1
  exact wk [0, 1, 2, 3, 4]
  refine rt_lk rfl (w1 rfl rfl rfl) rfl (bx_ldN tok rfl rfl rfl rfl) rfl rfl rfl ?_
  refine rt_lk rfl (w1 rfl rfl rfl) rfl (bx_ldN tok rfl rfl rfl rfl) rfl rfl rfl ?_
  refine rt_p rfl (w1 rfl rfl rfl) rfl (ps_neq_Index_ (a := v8.1) (b := v9.1) rfl rfl) ?_
  refine tpkf ?_
  refine tpm ?_
  refine rt_if (u := 110) h1 rfl (fun hc h1 => ?_) (fun hc h1 => ?_)
  iterate 7 refine k2 ?_
  refine tpkt ?_
  refine tpm ?_
  iterate 7 refine k2 ?_
  refine tpkt ?_
  refine rt_nil ?_
  refine ⟨by kernel_rfl, ?_⟩
  refine then_n ?_
  cases h1
  exact wk [0, 1, 2, 3, 4]
  iterate 4 refine rt_lk rfl (w1 rfl rfl rfl) rfl (bx_ldN tok rfl rfl rfl rfl) rfl rfl rfl ?_
  obtain ⟨v10, hv10, h1⟩ := bnd h1
  refine rt_c rfl (w1 rfl rfl rfl) rfl (b_call 8 (i_IndexText_c hv10) rfl rfl rfl) ?_
  obtain ⟨v11, hv11, h1⟩ := bnd h1
  refine rt_c rfl (w1 rfl rfl rfl) rfl (b_call 8 (s_IndexText_c hv11) rfl rfl rfl) ?_
  refine rt_p rfl (w1 rfl rfl rfl) rfl (pu_sneq rfl rfl) ?_
  refine tpkf ?_
  refine tpm ?_
  refine rt_if (u := 119) h1 rfl (fun hc h1 => ?_) (fun hc h1 => ?_)
  iterate 7 refine k2 ?_
  refine tpkt ?_
  refine rt_nil ?_
  refine ⟨by kernel_rfl, ?_⟩
  refine then_n ?_
  cases h1
  exact wk [0, 1, 2, 3, 4]
  iterate 4 refine rt_lk rfl (w1 rfl rfl rfl) rfl (bx_ldN tok rfl rfl rfl rfl) rfl rfl rfl ?_
  obtain ⟨v12, hv12, h1⟩ := bnd h1
  refine rt_c rfl (w1 rfl rfl rfl) rfl (b_call 8 (i_ValidIndex_c hv12) rfl rfl rfl) ?_
  obtain ⟨v13, hv13, h1⟩ := bnd h1
  refine rt_c rfl (w1 rfl rfl rfl) rfl (b_call 8 (s_ValidIndex_c hv13) rfl rfl rfl) ?_
  refine rt_p rfl (w1 rfl rfl rfl) rfl (pu_bneq tok rfl rfl rfl rfl) ?_
  refine tpkf ?_
  refine rt_nil ?_
  refine ⟨by kernel_rfl, ?_⟩
  refine then_n ?_
  cases h1
  exact wk [0, 1, 2, 3, 4]
  refine aw_ifB h0 rfl (fun hc h0 => ?_) (fun hc h0 => ?_)
  refine sq [0] ?_
  refine pa ?_
  refine nx ?_
  refine aw_ret ?_
  refine then_r ?_
  cases h0
  exact ret0_ (rs := [.tmp 2]) rfl
  refine sk ?_
  refine aw_seq ?_
  refine sq [0,1] ?_
  refine pm ?_
  refine rp rfl w0 rfl (pu_neq rfl rfl) ?_
  refine nx ?_
  refine aw_if h0 rfl (fun hc h0 => ?_) (fun hc h0 => ?_)
  refine sq [0] ?_
  refine pa ?_
  refine nx ?_
  refine aw_ret ?_
  refine then_r ?_
  cases h0
  exact ret0_ (rs := [.tmp 2]) rfl
  refine sk ?_
  refine sq [0,1,2,3,4,5] ?_
  refine fa tok ?_
  refine ld tok ?_
  refine fa tok ?_
  refine ld tok ?_
  refine rp rfl w0 rfl (pw_mul rfl rfl) ?_
  refine pa ?_
  refine nx ?_
  refine sq [0,1,2,3,4,5] ?_
  refine pm ?_
  obtain ⟨v15, hv15, h0⟩ := bnd h0
  refine rs rfl w0 rfl (c_call 5 (l_f6roll_c hv15) rfl rfl rfl) ?_
  refine pm ?_
  refine rp rfl w0 rfl (pw_add rfl rfl) ?_
  obtain ⟨v16, hv16, h0⟩ := bnd h0
  refine rw1 rfl w0 rfl (c_callP [5] 300 (laws_f6dice_below_b_c hv16) rfl rfl) ?_
  refine pa ?_
  refine nx ?_
  refine sq [0,1,2,3,4,5,6,7,8] ?_
  refine rl rfl w0 rfl (bx_ldN tok rfl rfl rfl rfl) ?_
  refine rl rfl w0 rfl (bx_ldN tok rfl rfl rfl rfl) ?_
  refine pm ?_
  obtain ⟨v17, hv17, h0⟩ := bnd h0
  refine rs rfl w0 rfl (c_call 6 (i_HolesAfter_c hv17) rfl rfl rfl) ?_
  refine rp rfl w0 rfl (pu_move (r := .tup _) rfl) ?_
  refine rp rfl w0 rfl (pu_extract rfl rfl) ?_
  refine rp rfl w0 rfl (pu_extract rfl rfl) ?_
  refine pa ?_
  refine pa ?_
  refine nx ?_
  refine sq [0,1,2,3,4,5,6,7,8,9,10] ?_
  refine rl rfl w0 rfl (bx_ldN tok rfl rfl rfl rfl) ?_
  refine rl rfl w0 rfl (bx_ldN tok rfl rfl rfl rfl) ?_
  refine pm ?_
  refine pm ?_
  refine rp rfl w0 rfl (pw_sub rfl rfl) ?_
  obtain ⟨v18, hv18, h0⟩ := bnd h0
  refine rs rfl w0 rfl (c_call 6 (i_HolesAfter_c hv18) rfl rfl rfl) ?_
  refine rp rfl w0 rfl (pu_move (r := .tup _) rfl) ?_
  refine rp rfl w0 rfl (pu_extract rfl rfl) ?_
  refine rp rfl w0 rfl (pu_extract rfl rfl) ?_
  refine pa ?_
  refine pa ?_
  refine nx ?_
  refine sq [0,1,2,3,4,5,6,7,8] ?_
  refine rl rfl w0 rfl (bx_ldN tok rfl rfl rfl rfl) ?_
  refine rl rfl w0 rfl (bx_ldN tok rfl rfl rfl rfl) ?_
  refine pm ?_
  obtain ⟨v19, hv19, h0⟩ := bnd h0
  refine rs rfl w0 rfl (c_call 6 (i_HolesAfter_c hv19) rfl rfl rfl) ?_
  refine rp rfl w0 rfl (pu_move (r := .tup _) rfl) ?_
  refine rp rfl w0 rfl (pu_extract rfl rfl) ?_
  refine rp rfl w0 rfl (pu_extract rfl rfl) ?_
  refine pa ?_
  refine pa ?_
  refine nx ?_
  refine sq [0,1,2,3,4] ?_
  refine pm ?_
  obtain ⟨v20, hv20, h0⟩ := bnd h0
  refine rs rfl w0 rfl (c_call 6 (l_f6roll_c hv20) rfl rfl rfl) ?_
  refine pm ?_
  obtain ⟨v21, hv21, h0⟩ := bnd h0
  refine rw1 rfl w0 rfl (c_callP [6] 300 (laws_f6dice_below_b_c hv21) rfl rfl) ?_
  refine pa ?_
  refine nx ?_
  refine sq [0,1,2,3,4,5,6,7,8] ?_
  refine rl rfl w0 rfl (bx_ldN tok rfl rfl rfl rfl) ?_
  refine rl rfl w0 rfl (bx_ldN tok rfl rfl rfl rfl) ?_
  refine pm ?_
  obtain ⟨v22, hv22, h0⟩ := bnd h0
  refine rs rfl w0 rfl (c_call 7 (i_HolesAfter_c hv22) rfl rfl rfl) ?_
  refine rp rfl w0 rfl (pu_move (r := .tup _) rfl) ?_
  refine rp rfl w0 rfl (pu_extract rfl rfl) ?_
  refine rp rfl w0 rfl (pu_extract rfl rfl) ?_
  refine pa ?_
  refine pa ?_
  refine nx ?_
  refine sq [0,1,2,3,4,5,6,7,8,9,10,11,12,13,14,15,16,17,18,19,20,21,22,23,24,25,26,27,28,29,30,31,32,33,34,35] ?_
  refine pm ?_
  refine rp rfl w0 rfl (pu_eql rfl rfl) ?_
  refine pm ?_
  refine ra_if (u := 176) h0 rfl (fun hc h0 => ?_) (fun hc h0 => ?_)
  refine pm1 ?_
  refine rp rfl (w1 rfl rfl rfl) rfl (pu_eql rfl rfl) ?_
  refine pkt ?_
  refine pm ?_
  refine ra_if (u := 180) h0 rfl (fun hc h0 => ?_) (fun hc h0 => ?_)
  refine pm1 ?_
  refine rp rfl (w1 rfl rfl rfl) rfl (pu_eql rfl rfl) ?_
  refine pkt ?_
  refine pm ?_
  refine ra_if (u := 184) h0 rfl (fun hc h0 => ?_) (fun hc h0 => ?_)
  refine pm1 ?_
  refine rp rfl (w1 rfl rfl rfl) rfl (pu_eql rfl rfl) ?_
  refine pkt ?_
  refine pm ?_
  refine ra_if (u := 188) h0 rfl (fun hc h0 => ?_) (fun hc h0 => ?_)
  refine pm1 ?_
  refine pm1 ?_
  refine rp rfl (w1 rfl rfl rfl) rfl (pw_add rfl rfl) ?_
  refine pm1 ?_
  obtain ⟨hq23, h0⟩ := chk_e h0
  refine rp rfl (w1 rfl rfl rfl) rfl (pu_remw rfl rfl hq23) ?_
  refine pm1 ?_
  refine rp rfl (w1 rfl rfl rfl) rfl (pu_eql rfl rfl) ?_
  refine pkt ?_
  refine pm ?_
  refine ra_if (u := 197) h0 rfl (fun hc h0 => ?_) (fun hc h0 => ?_)
  refine pm1 ?_
  refine rp rfl (w1 rfl rfl rfl) rfl (pu_eql rfl rfl) ?_
  refine pkt ?_
  refine pm ?_
  refine ra_if (u := 201) h0 rfl (fun hc h0 => ?_) (fun hc h0 => ?_)
  refine pm1 ?_
  refine rp rfl (w1 rfl rfl rfl) rfl (pu_eql rfl rfl) ?_
  refine pm1 ?_
  refine ra_if (u := 204) h0 rfl (fun hc h0 => ?_) (fun hc h0 => ?_)
  refine k1 ?_
  refine k1 ?_
  refine pkt1 ?_
  refine pkt ?_
  refine pa ?_
  refine nx ?_
  refine aw_ret ?_
  cases h0
  exact ret0_ (rs := [.tmp 2]) rfl
  refine pm1 ?_
  refine rp rfl (w1 rfl rfl rfl) rfl (pu_neq rfl rfl) ?_
  refine pkf1 ?_
  refine pkt ?_
  refine pa ?_
  refine nx ?_
  refine aw_ret ?_
  cases h0
  exact ret0_ (rs := [.tmp 2]) rfl
  iterate 6 refine k1 ?_
  refine pkf ?_
  refine pa ?_
  refine nx ?_
  refine aw_ret ?_
  cases h0
  exact ret0_ (rs := [.tmp 2]) rfl
  refine k1 ?_
  refine k1 ?_
  refine pkf ?_
  refine pm ?_
  iterate 6 refine k1 ?_
  refine pkf ?_
  refine pa ?_
  refine nx ?_
  refine aw_ret ?_
  cases h0
  exact ret0_ (rs := [.tmp 2]) rfl
  iterate 7 refine k1 ?_
  refine pkf ?_
  refine pm ?_
  refine k1 ?_
  refine k1 ?_
  refine pkf ?_
  refine pm ?_
  iterate 6 refine k1 ?_
  refine pkf ?_
  refine pa ?_
  refine nx ?_
  refine aw_ret ?_
  cases h0
  exact ret0_ (rs := [.tmp 2]) rfl
  refine k1 ?_
  refine k1 ?_
  refine pkf ?_
  refine pm ?_
  iterate 7 refine k1 ?_
  refine pkf ?_
  refine pm ?_
  refine k1 ?_
  refine k1 ?_
  refine pkf ?_
  refine pm ?_
  iterate 6 refine k1 ?_
  refine pkf ?_
  refine pa ?_
  refine nx ?_
  refine aw_ret ?_
  cases h0
  exact ret0_ (rs := [.tmp 2]) rfl
  refine k1 ?_
  refine k1 ?_
  refine pkf ?_
  refine pm ?_
  refine k1 ?_
  refine k1 ?_
  refine pkf ?_
  refine pm ?_
  iterate 7 refine k1 ?_
  refine pkf ?_
  refine pm ?_
  refine k1 ?_
  refine k1 ?_
  refine pkf ?_
  refine pm ?_
  iterate 6 refine k1 ?_
  refine pkf ?_
  refine pa ?_
  refine nx ?_
  refine aw_ret ?_
  cases h0
  exact ret0_ (rs := [.tmp 2]) rfl
  refine k1 ?_
  refine k1 ?_
  refine pkf ?_
  refine pm ?_
  refine k1 ?_
  refine k1 ?_
  refine pkf ?_
  refine pm ?_
  refine k1 ?_
  refine k1 ?_
  refine pkf ?_
  refine pm ?_
  iterate 7 refine k1 ?_
  refine pkf ?_
  refine pm ?_
  refine k1 ?_
  refine k1 ?_
  refine pkf ?_
  refine pm ?_
  iterate 6 refine k1 ?_
  refine pkf ?_
  refine pa ?_
  refine nx ?_
  refine aw_ret ?_
  cases h0
  exact ret0_ (rs := [.tmp 2]) rfl

end Go.Proofs.YtjhadibjjldpdaaDoor
namespace Go.Proofs.YtjhadibjjldpdaaDoor
set_option linter.unusedVariables false
theorem u64_eq (x : Int) : IntKind.u64.wrap x = x % 18446744073709551616 := by
  unfold IntKind.wrap
  simp [IntKind.signed, IntKind.bits]
theorem u64_in {x : Int} (h0 : 0 ≤ x) (h1 : x < 18446744073709551616) : IntKind.u64.wrap x = x := by rw [u64_eq]; omega
theorem gcd_step {a b : Int} : Int.gcd b (a.tmod b) = Int.gcd a b := by
  unfold Int.gcd
  rw [Int.natAbs_tmod, Nat.gcd_comm a.natAbs b.natAbs, Nat.gcd_comm, ← Nat.gcd_rec]
theorem gcd_loop {step : Int × Int → Option ((Int × Int) ⊕ Int)} (hS : ∀ a b, b ≠ 0 → step (a, b) = some (.inl (b, a.tmod b))) (hE : ∀ a, step (a, 0) = some (.inr a)) (a b : Int) (hb : b.natAbs ≤ 9223372036854775808) :
    ∃ g, loopM step (a, b) = some g ∧ g.natAbs = Int.gcd a b ∧ (g = a ∨ g.natAbs ≤ b.natAbs) := by
  refine loopM_of (fun (s : Int × Int) => Int.gcd s.1 s.2 = Int.gcd a b ∧ s.2.natAbs ≤ b.natAbs ∧ (s.1 = a ∨ s.1.natAbs ≤ b.natAbs)) (fun (s : Int × Int) => s.2.natAbs) (fun g => g.natAbs = Int.gcd a b ∧ (g = a ∨ g.natAbs ≤ b.natAbs)) (fun s hI => ?_) (a, b) ⟨rfl, Nat.le_refl _, .inl rfl⟩ (by dsimp only; omega)
  obtain ⟨x, y⟩ := s
  obtain ⟨h1, h2, h3⟩ := hI
  dsimp only at h1 h2 h3 ⊢
  by_cases hy : y = 0
  · right
    subst hy
    exact ⟨x, hE x, by rw [← h1]; simp, h3⟩
  · left
    have hlt : (x.tmod y).natAbs < y.natAbs := by rw [Int.natAbs_tmod]; exact Nat.mod_lt _ (by omega)
    exact ⟨_, hS x y hy, ⟨by rw [gcd_step]; exact h1, by dsimp only; omega, .inr h2⟩, hlt⟩
theorem gcd_loopP {step : Int × Int → Option ((Int × Int) ⊕ Int)} (hS : ∀ a b, 0 ≤ a → 0 < b → step (a, b) = some (.inl (b, a.tmod b))) (hE : ∀ a, step (a, 0) = some (.inr a)) {a b : Int} (ha : 0 ≤ a) (hb0 : 0 ≤ b) (hb : b ≤ 18446744073709551616) :
    loopM step (a, b) = some (Int.gcd a b : Int) := by
  obtain ⟨g, h, h1, h2⟩ := loopM_of (step := step) (fun (s : Int × Int) => Int.gcd s.1 s.2 = Int.gcd a b ∧ 0 ≤ s.1 ∧ 0 ≤ s.2) (fun (s : Int × Int) => s.2.natAbs) (fun g => g.natAbs = Int.gcd a b ∧ 0 ≤ g) (fun s hI => by
    obtain ⟨x, y⟩ := s
    obtain ⟨h1, h2, h3⟩ := hI
    dsimp only at h1 h2 h3 ⊢
    by_cases hy : y = 0
    · right
      subst hy
      exact ⟨x, hE x, by rw [← h1]; simp, h2⟩
    · left
      have hlt : (x.tmod y).natAbs < y.natAbs := by rw [Int.natAbs_tmod]; exact Nat.mod_lt _ (by omega)
      exact ⟨_, hS x y h2 (by omega), ⟨by rw [gcd_step]; exact h1, h3, Int.tmod_nonneg _ h2⟩, hlt⟩) (a, b) ⟨rfl, ha, hb0⟩ (by dsimp only; omega)
  rw [h]; congr 1; omega
theorem i_gcd_eq {a b : Int} (ha : osI a) (ha' : -9223372036854775808 < a) (hb : osI b) (hb' : -9223372036854775808 < b) : i_gcd_m a b = some (Int.gcd a b : Int) := by
  unfold i_gcd_m
  obtain ⟨a0, a1⟩ := ha
  obtain ⟨b0, b1⟩ := hb
  obtain ⟨g, h, h1, h2⟩ := gcd_loop (step := fun s3 => (if s3.2 ≠ 0 then (chk (s3.2 ≠ 0) (some (.inl (s3.2, s3.1.tmod s3.2)))) else some (.inr s3.1))) (fun a b h => by simp only; rw [if_pos h, chk_t h]) (fun a => by simp) a b (by omega)
  rw [h, Option.bind_some]
  split
  · rw [w64_in (by omega) (by omega)]; congr 1; omega
  · congr 1; omega
theorem s_l02Gcd_eq {a b : Int} (ha : 0 ≤ a) (hb : 0 ≤ b) (hb1 : b ≤ 18446744073709551616) : s_l02Gcd_m a b = some (Int.gcd a b : Int) := by
  unfold s_l02Gcd_m
  rw [gcd_loopP (fun a b h0 h1 => by simp only; rw [if_pos (by omega), chk_t (by omega)]) (fun a => by simp) ha hb hb1]; rfl
end Go.Proofs.YtjhadibjjldpdaaDoor
namespace Go.Proofs.YtjhadibjjldpdaaDoor
set_option linter.unusedVariables false
end Go.Proofs.YtjhadibjjldpdaaDoor
namespace Go.Proofs.YtjhadibjjldpdaaDoor
set_option linter.unusedVariables false
end Go.Proofs.YtjhadibjjldpdaaDoor
namespace Go.Proofs.YtjhadibjjldpdaaDoor
open Go.RowKit
set_option linter.unusedVariables false
set_option maxRecDepth 100000
set_option maxHeartbeats 2000000
end Go.Proofs.YtjhadibjjldpdaaDoor
namespace Go.Proofs.YtjhadibjjldpdaaDoor
set_option linter.unusedVariables false
def riseB (xs : List Int) (lo hi : Int) : Bool := allI xs fun i c => btw c lo hi && (decide (i = 0) || decide (xs.getD (i - 1) 0 < c))
def hasB (xs : List Int) (c : Int) : Bool := xs.any fun v => decide (v = c)
def divB (d : Divider_) : Bool := btw d.Worm 1 360 && (decide (1 ≤ d.Circles.length ∧ d.Circles.length ≤ 20) && riseB d.Circles 2 200)
def stepX (x : Index_) : Int := x.Turns * x.Circle + x.Holes
def idxB (d : Divider_) (x : Index_) : Bool := divB d && (hasB d.Circles x.Circle && (btw x.Turns 0 d.Worm && (btw x.Holes 0 (x.Circle - 1) && btw (stepX x) 1 (d.Worm * x.Circle))))
theorem divB_iff {d : Divider_} (h : divB d = true) : (1 ≤ d.Worm ∧ d.Worm ≤ 360) ∧ (1 ≤ d.Circles.length ∧ d.Circles.length ≤ 20) ∧ ∀ c ∈ d.Circles, 2 ≤ c ∧ c ≤ 200 := by
  unfold divB btw riseB at h
  simp only [Bool.and_eq_true, decide_eq_true_eq, allI_iff] at h
  refine ⟨h.1, h.2.1, fun c hc => ?_⟩
  obtain ⟨i, hi, rfl⟩ := List.getElem_of_mem hc
  have := (h.2.2 i hi).1
  unfold btw at this
  exact of_decide_eq_true this
theorem rise_step {xs : List Int} {lo hi : Int} {i : Nat} (hi' : i < xs.length) (hl : xs.length ≤ 9223372036854775807) {b : Bool} (hb : b = btw xs[i] lo hi) :
    ((if (!b) = true then some true else (if 0 < (i : Int) then ((atI xs (w64 ((i : Int) - 1))).bind fun v9 => some (decide (xs[i] ≤ v9))) else some false)) : Option Bool) = some (!(btw xs[i] lo hi && (decide (i = 0) || decide (xs.getD (i - 1) 0 < xs[i])))) := by
  subst hb
  cases btw xs[i] lo hi
  · rfl
  · by_cases h0 : i = 0
    · subst h0; simp
    · have e : w64 ((i : Int) - 1) = ((i - 1 : Nat) : Int) := by rw [w64_in (by omega) (by omega)]; omega
      have hg : xs.getD (i - 1) 0 = xs[i - 1] := by rw [List.getD_eq_getElem?_getD, List.getElem?_eq_getElem (by omega)]; rfl
      rw [if_neg (by decide), if_pos (by omega), e, atI_lt (show i - 1 < xs.length by omega), Option.bind_some, hg, decide_eq_false h0, Bool.true_and, Bool.false_or]
      congr 1
      by_cases q : xs[i] ≤ xs[i - 1]
      · rw [decide_eq_true q, decide_eq_false (by omega)]; rfl
      · rw [decide_eq_false q, decide_eq_true (by omega)]; rfl
theorem len20 {α : Type} {xs : List α} : (if 1 ≤ (xs.length : Int) then some (decide ((xs.length : Int) ≤ 20)) else some false) = some (decide (1 ≤ xs.length ∧ xs.length ≤ 20)) := by
  rw [itAp, ← Bool.decide_and]
  congr 1
  rw [decide_eq_decide]; omega
theorem i_ValidDivider_eq {d : Divider_} (hl : d.Circles.length ≤ 9223372036854775807) : i_ValidDivider_m d = some (divB d) := by
  unfold i_ValidDivider_m divB riseB
  rw [scanG (e := .inr false) (fun i c => btw c 2 200 && (decide (i = 0) || decide (d.Circles.getD (i - 1) 0 < c))) hl fun i hi => ?_, Option.bind_some, i_within_eq, Option.bind_some, len20, itA, scan_and rfl]
  · congr 1; ac_rfl
  · rw [atI_lt hi, Option.bind_some, i_within_eq, Option.bind_some, rise_step hi hl rfl, Option.bind_some]
    cases (btw d.Circles[i] 2 200 && (decide (i = 0) || decide (d.Circles.getD (i - 1) 0 < d.Circles[i]))) <;> rfl
theorem s_l00Rises_eq {xs : List Int} (lo hi : Int) (hl : xs.length ≤ 9223372036854775807) : s_l00Rises_m xs lo hi = some (riseB xs lo hi) := by
  unfold s_l00Rises_m riseB
  rw [scanG (e := .inr false) (fun i c => btw c lo hi && (decide (i = 0) || decide (xs.getD (i - 1) 0 < c))) hl fun i hi' => ?_, Option.bind_some, scan_and rfl, Bool.and_true]
  simp only [atI_lt hi', Option.bind_some, s_l00In_eq]
  rw [rise_step hi' hl rfl, Option.bind_some]
  cases (btw xs[i] lo hi && (decide (i = 0) || decide (xs.getD (i - 1) 0 < xs[i]))) <;> rfl
theorem s_l24Ok_eq {d : Divider_} (hl : d.Circles.length ≤ 9223372036854775807) : s_l24Ok_m d = some (divB d) := by
  unfold s_l24Ok_m divB
  have e : btw (d.Circles.length : Int) 1 20 = decide (1 ≤ d.Circles.length ∧ d.Circles.length ≤ 20) := by unfold btw; rw [decide_eq_decide]; omega
  simp only [s_l00In_eq, Option.bind_some, s_l00Rises_eq 2 200 hl, itA, e]
theorem s_l00Has_eq {xs : List Int} (c : Int) (hl : xs.length ≤ 9223372036854775807) : s_l00Has_m xs c = some (hasB xs c) := by
  unfold s_l00Has_m hasB
  rw [scanG (e := .inr true) (fun _ v => !decide (v = c)) hl fun i hi => by rw [atI_lt hi, Option.bind_some]; by_cases q : xs[i] = c <;> simp [q], allI_all, Option.bind_some]
  have e : (xs.all fun v => !decide (v = c)) = !(xs.any fun v => decide (v = c)) := by rw [Bool.eq_iff_iff]; simp
  rw [e]
  cases (xs.any fun v => decide (v = c)) <;> rfl
theorem i_has_eq {xs : List Int} (c : Int) (hl : xs.length ≤ 9223372036854775807) : slices_Contains_Lint64_int64_m xs c = some (hasB xs c) := by
  unfold slices_Contains_Lint64_int64_m slices_Index_Lint64_int64_m hasB
  rw [findG (fun v => decide (v = c)) hl fun i hi => by
    rw [atI_lt hi, Option.bind_some]
    by_cases q : c = xs[i]
    · rw [if_pos q, decide_eq_true q.symm]; rfl
    · rw [if_neg q, decide_eq_false (Ne.symm q)]; rfl, Option.bind_some, posOf_nn]
theorem has_in {d : Divider_} (h : divB d = true) {c : Int} (hc : hasB d.Circles c = true) : 2 ≤ c ∧ c ≤ 200 := by
  unfold hasB at hc
  obtain ⟨v, hv, e⟩ := List.any_eq_true.1 hc
  have e := of_decide_eq_true e
  rw [← e]; exact (divB_iff h).2.2 v hv
theorem prod_in {a b A B : Int} (a0 : 0 ≤ a) (a1 : a ≤ A) (b0 : 0 ≤ b) (b1 : b ≤ B) : 0 ≤ a * b ∧ a * b ≤ A * B := ⟨Int.mul_nonneg a0 b0, Int.mul_le_mul a1 b1 b0 (by omega)⟩
theorem idxB_iff {d : Divider_} {x : Index_} (h : idxB d x = true) : divB d = true ∧ (2 ≤ x.Circle ∧ x.Circle ≤ 200) ∧ (0 ≤ x.Turns ∧ x.Turns ≤ d.Worm) ∧ (0 ≤ x.Holes ∧ x.Holes ≤ x.Circle - 1) ∧ 1 ≤ stepX x ∧ stepX x ≤ d.Worm * x.Circle := by
  unfold idxB btw at h
  simp only [Bool.and_eq_true, decide_eq_true_eq] at h
  exact ⟨h.1, has_in h.1 h.2.1, h.2.2.1, h.2.2.2.1, h.2.2.2.2⟩
theorem idx_tail {d : Divider_} {x : Index_} (h1 : divB d = true) (h2 : hasB d.Circles x.Circle = true) (h3 : btw x.Turns 0 d.Worm = true) (h4 : btw x.Holes 0 (x.Circle - 1) = true) : w64 (w64 (x.Turns * x.Circle) + x.Holes) = stepX x ∧ w64 (d.Worm * x.Circle) = d.Worm * x.Circle ∧ w64 (x.Circle - 1) = x.Circle - 1 := by
  have a := divB_iff h1
  have b := has_in h1 h2
  have c := of_decide_eq_true h3
  have e := of_decide_eq_true h4
  have p1 := prod_in (a := x.Turns) (b := x.Circle) (A := 360) (B := 200) c.1 (by omega) (by omega) b.2
  have p2 := prod_in (a := d.Worm) (b := x.Circle) (A := 360) (B := 200) (by omega) (by omega) (by omega) b.2
  refine ⟨?_, w64_in (by omega) (by omega), w64_in (by omega) (by omega)⟩
  rw [w64_in (x := x.Turns * x.Circle) (by omega) (by omega), w64_in (by omega) (by omega)]; rfl
theorem circ1 {d : Divider_} {c : Int} (h1 : divB d = true) (h2 : hasB d.Circles c = true) : w64 (c - 1) = c - 1 := by
  have b := has_in h1 h2
  exact w64_in (by omega) (by omega)
theorem i_ValidIndex_eq {d : Divider_} {x : Index_} (hl : d.Circles.length ≤ 9223372036854775807) : i_ValidIndex_m d x = some (idxB d x) := by
  unfold i_ValidIndex_m idxB
  simp only [i_ValidDivider_eq hl, i_has_eq _ hl, i_within_eq, Option.bind_some, itO, i_stepOf_m]
  cases h1 : divB d
  · rfl
  · cases h2 : hasB d.Circles x.Circle
    · rfl
    · rw [circ1 h1 h2]
      cases h3 : btw x.Turns 0 d.Worm
      · rfl
      · cases h4 : btw x.Holes 0 (x.Circle - 1)
        · rfl
        · obtain ⟨e1, e2, _⟩ := idx_tail h1 h2 h3 h4
          rw [e1, e2]; rfl
theorem s_l24Index_eq {d : Divider_} {x : Index_} (hl : d.Circles.length ≤ 9223372036854775807) : s_l24Index_m d x = some (idxB d x) := by
  unfold s_l24Index_m idxB
  simp only [s_l24Ok_eq hl, s_l00Has_eq _ hl, s_l00In_eq, Option.bind_some, itO, s_l24Step_m]
  cases h1 : divB d
  · rfl
  · cases h2 : hasB d.Circles x.Circle
    · rfl
    · rw [circ1 h1 h2]
      cases h3 : btw x.Turns 0 d.Worm
      · rfl
      · cases h4 : btw x.Holes 0 (x.Circle - 1)
        · rfl
        · obtain ⟨e1, e2, _⟩ := idx_tail h1 h2 h3 h4
          rw [e1, e2]; rfl
end Go.Proofs.YtjhadibjjldpdaaDoor
namespace Go.Proofs.YtjhadibjjldpdaaDoor
set_option linter.unusedVariables false
end Go.Proofs.YtjhadibjjldpdaaDoor
namespace Go.Proofs.YtjhadibjjldpdaaDoor
set_option linter.unusedVariables false
end Go.Proofs.YtjhadibjjldpdaaDoor
namespace Go.Proofs.YtjhadibjjldpdaaDoor
set_option linter.unusedVariables false
theorem l24Draw_ok {n : Int} {s : L00Src_} (h : srcOk n s) (hn : n ≤ 1000000) : Ok (s_l24Draw_b_m s) (fun r => r.1.Circles.length ≤ 20 ∧ srcOk (n + 30) r.2) := by
  unfold s_l24Draw_b_m
  refine ok_bind (among_ok h (by omega) (by simp)) fun v1 h1 => ?_
  refine ok_bind (P := fun v => srcOk (n + 6) v.1) ?_ fun v4 h4 => ?_
  · refine ok_bind (one_ok h1.2 (by omega)) fun v2 h2 => ?_
    refine ok_ite (fun _ => ?_) fun _ => ok_some (srcOk_le h2 (by omega))
    refine ok_bind (pick_ok h2 (by omega)) fun v3 h3 => ok_some (srcOk_le h3.2.2.2 (by omega))
  · refine ok_bind (one_ok h4 (by omega)) fun v5 h5 => ?_
    refine ok_ite (fun _ => ok_some ⟨by simp, srcOk_le h5 (by omega)⟩) fun _ => ?_
    refine ok_bind (pick_ok h5 (by omega)) fun v6 h6 => ?_
    refine ok_bind (P := fun v => v.2.length ≤ 20 ∧ srcOk (n + 30) v.1) ?_ fun v14 h14 => ok_some h14
    refine ok_bind (pick_ok h6.2.2.2 (by omega)) fun v7 h7 => ?_
    have e : w64 (1 + v7.1) = 1 + v7.1 := w64_in (by have := h7.1; omega) (by have := h7.2.2.1; omega)
    have hb : v7.1 ≤ 4 := by rcases h7.2.1 with h | h <;> omega
    have hz := h7.1
    rw [e]
    refine ok_loop (fun (s : Int × Int × L00Src_ × List Int) => 0 ≤ s.2.1 ∧ s.2.1 ≤ 5 ∧ (s.2.2.2.length : Int) + s.2.1 ≤ 5 ∧ srcOk (n + 22 - 2 * s.2.1) s.2.2.1) (fun s => s.2.1.toNat) (fun s hI => ?_) _ ⟨by dsimp only; omega, by dsimp only; omega, by simp; omega, srcOk_le h7.2.2.2 (by dsimp only; omega)⟩ (by dsimp only; omega)
    obtain ⟨a, k, q, l⟩ := s
    obtain ⟨i0, i1, i2, i3⟩ := hI
    dsimp only at i0 i1 i2 i3 ⊢
    refine ok_ite (fun hk => ?_) fun hk => ok_some (.inr ⟨_, rfl, by dsimp only; omega, srcOk_le i3 (by omega)⟩)
    refine ok_chk (by simp; omega) ?_
    refine ok_bind (pick_ok i3 (by omega)) fun v13 h13 => ok_some (.inl ⟨_, rfl, ?_, ?_⟩)
    · have e2 : w64 (k - 1) = k - 1 := w64_in (by omega) (by omega)
      dsimp only
      rw [e2]
      exact ⟨by omega, by omega, by simp; omega, srcOk_le h13.2.2.2 (by omega)⟩
    · have e2 : w64 (k - 1) = k - 1 := w64_in (by omega) (by omega)
      dsimp only
      rw [e2]; omega
theorem l24Bent_ok {n : Int} {s : L00Src_} (h : srcOk n s) (hn : n ≤ 1000000) : Ok (s_l24Bent_b_m s) (fun r => r.1.Circles.length ≤ 50 ∧ srcOk (n + 100) r.2) := by
  unfold s_l24Bent_b_m
  refine ok_bind (l24Draw_ok h (by omega)) fun v1 h1 => ?_
  refine ok_bind (P := fun v => v.2.2.length ≤ 50 ∧ srcOk (n + 100) v.1) ?_ fun v12 h12 => ok_some h12
  refine ok_bind (pick_ok h1.2 (by omega)) fun v2 h2 => ?_
  have h22 := h2.2.2.2
  refine ok_ite (fun _ => ?_) fun _ => ?_
  · refine ok_bind (among_ok h22 (by omega) (by simp)) fun v3 h3 => ok_some ⟨by have := h1.1; dsimp only; omega, srcOk_le h3.2 (by omega)⟩
  · refine ok_ite (fun _ => ok_some ⟨by simp, srcOk_le h22 (by omega)⟩) fun _ => ?_
    refine ok_ite (fun _ => ?_) fun _ => ?_
    · have := h1.1
      refine ok_bind (among_ok h22 (by omega) (by simp)) fun v4 h4 => ok_chk (by simp; omega) (ok_some ⟨by simp; omega, srcOk_le h4.2 (by omega)⟩)
    · refine ok_ite (fun _ => ?_) fun _ => ok_some ⟨by have := h1.1; dsimp only; omega, srcOk_le h22 (by omega)⟩
      refine ok_loop (fun (s : Int × L00Src_ × List Int) => 0 ≤ s.1 ∧ s.1 ≤ 21 ∧ (s.2.2.length : Int) ≤ s.1 ∧ srcOk (n + 32 + 2 * s.1) s.2.1) (fun s => (21 - s.1).toNat) (fun s hI => ?_) _ ⟨by simp, by simp, by simp, srcOk_le h22 (by dsimp only; omega)⟩ (by dsimp only; omega)
      obtain ⟨k, q, l⟩ := s
      obtain ⟨i0, i1, i2, i3⟩ := hI
      dsimp only at i0 i1 i2 i3 ⊢
      refine ok_bind (pick_ok i3 (by omega)) fun v10 h10 => ?_
      have hb : v10.1 ≤ 1 := by rcases h10.2.1 with h | h <;> omega
      have hz := h10.1
      rw [w64_in (x := 20 + v10.1) (by omega) (by omega)]
      refine ok_ite (fun hk => ?_) fun hk => ok_some (.inr ⟨_, rfl, by dsimp only; omega, srcOk_le h10.2.2.2 (by omega)⟩)
      have e2 : w64 (k + 1) = k + 1 := w64_in (by omega) (by omega)
      refine ok_chk (by simp; omega) (ok_some (.inl ⟨_, rfl, ⟨?_, ?_, ?_, ?_⟩, ?_⟩))
      all_goals (dsimp only; rw [e2])
      · omega
      · omega
      · simp; omega
      · exact srcOk_le h10.2.2.2 (by omega)
      · omega
def diceOk (s : F6dice_) : Prop := 0 ≤ s.i ∧ s.i ≤ 1000000 ∧ s.b.length ≤ 1000000 ∧ ∀ b ∈ s.b, 0 ≤ b ∧ b ≤ 255
theorem andM (x : Int) : 0 ≤ andK .u64 x 16777215 ∧ andK .u64 x 16777215 ≤ 16777215 := by
  unfold andK
  have h : (BitVec.ofInt IntKind.u64.bits x &&& BitVec.ofInt IntKind.u64.bits 16777215).toNat ≤ 16777215 := by
    rw [BitVec.toNat_and]
    have : (BitVec.ofInt IntKind.u64.bits 16777215).toNat = 16777215 := by decide
    rw [this]
    exact Nat.and_le_right
  generalize (BitVec.ofInt IntKind.u64.bits x &&& BitVec.ofInt IntKind.u64.bits 16777215).toNat = v at h
  rw [u64_in (by omega) (by omega)]; omega
theorem roll_ok {c : List Int} (h1 : c.length ≤ 4096) (h2 : ∀ b ∈ c, 0 ≤ b ∧ b ≤ 255) (k : Int) : Ok (l_f6roll_m c k) (fun r => diceOk r ∧ r.i = 0) := by
  unfold l_f6roll_m
  refine ok_bind (P := fun r => diceOk r ∧ r.i = 0) ?_ fun v h => ok_some h
  refine ok_loop (fun (s : Int × F6dice_) => 0 ≤ s.1 ∧ s.1 ≤ c.length ∧ diceOk s.2 ∧ s.2.i = 0) (fun s => (c.length - s.1).toNat) (fun s hI => ?_) _ ⟨by simp, by simp, ⟨by simp, by simp, by dsimp only; omega, h2⟩, rfl⟩ (by dsimp only; omega)
  obtain ⟨i, d⟩ := s
  obtain ⟨i0, i1, i2⟩ := hI
  dsimp only at i0 i1 i2 ⊢
  refine ok_ite (fun hi => ?_) fun _ => ok_some (.inr ⟨_, rfl, i2⟩)
  have e : w64 (i + 1) = i + 1 := w64_in (by omega) (by omega)
  exact ok_bind (ok_atI i0 hi) fun v q => ok_some (.inl ⟨_, rfl, ⟨by dsimp only; omega, by dsimp only; omega, i2⟩, by dsimp only; omega⟩)
theorem below_ok {s : F6dice_} (h : diceOk s) (hi : s.i ≤ 10000) {k : Int} (hk : 1 ≤ k) : Ok (laws_f6dice_below_b_m s k) (fun r => 0 ≤ r.1 ∧ r.1 < k ∧ diceOk r.2 ∧ r.2.i ≤ s.i + 1) := by
  obtain ⟨h0, h1, h2, h3⟩ := h
  unfold laws_f6dice_below_b_m
  have hx := andM (shrK .u64 (IntKind.u64.wrap ((IntKind.u64.wrap (s.h * 6364136223846793005)) + 1442695040888963407)) 33)
  refine ok_bind (P := fun v => 0 ≤ v.1 ∧ diceOk v.2 ∧ v.2.i ≤ s.i + 1) ?_ fun v q => ok_chk (by omega) (ok_some ?_)
  · refine ok_ite (fun hc => ?_) fun _ => ok_some ⟨?_, ⟨h0, h1, h2, h3⟩, by dsimp only; omega⟩
    · refine ok_bind (ok_atI h0 hc) fun b hb => ok_some ?_
      have := h3 b hb.1
      have e : w64 (s.i + 1) = s.i + 1 := w64_in (by omega) (by omega)
      dsimp only
      rw [e, w64_in (x := andK _ _ _) (by omega) (by omega), w64_in (x := b) (by omega) (by omega), w64_in (by omega) (by omega)]
      exact ⟨by omega, ⟨by dsimp only; omega, by dsimp only; omega, h2, h3⟩, by omega⟩
    · dsimp only
      rw [w64_in (by omega) (by omega)]; omega
  · dsimp only
    rw [Int.tmod_eq_emod_of_nonneg q.1]
    exact ⟨Int.emod_nonneg _ (by omega), Int.emod_lt_of_pos _ (by omega), q.2.1, q.2.2⟩
end Go.Proofs.YtjhadibjjldpdaaDoor
namespace Go.Proofs.YtjhadibjjldpdaaDoor
set_option linter.unusedVariables false
set_option maxRecDepth 100000
def decB (n : Int) : ByteArray := ⟨(Lib.itoa n).toArray⟩
theorem decB_size {n : Int} (h : osI n) : (decB n).size ≤ 21 := by
  have := Lib.itoa_length_le n h.1 h.2
  simpa [decB, ByteArray.size] using this
def dgs (u : Nat) : List Int := if h : u = 0 then [] else dgs (u / 10) ++ [48 + ((u % 10 : Nat) : Int)]
termination_by u
decreasing_by omega
theorem dgs_zero : dgs 0 = [] := by rw [dgs, dif_pos rfl]
theorem dgs_pos {u : Nat} (h : u ≠ 0) : dgs u = dgs (u / 10) ++ [48 + ((u % 10 : Nat) : Int)] := by rw [dgs, dif_neg h]
theorem u8_dig (d : Nat) (h : d < 10) : UInt8.ofNat (48 + (d : Int)).toNat = 48 + UInt8.ofNat d := by
  rw [show (48 + (d : Int)).toNat = 48 + d by omega, UInt8.ofNat_add]
  rfl
theorem dgs_dec : ∀ (u : Nat), u ≠ 0 → (strOfNums (dgs u)).data.toList = Lib.decDigits u := by
  intro u
  induction u using Nat.strongRecOn with
  | _ u ih =>
    intro h
    rw [dgs_pos h, Lib.decDigits]
    by_cases h1 : u < 10
    · rw [dif_pos h1, show u / 10 = 0 by omega, dgs_zero, show u % 10 = u by omega]
      simp [strOfNums]
      exact u8_dig u (by omega)
    · rw [dif_neg h1, ← ih (u / 10) (by omega) (by omega)]
      simp [strOfNums]
      exact u8_dig (u % 10) (by omega)
theorem dgs_len : ∀ (k u : Nat), u < 10 ^ k → (dgs u).length ≤ k
  | 0, u, h => by
    have : u = 0 := by simpa using h
    subst this
    rw [dgs_zero]; exact Nat.le_refl _
  | k + 1, u, h => by
    by_cases h0 : u = 0
    · subst h0; rw [dgs_zero]; exact Nat.zero_le _
    · rw [dgs_pos h0, List.length_append]
      have := dgs_len k (u / 10) (by rw [Nat.pow_succ] at h; omega)
      simp; omega
theorem s_l01Dec_eq {n : Int} (hn : osI n) : s_l01Dec_m n = some (decB n) := by
  obtain ⟨h0, h1⟩ := hn
  unfold s_l01Dec_m
  rw [loopM_eq (x := dgs n.natAbs) (fun s : Int × List Int => osI s.1 ∧ dgs s.1.natAbs ++ s.2 = dgs n.natAbs) (fun s => s.1.natAbs) (fun s hs => ?_) (s0 := (n, [])) ⟨⟨h0, h1⟩, by simp⟩ (by dsimp only; omega)]
  · simp only [Option.bind_some]
    by_cases hz : n = 0
    · subst hz
      rw [Int.natAbs_zero, dgs_zero, if_pos (by simp)]
      simp [decB, Lib.itoa, Lib.decDigits]
    · have hp : n.natAbs ≠ 0 := by omega
      have hl : (dgs n.natAbs).length ≠ 0 := by rw [dgs_pos hp]; simp
      have hL := dgs_len 19 n.natAbs (by omega)
      have e := dgs_dec n.natAbs hp
      have es : strOfNums (dgs n.natAbs) = ⟨(Lib.decDigits n.natAbs).toArray⟩ := by rw [← e]
      rw [if_neg (by omega)]
      split
      · rename_i hneg
        rw [chk_t (by simp [strOfNums, ByteArray.size]; omega), es]
        simp only [decB, Lib.itoa, if_pos hneg]
        congr 1
      · rename_i hneg
        rw [es]
        simp only [decB, Lib.itoa, if_neg hneg]
        rw [show n.toNat = n.natAbs by omega]
  · obtain ⟨k, out⟩ := s
    obtain ⟨⟨a0, a1⟩, a2⟩ := hs
    simp only at a0 a1 a2 ⊢
    by_cases hk : k = 0
    · right
      subst hk
      rw [Int.natAbs_zero, dgs_zero] at a2
      simp at a2 ⊢
      exact a2
    · left
      rw [if_pos hk]
      have hd : (if k.tmod 10 < 0 then some (w64 (-(k.tmod 10))) else some (k.tmod 10)) = some (((k.natAbs % 10 : Nat)) : Int) := by
        have e1 : ((k.tmod 10).natAbs) = k.natAbs % 10 := Int.natAbs_tmod _ _
        split
        · rw [w64_in (by omega) (by omega)]; congr 1; omega
        · congr 1; omega
      rw [hd]
      simp only [Option.bind_some]
      have hL : (dgs n.natAbs).length ≤ 19 := dgs_len 19 n.natAbs (by omega)
      have hle : out.length ≤ 19 := by rw [← a2] at hL; simp at hL; omega
      have ew : IntKind.u8.wrap (w64 (48 + ((k.natAbs % 10 : Nat) : Int))) = 48 + ((k.natAbs % 10 : Nat) : Int) := by
        rw [w64_in (by omega) (by omega)]
        exact IntWalk.u8_in _ ⟨by omega, by omega⟩
      have eq : (k.tdiv 10).natAbs = k.natAbs / 10 := Int.natAbs_tdiv _ _
      rw [chk_t (by simp; omega), ew, w64_in (by omega) (by omega)]
      refine ⟨_, rfl, ⟨⟨by dsimp only; omega, by dsimp only; omega⟩, ?_⟩, ?_⟩
      · dsimp only
        rw [eq, ← a2, dgs_pos (u := k.natAbs) (by omega)]
        simp
      · dsimp only
        omega
theorem i_Decimal_eq {n : Int} (hn : osI n) : i_Decimal_m n = some (decB n) := by
  unfold i_Decimal_m strconv_FormatInt_m
  rw [chk_t ⟨hn.1, hn.2, rfl⟩]
  rfl
end Go.Proofs.YtjhadibjjldpdaaDoor
