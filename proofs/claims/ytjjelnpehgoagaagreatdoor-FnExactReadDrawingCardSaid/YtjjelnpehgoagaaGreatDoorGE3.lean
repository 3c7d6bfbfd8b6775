/- Texts of this claim, one behind the other (merged by a program of mine). -/
import Derived.Test.YtjjelnpehgoagaaGreatDoorRows
import Derived.ProofKit
import Derived.OpenShut
import Derived.ShutString
import Derived.ChangeOld
import Derived.Below
import Derived.Deep.Slices
import Derived.Test.YtjjelnpehgoagaaGreatDoorProg
import Derived.Shelf.Strconv.Itoa4
import Derived.Shelf.Strconv.ParseIntPublic10
import Derived.Shelf.Strconv.ErrVarParseInt
import Derived.Shelf.Strings.Prefix
import Derived.Ground.NamesProg
import Derived.Lib.AppendIntMem
import Derived.StillTailTactics
import Derived.Laws.OwnMore
import Derived.Deep.AppendLies
import Derived.Deep.Draws
import Derived.Laws.Rows
import Derived.Shelf.Strings.Builder1
import Derived.BigCall
import Derived.Shelf.Strings.Count
import Derived.Shelf.Strings.Search2
import Derived.Test.YtjjelnpehgoagaaGreatDoorGE2
set_option linter.unusedSimpArgs false
set_option linter.unusedVariables false
namespace Go.Proofs.YtjjelnpehgoagaaGreatDoor
open Go.ChangeShapes Go.WideShapes Go.ChangeAt Go.RowKit
open Go.ChangeMaps (open_string shut_string)
set_option maxRecDepth 100000

theorem own : ownKnob Tryz.prog.godebug = none := by kernel_rfl
theorem laidOut : laidOutB Tryz.prog = true := by kernel_rfl

end Go.Proofs.YtjjelnpehgoagaaGreatDoor
namespace Go.Proofs.YtjjelnpehgoagaaGreatDoor
open Go.ChangeShapes Go.WideShapes Go.ChangeAt Go.RowKit Go.Deep
set_option linter.unusedVariables false
set_option maxRecDepth 100000
def RepL (w : World) (cs : List Value) (ds : List DV) : Prop := cs.length = ds.length ∧ ∀ (j : Nat) v x, cs[j]? = some v → ds[j]? = some x → DRep w (fun b => b < w.heap.size) v x
theorem repL_nil {w : World} : RepL w [] [] := ⟨rfl, fun j v x h => by simp at h⟩
theorem repL_cons {w : World} {v : Value} {x : DV} {cs : List Value} {ds : List DV} (h : DRep w (fun b => b < w.heap.size) v x) (k : RepL w cs ds) : RepL w (v :: cs) (x :: ds) := by
  refine ⟨by simp [k.1], fun j a b h1 h2 => ?_⟩
  cases j with
  | zero => simp at h1 h2; subst h1 h2; exact h
  | succ j => simp at h1 h2; exact k.2 j a b h1 h2
theorem repL_str {w : World} (s : ByteArray) : DRep w (fun b => b < w.heap.size) (.string s) (.v (.string s)) := .v _ rfl
theorem args_nil {w : World} : ∀ (i : Nat) v a, (List.toArray ([] : List Value))[i]? = some v → ([] : List AV)[i]? = some a → ARep w (fun b => b < w.heap.size) (fun _ _ => none) (lks []) v a := fun i v a h => by simp at h
theorem args_cons {w : World} {v0 : Value} {a0 : AV} {vs : List Value} {bs : List AV} (h : ARep w (fun b => b < w.heap.size) (fun _ _ => none) (lks []) v0 a0) (k : ∀ (i : Nat) v a, vs.toArray[i]? = some v → bs[i]? = some a → ARep w (fun b => b < w.heap.size) (fun _ _ => none) (lks []) v a) :
    ∀ (i : Nat) v a, (v0 :: vs).toArray[i]? = some v → (a0 :: bs)[i]? = some a → ARep w (fun b => b < w.heap.size) (fun _ _ => none) (lks []) v a := fun i v a h1 h2 => by
  cases i with
  | zero => simp at h1 h2; subst h1 h2; exact h
  | succ i =>
    simp at h1 h2
    exact k i v a (by simpa using h1) h2
section
variable {H : Type} {enc : TypeId × Value → H} {W : World} {b0 : Nat} {spare : Nat → Bool} {held : Bool} {fuel : Nat} {cs : List Value} {x : DataW H × List MemPlace}
end
end Go.Proofs.YtjjelnpehgoagaaGreatDoor
namespace Go.Proofs.YtjjelnpehgoagaaGreatDoor
open Go.ChangeShapes Go.WideShapes Go.ChangeAt Go.RowKit Go.Deep
set_option linter.unusedVariables false
set_option maxRecDepth 100000
def osI (x : Int) : Prop := -9223372036854775808 ≤ x ∧ x ≤ 9223372036854775807
def osS (x : ByteArray) : Prop := x.size ≤ 9223372036854775807
section
variable {H : Type} {enc : TypeId × Value → H} {W : World} {b0 : Nat} {spare : Nat → Bool} {held : Bool} {fuel : Nat} {cs : List Value} {x : DataW H × List MemPlace}
end
end Go.Proofs.YtjjelnpehgoagaaGreatDoor
namespace Go.Proofs.YtjjelnpehgoagaaGreatDoor
open Go.RowKit
set_option linter.unusedVariables false
set_option maxRecDepth 100000
set_option maxHeartbeats 2000000
end Go.Proofs.YtjjelnpehgoagaaGreatDoor
namespace Go.Proofs.YtjjelnpehgoagaaGreatDoor
open Go.ChangeShapes Go.WideShapes Go.ChangeAt Go.RowKit Go.Deep
set_option linter.unusedVariables false
set_option maxRecDepth 100000
set_option maxHeartbeats 2000000
theorem rd_9 {H : Type} {enc : TypeId × Value → H} {W : World} {b0 : Nat} {spare : Nat → Bool} {held : Bool} {fuel : Nat} {cs : List Value} {x : DataW H × List MemPlace} (h : DataW.trod enc Tryz.prog W b0 spare held fuel 9 cs = some x) : ∃ v : ByteArray, RepL W cs (cS v) ∧ osS v := by
  obtain ⟨z, rfl, _, hw⟩ := DataW.trod_string Tryz.underlying9 h
  exact ⟨z, repL_cons (repL_str _) repL_nil, by unfold osS; unfold maxLen at hw; exact hw⟩
theorem open_9 {H : Type} {enc : TypeId × Value → H} {W : World} {b0 base : Nat} {spare : Nat → Bool} {held : Bool} {v : Value} {d : DataW H} {p : List MemPlace} (hv : Value.okWide Tryz.prog W .any base 9 v) (h : DataW.Trod enc Tryz.prog W b0 spare held 9 v d p) : ∃ x : ByteArray, ARep W (fun b => b < W.heap.size) (fun _ _ => none) (lks []) v (.d (.v (.string x))) ∧ osS x := by
  obtain ⟨s, rfl⟩ := okWide_string Tryz.underlying9 hv
  obtain ⟨fuel, hf⟩ := h
  obtain ⟨x, hr, hok⟩ := rd_9 hf
  exact ⟨x, .d _ _ (hr.2 0 _ _ rfl rfl), hok⟩
end Go.Proofs.YtjjelnpehgoagaaGreatDoor
namespace Go.Proofs.YtjjelnpehgoagaaGreatDoor
open Go.RowKit
set_option linter.unusedVariables false
set_option maxRecDepth 100000
theorem ty2 : TyIs Tryz.prog 2 ⟨.int .i64, 1, 8, .int .i64 0⟩ := tyIs_of (by kernel_rfl)
theorem ty3 : TyIs Tryz.prog 3 ⟨.int .i64, 1, 8, .int .i64 0⟩ := tyIs_of (by kernel_rfl)
theorem ty4 : TyIs Tryz.prog 4 ⟨.bool, 1, 1, .bool false⟩ := tyIs_of (by kernel_rfl)
theorem ty5 : TyIs Tryz.prog 5 ⟨.int .u8, 1, 1, .int .u8 0⟩ := tyIs_of (by kernel_rfl)
theorem ty6 : TyIs Tryz.prog 6 ⟨.int .u8, 1, 1, .int .u8 0⟩ := tyIs_of (by kernel_rfl)
theorem ty8 : TyIs Tryz.prog 8 ⟨.struct #[⟨ "x", 2, 0, false, "", "runtime", 0⟩, ⟨ "y", 3, 1, false, "", "runtime", 8⟩, ⟨ "signed", 4, 2, false, "", "runtime", 16⟩, ⟨ "code", 6, 3, false, "", "runtime", 17⟩], 4, 24, .agg #[.int .i64 0, .int .i64 0, .bool false, .int .u8 0]⟩ := tyIs_of (by kernel_rfl)
theorem ty9 : TyIs Tryz.prog 9 ⟨.string, 1, 16, .string ⟨#[]⟩⟩ := tyIs_of (by kernel_rfl)
theorem ty10 : TyIs Tryz.prog 10 ⟨.string, 1, 16, .string ⟨#[]⟩⟩ := tyIs_of (by kernel_rfl)
theorem ty11 : TyIs Tryz.prog 11 ⟨.string, 1, 16, .string ⟨#[]⟩⟩ := tyIs_of (by kernel_rfl)
theorem ty12 : TyIs Tryz.prog 12 ⟨.int .u64, 1, 8, .int .u64 0⟩ := tyIs_of (by kernel_rfl)
theorem ty14 : TyIs Tryz.prog 14 ⟨.struct #[⟨ "msg", 9, 0, false, "", "runtime", 0⟩, ⟨ "addr", 12, 1, false, "", "runtime", 16⟩], 2, 24, .agg #[.string ⟨#[]⟩, .int .u64 0]⟩ := tyIs_of (by kernel_rfl)
theorem ty15 : TyIs Tryz.prog 15 ⟨.pointer 149, 1, 8, .pointer none⟩ := tyIs_of (by kernel_rfl)
theorem ty16 : TyIs Tryz.prog 16 ⟨.pointer 152, 1, 8, .pointer none⟩ := tyIs_of (by kernel_rfl)
theorem ty17 : TyIs Tryz.prog 17 ⟨.pointer 160, 1, 8, .pointer none⟩ := tyIs_of (by kernel_rfl)
theorem ty19 : TyIs Tryz.prog 19 ⟨.struct #[⟨ "typ", 17, 0, false, "", "internal/runtime/maps", 0⟩], 1, 8, .agg #[.pointer none]⟩ := tyIs_of (by kernel_rfl)
theorem ty21 : TyIs Tryz.prog 21 ⟨.int .i32, 1, 4, .int .i32 0⟩ := tyIs_of (by kernel_rfl)
theorem ty22 : TyIs Tryz.prog 22 ⟨.slice 44, 1, 24, .slice none 0 0⟩ := tyIs_of (by kernel_rfl)
theorem ty24 : TyIs Tryz.prog 24 ⟨.struct #[⟨ "Shapes", 22, 0, false, "", "", 0⟩], 1, 24, .agg #[.slice none 0 0]⟩ := tyIs_of (by kernel_rfl)
theorem ty30 : TyIs Tryz.prog 30 ⟨.slice 5, 1, 24, .slice none 0 0⟩ := tyIs_of (by kernel_rfl)
theorem ty39 : TyIs Tryz.prog 39 ⟨.slice 9, 1, 24, .slice none 0 0⟩ := tyIs_of (by kernel_rfl)
theorem ty42 : TyIs Tryz.prog 42 ⟨.struct #[⟨ "X", 2, 0, false, "", "", 0⟩, ⟨ "Y", 2, 1, false, "", "", 8⟩], 2, 16, .agg #[.int .i64 0, .int .i64 0]⟩ := tyIs_of (by kernel_rfl)
theorem ty44 : TyIs Tryz.prog 44 ⟨.struct #[⟨ "Kind", 2, 0, false, "", "", 0⟩, ⟨ "A", 42, 1, false, "", "", 8⟩, ⟨ "B", 42, 3, false, "", "", 24⟩, ⟨ "R", 2, 5, false, "", "", 40⟩, ⟨ "Name", 9, 6, false, "", "", 48⟩], 7, 64, .agg #[.int .i64 0, .int .i64 0, .int .i64 0, .int .i64 0, .int .i64 0, .int .i64 0, .string ⟨#[]⟩]⟩ := tyIs_of (by kernel_rfl)
theorem ty52 : TyIs Tryz.prog 52 ⟨.pointer 84, 1, 8, .pointer none⟩ := tyIs_of (by kernel_rfl)
theorem ty56 : TyIs Tryz.prog 56 ⟨.pointer 58, 1, 8, .pointer none⟩ := tyIs_of (by kernel_rfl)
theorem ty58 : TyIs Tryz.prog 58 ⟨.struct #[⟨ "addr", 56, 0, false, "", "strings", 0⟩, ⟨ "buf", 30, 1, false, "", "strings", 8⟩], 2, 32, .agg #[.pointer none, .slice none 0 0]⟩ := tyIs_of (by kernel_rfl)
theorem ty70 : TyIs Tryz.prog 70 ⟨.slice 2, 1, 24, .slice none 0 0⟩ := tyIs_of (by kernel_rfl)
theorem ty82 : TyIs Tryz.prog 82 ⟨.int .u64, 1, 8, .int .u64 0⟩ := tyIs_of (by kernel_rfl)
theorem ty84 : TyIs Tryz.prog 84 ⟨.struct #[⟨ "code", 30, 0, false, "", "loop.example/g00921/spec", 0⟩, ⟨ "at", 3, 1, false, "", "loop.example/g00921/spec", 24⟩, ⟨ "seed", 82, 2, false, "", "loop.example/g00921/spec", 32⟩], 3, 40, .agg #[.slice none 0 0, .int .i64 0, .int .u64 0]⟩ := tyIs_of (by kernel_rfl)
theorem ty87 : TyIs Tryz.prog 87 ⟨.slice 22, 1, 24, .slice none 0 0⟩ := tyIs_of (by kernel_rfl)
theorem ty90 : TyIs Tryz.prog 90 ⟨.pointer 5, 1, 8, .pointer none⟩ := tyIs_of (by kernel_rfl)
theorem ty105 : TyIs Tryz.prog 105 ⟨.int .u64, 1, 8, .int .u64 0⟩ := tyIs_of (by kernel_rfl)
theorem ty113 : TyIs Tryz.prog 113 ⟨.int .i64, 1, 8, .int .i64 0⟩ := tyIs_of (by kernel_rfl)
theorem ty116 : TyIs Tryz.prog 116 ⟨.pointer 128, 1, 8, .pointer none⟩ := tyIs_of (by kernel_rfl)
theorem ty119 : TyIs Tryz.prog 119 ⟨.array 24 5, 24, 24, .agg #[.int .u8 0, .int .u8 0, .int .u8 0, .int .u8 0, .int .u8 0, .int .u8 0, .int .u8 0, .int .u8 0, .int .u8 0, .int .u8 0, .int .u8 0, .int .u8 0, .int .u8 0, .int .u8 0, .int .u8 0, .int .u8 0, .int .u8 0, .int .u8 0, .int .u8 0, .int .u8 0, .int .u8 0, .int .u8 0, .int .u8 0, .int .u8 0]⟩ := tyIs_of (by kernel_rfl)
theorem ty128 : TyIs Tryz.prog 128 ⟨.struct #[⟨ "Func", 9, 0, false, "", "", 0⟩, ⟨ "Num", 9, 1, false, "", "", 16⟩, ⟨ "Err", 60, 2, false, "", "", 32⟩], 3, 48, .agg #[.string ⟨#[]⟩, .string ⟨#[]⟩, .nilIface]⟩ := tyIs_of (by kernel_rfl)
theorem ty131 : TyIs Tryz.prog 131 ⟨.array 20 82, 20, 160, .agg #[.int .u64 0, .int .u64 0, .int .u64 0, .int .u64 0, .int .u64 0, .int .u64 0, .int .u64 0, .int .u64 0, .int .u64 0, .int .u64 0, .int .u64 0, .int .u64 0, .int .u64 0, .int .u64 0, .int .u64 0, .int .u64 0, .int .u64 0, .int .u64 0, .int .u64 0, .int .u64 0]⟩ := tyIs_of (by kernel_rfl)
theorem ty132 : TyIs Tryz.prog 132 ⟨.int .u32, 1, 4, .int .u32 0⟩ := tyIs_of (by kernel_rfl)
theorem ty133 : TyIs Tryz.prog 133 ⟨.array 65 5, 65, 65, .agg #[.int .u8 0, .int .u8 0, .int .u8 0, .int .u8 0, .int .u8 0, .int .u8 0, .int .u8 0, .int .u8 0, .int .u8 0, .int .u8 0, .int .u8 0, .int .u8 0, .int .u8 0, .int .u8 0, .int .u8 0, .int .u8 0, .int .u8 0, .int .u8 0, .int .u8 0, .int .u8 0, .int .u8 0, .int .u8 0, .int .u8 0, .int .u8 0, .int .u8 0, .int .u8 0, .int .u8 0, .int .u8 0, .int .u8 0, .int .u8 0, .int .u8 0, .int .u8 0, .int .u8 0, .int .u8 0, .int .u8 0, .int .u8 0, .int .u8 0, .int .u8 0, .int .u8 0, .int .u8 0, .int .u8 0, .int .u8 0, .int .u8 0, .int .u8 0, .int .u8 0, .int .u8 0, .int .u8 0, .int .u8 0, .int .u8 0, .int .u8 0, .int .u8 0, .int .u8 0, .int .u8 0, .int .u8 0, .int .u8 0, .int .u8 0, .int .u8 0, .int .u8 0, .int .u8 0, .int .u8 0, .int .u8 0, .int .u8 0, .int .u8 0, .int .u8 0, .int .u8 0]⟩ := tyIs_of (by kernel_rfl)
theorem ty136 : TyIs Tryz.prog 136 ⟨.array 256 5, 256, 256, .agg #[.int .u8 0, .int .u8 0, .int .u8 0, .int .u8 0, .int .u8 0, .int .u8 0, .int .u8 0, .int .u8 0, .int .u8 0, .int .u8 0, .int .u8 0, .int .u8 0, .int .u8 0, .int .u8 0, .int .u8 0, .int .u8 0, .int .u8 0, .int .u8 0, .int .u8 0, .int .u8 0, .int .u8 0, .int .u8 0, .int .u8 0, .int .u8 0, .int .u8 0, .int .u8 0, .int .u8 0, .int .u8 0, .int .u8 0, .int .u8 0, .int .u8 0, .int .u8 0, .int .u8 0, .int .u8 0, .int .u8 0, .int .u8 0, .int .u8 0, .int .u8 0, .int .u8 0, .int .u8 0, .int .u8 0, .int .u8 0, .int .u8 0, .int .u8 0, .int .u8 0, .int .u8 0, .int .u8 0, .int .u8 0, .int .u8 0, .int .u8 0, .int .u8 0, .int .u8 0, .int .u8 0, .int .u8 0, .int .u8 0, .int .u8 0, .int .u8 0, .int .u8 0, .int .u8 0, .int .u8 0, .int .u8 0, .int .u8 0, .int .u8 0, .int .u8 0, .int .u8 0, .int .u8 0, .int .u8 0, .int .u8 0, .int .u8 0, .int .u8 0, .int .u8 0, .int .u8 0, .int .u8 0, .int .u8 0, .int .u8 0, .int .u8 0, .int .u8 0, .int .u8 0, .int .u8 0, .int .u8 0, .int .u8 0, .int .u8 0, .int .u8 0, .int .u8 0, .int .u8 0, .int .u8 0, .int .u8 0, .int .u8 0, .int .u8 0, .int .u8 0, .int .u8 0, .int .u8 0, .int .u8 0, .int .u8 0, .int .u8 0, .int .u8 0, .int .u8 0, .int .u8 0, .int .u8 0, .int .u8 0, .int .u8 0, .int .u8 0, .int .u8 0, .int .u8 0, .int .u8 0, .int .u8 0, .int .u8 0, .int .u8 0, .int .u8 0, .int .u8 0, .int .u8 0, .int .u8 0, .int .u8 0, .int .u8 0, .int .u8 0, .int .u8 0, .int .u8 0, .int .u8 0, .int .u8 0, .int .u8 0, .int .u8 0, .int .u8 0, .int .u8 0, .int .u8 0, .int .u8 0, .int .u8 0, .int .u8 0, .int .u8 0, .int .u8 0, .int .u8 0, .int .u8 0, .int .u8 0, .int .u8 0, .int .u8 0, .int .u8 0, .int .u8 0, .int .u8 0, .int .u8 0, .int .u8 0, .int .u8 0, .int .u8 0, .int .u8 0, .int .u8 0, .int .u8 0, .int .u8 0, .int .u8 0, .int .u8 0, .int .u8 0, .int .u8 0, .int .u8 0, .int .u8 0, .int .u8 0, .int .u8 0, .int .u8 0, .int .u8 0, .int .u8 0, .int .u8 0, .int .u8 0, .int .u8 0, .int .u8 0, .int .u8 0, .int .u8 0, .int .u8 0, .int .u8 0, .int .u8 0, .int .u8 0, .int .u8 0, .int .u8 0, .int .u8 0, .int .u8 0, .int .u8 0, .int .u8 0, .int .u8 0, .int .u8 0, .int .u8 0, .int .u8 0, .int .u8 0, .int .u8 0, .int .u8 0, .int .u8 0, .int .u8 0, .int .u8 0, .int .u8 0, .int .u8 0, .int .u8 0, .int .u8 0, .int .u8 0, .int .u8 0, .int .u8 0, .int .u8 0, .int .u8 0, .int .u8 0, .int .u8 0, .int .u8 0, .int .u8 0, .int .u8 0, .int .u8 0, .int .u8 0, .int .u8 0, .int .u8 0, .int .u8 0, .int .u8 0, .int .u8 0, .int .u8 0, .int .u8 0, .int .u8 0, .int .u8 0, .int .u8 0, .int .u8 0, .int .u8 0, .int .u8 0, .int .u8 0, .int .u8 0, .int .u8 0, .int .u8 0, .int .u8 0, .int .u8 0, .int .u8 0, .int .u8 0, .int .u8 0, .int .u8 0, .int .u8 0, .int .u8 0, .int .u8 0, .int .u8 0, .int .u8 0, .int .u8 0, .int .u8 0, .int .u8 0, .int .u8 0, .int .u8 0, .int .u8 0, .int .u8 0, .int .u8 0, .int .u8 0, .int .u8 0, .int .u8 0, .int .u8 0, .int .u8 0, .int .u8 0, .int .u8 0, .int .u8 0, .int .u8 0, .int .u8 0, .int .u8 0, .int .u8 0, .int .u8 0, .int .u8 0, .int .u8 0, .int .u8 0, .int .u8 0, .int .u8 0, .int .u8 0, .int .u8 0, .int .u8 0, .int .u8 0]⟩ := tyIs_of (by kernel_rfl)
theorem ty138 : TyIs Tryz.prog 138 ⟨.struct #[⟨ "lo", 5, 0, false, "", "unicode/utf8", 0⟩, ⟨ "hi", 5, 1, false, "", "unicode/utf8", 1⟩], 2, 2, .agg #[.int .u8 0, .int .u8 0]⟩ := tyIs_of (by kernel_rfl)
theorem ty139 : TyIs Tryz.prog 139 ⟨.array 16 138, 32, 32, .agg #[.int .u8 0, .int .u8 0, .int .u8 0, .int .u8 0, .int .u8 0, .int .u8 0, .int .u8 0, .int .u8 0, .int .u8 0, .int .u8 0, .int .u8 0, .int .u8 0, .int .u8 0, .int .u8 0, .int .u8 0, .int .u8 0, .int .u8 0, .int .u8 0, .int .u8 0, .int .u8 0, .int .u8 0, .int .u8 0, .int .u8 0, .int .u8 0, .int .u8 0, .int .u8 0, .int .u8 0, .int .u8 0, .int .u8 0, .int .u8 0, .int .u8 0, .int .u8 0]⟩ := tyIs_of (by kernel_rfl)
theorem ty142 : TyIs Tryz.prog 142 ⟨.pointer 144, 1, 8, .pointer none⟩ := tyIs_of (by kernel_rfl)
theorem ty144 : TyIs Tryz.prog 144 ⟨.struct #[⟨ "s", 9, 0, false, "", "errors", 0⟩], 1, 16, .agg #[.string ⟨#[]⟩]⟩ := tyIs_of (by kernel_rfl)
theorem ty146 : TyIs Tryz.prog 146 ⟨.array 32 5, 32, 32, .agg #[.int .u8 0, .int .u8 0, .int .u8 0, .int .u8 0, .int .u8 0, .int .u8 0, .int .u8 0, .int .u8 0, .int .u8 0, .int .u8 0, .int .u8 0, .int .u8 0, .int .u8 0, .int .u8 0, .int .u8 0, .int .u8 0, .int .u8 0, .int .u8 0, .int .u8 0, .int .u8 0, .int .u8 0, .int .u8 0, .int .u8 0, .int .u8 0, .int .u8 0, .int .u8 0, .int .u8 0, .int .u8 0, .int .u8 0, .int .u8 0, .int .u8 0, .int .u8 0]⟩ := tyIs_of (by kernel_rfl)
theorem ty147 : TyIs Tryz.prog 147 ⟨.array 64 5, 64, 64, .agg #[.int .u8 0, .int .u8 0, .int .u8 0, .int .u8 0, .int .u8 0, .int .u8 0, .int .u8 0, .int .u8 0, .int .u8 0, .int .u8 0, .int .u8 0, .int .u8 0, .int .u8 0, .int .u8 0, .int .u8 0, .int .u8 0, .int .u8 0, .int .u8 0, .int .u8 0, .int .u8 0, .int .u8 0, .int .u8 0, .int .u8 0, .int .u8 0, .int .u8 0, .int .u8 0, .int .u8 0, .int .u8 0, .int .u8 0, .int .u8 0, .int .u8 0, .int .u8 0, .int .u8 0, .int .u8 0, .int .u8 0, .int .u8 0, .int .u8 0, .int .u8 0, .int .u8 0, .int .u8 0, .int .u8 0, .int .u8 0, .int .u8 0, .int .u8 0, .int .u8 0, .int .u8 0, .int .u8 0, .int .u8 0, .int .u8 0, .int .u8 0, .int .u8 0, .int .u8 0, .int .u8 0, .int .u8 0, .int .u8 0, .int .u8 0, .int .u8 0, .int .u8 0, .int .u8 0, .int .u8 0, .int .u8 0, .int .u8 0, .int .u8 0, .int .u8 0]⟩ := tyIs_of (by kernel_rfl)
theorem ty155 : TyIs Tryz.prog 155 ⟨.int .u8, 1, 1, .int .u8 0⟩ := tyIs_of (by kernel_rfl)
def tt : Tab := updT (updT (updT (updT (updT (updT (updT (updT (updT (updT (updT (updT (updT (updT (updT (updT (updT (updT (updT (updT (updT (updT (updT (updT (updT (updT (updT (updT (updT (updT (updT (updT (updT (updT (updT (updT (updT (updT (updT (updT (updT (updT (updT (updT (updT (updT ((fun _ => none)) 2 ⟨.int .i64, 1, 8, .int .i64 0⟩) 3 ⟨.int .i64, 1, 8, .int .i64 0⟩) 4 ⟨.bool, 1, 1, .bool false⟩) 5 ⟨.int .u8, 1, 1, .int .u8 0⟩) 6 ⟨.int .u8, 1, 1, .int .u8 0⟩) 8 ⟨.struct #[⟨ "x", 2, 0, false, "", "runtime", 0⟩, ⟨ "y", 3, 1, false, "", "runtime", 8⟩, ⟨ "signed", 4, 2, false, "", "runtime", 16⟩, ⟨ "code", 6, 3, false, "", "runtime", 17⟩], 4, 24, .agg #[.int .i64 0, .int .i64 0, .bool false, .int .u8 0]⟩) 9 ⟨.string, 1, 16, .string ⟨#[]⟩⟩) 10 ⟨.string, 1, 16, .string ⟨#[]⟩⟩) 11 ⟨.string, 1, 16, .string ⟨#[]⟩⟩) 12 ⟨.int .u64, 1, 8, .int .u64 0⟩) 14 ⟨.struct #[⟨ "msg", 9, 0, false, "", "runtime", 0⟩, ⟨ "addr", 12, 1, false, "", "runtime", 16⟩], 2, 24, .agg #[.string ⟨#[]⟩, .int .u64 0]⟩) 15 ⟨.pointer 149, 1, 8, .pointer none⟩) 16 ⟨.pointer 152, 1, 8, .pointer none⟩) 17 ⟨.pointer 160, 1, 8, .pointer none⟩) 19 ⟨.struct #[⟨ "typ", 17, 0, false, "", "internal/runtime/maps", 0⟩], 1, 8, .agg #[.pointer none]⟩) 21 ⟨.int .i32, 1, 4, .int .i32 0⟩) 22 ⟨.slice 44, 1, 24, .slice none 0 0⟩) 24 ⟨.struct #[⟨ "Shapes", 22, 0, false, "", "", 0⟩], 1, 24, .agg #[.slice none 0 0]⟩) 30 ⟨.slice 5, 1, 24, .slice none 0 0⟩) 39 ⟨.slice 9, 1, 24, .slice none 0 0⟩) 42 ⟨.struct #[⟨ "X", 2, 0, false, "", "", 0⟩, ⟨ "Y", 2, 1, false, "", "", 8⟩], 2, 16, .agg #[.int .i64 0, .int .i64 0]⟩) 44 ⟨.struct #[⟨ "Kind", 2, 0, false, "", "", 0⟩, ⟨ "A", 42, 1, false, "", "", 8⟩, ⟨ "B", 42, 3, false, "", "", 24⟩, ⟨ "R", 2, 5, false, "", "", 40⟩, ⟨ "Name", 9, 6, false, "", "", 48⟩], 7, 64, .agg #[.int .i64 0, .int .i64 0, .int .i64 0, .int .i64 0, .int .i64 0, .int .i64 0, .string ⟨#[]⟩]⟩) 52 ⟨.pointer 84, 1, 8, .pointer none⟩) 56 ⟨.pointer 58, 1, 8, .pointer none⟩) 58 ⟨.struct #[⟨ "addr", 56, 0, false, "", "strings", 0⟩, ⟨ "buf", 30, 1, false, "", "strings", 8⟩], 2, 32, .agg #[.pointer none, .slice none 0 0]⟩) 70 ⟨.slice 2, 1, 24, .slice none 0 0⟩) 82 ⟨.int .u64, 1, 8, .int .u64 0⟩) 84 ⟨.struct #[⟨ "code", 30, 0, false, "", "loop.example/g00921/spec", 0⟩, ⟨ "at", 3, 1, false, "", "loop.example/g00921/spec", 24⟩, ⟨ "seed", 82, 2, false, "", "loop.example/g00921/spec", 32⟩], 3, 40, .agg #[.slice none 0 0, .int .i64 0, .int .u64 0]⟩) 87 ⟨.slice 22, 1, 24, .slice none 0 0⟩) 90 ⟨.pointer 5, 1, 8, .pointer none⟩) 105 ⟨.int .u64, 1, 8, .int .u64 0⟩) 113 ⟨.int .i64, 1, 8, .int .i64 0⟩) 116 ⟨.pointer 128, 1, 8, .pointer none⟩) 119 ⟨.array 24 5, 24, 24, .agg #[.int .u8 0, .int .u8 0, .int .u8 0, .int .u8 0, .int .u8 0, .int .u8 0, .int .u8 0, .int .u8 0, .int .u8 0, .int .u8 0, .int .u8 0, .int .u8 0, .int .u8 0, .int .u8 0, .int .u8 0, .int .u8 0, .int .u8 0, .int .u8 0, .int .u8 0, .int .u8 0, .int .u8 0, .int .u8 0, .int .u8 0, .int .u8 0]⟩) 128 ⟨.struct #[⟨ "Func", 9, 0, false, "", "", 0⟩, ⟨ "Num", 9, 1, false, "", "", 16⟩, ⟨ "Err", 60, 2, false, "", "", 32⟩], 3, 48, .agg #[.string ⟨#[]⟩, .string ⟨#[]⟩, .nilIface]⟩) 131 ⟨.array 20 82, 20, 160, .agg #[.int .u64 0, .int .u64 0, .int .u64 0, .int .u64 0, .int .u64 0, .int .u64 0, .int .u64 0, .int .u64 0, .int .u64 0, .int .u64 0, .int .u64 0, .int .u64 0, .int .u64 0, .int .u64 0, .int .u64 0, .int .u64 0, .int .u64 0, .int .u64 0, .int .u64 0, .int .u64 0]⟩) 132 ⟨.int .u32, 1, 4, .int .u32 0⟩) 133 ⟨.array 65 5, 65, 65, .agg #[.int .u8 0, .int .u8 0, .int .u8 0, .int .u8 0, .int .u8 0, .int .u8 0, .int .u8 0, .int .u8 0, .int .u8 0, .int .u8 0, .int .u8 0, .int .u8 0, .int .u8 0, .int .u8 0, .int .u8 0, .int .u8 0, .int .u8 0, .int .u8 0, .int .u8 0, .int .u8 0, .int .u8 0, .int .u8 0, .int .u8 0, .int .u8 0, .int .u8 0, .int .u8 0, .int .u8 0, .int .u8 0, .int .u8 0, .int .u8 0, .int .u8 0, .int .u8 0, .int .u8 0, .int .u8 0, .int .u8 0, .int .u8 0, .int .u8 0, .int .u8 0, .int .u8 0, .int .u8 0, .int .u8 0, .int .u8 0, .int .u8 0, .int .u8 0, .int .u8 0, .int .u8 0, .int .u8 0, .int .u8 0, .int .u8 0, .int .u8 0, .int .u8 0, .int .u8 0, .int .u8 0, .int .u8 0, .int .u8 0, .int .u8 0, .int .u8 0, .int .u8 0, .int .u8 0, .int .u8 0, .int .u8 0, .int .u8 0, .int .u8 0, .int .u8 0, .int .u8 0]⟩) 136 ⟨.array 256 5, 256, 256, .agg #[.int .u8 0, .int .u8 0, .int .u8 0, .int .u8 0, .int .u8 0, .int .u8 0, .int .u8 0, .int .u8 0, .int .u8 0, .int .u8 0, .int .u8 0, .int .u8 0, .int .u8 0, .int .u8 0, .int .u8 0, .int .u8 0, .int .u8 0, .int .u8 0, .int .u8 0, .int .u8 0, .int .u8 0, .int .u8 0, .int .u8 0, .int .u8 0, .int .u8 0, .int .u8 0, .int .u8 0, .int .u8 0, .int .u8 0, .int .u8 0, .int .u8 0, .int .u8 0, .int .u8 0, .int .u8 0, .int .u8 0, .int .u8 0, .int .u8 0, .int .u8 0, .int .u8 0, .int .u8 0, .int .u8 0, .int .u8 0, .int .u8 0, .int .u8 0, .int .u8 0, .int .u8 0, .int .u8 0, .int .u8 0, .int .u8 0, .int .u8 0, .int .u8 0, .int .u8 0, .int .u8 0, .int .u8 0, .int .u8 0, .int .u8 0, .int .u8 0, .int .u8 0, .int .u8 0, .int .u8 0, .int .u8 0, .int .u8 0, .int .u8 0, .int .u8 0, .int .u8 0, .int .u8 0, .int .u8 0, .int .u8 0, .int .u8 0, .int .u8 0, .int .u8 0, .int .u8 0, .int .u8 0, .int .u8 0, .int .u8 0, .int .u8 0, .int .u8 0, .int .u8 0, .int .u8 0, .int .u8 0, .int .u8 0, .int .u8 0, .int .u8 0, .int .u8 0, .int .u8 0, .int .u8 0, .int .u8 0, .int .u8 0, .int .u8 0, .int .u8 0, .int .u8 0, .int .u8 0, .int .u8 0, .int .u8 0, .int .u8 0, .int .u8 0, .int .u8 0, .int .u8 0, .int .u8 0, .int .u8 0, .int .u8 0, .int .u8 0, .int .u8 0, .int .u8 0, .int .u8 0, .int .u8 0, .int .u8 0, .int .u8 0, .int .u8 0, .int .u8 0, .int .u8 0, .int .u8 0, .int .u8 0, .int .u8 0, .int .u8 0, .int .u8 0, .int .u8 0, .int .u8 0, .int .u8 0, .int .u8 0, .int .u8 0, .int .u8 0, .int .u8 0, .int .u8 0, .int .u8 0, .int .u8 0, .int .u8 0, .int .u8 0, .int .u8 0, .int .u8 0, .int .u8 0, .int .u8 0, .int .u8 0, .int .u8 0, .int .u8 0, .int .u8 0, .int .u8 0, .int .u8 0, .int .u8 0, .int .u8 0, .int .u8 0, .int .u8 0, .int .u8 0, .int .u8 0, .int .u8 0, .int .u8 0, .int .u8 0, .int .u8 0, .int .u8 0, .int .u8 0, .int .u8 0, .int .u8 0, .int .u8 0, .int .u8 0, .int .u8 0, .int .u8 0, .int .u8 0, .int .u8 0, .int .u8 0, .int .u8 0, .int .u8 0, .int .u8 0, .int .u8 0, .int .u8 0, .int .u8 0, .int .u8 0, .int .u8 0, .int .u8 0, .int .u8 0, .int .u8 0, .int .u8 0, .int .u8 0, .int .u8 0, .int .u8 0, .int .u8 0, .int .u8 0, .int .u8 0, .int .u8 0, .int .u8 0, .int .u8 0, .int .u8 0, .int .u8 0, .int .u8 0, .int .u8 0, .int .u8 0, .int .u8 0, .int .u8 0, .int .u8 0, .int .u8 0, .int .u8 0, .int .u8 0, .int .u8 0, .int .u8 0, .int .u8 0, .int .u8 0, .int .u8 0, .int .u8 0, .int .u8 0, .int .u8 0, .int .u8 0, .int .u8 0, .int .u8 0, .int .u8 0, .int .u8 0, .int .u8 0, .int .u8 0, .int .u8 0, .int .u8 0, .int .u8 0, .int .u8 0, .int .u8 0, .int .u8 0, .int .u8 0, .int .u8 0, .int .u8 0, .int .u8 0, .int .u8 0, .int .u8 0, .int .u8 0, .int .u8 0, .int .u8 0, .int .u8 0, .int .u8 0, .int .u8 0, .int .u8 0, .int .u8 0, .int .u8 0, .int .u8 0, .int .u8 0, .int .u8 0, .int .u8 0, .int .u8 0, .int .u8 0, .int .u8 0, .int .u8 0, .int .u8 0, .int .u8 0, .int .u8 0, .int .u8 0, .int .u8 0, .int .u8 0, .int .u8 0, .int .u8 0, .int .u8 0, .int .u8 0, .int .u8 0, .int .u8 0, .int .u8 0, .int .u8 0, .int .u8 0, .int .u8 0, .int .u8 0, .int .u8 0, .int .u8 0, .int .u8 0, .int .u8 0]⟩) 138 ⟨.struct #[⟨ "lo", 5, 0, false, "", "unicode/utf8", 0⟩, ⟨ "hi", 5, 1, false, "", "unicode/utf8", 1⟩], 2, 2, .agg #[.int .u8 0, .int .u8 0]⟩) 139 ⟨.array 16 138, 32, 32, .agg #[.int .u8 0, .int .u8 0, .int .u8 0, .int .u8 0, .int .u8 0, .int .u8 0, .int .u8 0, .int .u8 0, .int .u8 0, .int .u8 0, .int .u8 0, .int .u8 0, .int .u8 0, .int .u8 0, .int .u8 0, .int .u8 0, .int .u8 0, .int .u8 0, .int .u8 0, .int .u8 0, .int .u8 0, .int .u8 0, .int .u8 0, .int .u8 0, .int .u8 0, .int .u8 0, .int .u8 0, .int .u8 0, .int .u8 0, .int .u8 0, .int .u8 0, .int .u8 0]⟩) 142 ⟨.pointer 144, 1, 8, .pointer none⟩) 144 ⟨.struct #[⟨ "s", 9, 0, false, "", "errors", 0⟩], 1, 16, .agg #[.string ⟨#[]⟩]⟩) 146 ⟨.array 32 5, 32, 32, .agg #[.int .u8 0, .int .u8 0, .int .u8 0, .int .u8 0, .int .u8 0, .int .u8 0, .int .u8 0, .int .u8 0, .int .u8 0, .int .u8 0, .int .u8 0, .int .u8 0, .int .u8 0, .int .u8 0, .int .u8 0, .int .u8 0, .int .u8 0, .int .u8 0, .int .u8 0, .int .u8 0, .int .u8 0, .int .u8 0, .int .u8 0, .int .u8 0, .int .u8 0, .int .u8 0, .int .u8 0, .int .u8 0, .int .u8 0, .int .u8 0, .int .u8 0, .int .u8 0]⟩) 147 ⟨.array 64 5, 64, 64, .agg #[.int .u8 0, .int .u8 0, .int .u8 0, .int .u8 0, .int .u8 0, .int .u8 0, .int .u8 0, .int .u8 0, .int .u8 0, .int .u8 0, .int .u8 0, .int .u8 0, .int .u8 0, .int .u8 0, .int .u8 0, .int .u8 0, .int .u8 0, .int .u8 0, .int .u8 0, .int .u8 0, .int .u8 0, .int .u8 0, .int .u8 0, .int .u8 0, .int .u8 0, .int .u8 0, .int .u8 0, .int .u8 0, .int .u8 0, .int .u8 0, .int .u8 0, .int .u8 0, .int .u8 0, .int .u8 0, .int .u8 0, .int .u8 0, .int .u8 0, .int .u8 0, .int .u8 0, .int .u8 0, .int .u8 0, .int .u8 0, .int .u8 0, .int .u8 0, .int .u8 0, .int .u8 0, .int .u8 0, .int .u8 0, .int .u8 0, .int .u8 0, .int .u8 0, .int .u8 0, .int .u8 0, .int .u8 0, .int .u8 0, .int .u8 0, .int .u8 0, .int .u8 0, .int .u8 0, .int .u8 0, .int .u8 0, .int .u8 0, .int .u8 0, .int .u8 0]⟩) 155 ⟨.int .u8, 1, 1, .int .u8 0⟩
theorem tok : TOk Tryz.prog tt := (tok_upd (tok_upd (tok_upd (tok_upd (tok_upd (tok_upd (tok_upd (tok_upd (tok_upd (tok_upd (tok_upd (tok_upd (tok_upd (tok_upd (tok_upd (tok_upd (tok_upd (tok_upd (tok_upd (tok_upd (tok_upd (tok_upd (tok_upd (tok_upd (tok_upd (tok_upd (tok_upd (tok_upd (tok_upd (tok_upd (tok_upd (tok_upd (tok_upd (tok_upd (tok_upd (tok_upd (tok_upd (tok_upd (tok_upd (tok_upd (tok_upd (tok_upd (tok_upd (tok_upd (tok_upd (tok_upd (tok_nil _) ty2) ty3) ty4) ty5) ty6) ty8) ty9) ty10) ty11) ty12) ty14) ty15) ty16) ty17) ty19) ty21) ty22) ty24) ty30) ty39) ty42) ty44) ty52) ty56) ty58) ty70) ty82) ty84) ty87) ty90) ty105) ty113) ty116) ty119) ty128) ty131) ty132) ty133) ty136) ty138) ty139) ty142) ty144) ty146) ty147) ty155)
theorem follows : Tryz.prog.follows .mixedOrders = true := by kernel_rfl
end Go.Proofs.YtjjelnpehgoagaaGreatDoor
namespace Go.Proofs
open Go.Shelf
def Tryz.layLaysMn173_ren : Go.Shelf.Ren := ⟨fun | 173 => 82 | 246 => 90 | 283 => 101 | 284 => 102 | 285 => 103 | 286 => 104 | 129 => 116 | 317 => 115 | 318 => 117 | 319 => 118 | 320 => 119 | 337 => 123 | 338 => 124 | n => n, fun | 2 => 2 | 3 => 3 | 9 => 9 | 4 => 4 | 171 => 119 | 0 => 0 | 53 => 82 | 37 => 30 | 5 => 5 | 173 => 122 | 212 => 131 | 51 => 132 | 20 => 20 | 213 => 133 | 46 => 105 | 232 => 146 | 233 => 147 | n => n, fun | 17 => 3 | 18 => 6 | 19 => 7 | n => n⟩
theorem Tryz.layLaysMn173 : Go.Proofs.LaysM.n173 Tryz.prog Tryz.layLaysMn173_ren := {
  mixed := by kernel_rfl
  f129 := Tryz.func116.trans (congrArg some (by kernel_rfl))
  f173 := Tryz.func82.trans (congrArg some (by kernel_rfl))
  f246 := Tryz.func90.trans (congrArg some (by kernel_rfl))
  f283 := Tryz.func101.trans (congrArg some (by kernel_rfl))
  f284 := Tryz.func102.trans (congrArg some (by kernel_rfl))
  f285 := Tryz.func103.trans (congrArg some (by kernel_rfl))
  f286 := Tryz.func104.trans (congrArg some (by kernel_rfl))
  f317 := Tryz.func115.trans (congrArg some (by kernel_rfl))
  f318 := Tryz.func117.trans (congrArg some (by kernel_rfl))
  f319 := Tryz.func118.trans (congrArg some (by kernel_rfl))
  f320 := Tryz.func119.trans (congrArg some (by kernel_rfl))
  f337 := Tryz.func123.trans (congrArg some (by kernel_rfl))
  f338 := Tryz.func124.trans (congrArg some (by kernel_rfl))
  t0 := Tryz.underlying0
  a0 := Tryz.isAgg0
  z0 := Tryz.sizeOf0
  v0 := Tryz.zeroValue0
  t2 := Tryz.underlying2
  a2 := Tryz.isAgg2
  z2 := Tryz.sizeOf2
  v2 := Tryz.zeroValue2
  t3 := Tryz.underlying3
  a3 := Tryz.isAgg3
  z3 := Tryz.sizeOf3
  v3 := Tryz.zeroValue3
  t4 := Tryz.underlying4
  a4 := Tryz.isAgg4
  z4 := Tryz.sizeOf4
  v4 := Tryz.zeroValue4
  t5 := Tryz.underlying5
  a5 := Tryz.isAgg5
  z5 := Tryz.sizeOf5
  v5 := Tryz.zeroValue5
  t9 := Tryz.underlying9
  a9 := Tryz.isAgg9
  z9 := Tryz.sizeOf9
  v9 := Tryz.zeroValue9
  t20 := Tryz.underlying20
  a20 := Tryz.isAgg20
  z20 := Tryz.sizeOf20
  v20 := Tryz.zeroValue20
  t37 := Tryz.underlying30
  a37 := Tryz.isAgg30
  z37 := Tryz.sizeOf30
  v37 := Tryz.zeroValue30
  t46 := Tryz.underlying105
  a46 := Tryz.isAgg105
  z46 := Tryz.sizeOf105
  v46 := Tryz.zeroValue105
  t51 := Tryz.underlying132
  a51 := Tryz.isAgg132
  z51 := Tryz.sizeOf132
  v51 := Tryz.zeroValue132
  t53 := Tryz.underlying82
  a53 := Tryz.isAgg82
  z53 := Tryz.sizeOf82
  v53 := Tryz.zeroValue82
  t171 := Tryz.underlying119
  a171 := Tryz.isAgg119
  z171 := Tryz.sizeOf119
  v171 := Tryz.zeroValue119
  t173 := Tryz.underlying122
  a173 := Tryz.isAgg122
  z173 := Tryz.sizeOf122
  v173 := Tryz.zeroValue122
  t212 := Tryz.underlying131
  a212 := Tryz.isAgg131
  z212 := Tryz.sizeOf131
  v212 := Tryz.zeroValue131
  t213 := Tryz.underlying133
  a213 := Tryz.isAgg133
  z213 := Tryz.sizeOf133
  t232 := Tryz.underlying146
  a232 := Tryz.isAgg146
  z232 := Tryz.sizeOf146
  v232 := Tryz.zeroValue146
  t233 := Tryz.underlying147
  a233 := Tryz.isAgg147
  z233 := Tryz.sizeOf147
  v233 := Tryz.zeroValue147
  g17 := by kernel_rfl
  g18 := by kernel_rfl
  g19 := by kernel_rfl
  i0 := by kernel_rfl
  i2 := by kernel_rfl
  i3 := by kernel_rfl
  i4 := by kernel_rfl
  i5 := by kernel_rfl
  i9 := by kernel_rfl
  i20 := by kernel_rfl
  i37 := by kernel_rfl
  i46 := by kernel_rfl
  i51 := by kernel_rfl
  i53 := by kernel_rfl
  i171 := by kernel_rfl
  i173 := by kernel_rfl
  i212 := by kernel_rfl
  i232 := by kernel_rfl
  i233 := by kernel_rfl
  m17 := by kernel_rfl
  m18 := by kernel_rfl
  m19 := by kernel_rfl }
def Tryz.layLaysCn174_ren : Go.Shelf.Ren := ⟨fun | 174 => 79 | 247 => 88 | 245 => 89 | 287 => 96 | 279 => 97 | 280 => 98 | 281 => 99 | 282 => 100 | 321 => 110 | 322 => 111 | 316 => 112 | 171 => 114 | 205 => 113 | 243 => 122 | 246 => 90 | 283 => 101 | 284 => 102 | 285 => 103 | 286 => 104 | 129 => 116 | 317 => 115 | 318 => 117 | 319 => 118 | 320 => 119 | 337 => 123 | 338 => 124 | n => n, fun | 9 => 9 | 3 => 3 | 2 => 2 | 75 => 60 | 85 => 99 | 4 => 4 | 167 => 113 | 5 => 5 | 53 => 82 | 175 => 114 | 46 => 105 | 168 => 116 | 37 => 30 | 0 => 0 | 210 => 128 | 21 => 21 | 127 => 90 | 145 => 144 | 143 => 142 | 171 => 119 | 173 => 122 | 212 => 131 | 51 => 132 | 20 => 20 | 213 => 133 | 232 => 146 | 233 => 147 | 80 => 64 | n => n, fun | 15 => 1 | 16 => 2 | 17 => 3 | 18 => 6 | 19 => 7 | n => n⟩
theorem Tryz.layLaysCn174 : Go.Proofs.LaysC.n174 Tryz.prog Tryz.layLaysCn174_ren := {
  mixed := by kernel_rfl
  f129 := Tryz.func116.trans (congrArg some (by kernel_rfl))
  f171 := Tryz.func114.trans (congrArg some (by kernel_rfl))
  f174 := Tryz.func79.trans (congrArg some (by kernel_rfl))
  f205 := Tryz.func113.trans (congrArg some (by kernel_rfl))
  f243 := Tryz.func122.trans (congrArg some (by kernel_rfl))
  f245 := Tryz.func89.trans (congrArg some (by kernel_rfl))
  f246 := Tryz.func90.trans (congrArg some (by kernel_rfl))
  f247 := Tryz.func88.trans (congrArg some (by kernel_rfl))
  f279 := Tryz.func97.trans (congrArg some (by kernel_rfl))
  f280 := Tryz.func98.trans (congrArg some (by kernel_rfl))
  f281 := Tryz.func99.trans (congrArg some (by kernel_rfl))
  f282 := Tryz.func100.trans (congrArg some (by kernel_rfl))
  f283 := Tryz.func101.trans (congrArg some (by kernel_rfl))
  f284 := Tryz.func102.trans (congrArg some (by kernel_rfl))
  f285 := Tryz.func103.trans (congrArg some (by kernel_rfl))
  f286 := Tryz.func104.trans (congrArg some (by kernel_rfl))
  f287 := Tryz.func96.trans (congrArg some (by kernel_rfl))
  f316 := Tryz.func112.trans (congrArg some (by kernel_rfl))
  f317 := Tryz.func115.trans (congrArg some (by kernel_rfl))
  f318 := Tryz.func117.trans (congrArg some (by kernel_rfl))
  f319 := Tryz.func118.trans (congrArg some (by kernel_rfl))
  f320 := Tryz.func119.trans (congrArg some (by kernel_rfl))
  f321 := Tryz.func110.trans (congrArg some (by kernel_rfl))
  f322 := Tryz.func111.trans (congrArg some (by kernel_rfl))
  f337 := Tryz.func123.trans (congrArg some (by kernel_rfl))
  f338 := Tryz.func124.trans (congrArg some (by kernel_rfl))
  t0 := Tryz.underlying0
  a0 := Tryz.isAgg0
  z0 := Tryz.sizeOf0
  v0 := Tryz.zeroValue0
  t2 := Tryz.underlying2
  a2 := Tryz.isAgg2
  z2 := Tryz.sizeOf2
  v2 := Tryz.zeroValue2
  t3 := Tryz.underlying3
  a3 := Tryz.isAgg3
  z3 := Tryz.sizeOf3
  v3 := Tryz.zeroValue3
  t4 := Tryz.underlying4
  a4 := Tryz.isAgg4
  z4 := Tryz.sizeOf4
  v4 := Tryz.zeroValue4
  t5 := Tryz.underlying5
  a5 := Tryz.isAgg5
  z5 := Tryz.sizeOf5
  v5 := Tryz.zeroValue5
  t9 := Tryz.underlying9
  a9 := Tryz.isAgg9
  z9 := Tryz.sizeOf9
  v9 := Tryz.zeroValue9
  t20 := Tryz.underlying20
  a20 := Tryz.isAgg20
  z20 := Tryz.sizeOf20
  v20 := Tryz.zeroValue20
  t21 := Tryz.underlying21
  a21 := Tryz.isAgg21
  z21 := Tryz.sizeOf21
  v21 := Tryz.zeroValue21
  t37 := Tryz.underlying30
  a37 := Tryz.isAgg30
  z37 := Tryz.sizeOf30
  v37 := Tryz.zeroValue30
  t46 := Tryz.underlying105
  a46 := Tryz.isAgg105
  z46 := Tryz.sizeOf105
  v46 := Tryz.zeroValue105
  t51 := Tryz.underlying132
  a51 := Tryz.isAgg132
  z51 := Tryz.sizeOf132
  v51 := Tryz.zeroValue132
  t53 := Tryz.underlying82
  a53 := Tryz.isAgg82
  z53 := Tryz.sizeOf82
  v53 := Tryz.zeroValue82
  t75 := Tryz.underlying60
  a75 := Tryz.isAgg60
  z75 := Tryz.sizeOf60
  v75 := Tryz.zeroValue60
  t85 := Tryz.underlying99
  a85 := Tryz.isAgg99
  z85 := Tryz.sizeOf99
  v85 := Tryz.zeroValue99
  t127 := Tryz.underlying90
  a127 := Tryz.isAgg90
  z127 := Tryz.sizeOf90
  v127 := Tryz.zeroValue90
  t143 := Tryz.underlying142
  a143 := Tryz.isAgg142
  z143 := Tryz.sizeOf142
  v143 := Tryz.zeroValue142
  t145 := Tryz.underlying144
  a145 := Tryz.isAgg144
  z145 := Tryz.sizeOf144
  v145 := Tryz.zeroValue144
  t167 := Tryz.underlying113
  a167 := Tryz.isAgg113
  z167 := Tryz.sizeOf113
  v167 := Tryz.zeroValue113
  t168 := Tryz.underlying116
  a168 := Tryz.isAgg116
  z168 := Tryz.sizeOf116
  v168 := Tryz.zeroValue116
  t171 := Tryz.underlying119
  a171 := Tryz.isAgg119
  z171 := Tryz.sizeOf119
  v171 := Tryz.zeroValue119
  t173 := Tryz.underlying122
  a173 := Tryz.isAgg122
  z173 := Tryz.sizeOf122
  v173 := Tryz.zeroValue122
  t175 := Tryz.underlying114
  a175 := Tryz.isAgg114
  z175 := Tryz.sizeOf114
  v175 := Tryz.zeroValue114
  t210 := Tryz.underlying128
  a210 := Tryz.isAgg128
  z210 := Tryz.sizeOf128
  v210 := Tryz.zeroValue128
  t212 := Tryz.underlying131
  a212 := Tryz.isAgg131
  z212 := Tryz.sizeOf131
  v212 := Tryz.zeroValue131
  t213 := Tryz.underlying133
  a213 := Tryz.isAgg133
  z213 := Tryz.sizeOf133
  t232 := Tryz.underlying146
  a232 := Tryz.isAgg146
  z232 := Tryz.sizeOf146
  v232 := Tryz.zeroValue146
  t233 := Tryz.underlying147
  a233 := Tryz.isAgg147
  z233 := Tryz.sizeOf147
  v233 := Tryz.zeroValue147
  g15 := by kernel_rfl
  g16 := by kernel_rfl
  g17 := by kernel_rfl
  g18 := by kernel_rfl
  g19 := by kernel_rfl
  t80 := Tryz.underlying64
  a80 := Tryz.isAgg64
  z80 := Tryz.sizeOf64
  v80 := Tryz.zeroValue64
  i0 := by kernel_rfl
  i2 := by kernel_rfl
  i3 := by kernel_rfl
  i4 := by kernel_rfl
  i5 := by kernel_rfl
  i9 := by kernel_rfl
  i20 := by kernel_rfl
  i21 := by kernel_rfl
  i37 := by kernel_rfl
  i46 := by kernel_rfl
  i51 := by kernel_rfl
  i53 := by kernel_rfl
  i75 := by kernel_rfl
  i80 := by kernel_rfl
  i85 := by kernel_rfl
  i127 := by kernel_rfl
  i143 := by kernel_rfl
  i145 := by kernel_rfl
  i167 := by kernel_rfl
  i168 := by kernel_rfl
  i171 := by kernel_rfl
  i173 := by kernel_rfl
  i175 := by kernel_rfl
  i210 := by kernel_rfl
  i212 := by kernel_rfl
  i232 := by kernel_rfl
  i233 := by kernel_rfl
  m15 := by kernel_rfl
  m16 := by kernel_rfl
  m17 := by kernel_rfl
  m18 := by kernel_rfl
  m19 := by kernel_rfl
  c0 := by kernel_rfl
  c2 := by kernel_rfl
  c3 := by kernel_rfl
  c4 := by kernel_rfl
  c5 := by kernel_rfl
  c9 := by kernel_rfl
  c20 := by kernel_rfl
  c21 := by kernel_rfl
  c37 := by kernel_rfl
  c46 := by kernel_rfl
  c51 := by kernel_rfl
  c53 := by kernel_rfl
  c75 := by kernel_rfl
  c80 := by kernel_rfl
  c85 := by kernel_rfl
  c127 := by kernel_rfl
  c143 := by kernel_rfl
  c145 := by kernel_rfl
  c167 := by kernel_rfl
  c168 := by kernel_rfl
  c171 := by kernel_rfl
  c173 := by kernel_rfl
  c175 := by kernel_rfl
  c210 := by kernel_rfl
  c212 := by kernel_rfl
  c213 := by kernel_rfl
  c232 := by kernel_rfl
  c233 := by kernel_rfl }
def Tryz.layLaysn101_ren : Go.Shelf.Ren := ⟨fun | 101 => 78 | 208 => 87 | 206 => 95 | n => n, fun | 9 => 9 | 4 => 4 | 3 => 3 | n => n, fun | n => n⟩
theorem Tryz.layLaysn101 : Go.Proofs.Lays.n101 Tryz.prog Tryz.layLaysn101_ren := {
  mixed := by kernel_rfl
  f101 := Tryz.func78.trans (congrArg some (by kernel_rfl))
  f206 := Tryz.func95.trans (congrArg some (by kernel_rfl))
  f208 := Tryz.func87.trans (congrArg some (by kernel_rfl))
  t3 := Tryz.underlying3
  a3 := Tryz.isAgg3
  z3 := Tryz.sizeOf3
  v3 := Tryz.zeroValue3
  t4 := Tryz.underlying4
  a4 := Tryz.isAgg4
  z4 := Tryz.sizeOf4
  v4 := Tryz.zeroValue4
  t9 := Tryz.underlying9
  a9 := Tryz.isAgg9
  z9 := Tryz.sizeOf9
  v9 := Tryz.zeroValue9 }
end Go.Proofs
namespace Go.Proofs.YtjjelnpehgoagaaGreatDoor
open Go.Shelf Go.RowKit
set_option linter.unusedVariables false
set_option maxRecDepth 100000
theorem tabNamed : Tryz.prog.globalNamed "internal/strconv.uint64pow10" = some 3 := by kernel_rfl
theorem tab_here {W : World} {F : Nat → Prop} (gl : Glob F W) : Lib.TabIs Tryz.prog W "internal/strconv.uint64pow10" .u64 Lib.pow10Tab := by
  obtain ⟨-, t, f, e⟩ := gl (tabG 3 (Lib.pow10Tab.map fun z => Value.int .u64 z)) (by simp [globs])
  unfold Lib.TabIs World.var?
  rw [tabNamed]
  simp [e]
theorem sh_fmt {n : Int} (h0 : -9223372036854775808 ≤ n) (h1 : n ≤ 9223372036854775807) : FnC Tryz.prog 82 [] [.d (.v (.int .i64 n)), .d (.v (.int .i64 10))] [] (.d (.v (.string ⟨(Lib.itoa n).toArray⟩))) :=
  fnc_ofG (v := .string ⟨(Lib.itoa n).toArray⟩) (by kernel_rfl) rfl fun W F gl => (Any.strconv_FormatInt_10 Tryz.layLaysMn173 n h0 h1 W (tab_here gl)).mono (by rintro e w' ⟨rfl, k, os, rfl⟩; exact ⟨rfl, Lib.below_grow _ _ (Nat.le_refl _) _ _⟩)
end Go.Proofs.YtjjelnpehgoagaaGreatDoor
namespace Go.Proofs.YtjjelnpehgoagaaGreatDoor
open Go.RowKit
set_option linter.unusedVariables false
set_option maxRecDepth 100000

def Row (w : World) (A : Option Addr) (xs : List Value) : Prop :=
  xs = [] ∨ ∃ b off, A = some ⟨b, off, none⟩ ∧ ∀ j (h : j < xs.length), w.cell? ⟨b, off + j, none⟩ = some xs[j]

section
variable {w w' : World} {A : Option Addr} {xs : List Value}
theorem Row.at_ (h : Row w A xs) (hp : 0 < xs.length) : ∃ b off, A = some ⟨b, off, none⟩ ∧ b < w.heap.size ∧ ∀ j (h : j < xs.length), w.cell? ⟨b, off + j, none⟩ = some xs[j] := by
  rcases h with rfl | ⟨b, off, rfl, hc⟩
  · simp at hp
  · refine ⟨b, off, rfl, ?_, hc⟩
    have h0 := hc 0 hp
    rcases Nat.lt_or_ge b w.heap.size with hlt | hge
    · exact hlt
    · unfold World.cell? at h0
      simp [Array.getElem?_eq_none hge] at h0
theorem Row.keep (h : Row w A xs) (hk : ∀ b o, b < w.heap.size → w'.cell? ⟨b, o, none⟩ = w.cell? ⟨b, o, none⟩) : Row w' A xs := by
  rcases Nat.eq_zero_or_pos xs.length with h0 | h0
  · exact .inl (List.eq_nil_of_length_eq_zero h0)
  · obtain ⟨b, off, rfl, hb, hc⟩ := h.at_ h0
    exact .inr ⟨b, off, rfl, fun j hj => (hk _ _ hb).trans (hc j hj)⟩
end

def Blk (w : World) (g : Nat) (t : TypeId) (cs : Array Value) : Prop := w.heap[g]? = some (.cells cs t (0, 0))
section
variable {w w' : World} {g : Nat} {t : TypeId} {cs : Array Value}
theorem Blk.lt (h : Blk w g t cs) : g < w.heap.size := by
  rcases Nat.lt_or_ge g w.heap.size with hlt | hge
  · exact hlt
  · unfold Blk at h; rw [Array.getElem?_eq_none hge] at h; cases h
theorem Blk.cell (h : Blk w g t cs) (i : Nat) : w.cell? ⟨g, i, none⟩ = cs[i]? := cell_of_row w g i cs t (0, 0) h
theorem Blk.frozen (h : Blk w g t cs) (i : Nat) : w.frozen? ⟨g, i, none⟩ = false := by
  unfold Blk at h
  simp [World.frozen?, h]
theorem Blk.new (w : World) (t : TypeId) (cs : Array Value) : Blk (w.alloc (.cells cs t)) w.heap.size t cs := heap_alloc_new w _
theorem Blk.alloc (h : Blk w g t cs) (o : Obj) : Blk (w.alloc o) g t cs := (Below.heap_alloc w o g h.lt).trans h
theorem Blk.set_ (h : Blk w g t cs) (i : Nat) (u : Value) : Blk (w.setCell ⟨g, i, none⟩ u) g t (cs.setIfInBounds i u) := by
  unfold Blk at h ⊢
  simp [World.setCell, Array.getElem?_modify, h]
theorem Blk.far (h : Blk w g t cs) {p : Addr} (hp : g ≠ p.block) (u : Value) : Blk (w.setCell p u) g t cs := (Below.heap_setCell w p u g hp).trans h
theorem Blk.row (h : Blk w g t cs) : Row w (some ⟨g, 0, none⟩) cs.toList :=
  .inr ⟨g, 0, rfl, fun j hj => by rw [Nat.zero_add, h.cell, Array.getElem?_eq_getElem (by simpa using hj)]; simp⟩
end

section
variable {w w' : World} {base size n c : Nat} {e : TypeId} {A : Option Addr} {xs : List Value}
end
def putAt (cs : Array Value) (o : Nat) : List Value → Array Value
  | [] => cs
  | v :: vs => putAt (cs.setIfInBounds o v) (o + 1) vs
def putW (w : World) (g : Nat) (o : Nat) : List Value → World
  | [] => w
  | v :: vs => putW (w.setCell ⟨g, o, none⟩ v) g (o + 1) vs
theorem Blk.put {g : Nat} {t : TypeId} (vs : List Value) : ∀ {w : World} {cs : Array Value} (o : Nat), Blk w g t cs → Blk (putW w g o vs) g t (putAt cs o vs) := by
  induction vs with
  | nil => intro w cs o h; exact h
  | cons v vs ih => intro w cs o h; exact ih (o + 1) (h.set_ o v)
theorem cell_lt {w : World} {a : Addr} {v : Value} (h : w.cell? a = some v) : a.block < w.heap.size := by
  rcases Nat.lt_or_ge a.block w.heap.size with hlt | hge
  · exact hlt
  · unfold World.cell? at h
    simp [Array.getElem?_eq_none hge] at h
theorem kf {w w' : World} {a : Addr} {v : Value} {b : Bool} (hb : Below w.heap.size w w') (h : w.cell? a = some v) (hf : w.frozen? a = b) : w'.frozen? a = b := (hb.frozen (cell_lt h)).trans hf
end Go.Proofs.YtjjelnpehgoagaaGreatDoor
namespace Go.Proofs
open Go.Shelf
def Tryz.layLaysn169_ren : Go.Shelf.Ren := ⟨fun | 169 => 36 | n => n, fun | 70 => 56 | 9 => 9 | 0 => 0 | 72 => 58 | 37 => 30 | 127 => 90 | 3 => 3 | 5 => 5 | n => n, fun | n => n⟩
theorem Tryz.layLaysn169 : Go.Proofs.Lays.n169 Tryz.prog Tryz.layLaysn169_ren := {
  mixed := by kernel_rfl
  f169 := Tryz.func36.trans (congrArg some (by kernel_rfl))
  t0 := Tryz.underlying0
  a0 := Tryz.isAgg0
  z0 := Tryz.sizeOf0
  v0 := Tryz.zeroValue0
  t3 := Tryz.underlying3
  a3 := Tryz.isAgg3
  z3 := Tryz.sizeOf3
  v3 := Tryz.zeroValue3
  t9 := Tryz.underlying9
  a9 := Tryz.isAgg9
  z9 := Tryz.sizeOf9
  v9 := Tryz.zeroValue9
  t37 := Tryz.underlying30
  a37 := Tryz.isAgg30
  z37 := Tryz.sizeOf30
  v37 := Tryz.zeroValue30
  t70 := Tryz.underlying56
  a70 := Tryz.isAgg56
  z70 := Tryz.sizeOf56
  v70 := Tryz.zeroValue56
  t72 := Tryz.underlying58
  a72 := Tryz.isAgg58
  z72 := Tryz.sizeOf58
  v72 := Tryz.zeroValue58
  t127 := Tryz.underlying90
  a127 := Tryz.isAgg90
  z127 := Tryz.sizeOf90
  v127 := Tryz.zeroValue90 }
end Go.Proofs
namespace Go.Proofs.YtjjelnpehgoagaaGreatDoor
open Go.Shelf Go.RowKit
set_option linter.unusedVariables false
set_option maxRecDepth 100000
def layWS_ren : Go.Shelf.Ren := ⟨fun | 166 => 34 | 240 => 61 | 276 => 81 | n => n,
  fun | 0 => 0 | 3 => 3 | 4 => 4 | 5 => 5 | 9 => 9 | 20 => 20 | 37 => 30 | 70 => 56 | 72 => 58 | 75 => 60 | 80 => 64 | 164 => 102 | n => n, fun | n => n⟩
theorem layWS : Lays.n166 Tryz.prog layWS_ren := {
  mixed := by kernel_rfl
  f166 := Tryz.func34.trans (congrArg some (by kernel_rfl))
  f240 := Tryz.func61.trans (congrArg some (by kernel_rfl))
  f276 := Tryz.func81.trans (congrArg some (by kernel_rfl))
  t0 := Tryz.underlying0
  a0 := Tryz.isAgg0
  z0 := Tryz.sizeOf0
  v0 := Tryz.zeroValue0
  t3 := Tryz.underlying3
  a3 := Tryz.isAgg3
  z3 := Tryz.sizeOf3
  v3 := Tryz.zeroValue3
  t4 := Tryz.underlying4
  a4 := Tryz.isAgg4
  z4 := Tryz.sizeOf4
  v4 := Tryz.zeroValue4
  t9 := Tryz.underlying9
  a9 := Tryz.isAgg9
  z9 := Tryz.sizeOf9
  v9 := Tryz.zeroValue9
  t20 := Tryz.underlying20
  a20 := Tryz.isAgg20
  z20 := Tryz.sizeOf20
  v20 := Tryz.zeroValue20
  t37 := Tryz.underlying30
  a37 := Tryz.isAgg30
  z37 := Tryz.sizeOf30
  v37 := Tryz.zeroValue30
  t70 := Tryz.underlying56
  a70 := Tryz.isAgg56
  z70 := Tryz.sizeOf56
  v70 := Tryz.zeroValue56
  t72 := Tryz.underlying58
  a72 := Tryz.isAgg58
  z72 := Tryz.sizeOf58
  v72 := Tryz.zeroValue58
  t75 := Tryz.underlying60
  a75 := Tryz.isAgg60
  z75 := Tryz.sizeOf60
  v75 := Tryz.zeroValue60
  t164 := Tryz.underlying102
  a164 := Tryz.isAgg102
  z164 := Tryz.sizeOf102
  v164 := Tryz.zeroValue102 }
theorem bldX (ρ : Go.Shelf.Ren) (h5 : ρ.t 5 = 5) (h72 : ρ.t 72 = 58) : Builder.Extra Tryz.prog ρ := {
  sizeBuilder := by rw [h72]; kernel_rfl
  liesBuilder := by rw [h72]; kernel_rfl
  t5 := by rw [h5]; exact Tryz.underlying5
  a5 := by rw [h5]; exact Tryz.isAgg5
  z5 := by rw [h5]; exact Tryz.sizeOf5
  v5 := by rw [h5]; exact Tryz.zeroValue5
  infoByte := by rw [h5]; kernel_rfl
  cellsByte := by rw [h5]; kernel_rfl
  sizeByte := by rw [h5]; kernel_rfl
  neB5 := by rw [h5, h72]; decide }
abbrev IsB (B b : Nat) (l : List UInt8) (w : World) : Prop := Lib.IsBuilder 58 5 B b (Lib.byteCells l) w
theorem ws_c (B b : Nat) (l : List UInt8) (s : ByteArray) (w : World) (h : IsB B b l w) (hlen : l.length + s.size ≤ 140737488355328) (hBw : B ≤ w.heap.size) :
    Calls Tryz.prog 34 #[.pointer (some ⟨b, 0, none⟩), .string s] w fun e w' => e = .returned (.tuple #[.int .i64 s.size, .nilIface]) ∧ IsB B b (l ++ s.data.toList) w' ∧ Below B w w' := by
  refine (Any.Builder_WriteString layWS (bldX _ rfl rfl) B b _ s w h (by rw [Lib.byteCells_length]; exact hlen) hBw).mono ?_
  rintro e w' ⟨h1, h2, h3⟩
  refine ⟨h1, .inr ?_, h3⟩
  rw [Lib.byteCells_append, ← Lib.strCells_eq]; exact h2
theorem str_c (B b : Nat) (l : List UInt8) (w : World) (h : IsB B b l w) (hBw : B ≤ w.heap.size) :
    Calls Tryz.prog 36 #[.pointer (some ⟨b, 0, none⟩)] w fun e w' => e = .returned (.string ⟨l.toArray⟩) ∧ Below B w w' :=
  Any.Builder_String_any Tryz.layLaysn169 (bldX _ rfl rfl) B b l w h hBw
theorem bld_keep {B b : Nat} {l : List UInt8} {w w' : World} (h : IsB B b l w) (hb : Below w.heap.size w w') : IsB B b l w' := by
  have key : ∀ p, Lib.BuilderAt 58 5 B b p (Lib.byteCells l) w → Lib.BuilderAt 58 5 B b p (Lib.byteCells l) w' := by
    rintro p ⟨h1, v, h2, h3, h4⟩
    refine ⟨h1, v, ?_, h3.kept (row := none) ⟨hb.os, hb.tape, hb.output, hb.size, fun k hk _ => hb.block k hk⟩ ?_, h4⟩
    · rw [hb.block b (Array.getElem?_eq_some_iff.1 h2).1]; exact h2
    · cases v.ownBlock <;> simp
  exact h.imp (key _) (key _)
theorem evo_nil {w w' : World} {F F' : Nat → Prop} (h1 : ∀ b, F b → w'.heap[b]? = w.heap[b]?) (h2 : ∀ b, F b → F' b) : Evo w F (fun _ _ => none) (lks []) w' F' (fun _ _ => none) (lks []) :=
  ⟨h1, h2, fun _ h => h, fun k f o' h _ => absurd rfl h⟩
theorem calls_in {f : FuncId} {aa : List AV} {x : Value} (hF : FnC Tryz.prog f [] aa [] (.d (.v x))) {w W : World} {F : Nat → Prop} (gl : Glob F w) (hfz : ∀ b, F b → b < w.heap.size) (hb : Below w.heap.size w W) {vs : Array Value} (hl : vs.size = aa.length) (hr : ∀ (i : Nat) v a, vs[i]? = some v → aa[i]? = some a → ARep w F (fun _ _ => none) (lks []) v a) :
    Calls Tryz.prog f vs W fun e w' => e = .returned x ∧ Below W.heap.size W w' := by
  have hs := hb.size
  have k1 : ∀ b, F b → W.heap[b]? = w.heap[b]? := fun b h => hb.block b (hfz b h)
  have k2 : ∀ b, F b → b < W.heap.size := fun b h => Nat.lt_of_lt_of_le (hfz b h) hs
  exact calls_of hF W vs hl (fun i v a h1 h2 => (hr i v a h1 h2).evo (evo_nil k1 k2)) (gl.evo k1 k2)
theorem shapes_at {w : World} {F : Nat → Prop} {v : Value} {xs : List Shape_} (h : DRep w F v (.sl (xs.map cShape_))) : ∃ A c, v = .slice A xs.length c ∧ xs.length ≤ 9223372036854775807 ∧ ∀ (k : Nat) s, xs[k]? = some s → ∃ b off, A = some ⟨b, off, none⟩ ∧ F b ∧
    w.cell? ⟨b, off + k * 7, none⟩ = some (.int .i64 s.Kind) ∧ w.cell? ⟨b, off + k * 7 + 1, none⟩ = some (.int .i64 s.A.X) ∧ w.cell? ⟨b, off + k * 7 + 2, none⟩ = some (.int .i64 s.A.Y) ∧ w.cell? ⟨b, off + k * 7 + 3, none⟩ = some (.int .i64 s.B.X) ∧ w.cell? ⟨b, off + k * 7 + 4, none⟩ = some (.int .i64 s.B.Y) ∧ w.cell? ⟨b, off + k * 7 + 5, none⟩ = some (.int .i64 s.R) ∧ w.cell? ⟨b, off + k * 7 + 6, none⟩ = some (.string s.Name) := by
  generalize hes : xs.map cShape_ = es at h
  have hl : xs.length = es.length := by rw [← hes, List.length_map]
  cases h with
  | nil => exact ⟨none, 0, by rw [hl]; rfl, by rw [hl]; simp, fun k s hk => by have := List.map_eq_nil_iff.1 hes; subst this; simp at hk⟩
  | emp A c hm => exact ⟨A, c, by rw [hl]; rfl, by rw [hl]; simp, fun k s hk => by have := List.map_eq_nil_iff.1 hes; subst this; simp at hk⟩
  | sl b off c sz es g hF hc hm hz hg hr =>
    refine ⟨some ⟨b, off, none⟩, c, by rw [hl], by rw [hl]; unfold maxLen at hm; omega, fun k s hk => ⟨b, off, rfl, hF, ?_⟩⟩
    have h1 : es[k]? = some (cShape_ s) := by rw [← hes]; simp [hk]
    have h3 : sz = 7 := by rw [← hz k _ h1]; rfl
    subst h3
    have key : ∀ (j : Nat) x, (cShape_ s)[j]? = some (.v x) → w.cell? ⟨b, off + k * 7 + j, none⟩ = some x := fun j x hj => by
      have h4 := hg k _ j _ h1 hj
      have h5 := hr k _ j _ h1 hj
      rw [h4]
      generalize g k j = y at h5
      cases h5; rfl
    exact ⟨key 0 _ rfl, key 1 _ rfl, key 2 _ rfl, key 3 _ rfl, key 4 _ rfl, key 5 _ rfl, key 6 _ rfl⟩
abbrev shapeA (s : Shape_) : AV := .agg [.d (.v (.int .i64 s.Kind)), .d (.v (.int .i64 s.A.X)), .d (.v (.int .i64 s.A.Y)), .d (.v (.int .i64 s.B.X)), .d (.v (.int .i64 s.B.Y)), .d (.v (.int .i64 s.R)), .d (.v (.string s.Name))]
theorem shape_rep {w : World} {F : Nat → Prop} {μ : Places} {h : Heap} (s : Shape_) : ARep w F μ h (.agg #[.int .i64 s.Kind, .int .i64 s.A.X, .int .i64 s.A.Y, .int .i64 s.B.X, .int .i64 s.B.Y, .int .i64 s.R, .string s.Name]) (shapeA s) := by
  refine .agg _ _ rfl fun i v a h1 h2 => ?_
  match i with
  | 0 | 1 | 2 | 3 | 4 | 5 | 6 => simp at h1 h2; subst h1 h2; exact .d _ _ (.v _ rfl)
  | i + 7 => simp at h2
theorem hidB {p : Prop} (h : p) : Hid p := h
theorem round_ws {w1 wr wa w2 : World} (hsz : w1.heap.size ≤ wr.heap.size) (hsA : wr.heap.size < wa.heap.size) (hb2 : Below wa.heap.size wa w2) : w1.heap.size ≤ w2.heap.size := by
  have := hb2.size; omega
theorem round_end {w w1 wr wa w2 w3 : World} {acc t : ByteArray} (hlt : w.heap.size < w1.heap.size) (hsz : w1.heap.size ≤ wr.heap.size) (hsA : wr.heap.size < wa.heap.size) (hW : Below w.heap.size w wa) (hb2 : Below wa.heap.size wa w2) (hb3 : Below w1.heap.size w2 w3) (h3 : IsB w1.heap.size w1.heap.size (acc.data.toList ++ (t ++ nlB).data.toList) w3) :
    Hid (IsB w1.heap.size w1.heap.size (acc ++ (t ++ nlB)).data.toList w3) ∧ Hid (Below w.heap.size w w3) ∧ w1.heap.size ≤ w3.heap.size := by
  have z1 := hb2.size
  have z3 := hb3.size
  have e : (acc ++ (t ++ nlB)).data.toList = acc.data.toList ++ (t ++ nlB).data.toList := by simp
  rw [e]
  exact ⟨hidB h3, hidB ((hW.trans (hb2.mono (by omega))).trans (hb3.mono (by omega))), by omega⟩
theorem draw_c {xs : List Shape_} {s0 : Value} {w : World} {F : Nat → Prop} (gl : Glob F w) (hfz : ∀ b, F b → b < w.heap.size) {bv : Bool} (hv : FnC Tryz.prog 17 [] [.agg [.d (.sl (xs.map cShape_))]] [] (.d (.v (.bool bv))))
    {f : Shape_ → Option ByteArray} (hf : ∀ s t, f s = some t → FnC Tryz.prog 35 [] [shapeA s] [] (.d (.v (.string t)))) (h0 : DRep w F s0 (.sl (xs.map cShape_))) {r : ByteArray} (hr : (if bv = true then linesM f xs ⟨#[]⟩ else some ⟨#[]⟩) = some r) :
    Calls Tryz.prog 14 #[.agg #[s0]] w fun e w' => e = .returned (.string r) ∧ Below w.heap.size w w' := by
  have hin : ∀ W, Below w.heap.size w W → Calls Tryz.prog 17 #[.agg #[s0]] W fun e w' => e = .returned (.bool bv) ∧ Below W.heap.size W w' := fun W hW => by
    refine calls_in hv gl hfz hW rfl fun i v a h1 h2 => ?_
    match i with
    | 0 =>
      simp at h1 h2; subst h1 h2
      refine .agg _ _ rfl fun i v a h1 h2 => ?_
      match i with
      | 0 => simp at h1 h2; subst h1 h2; exact .d _ _ h0
      | i + 1 => simp at h2
    | i + 1 => simp at h2
  obtain ⟨A, c, rfl, hxl, hcell⟩ := shapes_at h0
  have Hin := hidB hin
  clear hin
  cases bv
  · cases hr
    go_enter Tryz.func14, Tryz.ntmps14
    go_wp2_with (go_at_call 17; refine (Hin.out _ (Below.alloc (Below.refl _ _) (Nat.le_refl _) _)).mono ?_; rintro e w1 ⟨rfl, hb1⟩)
    refine bodyPost_ret (v := .string ⟨#[]⟩) (by simp [results, Tryz.results14, go_sem]) rfl ?_
    exact ⟨rfl, (Below.alloc (Below.refl _ _) (Nat.le_refl _) _).trans (hb1.mono (by simp))⟩
  · rw [if_pos rfl] at hr
    have Hc := hidB hcell
    have Hf := hidB hf
    have Hr := hidB hr
    clear hcell hf hr
    go_enter Tryz.func14, Tryz.ntmps14
    go_wp2_with (go_at_call 17; refine (Hin.out _ (Below.alloc (Below.refl _ _) (Nat.le_refl _) _)).mono ?_; rintro e w1 ⟨rfl, hb1⟩; have hlt : w.heap.size < w1.heap.size := Nat.lt_of_lt_of_le (by simp) hb1.size; have hd : w1.cell? ⟨w.heap.size, 0, none⟩ = some (.slice A xs.length c) := (hb1.cell (p := ⟨w.heap.size, 0, none⟩) (by simp)).trans (Lib.cell_of_heap (heap_alloc_new w _) 0))
    have hW1 : Below w.heap.size w w1 := (Below.alloc (Below.refl _ _) (Nat.le_refl _) _).trans (hb1.mono (by simp))
    go_loopw [12] (fun i wr => ∃ (k : Nat) (acc : ByteArray), k ≤ xs.length ∧ i = .int .i64 k ∧ Hid (linesM f (xs.drop k) acc = some r) ∧ Hid (IsB w1.heap.size w1.heap.size acc.data.toList wr) ∧ Hid (Below w.heap.size w wr) ∧ w1.heap.size ≤ wr.heap.size) (fun i _ => xs.length - (intOf i).toNat)
    case atStart => exact ⟨0, ⟨#[]⟩, Nat.zero_le _, rfl, Hr, hidB (Lib.fresh_isBuilder _ _ _), hidB (hW1.alloc (by omega) _), by simp⟩
    case round =>
      obtain ⟨k, acc, hk, rfl, HL, HB, HW, hsz⟩ := hrel
      by_cases hkn : k < xs.length
      · obtain ⟨s, hs⟩ : ∃ s, xs[k]? = some s := ⟨xs[k], List.getElem?_eq_getElem hkn⟩
        obtain ⟨b, off, rfl, hFb, k0, k1, k2, k3, k4, k5, k6⟩ := Hc.out k s hs
        have hbl := hfz b hFb
        have c0 := (HW.out.cell (p := ⟨b, off + k * 7, none⟩) hbl).trans k0
        have c1 := (HW.out.cell (p := ⟨b, off + k * 7 + 1, none⟩) hbl).trans k1
        have c2 := (HW.out.cell (p := ⟨b, off + k * 7 + 2, none⟩) hbl).trans k2
        have c3 := (HW.out.cell (p := ⟨b, off + k * 7 + 3, none⟩) hbl).trans k3
        have c4 := (HW.out.cell (p := ⟨b, off + k * 7 + 4, none⟩) hbl).trans k4
        have c5 := (HW.out.cell (p := ⟨b, off + k * 7 + 5, none⟩) hbl).trans k5
        have c6 := (HW.out.cell (p := ⟨b, off + k * 7 + 6, none⟩) hbl).trans k6
        clear k0 k1 k2 k3 k4 k5 k6
        have hL := HL.out
        rw [List.drop_eq_getElem_cons hkn] at hL
        have hse : xs[k] = s := by rw [List.getElem?_eq_getElem hkn] at hs; exact Option.some.inj hs
        rw [hse] at hL
        clear hse hs
        unfold linesM at hL
        obtain ⟨t, ht, hL⟩ := bnd hL
        obtain ⟨hsize, hL⟩ := chk_e hL
        have HL2 := hidB hL
        have Ht := hidB ht
        clear hL ht
        have hWr : Below w.heap.size w (wr.alloc (Obj.cells #[Value.int IntKind.i64 s.Kind, Value.int IntKind.i64 s.A.X, Value.int IntKind.i64 s.A.Y, Value.int IntKind.i64 s.B.X, Value.int IntKind.i64 s.B.Y, Value.int IntKind.i64 s.R, Value.string s.Name] 44)) := HW.out.alloc (by omega) _
        have hBr : IsB w1.heap.size w1.heap.size acc.data.toList (wr.alloc (Obj.cells #[Value.int IntKind.i64 s.Kind, Value.int IntKind.i64 s.A.X, Value.int IntKind.i64 s.A.Y, Value.int IntKind.i64 s.B.X, Value.int IntKind.i64 s.B.Y, Value.int IntKind.i64 s.R, Value.string s.Name] 44)) := bld_keep HB.out ((Below.refl _ _).alloc (Nat.le_refl _) _)
        have HWr := hidB hWr
        have HBr := hidB hBr
        clear hWr hBr
        have hcall : ∀ W, Below w.heap.size w W → Calls Tryz.prog 35 #[.agg #[.int .i64 s.Kind, .int .i64 s.A.X, .int .i64 s.A.Y, .int .i64 s.B.X, .int .i64 s.B.Y, .int .i64 s.R, .string s.Name]] W fun e w' => e = .returned (.string t) ∧ Below W.heap.size W w' := fun W hW => by
          refine calls_in (Hf.out s t Ht.out) gl hfz hW rfl (fun i v a h1 h2 => ?_)
          match i with
          | 0 => simp at h1 h2; subst h1 h2; exact shape_rep s
          | i + 1 => simp at h2
        have Hcall := hidB hcall
        clear hcall
        have hsA : wr.heap.size < (wr.alloc (Obj.cells #[Value.int IntKind.i64 s.Kind, Value.int IntKind.i64 s.A.X, Value.int IntKind.i64 s.A.Y, Value.int IntKind.i64 s.B.X, Value.int IntKind.i64 s.B.Y, Value.int IntKind.i64 s.R, Value.string s.Name] 44)).heap.size := by simp
        have HsA := hidB hsA
        clear hsA
        have hln : acc.data.toList.length + (t ++ nlB).size ≤ 140737488355328 := by
          have hnl : (t ++ nlB).size = t.size + 1 := by rw [ByteArray.size_append]; rfl
          have hac : acc.data.toList.length = acc.size := rfl
          rw [hnl, hac]; exact hsize
        have Hln := hidB hln
        have Hsz := hidB hsz
        have Hlt := hidB hlt
        have hts : t.size + 1 ≤ 140737488355328 := by omega
        clear hln hsz hlt hsize
        go_wp2_with (first
          | (go_at_call 35; refine (Hcall.out _ HWr.out).mono ?_; rintro e w2 ⟨rfl, hb2⟩; have Hb2 := hidB hb2; clear hb2)
          | (go_at_call 34; refine (ws_c w1.heap.size w1.heap.size acc.data.toList (t ++ nlB) _ (bld_keep HBr.out Hb2.out) Hln.out (round_ws Hsz.out HsA.out Hb2.out)).mono ?_; rintro e w3 ⟨rfl, h3, hb3⟩; have H3 := hidB h3; have Hb3 := hidB hb3; clear h3 hb3))
        have hend := round_end Hlt.out Hsz.out HsA.out HWr.out Hb2.out Hb3.out H3.out
        exact ⟨⟨k + 1, acc ++ (t ++ nlB), hkn, by go_num, HL2, hend⟩, by simp [intOf]; omega⟩
      · have hke : k = xs.length := by omega
        subst hke
        have hL := HL.out
        rw [List.drop_length] at hL
        cases hL
        go_wp2_with (go_at_call 36; refine (str_c _ _ _ _ HB.out hsz).mono ?_; rintro e w5 ⟨rfl, hb5⟩)
        refine bodyPost_ret (v := .string ⟨r.data⟩) (by simp [results, Tryz.results14, go_sem]) rfl ?_
        exact ⟨rfl, HW.out.trans (hb5.mono (by omega))⟩
theorem sh_draw {xs : List Shape_} {bv : Bool} (hv : FnC Tryz.prog 17 [] [.agg [.d (.sl (xs.map cShape_))]] [] (.d (.v (.bool bv))))
    {f : Shape_ → Option ByteArray} (hf : ∀ s t, f s = some t → FnC Tryz.prog 35 [] [shapeA s] [] (.d (.v (.string t)))) {r : ByteArray} (hr : (if bv = true then linesM f xs ⟨#[]⟩ else some ⟨#[]⟩) = some r) :
    FnC Tryz.prog 14 [] [.agg [.d (.sl (xs.map cShape_))]] [] (.d (.v (.string r))) := by
  refine ⟨by kernel_rfl, fun w F μ us gl H hs hus => ?_⟩
  obtain ⟨u0, rfl⟩ : ∃ u0, us = #[u0] := by
    obtain ⟨l⟩ := us
    match l, hs with
    | [a], _ => exact ⟨a, rfl⟩
  have h1 := hus 0 u0 _ rfl rfl
  cases h1 with
  | agg vs cs hsz hrr =>
    obtain ⟨s0, rfl⟩ : ∃ s0, vs = #[s0] := by
      obtain ⟨l⟩ := vs
      match l, hsz with
      | [a], _ => exact ⟨a, rfl⟩
    have h2 := hrr 0 s0 _ rfl rfl
    cases h2 with
    | d _ _ h0 =>
      refine (draw_c gl H.fz hv hf h0 hr).mono ?_
      rintro e w' ⟨rfl, hb⟩
      exact ⟨_, F, μ, rfl, H.of_below hb, .d _ _ (.v _ rfl)⟩
end Go.Proofs.YtjjelnpehgoagaaGreatDoor
namespace Go.Proofs
open Go.Shelf
def Tryz.layLaysn138_ren : Go.Shelf.Ren := ⟨fun | 138 => 85 | 195 => 91 | 218 => 93 | 143 => 86 | 219 => 94 | 217 => 106 | 225 => 107 | 224 => 108 | 267 => 109 | 266 => 120 | 314 => 121 | n => n, fun | 9 => 9 | 3 => 3 | 4 => 4 | 5 => 5 | 0 => 0 | 46 => 105 | 146 => 140 | 51 => 132 | n => n, fun | 1 => 0 | n => n⟩
theorem Tryz.layLaysn138 : Go.Proofs.Lays.n138 Tryz.prog Tryz.layLaysn138_ren := {
  mixed := by kernel_rfl
  f138 := Tryz.func85.trans (congrArg some (by kernel_rfl))
  f143 := Tryz.func86.trans (congrArg some (by kernel_rfl))
  f195 := Tryz.func91.trans (congrArg some (by kernel_rfl))
  f217 := Tryz.func106.trans (congrArg some (by kernel_rfl))
  f218 := Tryz.func93.trans (congrArg some (by kernel_rfl))
  f219 := Tryz.func94.trans (congrArg some (by kernel_rfl))
  f224 := Tryz.func108.trans (congrArg some (by kernel_rfl))
  f225 := Tryz.func107.trans (congrArg some (by kernel_rfl))
  f266 := Tryz.func120.trans (congrArg some (by kernel_rfl))
  f267 := Tryz.func109.trans (congrArg some (by kernel_rfl))
  f314 := Tryz.func121.trans (congrArg some (by kernel_rfl))
  t0 := Tryz.underlying0
  a0 := Tryz.isAgg0
  z0 := Tryz.sizeOf0
  v0 := Tryz.zeroValue0
  t3 := Tryz.underlying3
  a3 := Tryz.isAgg3
  z3 := Tryz.sizeOf3
  v3 := Tryz.zeroValue3
  t4 := Tryz.underlying4
  a4 := Tryz.isAgg4
  z4 := Tryz.sizeOf4
  v4 := Tryz.zeroValue4
  t5 := Tryz.underlying5
  a5 := Tryz.isAgg5
  z5 := Tryz.sizeOf5
  v5 := Tryz.zeroValue5
  t9 := Tryz.underlying9
  a9 := Tryz.isAgg9
  z9 := Tryz.sizeOf9
  v9 := Tryz.zeroValue9
  t46 := Tryz.underlying105
  a46 := Tryz.isAgg105
  z46 := Tryz.sizeOf105
  v46 := Tryz.zeroValue105
  t51 := Tryz.underlying132
  a51 := Tryz.isAgg132
  z51 := Tryz.sizeOf132
  v51 := Tryz.zeroValue132
  t146 := Tryz.underlying140
  a146 := Tryz.isAgg140
  z146 := Tryz.sizeOf140
  v146 := Tryz.zeroValue140
  g1 := by kernel_rfl }
end Go.Proofs
namespace Go.Proofs.YtjjelnpehgoagaaGreatDoor
open Go.Shelf Go.RowKit
set_option linter.unusedVariables false
set_option maxRecDepth 100000
theorem sh_count {s : ByteArray} {c : UInt8} : FnC Tryz.prog 85 [] [.d (.v (.string s)), .d (.v (.string ⟨#[c]⟩))] [] (.d (.v (.int .i64 (Lib.countByte s.data.toList c)))) :=
  fnc_of (v := .int .i64 (Lib.countByte s.data.toList c)) (by kernel_rfl) rfl fun W => (Any.strings_Count_one Tryz.layLaysn138 s c W).mono (by rintro e w' ⟨rfl, rfl⟩; exact ⟨rfl, Below.refl _ _⟩)
end Go.Proofs.YtjjelnpehgoagaaGreatDoor
namespace Go.Proofs
open Go.Shelf
def Tryz.layLaysn219_ren : Go.Shelf.Ren := ⟨fun | 219 => 94 | 217 => 106 | 225 => 107 | 224 => 108 | 267 => 109 | 266 => 120 | 314 => 121 | n => n, fun | 9 => 9 | 3 => 3 | 4 => 4 | 5 => 5 | 46 => 105 | 146 => 140 | 51 => 132 | n => n, fun | 1 => 0 | n => n⟩
theorem Tryz.layLaysn219 : Go.Proofs.Lays.n219 Tryz.prog Tryz.layLaysn219_ren := {
  mixed := by kernel_rfl
  f217 := Tryz.func106.trans (congrArg some (by kernel_rfl))
  f219 := Tryz.func94.trans (congrArg some (by kernel_rfl))
  f224 := Tryz.func108.trans (congrArg some (by kernel_rfl))
  f225 := Tryz.func107.trans (congrArg some (by kernel_rfl))
  f266 := Tryz.func120.trans (congrArg some (by kernel_rfl))
  f267 := Tryz.func109.trans (congrArg some (by kernel_rfl))
  f314 := Tryz.func121.trans (congrArg some (by kernel_rfl))
  t3 := Tryz.underlying3
  a3 := Tryz.isAgg3
  z3 := Tryz.sizeOf3
  v3 := Tryz.zeroValue3
  t4 := Tryz.underlying4
  a4 := Tryz.isAgg4
  z4 := Tryz.sizeOf4
  v4 := Tryz.zeroValue4
  t5 := Tryz.underlying5
  a5 := Tryz.isAgg5
  z5 := Tryz.sizeOf5
  v5 := Tryz.zeroValue5
  t9 := Tryz.underlying9
  a9 := Tryz.isAgg9
  z9 := Tryz.sizeOf9
  v9 := Tryz.zeroValue9
  t46 := Tryz.underlying105
  a46 := Tryz.isAgg105
  z46 := Tryz.sizeOf105
  v46 := Tryz.zeroValue105
  t51 := Tryz.underlying132
  a51 := Tryz.isAgg132
  z51 := Tryz.sizeOf132
  v51 := Tryz.zeroValue132
  t146 := Tryz.underlying140
  a146 := Tryz.isAgg140
  z146 := Tryz.sizeOf140
  v146 := Tryz.zeroValue140
  g1 := by kernel_rfl }
end Go.Proofs
namespace Go.Proofs.YtjjelnpehgoagaaGreatDoor
open Go.Shelf Go.RowKit
set_option linter.unusedVariables false
set_option maxRecDepth 100000
theorem sh_index {s : ByteArray} {c : UInt8} : FnC Tryz.prog 94 [] [.d (.v (.string s)), .d (.v (.string ⟨#[c]⟩))] [] (.d (.v (.int .i64 (Lib.indexByte s.data.toList c)))) :=
  fnc_of (v := .int .i64 (Lib.indexByte s.data.toList c)) (by kernel_rfl) rfl fun W => (Any.stringslite_Index_one Tryz.layLaysn219 s c W).mono (by rintro e w' ⟨rfl, rfl⟩; exact ⟨rfl, Below.refl _ _⟩)
end Go.Proofs.YtjjelnpehgoagaaGreatDoor
namespace Go.Proofs.YtjjelnpehgoagaaGreatDoor
open Go.Shelf Go.RowKit
set_option linter.unusedVariables false
set_option maxRecDepth 100000
theorem trim_c (s : ByteArray) (w : World) : Calls Tryz.prog 78 #[.string s, .string minusB] w fun e w' => e = .returned (.string (digitsOf s)) ∧ w' = w := Any.strings_TrimPrefix Tryz.layLaysn101 s minusB w
theorem dec_c {n : Int} (h0 : -9223372036854775808 ≤ n) (h1 : n ≤ 9223372036854775807) {w : World} (htab : Lib.TabIs Tryz.prog w "internal/strconv.uint64pow10" .u64 Lib.pow10Tab) :
    Calls Tryz.prog 62 #[.int .i64 n] w fun e w' => e = .returned (.string (decOf n)) ∧ Below w.heap.size w w' := by
  go_enter Tryz.func62, Tryz.ntmps62
  go_wp2_with (go_at_call 82; refine (Any.strconv_FormatInt_10 Tryz.layLaysMn173 n h0 h1 _ htab).mono ?_; rintro e w' ⟨rfl, k, os, rfl⟩)
  go_ret
  exact ⟨rfl, Lib.below_grow _ _ (Nat.le_refl _) _ _⟩
theorem errs {W : World} {F : Nat → Prop} (gl : Glob F W) : (∃ tp p, W.var? Tryz.prog "strconv.ErrSyntax" = some #[.iface tp p]) ∧ ∃ tp p, W.var? Tryz.prog "strconv.ErrRange" = some #[.iface tp p] := by
  have h1 : Tryz.prog.globalNamed "strconv.ErrSyntax" = some 1 := by kernel_rfl
  have h2 : Tryz.prog.globalNamed "strconv.ErrRange" = some 2 := by kernel_rfl
  obtain ⟨-, tp, p, t, f, e⟩ := gl (errG 1) (by simp [globs])
  obtain ⟨-, tp2, p2, t2, f2, e2⟩ := gl (errG 2) (by simp [globs])
  refine ⟨⟨tp, p, ?_⟩, tp2, p2, ?_⟩
  · unfold World.var?; rw [h1]; simp [e]
  · unfold World.var?; rw [h2]; simp [e2]
theorem parse_below {w w' : World} {t : TypeId} (h : w' = w ∨ ∃ l, w' = Lib.bytesWorld w t l) : Below w.heap.size w w' := by
  rcases h with rfl | ⟨l, rfl⟩
  · exact Below.refl _ _
  · exact Lib.bytesWorld_below _ _ _
theorem readDec {s : ByteArray} (hs : s.size ≤ 281474976710656) {W : World} {F : Nat → Prop} (gl : Glob F W) (hF : ∀ b, F b → b < W.heap.size) :
    Calls Tryz.prog 52 #[.string s] W fun e w' => e = .returned (.tuple #[.int .i64 (readD s).1, .bool (readD s).2]) ∧ Below W.heap.size W w' := by
  obtain ⟨⟨tp, p, v1⟩, tp2, p2, v2⟩ := errs gl
  by_cases hd : (digitsOf s).size < 1 ∨ 18 < (digitsOf s).size
  · have e : readD s = (0, false) := if_pos hd
    rw [e]
    go_enter Tryz.func52, Tryz.ntmps52
    go_wp2_with (go_at_call 78; refine (trim_c s _).mono ?_; rintro e w' ⟨rfl, rfl⟩)
    all_goals (refine bodyPost_ret (v := .tuple #[.int .i64 0, .bool false]) (by simp [results, Tryz.results52, go_sem]) rfl ?_)
    all_goals exact ⟨rfl, Below.refl _ _⟩
  · have e0 : readD s = _ := if_neg hd
    rcases hp : Lib.parseIntB 64 s.data.toList with n | _ | _
    · skip
      have hb := Lib.parseIntB_bounds hp
      rw [hp] at e0
      have go : ∀ r : Int × Bool, (if decOf n = s then (n, true) else (0, false)) = r → Calls Tryz.prog 52 #[.string s] W fun e w' => e = .returned (.tuple #[.int .i64 r.1, .bool r.2]) ∧ Below W.heap.size W w' := by
        intro r hr
        by_cases hq : decOf n = s
        · rw [if_pos hq] at hr
          subst hr
          go_enter Tryz.func52, Tryz.ntmps52
          go_wp2_with (first
            | (go_at_call 78; refine (trim_c s _).mono ?_; rintro e w' ⟨rfl, rfl⟩)
            | (go_at_call 79; refine (Any.strconv_ParseInt_10_at64_ok Tryz.layLaysCn174 s (by omega) n hp _).mono ?_; rintro e w1 ⟨rfl, hw⟩; have hb1 : Hid (Below _ _ w1) := parse_below hw; clear hw)
            | (go_at_call 62; refine (dec_c (n := n) (by omega) (by omega) (tab_here (gl.evo (fun b hb => hb1.out.block b (hF b hb)) (fun b h => h)))).mono ?_; rintro e w2 ⟨rfl, hb2⟩))
          refine bodyPost_ret (v := .tuple #[.int .i64 n, .bool true]) (by simp [results, Tryz.results52, go_sem]) rfl ?_
          exact ⟨rfl, hb1.out.trans (hb2.mono hb1.out.size)⟩
        · rw [if_neg hq] at hr
          subst hr
          go_enter Tryz.func52, Tryz.ntmps52
          go_wp2_with (first
            | (go_at_call 78; refine (trim_c s _).mono ?_; rintro e w' ⟨rfl, rfl⟩)
            | (go_at_call 79; refine (Any.strconv_ParseInt_10_at64_ok Tryz.layLaysCn174 s (by omega) n hp _).mono ?_; rintro e w1 ⟨rfl, hw⟩; have hb1 : Hid (Below _ _ w1) := parse_below hw; clear hw)
            | (go_at_call 62; refine (dec_c (n := n) (by omega) (by omega) (tab_here (gl.evo (fun b hb => hb1.out.block b (hF b hb)) (fun b h => h)))).mono ?_; rintro e w2 ⟨rfl, hb2⟩))
          · refine bodyPost_ret (v := .tuple #[.int .i64 0, .bool false]) (by simp [results, Tryz.results52, go_sem]) rfl ?_
            exact ⟨rfl, hb1.out.trans (hb2.mono hb1.out.size)⟩
          · exfalso
            rename_i hx
            refine hq ?_
            have hy : (decOf n).toList = s.toList := by simpa using hx
            rw [ByteArray.toList_eq, ByteArray.toList_eq] at hy
            exact ByteArray.ext (Array.toList_inj.1 hy)
      rw [e0]
      exact go _ rfl
    · skip
      rw [hp] at e0
      rw [e0]
      go_enter Tryz.func52, Tryz.ntmps52
      go_wp2_with (first
        | (go_at_call 78; refine (trim_c s _).mono ?_; rintro e w' ⟨rfl, rfl⟩)
        | (go_at_call 79; refine (Any.strconv_ParseInt_10_at64_syntax_var Tryz.layLaysCn174 s hs hp tp p _ v1).mono ?_; rintro e w1 ⟨N, rfl, -, -, hb⟩))
      refine bodyPost_ret (v := .tuple #[.int .i64 0, .bool false]) (by simp [results, Tryz.results52, go_sem]) rfl ?_
      exact ⟨rfl, hb⟩
    · skip
      rw [hp] at e0
      rw [e0]
      go_enter Tryz.func52, Tryz.ntmps52
      go_wp2_with (first
        | (go_at_call 78; refine (trim_c s _).mono ?_; rintro e w' ⟨rfl, rfl⟩)
        | (go_at_call 79; refine (Any.strconv_ParseInt_10_at64_range_var Tryz.layLaysCn174 s hs hp tp2 p2 _ v2).mono ?_; rintro e w1 ⟨N, rfl, -, -, hb⟩))
      refine bodyPost_ret (v := .tuple #[.int .i64 0, .bool false]) (by simp [results, Tryz.results52, go_sem]) rfl ?_
      exact ⟨rfl, hb⟩
theorem sh_read {s : ByteArray} (hs : s.size ≤ 281474976710656) : FnC Tryz.prog 52 [] [.d (.v (.string s))] [] (.tup [.d (.v (.int .i64 (readD s).1)), .d (.v (.bool (readD s).2))]) := by
  refine ⟨by kernel_rfl, fun w F μ us gl H hs' hr => ?_⟩
  obtain ⟨u0, rfl⟩ : ∃ u0, us = #[u0] := by
    obtain ⟨l⟩ := us
    match l, hs' with
    | [a], _ => exact ⟨a, rfl⟩
  have e1 : u0 = .string s := by
    have := hr 0 u0 _ rfl rfl
    cases this with | d _ _ hd => cases hd; rfl
  subst e1
  refine (readDec hs gl H.fz).mono ?_
  rintro e w' ⟨rfl, hb⟩
  refine ⟨_, F, μ, rfl, H.of_below hb, .tup _ _ rfl fun i v c h1 h2 => ?_⟩
  match i with
  | 0 => simp at h1 h2; subst h1 h2; exact .d _ _ (.v _ rfl)
  | 1 => simp at h1 h2; subst h1 h2; exact .d _ _ (.v _ rfl)
  | i + 2 => simp at h2
end Go.Proofs.YtjjelnpehgoagaaGreatDoor
