/- Texts of this claim, one behind the other (merged by a program of mine). -/
import Derived.Test.YtgcdbbidmfdonaaGreatDoorRows
import Derived.ProofKit
import Derived.OpenShut
import Derived.ShutString
import Derived.ChangeOld
import Derived.Below
import Derived.Deep.Slices
import Derived.Test.YtgcdbbidmfdonaaGreatDoorProg
import Derived.Shelf.Strconv.Itoa4
import Derived.Ground.NamesProg
import Derived.Lib.AppendIntMem
import Derived.Shelf.Strings.OnBuilder
import Derived.Shelf.SortM.Plain
import Derived.Shelf.SortM.SortNone
import Derived.Ground.SlgmProg
import Derived.Shelf.SlGeneric
import Derived.Sort.OwnSortedInts
import Derived.StillTailTactics
import Derived.Laws.OwnMore
import Derived.Deep.AppendLies
import Derived.Deep.Draws
import Derived.Laws.Rows
import Derived.Shelf.SlicesG.Clone
import Derived.Shelf.SlicesG.CompactI
import Derived.Ground.SlgnProg
import Derived.BigCall
import Derived.Shelf.SlIterI.Sorted
import Derived.Ground.GgzProg
import Derived.Sort.EveryDepth
import Derived.RangeFuncBox
import Derived.RangeFuncWrites
import Derived.RangeFuncOne
import Derived.RangeFuncLeaves
import Derived.Shelf.Abstract
import Derived.WalkKit
import Derived.OwnWalkIn
import Derived.TacticsInMore
import Derived.LoopNIn
import Derived.LoopIn
import Derived.Test.YtgcdbbidmfdonaaGreatDoorGP3
set_option linter.unusedSimpArgs false
set_option linter.unusedVariables false
namespace Go.Proofs.YtgcdbbidmfdonaaGreatDoor
open Go.ChangeShapes Go.WideShapes Go.ChangeAt Go.RowKit
open Go.ChangeMaps (open_string shut_string)
set_option maxRecDepth 100000
theorem own : ownKnob Tryz.prog.godebug = none := by kernel_rfl
theorem aFv : laidOutB Tryz.prog = true := by kernel_rfl
end Go.Proofs.YtgcdbbidmfdonaaGreatDoor
namespace Go.Proofs.YtgcdbbidmfdonaaGreatDoor
open Go.ChangeShapes Go.WideShapes Go.ChangeAt Go.RowKit Go.Deep
set_option linter.unusedVariables false
set_option maxRecDepth 100000
theorem aEk {w : World} {a : Addr} {v : Value} (h : w.cell? a = some v) : a.block < w.heap.size := by
 unfold World.cell? at h
 cases hb : w.heap[a.block]? with
 | none => simp [hb] at h
 | some b => exact (Array.getElem?_eq_some_iff.1 hb).1
def qI (w : World) (cs : List Value) (ds : List DV) : Prop := cs.length = ds.length ∧ ∀ (j : Nat) v x,cs[j]? = some v → ds[j]? = some x → pD w (fun b => b < w.heap.size) v x
theorem eT {w : World} : qI w [] [] := ⟨rfl,fun j v x h => by simp at h⟩
theorem iU {w : World} {v : Value} {x : DV} {cs : List Value} {ds : List DV} (h : pD w (fun b => b < w.heap.size) v x) (k : qI w cs ds) : qI w (v :: cs) (x :: ds) := by
 refine ⟨by simp [k.1],fun j a b h1 h2 => ?_⟩
 cases j with
 | zero => simp at h1 h2; subst h1 h2; exact h
 | succ j => simp at h1 h2; exact k.2 j a b h1 h2
theorem cC {w : World} {cs : List Value} {ds : List DV} {cs2 : List Value} {ds2 : List DV} (h : qI w cs ds) (k : qI w cs2 ds2) : qI w (cs ++ cs2) (ds ++ ds2) := by
 refine ⟨by simp [h.1,k.1],fun j a b h1 h2 => ?_⟩
 rw [List.getElem?_append] at h1 h2
 rw [← h.1] at h2
 split at h1
 ·rename_i hj; rw [if_pos hj] at h2; exact h.2 j a b h1 h2
 ·rename_i hj; rw [if_neg hj] at h2; exact k.2 _ a b h1 h2
theorem aEv {w : World} (k : IntKind) (z : Int) : pD w (fun b => b < w.heap.size) (.int k z) (.v (.int k z)) := .v _ rfl
theorem aEj {w : World} (s : ByteArray) : pD w (fun b => b < w.heap.size) (.string s) (.v (.string s)) := .v _ rfl
theorem aCt {w : World} (s : Bool) : pD w (fun b => b < w.heap.size) (.bool s) (.v (.bool s)) := .v _ rfl
theorem aGx {w : World} {μ : aU} {h : bZ} {cs : Array Value} {ds : List DV} (r : qI w cs.toList ds) : cP w (fun b => b < w.heap.size) μ h (.agg cs) (.agg (ds.map .d)) := by
 refine .agg _ _ (by simpa using r.1) fun i v c h1 h2 => ?_
 rw [List.getElem?_map] at h2
 obtain ⟨x,hx,rfl⟩ := Option.map_eq_some_iff.1 h2
 exact .d _ _ (r.2 i v x (by simpa using h1) hx)
theorem aDy {w : World} : ∀ (i : Nat) v a,(List.toArray ([] : List Value))[i]? = some v → ([] : List AV)[i]? = some a → cP w (fun b => b < w.heap.size) (fun _ _ => none) (lks []) v a := fun i v a h => by simp at h
theorem aCr {w : World} {v0 : Value} {a0 : AV} {vs : List Value} {bs : List AV} (h : cP w (fun b => b < w.heap.size) (fun _ _ => none) (lks []) v0 a0) (k : ∀ (i : Nat) v a,vs.toArray[i]? = some v → bs[i]? = some a → cP w (fun b => b < w.heap.size) (fun _ _ => none) (lks []) v a) :
  ∀ (i : Nat) v a,(v0 :: vs).toArray[i]? = some v → (a0 :: bs)[i]? = some a → cP w (fun b => b < w.heap.size) (fun _ _ => none) (lks []) v a := fun i v a h1 h2 => by
 cases i with
 | zero => simp at h1 h2; subst h1 h2; exact h
 | succ i =>
  simp at h1 h2
  exact k i v a (by simpa using h1) h2
section
variable {H : Type} {enc : TypeId × Value → H} {W : World} {b0 : Nat} {spare : Nat → Bool} {held : Bool} {jN : Nat} {cs : List Value} {x : DataW H × List MemPlace}
theorem eE {P : Program} {t : TypeId} {fs : Array Field} (ht : P.underlying t = some (.struct fs)) (h : DataW.trod enc P W b0 spare held jN t cs = some x) (i : Nat) (T : TypeId) (sub : List Value)
  (hk : (fs[i]?).map (fun f => (f.type,(cs.drop f.offset).take (P.cellsOf f.type))) = some (T,sub)) : ∃ n y,DataW.trod enc P W b0 spare held n T sub = some y := by
 obtain ⟨xs,n,_,_,hl,hxl,hf⟩ := DataW.trod_struct ht h
 cases hfi : fs[i]? with
 | none => rw [hfi] at hk; cases hk
 | some f =>
  rw [hfi] at hk
  simp only [Option.map_some,Option.some.injEq,Prod.mk.injEq] at hk
  obtain ⟨rfl,rfl⟩ := hk
  have hi : i < fs.size := (Array.getElem?_eq_some_iff.1 hfi).1
  refine ⟨n,xs[i]'(by omega),(hf i f hfi).trans (List.getElem?_eq_getElem (by omega))⟩
theorem rF {P : Program} {t : TypeId} {fs : Array Field} (ht : P.underlying t = some (.struct fs)) (h : DataW.trod enc P W b0 spare held jN t cs = some x) : cs.length = P.cellsOf t := by
 obtain ⟨xs,n,_,_,hl,hxl,hf⟩ := DataW.trod_struct ht h
 exact hl
theorem aHk {P : Program} {t e : TypeId} {α : Type} [Inhabited α] {a : Value} (f : α → List DV) (ok : α → Prop) (sz : Nat) (hf : ∀ a,(f a).length = sz) (hsz : 0 < sz) (ht : P.underlying t = some (.slice e)) (hC : P.cellsOf e = sz)
  (rd : ∀ (jN : Nat) (cs : List Value) (x : DataW H × List MemPlace),DataW.trod enc P W b0 spare held jN e cs = some x → ∃ m,qI W cs (f m) ∧ ok m)
  (h : ∃ n y,DataW.trod enc P W b0 spare held n t [a] = some y) :
  ∃ xs : List α,pD W (fun b => b < W.heap.size) a (.sl (xs.map f)) ∧ xs.length ≤ 9223372036854775807 ∧ ∀ m ∈ xs,ok m := by
 obtain ⟨n,y,h⟩ := h
 rcases DataW.trod_slice ht h with ⟨h0,_⟩ | ⟨ad,len,cap,elems,rest,n',_,hcs,_,hb,hl,hm,hel,hi,_,_⟩
 ·simp at h0
  subst h0
  exact ⟨[], .nil,by simp,fun m hm => by simp at hm⟩
 ·simp at hcs
  subst hcs
  rw [hC] at hi
  obtain ⟨q,hq⟩ := choose_lt (α := α) (n := len) (p := fun k q => (∃ cs',W.cells? b0 (ad.add (k * sz)) sz = some cs' ∧ qI W cs' (f q)) ∧ ok q) (fun k hk => by
   have h1 := hi k hk
   rw [List.getElem?_eq_getElem (by omega)] at h1
   obtain ⟨cs',hc,htr⟩ := Option.bind_eq_some_iff.1 h1
   obtain ⟨m,hm1,hm2⟩ := rd _ _ _ htr
   exact ⟨m,⟨cs',hc,hm1⟩,hm2⟩)
  have hxl : ((List.range len).map q).length = len := by simp
  refine ⟨(List.range len).map q,?_,by rw [hxl]; unfold maxLen at hm; omega,fun m hm' => ?_⟩
  ·have hcell : ∀ k,k < len → ∀ j,j < sz → ∃ v,W.cell? (ad.add (k * sz + j)) = some v ∧ ∀ x,(f (q k))[j]? = some x → pD W (fun b => b < W.heap.size) v x := by
    intro k hk j hj
    obtain ⟨⟨cs',hc,hr⟩,_⟩ := hq k hk
    obtain ⟨_,hl',hat⟩ := World.cells?_some hc
    have hjl : j < cs'.length := by rw [hr.1,hf]; exact hj
    refine ⟨cs'[j],?_,fun x hx => hr.2 j _ x (List.getElem?_eq_getElem hjl) hx⟩
    rw [← Go.Deep.add_add, ← List.getElem?_eq_getElem hjl]
    exact hat j hj
   rcases Nat.eq_zero_or_pos len with h0 | h0
   ·subst h0
    exact .emp _ _ hm
   ·obtain ⟨v0,h00,_⟩ := hcell 0 h0 0 hsz
    obtain ⟨b,off,spot⟩ := ad
    have hspot : spot = none := by
     have := World.cell?_spot h00
     simpa [Addr.add] using this
    subst hspot
    have hdd : pD W (fun b => b < W.heap.size) (.slice (some ⟨b,off,none⟩) ((List.range len).map (fun k => f (q k))).length cap) (.sl ((List.range len).map fun k => f (q k))) := by
     refine .sl b off cap sz _ (fun i j => (W.cell? ⟨b,off + i * sz + j,none⟩).getD undef) ?_ (by simpa using hl) hm (fun i e he => ?_) (fun i e j x he hx => ?_) (fun i e j x he hx => ?_)
     ·have h01 := aEk h00
      simp only [Addr.add] at h01
      split at h01 <;> exact h01
     ·rw [List.getElem?_map] at he
      obtain ⟨k,_,rfl⟩ := Option.map_eq_some_iff.1 he
      exact hf _
     all_goals
      rw [List.getElem?_map] at he
      obtain ⟨k,hk,rfl⟩ := Option.map_eq_some_iff.1 he
      obtain ⟨hil,rfl⟩ := List.getElem?_eq_some_iff.1 hk
      simp only [List.length_range] at hil
      simp only [List.getElem_range] at hx
      have hjl : j < sz := by have := (List.getElem?_eq_some_iff.1 hx).1; rw [hf] at this; exact this
      obtain ⟨v,hv,hr⟩ := hcell i hil j hjl
      rw [add_plain, ← Nat.add_assoc] at hv
      rw [hv]
     ·rfl
     ·exact hr x hx
    simpa [List.map_map,Function.comp_def] using hdd
  ·obtain ⟨k,hk,rfl⟩ := List.mem_map.1 hm'
   exact (hq k (by simpa using hk)).2
end
end Go.Proofs.YtgcdbbidmfdonaaGreatDoor
namespace Go.Proofs.YtgcdbbidmfdonaaGreatDoor
open Go.ChangeShapes Go.WideShapes Go.ChangeAt Go.RowKit Go.Deep
set_option linter.unusedVariables false
set_option maxRecDepth 100000
def osI (x : Int) : Prop := -9223372036854775808 ≤ x ∧ x ≤ 9223372036854775807
def osS (x : ByteArray) : Prop := x.size ≤ 9223372036854775807
def osL {α : Type} (ok : α → Prop) (xs : List α) : Prop := xs.length ≤ 9223372036854775807 ∧ ∀ m ∈ xs,ok m
section
variable {H : Type} {enc : TypeId × Value → H} {W : World} {b0 : Nat} {spare : Nat → Bool} {held : Bool} {jN : Nat} {cs : List Value} {x : DataW H × List MemPlace}
theorem yD {P : Program} {t e : TypeId} (ht : P.underlying t = some (.slice e)) (h : DataW.trod enc P W b0 spare held jN t cs = some x) : ∃ v,cs = [v] := by
 rcases DataW.trod_slice ht h with ⟨h0,_⟩ | ⟨ad,len,cap,elems,rest,n',_,hcs,_⟩
 ·exact ⟨_,h0⟩
 ·exact ⟨_,hcs⟩
theorem xL {P : Program} {t e : TypeId} {α : Type} {a : Value} (f : α → List DV) (ok : α → Prop) (sz : Nat) (hf : ∀ a,(f a).length = sz) (hsz : 0 < sz) (ht : P.underlying t = some (.slice e)) (hC : P.cellsOf e = sz)
  (rd : ∀ (jN : Nat) (cs : List Value) (x : DataW H × List MemPlace),DataW.trod enc P W b0 spare held jN e cs = some x → ∃ m,qI W cs (f m) ∧ ok m)
  (h : ∃ n y,DataW.trod enc P W b0 spare held n t [a] = some y) :
  ∃ xs : List α,pD W (fun b => b < W.heap.size) a (.sl (xs.map f)) ∧ xs.length ≤ 9223372036854775807 ∧ ∀ m ∈ xs,ok m := by
 by_cases hne : Nonempty α
 ·haveI : Inhabited α := ⟨Classical.choice hne⟩
  exact aHk f ok sz hf hsz ht hC rd h
 ·obtain ⟨n,y,h⟩ := h
  rcases DataW.trod_slice ht h with ⟨h0,_⟩ | ⟨ad,len,cap,elems,rest,n',_,hcs,_,hb,hl,hm,hel,hi,_,_⟩
  ·simp at h0
   subst h0
   exact ⟨[], .nil,by simp,fun m hm => by simp at hm⟩
  ·simp at hcs
   subst hcs
   rcases Nat.eq_zero_or_pos len with h0 | h0
   ·subst h0
    exact ⟨[], .emp _ _ hm,by simp,fun m hm => by simp at hm⟩
   ·exfalso
    have h1 := hi 0 h0
    rw [List.getElem?_eq_getElem (by omega)] at h1
    obtain ⟨cs',hc,htr⟩ := Option.bind_eq_some_iff.1 h1
    obtain ⟨m,_⟩ := rd _ _ _ htr
    exact hne ⟨m⟩
end
end Go.Proofs.YtgcdbbidmfdonaaGreatDoor
namespace Go.Proofs.YtgcdbbidmfdonaaGreatDoor
open Go.RowKit
set_option linter.unusedVariables false
set_option maxRecDepth 100000
set_option maxHeartbeats 2000000
def nA (x : bH) : Prop := osS x.Name ∧ (osL osI) x.Wheels
def rY (x : bJ) : Prop := osI x.A ∧ osI x.WheelA ∧ osI x.B ∧ osI x.WheelB
def uV (x : bQ) : Prop := (osL nA) x.Arbors ∧ (osL rY) x.Meshes
def nB (x : aZ) : Prop := osS x.Name ∧ osI x.Days ∧ osI x.Leap
def kH (x : aH) : Prop := osI x.Every ∧ osI x.Rest ∧ (fun _ => True) x.Leap
def nO (x : bP) : Prop := osS x.Name ∧ (osL nB) x.Months ∧ (osL kH) x.Rules ∧ osI x.Week
def lW (x : aV) : Prop := osS x.Name ∧ uV x.Works ∧ osI x.Minute ∧ osI x.Hour ∧ osI x.Escape ∧ osI x.Teeth ∧ osI x.Beats ∧ nO x.Calendar ∧ (osL osI) x.Cam ∧ osI x.Strike
end Go.Proofs.YtgcdbbidmfdonaaGreatDoor
namespace Go.Proofs.YtgcdbbidmfdonaaGreatDoor
open Go.ChangeShapes Go.WideShapes Go.ChangeAt Go.RowKit Go.Deep
set_option linter.unusedVariables false
set_option maxRecDepth 100000
set_option maxHeartbeats 2000000
theorem aJr {α : Type} (l : List α) (h : l.length = 2) : ∃ a0 a1,l = [a0,a1] := by
 match l,h with
 | [a0,a1],_ => exact ⟨a0,a1,rfl⟩
theorem aJq {α : Type} (l : List α) (h : l.length = 3) : ∃ a0 a1 a2,l = [a0,a1,a2] := by
 match l,h with
 | [a0,a1,a2],_ => exact ⟨a0,a1,a2,rfl⟩
theorem aJm {α : Type} (l : List α) (h : l.length = 4) : ∃ a0 a1 a2 a3,l = [a0,a1,a2,a3] := by
 match l,h with
 | [a0,a1,a2,a3],_ => exact ⟨a0,a1,a2,a3,rfl⟩
theorem aIn {α : Type} (l : List α) (h : l.length = 14) : ∃ a0 a1 a2 a3 a4 a5 a6 a7 a8 a9 a10 a11 a12 a13,l = [a0,a1,a2,a3,a4,a5,a6,a7,a8,a9,a10,a11,a12,a13] := by
 match l,h with
 | [a0,a1,a2,a3,a4,a5,a6,a7,a8,a9,a10,a11,a12,a13],_ => exact ⟨a0,a1,a2,a3,a4,a5,a6,a7,a8,a9,a10,a11,a12,a13,rfl⟩
theorem aIb {H : Type} {enc : TypeId × Value → H} {W : World} {b0 : Nat} {spare : Nat → Bool} {held : Bool} {jN : Nat} {cs : List Value} {x : DataW H × List MemPlace} (h : DataW.trod enc Tryz.prog W b0 spare held jN 9 cs = some x) : ∃ v : ByteArray,qI W cs (cS v) ∧ osS v := by
 obtain ⟨z,rfl,_,hw⟩ := DataW.trod_string Tryz.underlying9 h
 exact ⟨z,iU (aEj _) eT,by unfold osS; unfold maxLen at hw; exact hw⟩
theorem yM {H : Type} {enc : TypeId × Value → H} {W : World} {b0 : Nat} {spare : Nat → Bool} {held : Bool} {jN : Nat} {cs : List Value} {x : DataW H × List MemPlace} (h : DataW.trod enc Tryz.prog W b0 spare held jN 2 cs = some x) : ∃ v : Int,qI W cs (cI v) ∧ osI v := by
 obtain ⟨z,rfl,_,hw⟩ := DataW.trod_int Tryz.underlying2 h
 exact ⟨z,iU (aEv _ _) eT,by simpa [osI,Lit.wf,IntKind.min,IntKind.max,IntKind.bits,IntKind.signed] using hw⟩
theorem aHy {H : Type} {enc : TypeId × Value → H} {W : World} {b0 : Nat} {spare : Nat → Bool} {held : Bool} {jN : Nat} {cs : List Value} {x : DataW H × List MemPlace} (h : DataW.trod enc Tryz.prog W b0 spare held jN 30 cs = some x) : ∃ v : List Int,qI W cs ((cL cI) v) ∧ (osL osI) v := by
 obtain ⟨v,hv⟩ : ∃ v,cs = [v] := yD (t := 30) Tryz.underlying30 h
 subst hv
 obtain ⟨xs,hr,hm,hok⟩ := xL cI osI 1 (fun _ => rfl) (by omega) Tryz.underlying30 (by kernel_rfl) (fun jN cs x h => yM h) ⟨_,_,h⟩
 exact ⟨xs,iU hr eT,hm,hok⟩
theorem aHr {H : Type} {enc : TypeId × Value → H} {W : World} {b0 : Nat} {spare : Nat → Bool} {held : Bool} {jN : Nat} {cs : List Value} {x : DataW H × List MemPlace} (h : DataW.trod enc Tryz.prog W b0 spare held jN 121 cs = some x) : ∃ v : bH,qI W cs (aJ v) ∧ nA v := by
 obtain ⟨a0,a1,rfl⟩ := aJr cs ((rF Tryz.underlying121 h).trans (by kernel_rfl))
 obtain ⟨n0,y0,h0⟩ := eE Tryz.underlying121 h 0 9 [a0] (by kernel_rfl)
 obtain ⟨v0,r0,o0⟩ := aIb h0
 obtain ⟨n1,y1,h1⟩ := eE Tryz.underlying121 h 1 30 [a1] (by kernel_rfl)
 obtain ⟨v1,r1,o1⟩ := aHy h1
 exact ⟨⟨v0,v1⟩,(cC r0 (cC r1 eT)),⟨o0,o1⟩⟩
theorem aI5 {H : Type} {enc : TypeId × Value → H} {W : World} {b0 : Nat} {spare : Nat → Bool} {held : Bool} {jN : Nat} {cs : List Value} {x : DataW H × List MemPlace} (h : DataW.trod enc Tryz.prog W b0 spare held jN 22 cs = some x) : ∃ v : List bH,qI W cs ((cL aJ) v) ∧ (osL nA) v := by
 obtain ⟨v,hv⟩ : ∃ v,cs = [v] := yD (t := 22) Tryz.underlying22 h
 subst hv
 obtain ⟨xs,hr,hm,hok⟩ := xL aJ nA 2 (fun _ => rfl) (by omega) Tryz.underlying22 (by kernel_rfl) (fun jN cs x h => aHr h) ⟨_,_,h⟩
 exact ⟨xs,iU hr eT,hm,hok⟩
theorem aH5 {H : Type} {enc : TypeId × Value → H} {W : World} {b0 : Nat} {spare : Nat → Bool} {held : Bool} {jN : Nat} {cs : List Value} {x : DataW H × List MemPlace} (h : DataW.trod enc Tryz.prog W b0 spare held jN 138 cs = some x) : ∃ v : bJ,qI W cs (bF v) ∧ rY v := by
 obtain ⟨a0,a1,a2,a3,rfl⟩ := aJm cs ((rF Tryz.underlying138 h).trans (by kernel_rfl))
 obtain ⟨n0,y0,h0⟩ := eE Tryz.underlying138 h 0 2 [a0] (by kernel_rfl)
 obtain ⟨v0,r0,o0⟩ := yM h0
 obtain ⟨n1,y1,h1⟩ := eE Tryz.underlying138 h 1 2 [a1] (by kernel_rfl)
 obtain ⟨v1,r1,o1⟩ := yM h1
 obtain ⟨n2,y2,h2⟩ := eE Tryz.underlying138 h 2 2 [a2] (by kernel_rfl)
 obtain ⟨v2,r2,o2⟩ := yM h2
 obtain ⟨n3,y3,h3⟩ := eE Tryz.underlying138 h 3 2 [a3] (by kernel_rfl)
 obtain ⟨v3,r3,o3⟩ := yM h3
 exact ⟨⟨v0,v1,v2,v3⟩,(cC r0 (cC r1 (cC r2 (cC r3 eT)))),⟨o0,o1,o2,o3⟩⟩
theorem aIf {H : Type} {enc : TypeId × Value → H} {W : World} {b0 : Nat} {spare : Nat → Bool} {held : Bool} {jN : Nat} {cs : List Value} {x : DataW H × List MemPlace} (h : DataW.trod enc Tryz.prog W b0 spare held jN 23 cs = some x) : ∃ v : List bJ,qI W cs ((cL bF) v) ∧ (osL rY) v := by
 obtain ⟨v,hv⟩ : ∃ v,cs = [v] := yD (t := 23) Tryz.underlying23 h
 subst hv
 obtain ⟨xs,hr,hm,hok⟩ := xL bF rY 4 (fun _ => rfl) (by omega) Tryz.underlying23 (by kernel_rfl) (fun jN cs x h => aH5 h) ⟨_,_,h⟩
 exact ⟨xs,iU hr eT,hm,hok⟩
theorem aJb {H : Type} {enc : TypeId × Value → H} {W : World} {b0 : Nat} {spare : Nat → Bool} {held : Bool} {jN : Nat} {cs : List Value} {x : DataW H × List MemPlace} (h : DataW.trod enc Tryz.prog W b0 spare held jN 25 cs = some x) : ∃ v : bQ,qI W cs (gF v) ∧ uV v := by
 obtain ⟨a0,a1,rfl⟩ := aJr cs ((rF Tryz.underlying25 h).trans (by kernel_rfl))
 obtain ⟨n0,y0,h0⟩ := eE Tryz.underlying25 h 0 22 [a0] (by kernel_rfl)
 obtain ⟨v0,r0,o0⟩ := aI5 h0
 obtain ⟨n1,y1,h1⟩ := eE Tryz.underlying25 h 1 23 [a1] (by kernel_rfl)
 obtain ⟨v1,r1,o1⟩ := aIf h1
 exact ⟨⟨v0,v1⟩,(cC r0 (cC r1 eT)),⟨o0,o1⟩⟩
theorem aHe {H : Type} {enc : TypeId × Value → H} {W : World} {b0 : Nat} {spare : Nat → Bool} {held : Bool} {jN : Nat} {cs : List Value} {x : DataW H × List MemPlace} (h : DataW.trod enc Tryz.prog W b0 spare held jN 124 cs = some x) : ∃ v : aZ,qI W cs (aN v) ∧ nB v := by
 obtain ⟨a0,a1,a2,rfl⟩ := aJq cs ((rF Tryz.underlying124 h).trans (by kernel_rfl))
 obtain ⟨n0,y0,h0⟩ := eE Tryz.underlying124 h 0 9 [a0] (by kernel_rfl)
 obtain ⟨v0,r0,o0⟩ := aIb h0
 obtain ⟨n1,y1,h1⟩ := eE Tryz.underlying124 h 1 2 [a1] (by kernel_rfl)
 obtain ⟨v1,r1,o1⟩ := yM h1
 obtain ⟨n2,y2,h2⟩ := eE Tryz.underlying124 h 2 2 [a2] (by kernel_rfl)
 obtain ⟨v2,r2,o2⟩ := yM h2
 exact ⟨⟨v0,v1,v2⟩,(cC r0 (cC r1 (cC r2 eT))),⟨o0,o1,o2⟩⟩
theorem aIg {H : Type} {enc : TypeId × Value → H} {W : World} {b0 : Nat} {spare : Nat → Bool} {held : Bool} {jN : Nat} {cs : List Value} {x : DataW H × List MemPlace} (h : DataW.trod enc Tryz.prog W b0 spare held jN 26 cs = some x) : ∃ v : List aZ,qI W cs ((cL aN) v) ∧ (osL nB) v := by
 obtain ⟨v,hv⟩ : ∃ v,cs = [v] := yD (t := 26) Tryz.underlying26 h
 subst hv
 obtain ⟨xs,hr,hm,hok⟩ := xL aN nB 3 (fun _ => rfl) (by omega) Tryz.underlying26 (by kernel_rfl) (fun jN cs x h => aHe h) ⟨_,_,h⟩
 exact ⟨xs,iU hr eT,hm,hok⟩
theorem aKb {H : Type} {enc : TypeId × Value → H} {W : World} {b0 : Nat} {spare : Nat → Bool} {held : Bool} {jN : Nat} {cs : List Value} {x : DataW H × List MemPlace} (h : DataW.trod enc Tryz.prog W b0 spare held jN 4 cs = some x) : ∃ v : Bool,qI W cs (cB v) ∧ (fun _ => True) v := by
 obtain ⟨z,rfl,_⟩ := DataW.trod_bool Tryz.underlying4 h
 exact ⟨z,iU (aCt _) eT,trivial⟩
theorem aH4 {H : Type} {enc : TypeId × Value → H} {W : World} {b0 : Nat} {spare : Nat → Bool} {held : Bool} {jN : Nat} {cs : List Value} {x : DataW H × List MemPlace} (h : DataW.trod enc Tryz.prog W b0 spare held jN 144 cs = some x) : ∃ v : aH,qI W cs (aE v) ∧ kH v := by
 obtain ⟨a0,a1,a2,rfl⟩ := aJq cs ((rF Tryz.underlying144 h).trans (by kernel_rfl))
 obtain ⟨n0,y0,h0⟩ := eE Tryz.underlying144 h 0 2 [a0] (by kernel_rfl)
 obtain ⟨v0,r0,o0⟩ := yM h0
 obtain ⟨n1,y1,h1⟩ := eE Tryz.underlying144 h 1 2 [a1] (by kernel_rfl)
 obtain ⟨v1,r1,o1⟩ := yM h1
 obtain ⟨n2,y2,h2⟩ := eE Tryz.underlying144 h 2 4 [a2] (by kernel_rfl)
 obtain ⟨v2,r2,o2⟩ := aKb h2
 exact ⟨⟨v0,v1,v2⟩,(cC r0 (cC r1 (cC r2 eT))),⟨o0,o1,o2⟩⟩
theorem aJa {H : Type} {enc : TypeId × Value → H} {W : World} {b0 : Nat} {spare : Nat → Bool} {held : Bool} {jN : Nat} {cs : List Value} {x : DataW H × List MemPlace} (h : DataW.trod enc Tryz.prog W b0 spare held jN 27 cs = some x) : ∃ v : List aH,qI W cs ((cL aE) v) ∧ (osL kH) v := by
 obtain ⟨v,hv⟩ : ∃ v,cs = [v] := yD (t := 27) Tryz.underlying27 h
 subst hv
 obtain ⟨xs,hr,hm,hok⟩ := xL aE kH 3 (fun _ => rfl) (by omega) Tryz.underlying27 (by kernel_rfl) (fun jN cs x h => aH4 h) ⟨_,_,h⟩
 exact ⟨xs,iU hr eT,hm,hok⟩
theorem aJj {H : Type} {enc : TypeId × Value → H} {W : World} {b0 : Nat} {spare : Nat → Bool} {held : Bool} {jN : Nat} {cs : List Value} {x : DataW H × List MemPlace} (h : DataW.trod enc Tryz.prog W b0 spare held jN 29 cs = some x) : ∃ v : bP,qI W cs (tZ v) ∧ nO v := by
 obtain ⟨a0,a1,a2,a3,rfl⟩ := aJm cs ((rF Tryz.underlying29 h).trans (by kernel_rfl))
 obtain ⟨n0,y0,h0⟩ := eE Tryz.underlying29 h 0 9 [a0] (by kernel_rfl)
 obtain ⟨v0,r0,o0⟩ := aIb h0
 obtain ⟨n1,y1,h1⟩ := eE Tryz.underlying29 h 1 26 [a1] (by kernel_rfl)
 obtain ⟨v1,r1,o1⟩ := aIg h1
 obtain ⟨n2,y2,h2⟩ := eE Tryz.underlying29 h 2 27 [a2] (by kernel_rfl)
 obtain ⟨v2,r2,o2⟩ := aJa h2
 obtain ⟨n3,y3,h3⟩ := eE Tryz.underlying29 h 3 2 [a3] (by kernel_rfl)
 obtain ⟨v3,r3,o3⟩ := yM h3
 exact ⟨⟨v0,v1,v2,v3⟩,(cC r0 (cC r1 (cC r2 (cC r3 eT)))),⟨o0,o1,o2,o3⟩⟩
theorem aIm {H : Type} {enc : TypeId × Value → H} {W : World} {b0 : Nat} {spare : Nat → Bool} {held : Bool} {jN : Nat} {cs : List Value} {x : DataW H × List MemPlace} (h : DataW.trod enc Tryz.prog W b0 spare held jN 32 cs = some x) : ∃ v : aV,qI W cs (mX v) ∧ lW v := by
 obtain ⟨a0,a1,a2,a3,a4,a5,a6,a7,a8,a9,a10,a11,a12,a13,rfl⟩ := aIn cs ((rF Tryz.underlying32 h).trans (by kernel_rfl))
 obtain ⟨n0,y0,h0⟩ := eE Tryz.underlying32 h 0 9 [a0] (by kernel_rfl)
 obtain ⟨v0,r0,o0⟩ := aIb h0
 obtain ⟨n1,y1,h1⟩ := eE Tryz.underlying32 h 1 25 [a1,a2] (by kernel_rfl)
 obtain ⟨v1,r1,o1⟩ := aJb h1
 obtain ⟨n2,y2,h2⟩ := eE Tryz.underlying32 h 2 2 [a3] (by kernel_rfl)
 obtain ⟨v2,r2,o2⟩ := yM h2
 obtain ⟨n3,y3,h3⟩ := eE Tryz.underlying32 h 3 2 [a4] (by kernel_rfl)
 obtain ⟨v3,r3,o3⟩ := yM h3
 obtain ⟨n4,y4,h4⟩ := eE Tryz.underlying32 h 4 2 [a5] (by kernel_rfl)
 obtain ⟨v4,r4,o4⟩ := yM h4
 obtain ⟨n5,y5,h5⟩ := eE Tryz.underlying32 h 5 2 [a6] (by kernel_rfl)
 obtain ⟨v5,r5,o5⟩ := yM h5
 obtain ⟨n6,y6,h6⟩ := eE Tryz.underlying32 h 6 2 [a7] (by kernel_rfl)
 obtain ⟨v6,r6,o6⟩ := yM h6
 obtain ⟨n7,y7,h7⟩ := eE Tryz.underlying32 h 7 29 [a8,a9,a10,a11] (by kernel_rfl)
 obtain ⟨v7,r7,o7⟩ := aJj h7
 obtain ⟨n8,y8,h8⟩ := eE Tryz.underlying32 h 8 30 [a12] (by kernel_rfl)
 obtain ⟨v8,r8,o8⟩ := aHy h8
 obtain ⟨n9,y9,h9⟩ := eE Tryz.underlying32 h 9 2 [a13] (by kernel_rfl)
 obtain ⟨v9,r9,o9⟩ := yM h9
 exact ⟨⟨v0,v1,v2,v3,v4,v5,v6,v7,v8,v9⟩,(cC r0 (cC r1 (cC r2 (cC r3 (cC r4 (cC r5 (cC r6 (cC r7 (cC r8 (cC r9 eT)))))))))),⟨o0,o1,o2,o3,o4,o5,o6,o7,o8,o9⟩⟩
theorem aGn {H : Type} {enc : TypeId × Value → H} {W : World} {b0 base : Nat} {spare : Nat → Bool} {held : Bool} {v : Value} {d : DataW H} {p : List MemPlace} (hv : Value.okWide Tryz.prog W .any base 32 v) (h : DataW.Trod enc Tryz.prog W b0 spare held 32 v d p) : ∃ x : aV,cP W (fun b => b < W.heap.size) (fun _ _ => none) (lks []) v (.agg [.d (.v (.string x.Name)), .d (.sl (List.map aJ x.Works.Arbors)), .d (.sl (List.map bF x.Works.Meshes)), .d (.v (.int .i64 x.Minute)), .d (.v (.int .i64 x.Hour)), .d (.v (.int .i64 x.Escape)), .d (.v (.int .i64 x.Teeth)), .d (.v (.int .i64 x.Beats)), .d (.v (.string x.Calendar.Name)), .d (.sl (List.map aN x.Calendar.Months)), .d (.sl (List.map aE x.Calendar.Rules)), .d (.v (.int .i64 x.Calendar.Week)), .d (.sl (List.map cI x.Cam)), .d (.v (.int .i64 x.Strike))]) ∧ lW x := by
 obtain ⟨cs,rfl,hsz⟩ := okWide_struct Tryz.underlying32 hv
 obtain ⟨jN,hf⟩ := h
 obtain ⟨x,hr,hok⟩ := aIm hf
 exact ⟨x,aGx (ds := mX x) (by simpa [Value.cells] using hr),hok⟩
end Go.Proofs.YtgcdbbidmfdonaaGreatDoor
namespace Go.Proofs.YtgcdbbidmfdonaaGreatDoor
open Go.RowKit
set_option linter.unusedVariables false
set_option maxRecDepth 100000
theorem ty2 : gG Tryz.prog 2 ⟨.int .i64,1,8, .int .i64 0⟩ := aX (by kernel_rfl)
theorem ty3 : gG Tryz.prog 3 ⟨.int .i64,1,8, .int .i64 0⟩ := aX (by kernel_rfl)
theorem ty4 : gG Tryz.prog 4 ⟨.bool,1,1, .bool false⟩ := aX (by kernel_rfl)
theorem ty5 : gG Tryz.prog 5 ⟨.int .u8,1,1, .int .u8 0⟩ := aX (by kernel_rfl)
theorem ty6 : gG Tryz.prog 6 ⟨.int .u8,1,1, .int .u8 0⟩ := aX (by kernel_rfl)
theorem ty8 : gG Tryz.prog 8 ⟨.struct #[⟨"x",2,0,false, "", "runtime",0⟩,⟨"y",3,1,false, "", "runtime",8⟩,⟨"signed",4,2,false, "", "runtime",16⟩,⟨"code",6,3,false, "", "runtime",17⟩],4,24, .agg #[.int .i64 0, .int .i64 0, .bool false, .int .u8 0]⟩ := aX (by kernel_rfl)
theorem ty9 : gG Tryz.prog 9 ⟨.string,1,16, .string ⟨#[]⟩⟩ := aX (by kernel_rfl)
theorem aKi : gG Tryz.prog 10 ⟨.string,1,16, .string ⟨#[]⟩⟩ := aX (by kernel_rfl)
theorem aKn : gG Tryz.prog 11 ⟨.string,1,16, .string ⟨#[]⟩⟩ := aX (by kernel_rfl)
theorem aJ8 : gG Tryz.prog 12 ⟨.int .u64,1,8, .int .u64 0⟩ := aX (by kernel_rfl)
theorem aJ3 : gG Tryz.prog 14 ⟨.struct #[⟨"msg",9,0,false, "", "runtime",0⟩,⟨"addr",12,1,false, "", "runtime",16⟩],2,24, .agg #[.string ⟨#[]⟩, .int .u64 0]⟩ := aX (by kernel_rfl)
theorem aJx : gG Tryz.prog 15 ⟨.pointer 203,1,8, .pointer none⟩ := aX (by kernel_rfl)
theorem aKo : gG Tryz.prog 16 ⟨.pointer 206,1,8, .pointer none⟩ := aX (by kernel_rfl)
theorem aKw : gG Tryz.prog 17 ⟨.pointer 214,1,8, .pointer none⟩ := aX (by kernel_rfl)
theorem aKy : gG Tryz.prog 19 ⟨.struct #[⟨"typ",17,0,false, "", "internal/runtime/maps",0⟩],1,8, .agg #[.pointer none]⟩ := aX (by kernel_rfl)
theorem aKc : gG Tryz.prog 22 ⟨.slice 121,1,24, .slice none 0 0⟩ := aX (by kernel_rfl)
theorem aKh : gG Tryz.prog 23 ⟨.slice 138,1,24, .slice none 0 0⟩ := aX (by kernel_rfl)
theorem aJz : gG Tryz.prog 25 ⟨.struct #[⟨"Arbors",22,0,false, "", "",0⟩,⟨"Meshes",23,1,false, "", "",24⟩],2,48, .agg #[.slice none 0 0, .slice none 0 0]⟩ := aX (by kernel_rfl)
theorem aJ6 : gG Tryz.prog 26 ⟨.slice 124,1,24, .slice none 0 0⟩ := aX (by kernel_rfl)
theorem aKk : gG Tryz.prog 27 ⟨.slice 144,1,24, .slice none 0 0⟩ := aX (by kernel_rfl)
theorem aKf : gG Tryz.prog 29 ⟨.struct #[⟨"Name",9,0,false, "", "",0⟩,⟨"Months",26,1,false, "", "",16⟩,⟨"Rules",27,2,false, "", "",40⟩,⟨"Week",2,3,false, "", "",64⟩],4,72, .agg #[.string ⟨#[]⟩, .slice none 0 0, .slice none 0 0, .int .i64 0]⟩ := aX (by kernel_rfl)
theorem aKu : gG Tryz.prog 30 ⟨.slice 2,1,24, .slice none 0 0⟩ := aX (by kernel_rfl)
theorem aJ4 : gG Tryz.prog 32 ⟨.struct #[⟨"Name",9,0,false, "", "",0⟩,⟨"Works",25,1,false, "", "",16⟩,⟨"Minute",2,3,false, "", "",64⟩,⟨"Hour",2,4,false, "", "",72⟩,⟨"Escape",2,5,false, "", "",80⟩,⟨"Teeth",2,6,false, "", "",88⟩,⟨"Beats",2,7,false, "", "",96⟩,⟨"Calendar",29,8,false, "", "",104⟩,⟨"Cam",30,12,false, "", "",176⟩,⟨"Strike",2,13,false, "", "",200⟩],14,208, .agg #[.string ⟨#[]⟩, .slice none 0 0, .slice none 0 0, .int .i64 0, .int .i64 0, .int .i64 0, .int .i64 0, .int .i64 0, .string ⟨#[]⟩, .slice none 0 0, .slice none 0 0, .int .i64 0, .slice none 0 0, .int .i64 0]⟩ := aX (by kernel_rfl)
theorem aJ2 : gG Tryz.prog 34 ⟨.slice 9,1,24, .slice none 0 0⟩ := aX (by kernel_rfl)
theorem aJ1 : gG Tryz.prog 37 ⟨.slice 59,1,24, .slice none 0 0⟩ := aX (by kernel_rfl)
theorem aJt : gG Tryz.prog 38 ⟨.slice 131,1,24, .slice none 0 0⟩ := aX (by kernel_rfl)
theorem aKx : gG Tryz.prog 40 ⟨.struct #[⟨"Arbors",37,0,false, "", "",0⟩,⟨"Meshes",38,1,false, "", "",24⟩],2,48, .agg #[.slice none 0 0, .slice none 0 0]⟩ := aX (by kernel_rfl)
theorem aKs : gG Tryz.prog 41 ⟨.slice 139,1,24, .slice none 0 0⟩ := aX (by kernel_rfl)
theorem aJu : gG Tryz.prog 42 ⟨.slice 142,1,24, .slice none 0 0⟩ := aX (by kernel_rfl)
theorem aJw : gG Tryz.prog 44 ⟨.struct #[⟨"Name",9,0,false, "", "",0⟩,⟨"Months",41,1,false, "", "",16⟩,⟨"Rules",42,2,false, "", "",40⟩,⟨"Week",2,3,false, "", "",64⟩],4,72, .agg #[.string ⟨#[]⟩, .slice none 0 0, .slice none 0 0, .int .i64 0]⟩ := aX (by kernel_rfl)
theorem aKp : gG Tryz.prog 46 ⟨.struct #[⟨"Name",9,0,false, "", "",0⟩,⟨"Works",40,1,false, "", "",16⟩,⟨"Minute",2,3,false, "", "",64⟩,⟨"Hour",2,4,false, "", "",72⟩,⟨"Escape",2,5,false, "", "",80⟩,⟨"Teeth",2,6,false, "", "",88⟩,⟨"Beats",2,7,false, "", "",96⟩,⟨"Calendar",44,8,false, "", "",104⟩,⟨"Cam",30,12,false, "", "",176⟩,⟨"Strike",2,13,false, "", "",200⟩],14,208, .agg #[.string ⟨#[]⟩, .slice none 0 0, .slice none 0 0, .int .i64 0, .int .i64 0, .int .i64 0, .int .i64 0, .int .i64 0, .string ⟨#[]⟩, .slice none 0 0, .slice none 0 0, .int .i64 0, .slice none 0 0, .int .i64 0]⟩ := aX (by kernel_rfl)
theorem aKm : gG Tryz.prog 57 ⟨.pointer 46,1,8, .pointer none⟩ := aX (by kernel_rfl)
theorem aKq : gG Tryz.prog 59 ⟨.struct #[⟨"Name",9,0,false, "", "",0⟩,⟨"Wheels",30,1,false, "", "",16⟩],2,40, .agg #[.string ⟨#[]⟩, .slice none 0 0]⟩ := aX (by kernel_rfl)
theorem aKr : gG Tryz.prog 85 ⟨.pointer 40,1,8, .pointer none⟩ := aX (by kernel_rfl)
theorem aKd : gG Tryz.prog 90 ⟨.pointer 44,1,8, .pointer none⟩ := aX (by kernel_rfl)
theorem aJv : gG Tryz.prog 93 ⟨.slice 5,1,24, .slice none 0 0⟩ := aX (by kernel_rfl)
theorem aIo : gG Tryz.prog 103 ⟨.pointer 105,1,8, .pointer none⟩ := aX (by kernel_rfl)
theorem aJf : gG Tryz.prog 105 ⟨.struct #[⟨"addr",103,0,false, "", "strings",0⟩,⟨"buf",93,1,false, "", "strings",8⟩],2,32, .agg #[.pointer none, .slice none 0 0]⟩ := aX (by kernel_rfl)
theorem aIy : gG Tryz.prog 121 ⟨.struct #[⟨"Name",9,0,false, "", "",0⟩,⟨"Wheels",30,1,false, "", "",16⟩],2,40, .agg #[.string ⟨#[]⟩, .slice none 0 0]⟩ := aX (by kernel_rfl)
theorem aJg : gG Tryz.prog 124 ⟨.struct #[⟨"Name",9,0,false, "", "",0⟩,⟨"Days",2,1,false, "", "",16⟩,⟨"Leap",2,2,false, "", "",24⟩],3,32, .agg #[.string ⟨#[]⟩, .int .i64 0, .int .i64 0]⟩ := aX (by kernel_rfl)
theorem aIj : gG Tryz.prog 127 ⟨.pointer 59,1,8, .pointer none⟩ := aX (by kernel_rfl)
theorem aI6 : gG Tryz.prog 131 ⟨.struct #[⟨"A",2,0,false, "", "",0⟩,⟨"WheelA",2,1,false, "", "",8⟩,⟨"B",2,2,false, "", "",16⟩,⟨"WheelB",2,3,false, "", "",24⟩],4,32, .agg #[.int .i64 0, .int .i64 0, .int .i64 0, .int .i64 0]⟩ := aX (by kernel_rfl)
theorem aIr : gG Tryz.prog 138 ⟨.struct #[⟨"A",2,0,false, "", "",0⟩,⟨"WheelA",2,1,false, "", "",8⟩,⟨"B",2,2,false, "", "",16⟩,⟨"WheelB",2,3,false, "", "",24⟩],4,32, .agg #[.int .i64 0, .int .i64 0, .int .i64 0, .int .i64 0]⟩ := aX (by kernel_rfl)
theorem aIw : gG Tryz.prog 139 ⟨.struct #[⟨"Name",9,0,false, "", "",0⟩,⟨"Days",2,1,false, "", "",16⟩,⟨"Leap",2,2,false, "", "",24⟩],3,32, .agg #[.string ⟨#[]⟩, .int .i64 0, .int .i64 0]⟩ := aX (by kernel_rfl)
theorem aI8 : gG Tryz.prog 142 ⟨.struct #[⟨"Every",2,0,false, "", "",0⟩,⟨"Rest",2,1,false, "", "",8⟩,⟨"Leap",4,2,false, "", "",16⟩],3,24, .agg #[.int .i64 0, .int .i64 0, .bool false]⟩ := aX (by kernel_rfl)
theorem aIh : gG Tryz.prog 144 ⟨.struct #[⟨"Every",2,0,false, "", "",0⟩,⟨"Rest",2,1,false, "", "",8⟩,⟨"Leap",4,2,false, "", "",16⟩],3,24, .agg #[.int .i64 0, .int .i64 0, .bool false]⟩ := aX (by kernel_rfl)
theorem aI9 : gG Tryz.prog 156 ⟨.int .u64,1,8, .int .u64 0⟩ := aX (by kernel_rfl)
theorem aIq : gG Tryz.prog 157 ⟨.pointer 5,1,8, .pointer none⟩ := aX (by kernel_rfl)
theorem aI2 : gG Tryz.prog 167 ⟨.int .i64,1,8, .int .i64 0⟩ := aX (by kernel_rfl)
theorem aIv : gG Tryz.prog 176 ⟨.int .u32,1,4, .int .u32 0⟩ := aX (by kernel_rfl)
theorem aI1 : gG Tryz.prog 178 ⟨.int .u64,1,8, .int .u64 0⟩ := aX (by kernel_rfl)
theorem aIz : gG Tryz.prog 179 ⟨.array 24 5,24,24, .agg #[.int .u8 0, .int .u8 0, .int .u8 0, .int .u8 0, .int .u8 0, .int .u8 0, .int .u8 0, .int .u8 0, .int .u8 0, .int .u8 0, .int .u8 0, .int .u8 0, .int .u8 0, .int .u8 0, .int .u8 0, .int .u8 0, .int .u8 0, .int .u8 0, .int .u8 0, .int .u8 0, .int .u8 0, .int .u8 0, .int .u8 0, .int .u8 0]⟩ := aX (by kernel_rfl)
theorem aIi : gG Tryz.prog 186 ⟨.int .u64,1,8, .int .u64 0⟩ := aX (by kernel_rfl)
theorem aJc : gG Tryz.prog 190 ⟨.pointer 3,1,8, .pointer none⟩ := aX (by kernel_rfl)
theorem aIs : gG Tryz.prog 194 ⟨.array 20 178,20,160, .agg #[.int .u64 0, .int .u64 0, .int .u64 0, .int .u64 0, .int .u64 0, .int .u64 0, .int .u64 0, .int .u64 0, .int .u64 0, .int .u64 0, .int .u64 0, .int .u64 0, .int .u64 0, .int .u64 0, .int .u64 0, .int .u64 0, .int .u64 0, .int .u64 0, .int .u64 0, .int .u64 0]⟩ := aX (by kernel_rfl)
theorem aJd : gG Tryz.prog 195 ⟨.array 65 5,65,65, .agg #[.int .u8 0, .int .u8 0, .int .u8 0, .int .u8 0, .int .u8 0, .int .u8 0, .int .u8 0, .int .u8 0, .int .u8 0, .int .u8 0, .int .u8 0, .int .u8 0, .int .u8 0, .int .u8 0, .int .u8 0, .int .u8 0, .int .u8 0, .int .u8 0, .int .u8 0, .int .u8 0, .int .u8 0, .int .u8 0, .int .u8 0, .int .u8 0, .int .u8 0, .int .u8 0, .int .u8 0, .int .u8 0, .int .u8 0, .int .u8 0, .int .u8 0, .int .u8 0, .int .u8 0, .int .u8 0, .int .u8 0, .int .u8 0, .int .u8 0, .int .u8 0, .int .u8 0, .int .u8 0, .int .u8 0, .int .u8 0, .int .u8 0, .int .u8 0, .int .u8 0, .int .u8 0, .int .u8 0, .int .u8 0, .int .u8 0, .int .u8 0, .int .u8 0, .int .u8 0, .int .u8 0, .int .u8 0, .int .u8 0, .int .u8 0, .int .u8 0, .int .u8 0, .int .u8 0, .int .u8 0, .int .u8 0, .int .u8 0, .int .u8 0, .int .u8 0, .int .u8 0]⟩ := aX (by kernel_rfl)
theorem aI7 : gG Tryz.prog 197 ⟨.pointer 186,1,8, .pointer none⟩ := aX (by kernel_rfl)
theorem aI0 : gG Tryz.prog 200 ⟨.array 32 5,32,32, .agg #[.int .u8 0, .int .u8 0, .int .u8 0, .int .u8 0, .int .u8 0, .int .u8 0, .int .u8 0, .int .u8 0, .int .u8 0, .int .u8 0, .int .u8 0, .int .u8 0, .int .u8 0, .int .u8 0, .int .u8 0, .int .u8 0, .int .u8 0, .int .u8 0, .int .u8 0, .int .u8 0, .int .u8 0, .int .u8 0, .int .u8 0, .int .u8 0, .int .u8 0, .int .u8 0, .int .u8 0, .int .u8 0, .int .u8 0, .int .u8 0, .int .u8 0, .int .u8 0]⟩ := aX (by kernel_rfl)
theorem aIl : gG Tryz.prog 201 ⟨.array 64 5,64,64, .agg #[.int .u8 0, .int .u8 0, .int .u8 0, .int .u8 0, .int .u8 0, .int .u8 0, .int .u8 0, .int .u8 0, .int .u8 0, .int .u8 0, .int .u8 0, .int .u8 0, .int .u8 0, .int .u8 0, .int .u8 0, .int .u8 0, .int .u8 0, .int .u8 0, .int .u8 0, .int .u8 0, .int .u8 0, .int .u8 0, .int .u8 0, .int .u8 0, .int .u8 0, .int .u8 0, .int .u8 0, .int .u8 0, .int .u8 0, .int .u8 0, .int .u8 0, .int .u8 0, .int .u8 0, .int .u8 0, .int .u8 0, .int .u8 0, .int .u8 0, .int .u8 0, .int .u8 0, .int .u8 0, .int .u8 0, .int .u8 0, .int .u8 0, .int .u8 0, .int .u8 0, .int .u8 0, .int .u8 0, .int .u8 0, .int .u8 0, .int .u8 0, .int .u8 0, .int .u8 0, .int .u8 0, .int .u8 0, .int .u8 0, .int .u8 0, .int .u8 0, .int .u8 0, .int .u8 0, .int .u8 0, .int .u8 0, .int .u8 0, .int .u8 0, .int .u8 0]⟩ := aX (by kernel_rfl)
theorem aIp : gG Tryz.prog 209 ⟨.int .u8,1,1, .int .u8 0⟩ := aX (by kernel_rfl)
def tt : Tab := gR (gR (gR (gR (gR (gR (gR (gR (gR (gR (gR (gR (gR (gR (gR (gR (gR (gR (gR (gR (gR (gR (gR (gR (gR (gR (gR (gR (gR (gR (gR (gR (gR (gR (gR (gR (gR (gR (gR (gR (gR (gR (gR (gR (gR (gR (gR (gR (gR (gR (gR (gR (gR (gR (gR (gR (gR (gR (gR (gR ((fun _ => none)) 2 ⟨.int .i64,1,8, .int .i64 0⟩) 3 ⟨.int .i64,1,8, .int .i64 0⟩) 4 ⟨.bool,1,1, .bool false⟩) 5 ⟨.int .u8,1,1, .int .u8 0⟩) 6 ⟨.int .u8,1,1, .int .u8 0⟩) 8 ⟨.struct #[⟨"x",2,0,false, "", "runtime",0⟩,⟨"y",3,1,false, "", "runtime",8⟩,⟨"signed",4,2,false, "", "runtime",16⟩,⟨"code",6,3,false, "", "runtime",17⟩],4,24, .agg #[.int .i64 0, .int .i64 0, .bool false, .int .u8 0]⟩) 9 ⟨.string,1,16, .string ⟨#[]⟩⟩) 10 ⟨.string,1,16, .string ⟨#[]⟩⟩) 11 ⟨.string,1,16, .string ⟨#[]⟩⟩) 12 ⟨.int .u64,1,8, .int .u64 0⟩) 14 ⟨.struct #[⟨"msg",9,0,false, "", "runtime",0⟩,⟨"addr",12,1,false, "", "runtime",16⟩],2,24, .agg #[.string ⟨#[]⟩, .int .u64 0]⟩) 15 ⟨.pointer 203,1,8, .pointer none⟩) 16 ⟨.pointer 206,1,8, .pointer none⟩) 17 ⟨.pointer 214,1,8, .pointer none⟩) 19 ⟨.struct #[⟨"typ",17,0,false, "", "internal/runtime/maps",0⟩],1,8, .agg #[.pointer none]⟩) 22 ⟨.slice 121,1,24, .slice none 0 0⟩) 23 ⟨.slice 138,1,24, .slice none 0 0⟩) 25 ⟨.struct #[⟨"Arbors",22,0,false, "", "",0⟩,⟨"Meshes",23,1,false, "", "",24⟩],2,48, .agg #[.slice none 0 0, .slice none 0 0]⟩) 26 ⟨.slice 124,1,24, .slice none 0 0⟩) 27 ⟨.slice 144,1,24, .slice none 0 0⟩) 29 ⟨.struct #[⟨"Name",9,0,false, "", "",0⟩,⟨"Months",26,1,false, "", "",16⟩,⟨"Rules",27,2,false, "", "",40⟩,⟨"Week",2,3,false, "", "",64⟩],4,72, .agg #[.string ⟨#[]⟩, .slice none 0 0, .slice none 0 0, .int .i64 0]⟩) 30 ⟨.slice 2,1,24, .slice none 0 0⟩) 32 ⟨.struct #[⟨"Name",9,0,false, "", "",0⟩,⟨"Works",25,1,false, "", "",16⟩,⟨"Minute",2,3,false, "", "",64⟩,⟨"Hour",2,4,false, "", "",72⟩,⟨"Escape",2,5,false, "", "",80⟩,⟨"Teeth",2,6,false, "", "",88⟩,⟨"Beats",2,7,false, "", "",96⟩,⟨"Calendar",29,8,false, "", "",104⟩,⟨"Cam",30,12,false, "", "",176⟩,⟨"Strike",2,13,false, "", "",200⟩],14,208, .agg #[.string ⟨#[]⟩, .slice none 0 0, .slice none 0 0, .int .i64 0, .int .i64 0, .int .i64 0, .int .i64 0, .int .i64 0, .string ⟨#[]⟩, .slice none 0 0, .slice none 0 0, .int .i64 0, .slice none 0 0, .int .i64 0]⟩) 34 ⟨.slice 9,1,24, .slice none 0 0⟩) 37 ⟨.slice 59,1,24, .slice none 0 0⟩) 38 ⟨.slice 131,1,24, .slice none 0 0⟩) 40 ⟨.struct #[⟨"Arbors",37,0,false, "", "",0⟩,⟨"Meshes",38,1,false, "", "",24⟩],2,48, .agg #[.slice none 0 0, .slice none 0 0]⟩) 41 ⟨.slice 139,1,24, .slice none 0 0⟩) 42 ⟨.slice 142,1,24, .slice none 0 0⟩) 44 ⟨.struct #[⟨"Name",9,0,false, "", "",0⟩,⟨"Months",41,1,false, "", "",16⟩,⟨"Rules",42,2,false, "", "",40⟩,⟨"Week",2,3,false, "", "",64⟩],4,72, .agg #[.string ⟨#[]⟩, .slice none 0 0, .slice none 0 0, .int .i64 0]⟩) 46 ⟨.struct #[⟨"Name",9,0,false, "", "",0⟩,⟨"Works",40,1,false, "", "",16⟩,⟨"Minute",2,3,false, "", "",64⟩,⟨"Hour",2,4,false, "", "",72⟩,⟨"Escape",2,5,false, "", "",80⟩,⟨"Teeth",2,6,false, "", "",88⟩,⟨"Beats",2,7,false, "", "",96⟩,⟨"Calendar",44,8,false, "", "",104⟩,⟨"Cam",30,12,false, "", "",176⟩,⟨"Strike",2,13,false, "", "",200⟩],14,208, .agg #[.string ⟨#[]⟩, .slice none 0 0, .slice none 0 0, .int .i64 0, .int .i64 0, .int .i64 0, .int .i64 0, .int .i64 0, .string ⟨#[]⟩, .slice none 0 0, .slice none 0 0, .int .i64 0, .slice none 0 0, .int .i64 0]⟩) 57 ⟨.pointer 46,1,8, .pointer none⟩) 59 ⟨.struct #[⟨"Name",9,0,false, "", "",0⟩,⟨"Wheels",30,1,false, "", "",16⟩],2,40, .agg #[.string ⟨#[]⟩, .slice none 0 0]⟩) 85 ⟨.pointer 40,1,8, .pointer none⟩) 90 ⟨.pointer 44,1,8, .pointer none⟩) 93 ⟨.slice 5,1,24, .slice none 0 0⟩) 103 ⟨.pointer 105,1,8, .pointer none⟩) 105 ⟨.struct #[⟨"addr",103,0,false, "", "strings",0⟩,⟨"buf",93,1,false, "", "strings",8⟩],2,32, .agg #[.pointer none, .slice none 0 0]⟩) 121 ⟨.struct #[⟨"Name",9,0,false, "", "",0⟩,⟨"Wheels",30,1,false, "", "",16⟩],2,40, .agg #[.string ⟨#[]⟩, .slice none 0 0]⟩) 124 ⟨.struct #[⟨"Name",9,0,false, "", "",0⟩,⟨"Days",2,1,false, "", "",16⟩,⟨"Leap",2,2,false, "", "",24⟩],3,32, .agg #[.string ⟨#[]⟩, .int .i64 0, .int .i64 0]⟩) 127 ⟨.pointer 59,1,8, .pointer none⟩) 131 ⟨.struct #[⟨"A",2,0,false, "", "",0⟩,⟨"WheelA",2,1,false, "", "",8⟩,⟨"B",2,2,false, "", "",16⟩,⟨"WheelB",2,3,false, "", "",24⟩],4,32, .agg #[.int .i64 0, .int .i64 0, .int .i64 0, .int .i64 0]⟩) 138 ⟨.struct #[⟨"A",2,0,false, "", "",0⟩,⟨"WheelA",2,1,false, "", "",8⟩,⟨"B",2,2,false, "", "",16⟩,⟨"WheelB",2,3,false, "", "",24⟩],4,32, .agg #[.int .i64 0, .int .i64 0, .int .i64 0, .int .i64 0]⟩) 139 ⟨.struct #[⟨"Name",9,0,false, "", "",0⟩,⟨"Days",2,1,false, "", "",16⟩,⟨"Leap",2,2,false, "", "",24⟩],3,32, .agg #[.string ⟨#[]⟩, .int .i64 0, .int .i64 0]⟩) 142 ⟨.struct #[⟨"Every",2,0,false, "", "",0⟩,⟨"Rest",2,1,false, "", "",8⟩,⟨"Leap",4,2,false, "", "",16⟩],3,24, .agg #[.int .i64 0, .int .i64 0, .bool false]⟩) 144 ⟨.struct #[⟨"Every",2,0,false, "", "",0⟩,⟨"Rest",2,1,false, "", "",8⟩,⟨"Leap",4,2,false, "", "",16⟩],3,24, .agg #[.int .i64 0, .int .i64 0, .bool false]⟩) 156 ⟨.int .u64,1,8, .int .u64 0⟩) 157 ⟨.pointer 5,1,8, .pointer none⟩) 167 ⟨.int .i64,1,8, .int .i64 0⟩) 176 ⟨.int .u32,1,4, .int .u32 0⟩) 178 ⟨.int .u64,1,8, .int .u64 0⟩) 179 ⟨.array 24 5,24,24, .agg #[.int .u8 0, .int .u8 0, .int .u8 0, .int .u8 0, .int .u8 0, .int .u8 0, .int .u8 0, .int .u8 0, .int .u8 0, .int .u8 0, .int .u8 0, .int .u8 0, .int .u8 0, .int .u8 0, .int .u8 0, .int .u8 0, .int .u8 0, .int .u8 0, .int .u8 0, .int .u8 0, .int .u8 0, .int .u8 0, .int .u8 0, .int .u8 0]⟩) 186 ⟨.int .u64,1,8, .int .u64 0⟩) 190 ⟨.pointer 3,1,8, .pointer none⟩) 194 ⟨.array 20 178,20,160, .agg #[.int .u64 0, .int .u64 0, .int .u64 0, .int .u64 0, .int .u64 0, .int .u64 0, .int .u64 0, .int .u64 0, .int .u64 0, .int .u64 0, .int .u64 0, .int .u64 0, .int .u64 0, .int .u64 0, .int .u64 0, .int .u64 0, .int .u64 0, .int .u64 0, .int .u64 0, .int .u64 0]⟩) 195 ⟨.array 65 5,65,65, .agg #[.int .u8 0, .int .u8 0, .int .u8 0, .int .u8 0, .int .u8 0, .int .u8 0, .int .u8 0, .int .u8 0, .int .u8 0, .int .u8 0, .int .u8 0, .int .u8 0, .int .u8 0, .int .u8 0, .int .u8 0, .int .u8 0, .int .u8 0, .int .u8 0, .int .u8 0, .int .u8 0, .int .u8 0, .int .u8 0, .int .u8 0, .int .u8 0, .int .u8 0, .int .u8 0, .int .u8 0, .int .u8 0, .int .u8 0, .int .u8 0, .int .u8 0, .int .u8 0, .int .u8 0, .int .u8 0, .int .u8 0, .int .u8 0, .int .u8 0, .int .u8 0, .int .u8 0, .int .u8 0, .int .u8 0, .int .u8 0, .int .u8 0, .int .u8 0, .int .u8 0, .int .u8 0, .int .u8 0, .int .u8 0, .int .u8 0, .int .u8 0, .int .u8 0, .int .u8 0, .int .u8 0, .int .u8 0, .int .u8 0, .int .u8 0, .int .u8 0, .int .u8 0, .int .u8 0, .int .u8 0, .int .u8 0, .int .u8 0, .int .u8 0, .int .u8 0, .int .u8 0]⟩) 197 ⟨.pointer 186,1,8, .pointer none⟩) 200 ⟨.array 32 5,32,32, .agg #[.int .u8 0, .int .u8 0, .int .u8 0, .int .u8 0, .int .u8 0, .int .u8 0, .int .u8 0, .int .u8 0, .int .u8 0, .int .u8 0, .int .u8 0, .int .u8 0, .int .u8 0, .int .u8 0, .int .u8 0, .int .u8 0, .int .u8 0, .int .u8 0, .int .u8 0, .int .u8 0, .int .u8 0, .int .u8 0, .int .u8 0, .int .u8 0, .int .u8 0, .int .u8 0, .int .u8 0, .int .u8 0, .int .u8 0, .int .u8 0, .int .u8 0, .int .u8 0]⟩) 201 ⟨.array 64 5,64,64, .agg #[.int .u8 0, .int .u8 0, .int .u8 0, .int .u8 0, .int .u8 0, .int .u8 0, .int .u8 0, .int .u8 0, .int .u8 0, .int .u8 0, .int .u8 0, .int .u8 0, .int .u8 0, .int .u8 0, .int .u8 0, .int .u8 0, .int .u8 0, .int .u8 0, .int .u8 0, .int .u8 0, .int .u8 0, .int .u8 0, .int .u8 0, .int .u8 0, .int .u8 0, .int .u8 0, .int .u8 0, .int .u8 0, .int .u8 0, .int .u8 0, .int .u8 0, .int .u8 0, .int .u8 0, .int .u8 0, .int .u8 0, .int .u8 0, .int .u8 0, .int .u8 0, .int .u8 0, .int .u8 0, .int .u8 0, .int .u8 0, .int .u8 0, .int .u8 0, .int .u8 0, .int .u8 0, .int .u8 0, .int .u8 0, .int .u8 0, .int .u8 0, .int .u8 0, .int .u8 0, .int .u8 0, .int .u8 0, .int .u8 0, .int .u8 0, .int .u8 0, .int .u8 0, .int .u8 0, .int .u8 0, .int .u8 0, .int .u8 0, .int .u8 0, .int .u8 0]⟩) 209 ⟨.int .u8,1,1, .int .u8 0⟩
theorem tok : TOk Tryz.prog tt := (aY (aY (aY (aY (aY (aY (aY (aY (aY (aY (aY (aY (aY (aY (aY (aY (aY (aY (aY (aY (aY (aY (aY (aY (aY (aY (aY (aY (aY (aY (aY (aY (aY (aY (aY (aY (aY (aY (aY (aY (aY (aY (aY (aY (aY (aY (aY (aY (aY (aY (aY (aY (aY (aY (aY (aY (aY (aY (aY (aY (aFu _) ty2) ty3) ty4) ty5) ty6) ty8) ty9) aKi) aKn) aJ8) aJ3) aJx) aKo) aKw) aKy) aKc) aKh) aJz) aJ6) aKk) aKf) aKu) aJ4) aJ2) aJ1) aJt) aKx) aKs) aJu) aJw) aKp) aKm) aKq) aKr) aKd) aJv) aIo) aJf) aIy) aJg) aIj) aI6) aIr) aIw) aI8) aIh) aI9) aIq) aI2) aIv) aI1) aIz) aIi) aJc) aIs) aJd) aI7) aI0) aIl) aIp)
theorem follows : Tryz.prog.follows .mixedOrders = true := by kernel_rfl
end Go.Proofs.YtgcdbbidmfdonaaGreatDoor
namespace Go.Proofs
open Go.Shelf
def Tryz.layLaysMn173_ren : Go.Shelf.Ren := ⟨fun | 173 => 64 | 246 => 104 | 283 => 129 | 284 => 130 | 285 => 131 | 286 => 132 | 129 => 128 | 317 => 141 | 318 => 142 | 319 => 143 | 320 => 144 | 337 => 146 | 338 => 147 | n => n,fun | 2 => 2 | 3 => 3 | 9 => 9 | 4 => 4 | 171 => 179 | 0 => 0 | 53 => 178 | 37 => 93 | 5 => 5 | 173 => 181 | 212 => 194 | 51 => 176 | 20 => 20 | 213 => 195 | 46 => 156 | 232 => 200 | 233 => 201 | n => n,fun | 17 => 0 | 18 => 2 | 19 => 3 | n => n⟩
theorem Tryz.layLaysMn173 : Go.Proofs.LaysM.n173 Tryz.prog Tryz.layLaysMn173_ren := {
 mixed := by kernel_rfl
 f129 := Tryz.func128.trans (congrArg some (by kernel_rfl))
 f173 := Tryz.func64.trans (congrArg some (by kernel_rfl))
 f246 := Tryz.func104.trans (congrArg some (by kernel_rfl))
 f283 := Tryz.func129.trans (congrArg some (by kernel_rfl))
 f284 := Tryz.func130.trans (congrArg some (by kernel_rfl))
 f285 := Tryz.func131.trans (congrArg some (by kernel_rfl))
 f286 := Tryz.func132.trans (congrArg some (by kernel_rfl))
 f317 := Tryz.func141.trans (congrArg some (by kernel_rfl))
 f318 := Tryz.func142.trans (congrArg some (by kernel_rfl))
 f319 := Tryz.func143.trans (congrArg some (by kernel_rfl))
 f320 := Tryz.func144.trans (congrArg some (by kernel_rfl))
 f337 := Tryz.func146.trans (congrArg some (by kernel_rfl))
 f338 := Tryz.func147.trans (congrArg some (by kernel_rfl))
 t0 := Tryz.underlying0
 a0 := Tryz.isAgg0
 z0 := Tryz.sizeOf0
 v0 := Tryz.zeroValue0
 t2 := Tryz.underlying2
 a2 := Tryz.isAgg2
 z2 := Tryz.sizeOf2
 v2 := Tryz.zeroValue2
 t3 := Tryz.underlying3
 a3 := Tryz.isAgg3
 z3 := Tryz.sizeOf3
 v3 := Tryz.zeroValue3
 t4 := Tryz.underlying4
 a4 := Tryz.isAgg4
 z4 := Tryz.sizeOf4
 v4 := Tryz.zeroValue4
 t5 := Tryz.underlying5
 a5 := Tryz.isAgg5
 z5 := Tryz.sizeOf5
 v5 := Tryz.zeroValue5
 t9 := Tryz.underlying9
 a9 := Tryz.isAgg9
 z9 := Tryz.sizeOf9
 v9 := Tryz.zeroValue9
 t20 := Tryz.underlying20
 a20 := Tryz.isAgg20
 z20 := Tryz.sizeOf20
 v20 := Tryz.zeroValue20
 t37 := Tryz.underlying93
 a37 := Tryz.isAgg93
 z37 := Tryz.sizeOf93
 v37 := Tryz.zeroValue93
 t46 := Tryz.underlying156
 a46 := Tryz.isAgg156
 z46 := Tryz.sizeOf156
 v46 := Tryz.zeroValue156
 t51 := Tryz.underlying176
 a51 := Tryz.isAgg176
 z51 := Tryz.sizeOf176
 v51 := Tryz.zeroValue176
 t53 := Tryz.underlying178
 a53 := Tryz.isAgg178
 z53 := Tryz.sizeOf178
 v53 := Tryz.zeroValue178
 t171 := Tryz.underlying179
 a171 := Tryz.isAgg179
 z171 := Tryz.sizeOf179
 v171 := Tryz.zeroValue179
 t173 := Tryz.underlying181
 a173 := Tryz.isAgg181
 z173 := Tryz.sizeOf181
 v173 := Tryz.zeroValue181
 t212 := Tryz.underlying194
 a212 := Tryz.isAgg194
 z212 := Tryz.sizeOf194
 v212 := Tryz.zeroValue194
 t213 := Tryz.underlying195
 a213 := Tryz.isAgg195
 z213 := Tryz.sizeOf195
 t232 := Tryz.underlying200
 a232 := Tryz.isAgg200
 z232 := Tryz.sizeOf200
 v232 := Tryz.zeroValue200
 t233 := Tryz.underlying201
 a233 := Tryz.isAgg201
 z233 := Tryz.sizeOf201
 v233 := Tryz.zeroValue201
 g17 := by kernel_rfl
 g18 := by kernel_rfl
 g19 := by kernel_rfl
 i0 := by kernel_rfl
 i2 := by kernel_rfl
 i3 := by kernel_rfl
 i4 := by kernel_rfl
 i5 := by kernel_rfl
 i9 := by kernel_rfl
 i20 := by kernel_rfl
 i37 := by kernel_rfl
 i46 := by kernel_rfl
 i51 := by kernel_rfl
 i53 := by kernel_rfl
 i171 := by kernel_rfl
 i173 := by kernel_rfl
 i212 := by kernel_rfl
 i232 := by kernel_rfl
 i233 := by kernel_rfl
 m17 := by kernel_rfl
 m18 := by kernel_rfl
 m19 := by kernel_rfl }
end Go.Proofs
namespace Go.Proofs.YtgcdbbidmfdonaaGreatDoor
open Go.Shelf Go.RowKit
set_option linter.unusedVariables false
set_option maxRecDepth 100000
theorem aEt : Tryz.prog.globalNamed "internal/strconv.uint64pow10" = some 0 := by kernel_rfl
theorem aEd {W : World} {F : Nat → Prop} (gl : sV F W) : Lib.TabIs Tryz.prog W "internal/strconv.uint64pow10" .u64 Lib.pow10Tab := by
 obtain ⟨-,t,f,e⟩ := gl (aId 0 (Lib.pow10Tab.map fun z => Value.int .u64 z)) (by simp [aD0])
 unfold Lib.TabIs World.var?
 rw [aEt]
 simp [e]
theorem aHm {n : Int} (h0 : -9223372036854775808 ≤ n) (h1 : n ≤ 9223372036854775807) : FnC Tryz.prog 64 [] [.d (.v (.int .i64 n)), .d (.v (.int .i64 10))] [] (.d (.v (.string ⟨(Lib.itoa n).toArray⟩))) :=
 aG3 (v := .string ⟨(Lib.itoa n).toArray⟩) (by kernel_rfl) rfl fun W F gl => (Any.strconv_FormatInt_10 Tryz.layLaysMn173 n h0 h1 W (aEd gl)).mono (by rintro e w' ⟨rfl,k,os,rfl⟩; exact ⟨rfl,Lib.below_grow _ _ (Nat.le_refl _) _ _⟩)
end Go.Proofs.YtgcdbbidmfdonaaGreatDoor
namespace Go.Proofs
open Go.Shelf
def Tryz.layLaysn156_ren : Go.Shelf.Ren := ⟨fun | 156 => 28 | 165 => 65 | 166 => 66 | 169 => 67 | 240 => 105 | 241 => 106 | 276 => 133 | 277 => 134 | n => n,fun | 31 => 34 | 9 => 9 | 3 => 3 | 4 => 4 | 0 => 0 | 20 => 20 | 72 => 105 | 76 => 109 | 70 => 103 | 37 => 93 | 75 => 108 | 127 => 157 | 164 => 183 | 5 => 5 | 80 => 111 | n => n,fun | n => n⟩
theorem Tryz.layLaysn156 : Go.Proofs.Lays.n156 Tryz.prog Tryz.layLaysn156_ren := {
 mixed := by kernel_rfl
 f156 := Tryz.func28.trans (congrArg some (by kernel_rfl))
 f165 := Tryz.func65.trans (congrArg some (by kernel_rfl))
 f166 := Tryz.func66.trans (congrArg some (by kernel_rfl))
 f169 := Tryz.func67.trans (congrArg some (by kernel_rfl))
 f240 := Tryz.func105.trans (congrArg some (by kernel_rfl))
 f241 := Tryz.func106.trans (congrArg some (by kernel_rfl))
 f276 := Tryz.func133.trans (congrArg some (by kernel_rfl))
 f277 := Tryz.func134.trans (congrArg some (by kernel_rfl))
 t0 := Tryz.underlying0
 a0 := Tryz.isAgg0
 z0 := Tryz.sizeOf0
 v0 := Tryz.zeroValue0
 t3 := Tryz.underlying3
 a3 := Tryz.isAgg3
 z3 := Tryz.sizeOf3
 v3 := Tryz.zeroValue3
 t4 := Tryz.underlying4
 a4 := Tryz.isAgg4
 z4 := Tryz.sizeOf4
 v4 := Tryz.zeroValue4
 t9 := Tryz.underlying9
 a9 := Tryz.isAgg9
 z9 := Tryz.sizeOf9
 v9 := Tryz.zeroValue9
 t20 := Tryz.underlying20
 a20 := Tryz.isAgg20
 z20 := Tryz.sizeOf20
 v20 := Tryz.zeroValue20
 t31 := Tryz.underlying34
 a31 := Tryz.isAgg34
 z31 := Tryz.sizeOf34
 v31 := Tryz.zeroValue34
 t37 := Tryz.underlying93
 a37 := Tryz.isAgg93
 z37 := Tryz.sizeOf93
 v37 := Tryz.zeroValue93
 t70 := Tryz.underlying103
 a70 := Tryz.isAgg103
 z70 := Tryz.sizeOf103
 v70 := Tryz.zeroValue103
 t72 := Tryz.underlying105
 a72 := Tryz.isAgg105
 z72 := Tryz.sizeOf105
 v72 := Tryz.zeroValue105
 t75 := Tryz.underlying108
 a75 := Tryz.isAgg108
 z75 := Tryz.sizeOf108
 v75 := Tryz.zeroValue108
 t76 := Tryz.underlying109
 a76 := Tryz.isAgg109
 z76 := Tryz.sizeOf109
 v76 := Tryz.zeroValue109
 t127 := Tryz.underlying157
 a127 := Tryz.isAgg157
 z127 := Tryz.sizeOf157
 v127 := Tryz.zeroValue157
 t164 := Tryz.underlying183
 a164 := Tryz.isAgg183
 z164 := Tryz.sizeOf183
 v164 := Tryz.zeroValue183 }
end Go.Proofs
namespace Go.Proofs.YtgcdbbidmfdonaaGreatDoor
open Go.Shelf Go.RowKit
set_option linter.unusedVariables false
set_option maxRecDepth 100000
theorem aF2 : Builder.Extra Tryz.prog Tryz.layLaysn156_ren := {
 sizeBuilder := by kernel_rfl
 liesBuilder := by kernel_rfl
 t5 := Tryz.underlying5
 a5 := Tryz.isAgg5
 z5 := Tryz.sizeOf5
 v5 := Tryz.zeroValue5
 infoByte := by kernel_rfl
 cellsByte := by kernel_rfl
 sizeByte := by kernel_rfl
 neB5 := by decide }
theorem aDf {w : World} {F : Nat → Prop} {v : Value} {s : ByteArray} (h : pD w F v (.v (.string s))) : v = .string s := by cases h; rfl
theorem aGj {xs : List ByteArray} {sep : ByteArray} (hN : xs.length ≤ 140737488355328) (hlen : (jK xs sep).size ≤ 140737488355328) : FnC Tryz.prog 28 [] [.d (.sl (xs.map cS)), .d (.v (.string sep))] [] (.d (.v (.string (jK xs sep)))) := by
 refine ⟨by kernel_rfl,fun w F μ us gl H hs hr => ?_⟩
 obtain ⟨u0,u1,rfl⟩ : ∃ u0 u1,us = #[u0,u1] := by
  obtain ⟨l⟩ := us
  match l,hs with
  | [a,b],_ => exact ⟨a,b,rfl⟩
 have e1 : u1 = .string sep := by
  have := hr 1 u1 _ rfl rfl
  cases this with | d _ _ hd => exact aDf hd
 subst e1
 have h0 : pD w F u0 (.sl (xs.map cS)) := by
  have := hr 0 u0 _ rfl rfl
  cases this with | d _ _ hd => exact hd
 generalize hes : xs.map cS = es at h0
 have done : ∀ (e : Ending) (w' : World),(e = .returned (.string (jK xs sep)) ∧ Below w.heap.size w w') → ∃ v F' μ',e = .returned v ∧ eD ⟨w,F, μ,lks [],gl⟩ F' μ' (lks []) w' ∧ cP w' F' μ' (lks []) v (.d (.v (.string (jK xs sep)))) := by
  rintro e w' ⟨rfl,hb⟩
  exact ⟨_,F, μ,rfl,H.of_below hb, .d _ _ (.v _ rfl)⟩
 cases h0 with
 | nil =>
  have : xs = [] := List.map_eq_nil_iff.1 hes
  subst this
  exact (Any.strings_Join_none Tryz.layLaysn156 aF2 none 0 sep w).mono fun e w' h => done e w' ⟨h.1,h.2 ▸ Below.refl _ _⟩
 | emp A c hm =>
  have : xs = [] := List.map_eq_nil_iff.1 hes
  subst this
  exact (Any.strings_Join_none Tryz.layLaysn156 aF2 A c sep w).mono fun e w' h => done e w' ⟨h.1,h.2 ▸ Below.refl _ _⟩
 | sl b off c sz es g hF hc hm hz hg hr2 =>
  subst hes
  have hl : (xs.map cS).length = xs.length := List.length_map _
  rw [hl]
  refine (Any.strings_Join Tryz.layLaysn156 aF2 b off c xs sep w ?_ (H.fz b hF) hN (by omega) (by simpa [jK,ByteArray.size] using hlen)).mono fun e w' h => done e w' h
  intro j x hx
  have h1 : (xs.map cS)[j]? = some (cS x) := by simp [hx]
  have h2 := hz j _ h1
  have h3 : sz = 1 := by rw [← h2]; rfl
  subst h3
  have h4 := hg j _ 0 (.v (.string x)) h1 rfl
  have h5 := aDf (hr2 j _ 0 (.v (.string x)) h1 rfl)
  rw [h5] at h4
  simpa using h4
end Go.Proofs.YtgcdbbidmfdonaaGreatDoor
namespace Go.Proofs
open Go.Shelf
def Tryz.laySlLaysMn5_ren : Go.Shelf.Ren := ⟨fun | 5 => 62 | 8 => 103 | 7 => 102 | 19 => 127 | 20 => 128 | 10 => 118 | 11 => 119 | 12 => 120 | 13 => 121 | 14 => 122 | 15 => 123 | 16 => 124 | 17 => 125 | 18 => 126 | 30 => 135 | 31 => 136 | 32 => 137 | 33 => 138 | 34 => 139 | 35 => 140 | 40 => 145 | n => n,fun | 23 => 30 | 25 => 2 | 3 => 3 | 32 => 156 | 22 => 30 | 0 => 0 | 44 => 176 | 46 => 178 | 4 => 4 | 36 => 168 | 35 => 167 | 41 => 173 | 5 => 5 | 9 => 9 | 53 => 186 | 57 => 190 | 63 => 197 | 64 => 198 | n => n,fun | n => n⟩
theorem Tryz.laySlLaysMn5 : Go.Proofs.SlLaysM.n5 Tryz.prog Tryz.laySlLaysMn5_ren := {
 mixed := by kernel_rfl
 f5 := ⟨Tryz.f62.name,by decide,Tryz.func62.trans (congrArg some (by kernel_rfl))⟩
 f7 := ⟨Tryz.f102.name,by decide,Tryz.func102.trans (congrArg some (by kernel_rfl))⟩
 f8 := Tryz.func103.trans (congrArg some (by kernel_rfl))
 f10 := ⟨Tryz.f118.name,by decide,Tryz.func118.trans (congrArg some (by kernel_rfl))⟩
 f11 := ⟨Tryz.f119.name,by decide,Tryz.func119.trans (congrArg some (by kernel_rfl))⟩
 f12 := ⟨Tryz.f120.name,by decide,Tryz.func120.trans (congrArg some (by kernel_rfl))⟩
 f13 := ⟨Tryz.f121.name,by decide,Tryz.func121.trans (congrArg some (by kernel_rfl))⟩
 f14 := ⟨Tryz.f122.name,by decide,Tryz.func122.trans (congrArg some (by kernel_rfl))⟩
 f15 := ⟨Tryz.f123.name,by decide,Tryz.func123.trans (congrArg some (by kernel_rfl))⟩
 f16 := ⟨Tryz.f124.name,by decide,Tryz.func124.trans (congrArg some (by kernel_rfl))⟩
 f17 := ⟨Tryz.f125.name,by decide,Tryz.func125.trans (congrArg some (by kernel_rfl))⟩
 f18 := ⟨Tryz.f126.name,by decide,Tryz.func126.trans (congrArg some (by kernel_rfl))⟩
 f19 := Tryz.func127.trans (congrArg some (by kernel_rfl))
 f20 := Tryz.func128.trans (congrArg some (by kernel_rfl))
 f30 := ⟨Tryz.f135.name,by decide,Tryz.func135.trans (congrArg some (by kernel_rfl))⟩
 f31 := Tryz.func136.trans (congrArg some (by kernel_rfl))
 f32 := Tryz.func137.trans (congrArg some (by kernel_rfl))
 f33 := ⟨Tryz.f138.name,by decide,Tryz.func138.trans (congrArg some (by kernel_rfl))⟩
 f34 := ⟨Tryz.f139.name,by decide,Tryz.func139.trans (congrArg some (by kernel_rfl))⟩
 f35 := ⟨Tryz.f140.name,by decide,Tryz.func140.trans (congrArg some (by kernel_rfl))⟩
 f40 := ⟨Tryz.f145.name,by decide,Tryz.func145.trans (congrArg some (by kernel_rfl))⟩
 t0 := Tryz.underlying0
 a0 := Tryz.isAgg0
 z0 := Tryz.sizeOf0
 v0 := Tryz.zeroValue0
 t3 := Tryz.underlying3
 a3 := Tryz.isAgg3
 z3 := Tryz.sizeOf3
 v3 := Tryz.zeroValue3
 t4 := Tryz.underlying4
 a4 := Tryz.isAgg4
 z4 := Tryz.sizeOf4
 v4 := Tryz.zeroValue4
 t5 := Tryz.underlying5
 a5 := Tryz.isAgg5
 z5 := Tryz.sizeOf5
 v5 := Tryz.zeroValue5
 t9 := Tryz.underlying9
 a9 := Tryz.isAgg9
 z9 := Tryz.sizeOf9
 v9 := Tryz.zeroValue9
 t22 := Tryz.underlying30
 a22 := Tryz.isAgg30
 z22 := Tryz.sizeOf30
 v22 := Tryz.zeroValue30
 t23 := Tryz.underlying30
 a23 := Tryz.isAgg30
 z23 := Tryz.sizeOf30
 v23 := Tryz.zeroValue30
 t25 := Tryz.underlying2
 a25 := Tryz.isAgg2
 z25 := Tryz.sizeOf2
 v25 := Tryz.zeroValue2
 t32 := Tryz.underlying156
 a32 := Tryz.isAgg156
 z32 := Tryz.sizeOf156
 v32 := Tryz.zeroValue156
 t35 := Tryz.underlying167
 a35 := Tryz.isAgg167
 z35 := Tryz.sizeOf167
 v35 := Tryz.zeroValue167
 t36 := Tryz.underlying168
 a36 := Tryz.isAgg168
 z36 := Tryz.sizeOf168
 v36 := Tryz.zeroValue168
 t41 := Tryz.underlying173
 a41 := Tryz.isAgg173
 z41 := Tryz.sizeOf173
 v41 := Tryz.zeroValue173
 t44 := Tryz.underlying176
 a44 := Tryz.isAgg176
 z44 := Tryz.sizeOf176
 v44 := Tryz.zeroValue176
 t46 := Tryz.underlying178
 a46 := Tryz.isAgg178
 z46 := Tryz.sizeOf178
 v46 := Tryz.zeroValue178
 t53 := Tryz.underlying186
 a53 := Tryz.isAgg186
 z53 := Tryz.sizeOf186
 v53 := Tryz.zeroValue186
 t57 := Tryz.underlying190
 a57 := Tryz.isAgg190
 z57 := Tryz.sizeOf190
 v57 := Tryz.zeroValue190
 t63 := Tryz.underlying197
 a63 := Tryz.isAgg197
 z63 := Tryz.sizeOf197
 v63 := Tryz.zeroValue197
 t64 := Tryz.underlying198
 a64 := Tryz.isAgg198
 z64 := Tryz.sizeOf198
 v64 := Tryz.zeroValue198 }
end Go.Proofs
namespace Go.Proofs.YtgcdbbidmfdonaaGreatDoor
open Go.Shelf Go.RowKit Go.Sort
set_option linter.unusedVariables false
set_option maxRecDepth 100000
theorem aEq {w : World} {F : Nat → Prop} {μ : aU} {h : bZ} {cur : Array Value} {xs : List Int} (hat : ∀ i cells,(aP.data (xs.map fun x => [DV.v (.int .i64 x)])).get i = some cells → cells.length = 1 ∧ ∀ (j : Nat) (c : AV),cells[j]? = some c → ∃ u,cur[i * 1 + j]? = some u ∧ cP w F μ h u c) : cur.toList.take xs.length = xs.map (Value.int .i64) := by
 apply List.ext_getElem?
 intro j
 by_cases hj : j < xs.length
 ·rw [List.getElem?_take_of_lt hj,Array.getElem?_toList,List.getElem?_map,List.getElem?_eq_getElem hj]
  obtain ⟨_,q⟩ := hat j [.d (.v (.int .i64 xs[j]))] (by simp [aP.get,List.getElem?_eq_getElem hj])
  obtain ⟨u,hu,hr⟩ := q 0 _ rfl
  cases hr with | d _ _ hd =>
  cases hd
  simpa using hu
 ·rw [List.getElem?_take_eq_none (by omega),List.getElem?_eq_none (by simp; omega)]
theorem aHl {ty : TypeId} {xs : List Int} (hxl : xs.length ≤ 140737488355328) : FnC Tryz.prog 62 [.live [⟨ty,1, .data (xs.map fun x => [DV.v (.int .i64 x)])⟩]] [.own 0 0 xs.length] [.live [⟨ty,1, .data ((eO xs).map fun x => [DV.v (.int .i64 x)])⟩]] (.tup []) := by
 refine ⟨by kernel_rfl,fun w F μ us gl H hs hus => ?_⟩
 obtain ⟨u0,rfl⟩ : ∃ u0,us = #[u0] := by
  obtain ⟨l⟩ := us
  match l,hs with
  | [a],_ => exact ⟨a,rfl⟩
 have h1 := hus 0 u0 _ rfl rfl
 cases h1 with | own _ _ _ _ h11 hb hv =>
 obtain ⟨hn,hv⟩ := hv _ rfl
 have hlen : (aP.data (xs.map fun x => [DV.v (.int .i64 x)])).len = xs.length := by simp [aP.len]
 have hup : ∀ s s' : cY,upd (lks [s]) 0 s' = lks [s'] := fun s s' => by
  funext k
  cases k with
  | zero => simp [upd,lks]
  | succ k => rfl
 rcases hv hlen with ⟨m1,m2,rfl⟩ | ⟨b,c,cur,m1,rfl,m3,m4,m5,m6⟩
 ·have hx : xs = [] := List.eq_nil_of_length_eq_zero m2
  subst hx
  rw [show eO [] = [] from by simp [eO]]
  refine (AnyM.slices_Sort_int_none Tryz.laySlLaysMn5 none 0 w).mono ?_
  rintro e w' ⟨rfl,rfl⟩
  exact ⟨_,F, μ,rfl,H, .tup #[] [] rfl fun i v a h1 h2 => by simp at h1⟩
 ·have hob := H.ob 0 0 _ rfl
  rcases hob with ⟨q,_⟩ | ⟨b',cur',q1,q2,q3⟩
  ·rw [m1] at q; cases q
  ·rw [m1] at q1
   injection q1 with q1
   subst q1
   rw [m3] at q2
   injection q2 with q2
   injection q2 with q2
   subst q2
   have hrow := aEq q3
   have hH : Holds (Value.int .i64) w b 0 xs.toArray := holds_of_blockI m3 hrow
   have hbl : b < w.heap.size := (Array.getElem?_eq_some_iff.1 m3).1
   have hcall := AnyM.slices_Sort_int Tryz.laySlLaysMn5 b 0 c xs w hH hbl (by omega)
   refine hcall.mono ?_
   rintro e w' ⟨rfl,n,os,rfl⟩
   have hg := grownBy_sortedI (w := w) (g := b) (n := n) (os := os) (eO xs).toArray
   have hc := heap_sortedI (n := n) (os := os) (eO xs).toArray m3
   have hsl := iA xs
   have m4' : cur.size = c * 1 := m4
   have htk := take_putCellsI cur (eO xs) (by rw [hsl]; omega)
   have hput := H.put (w' := grow (putRow (Value.int .i64) (Sort.ahead w n) b 0 (eO xs).toArray) os) (k := 0) (f := 0) (l := [⟨ty,1, .data (xs.map fun x => [DV.v (.int .i64 x)])⟩]) (o := ⟨ty,1, .data (xs.map fun x => [DV.v (.int .i64 x)])⟩) rfl rfl (o' := ⟨ty,1, .data ((eO xs).map fun x => [DV.v (.int .i64 x)])⟩) b _ hg.size hg.os hg.tape hg.output (fun b' hb' hne => hg.block b' hb' fun e => hne (by rw [m1,e])) (.inl m1) (Nat.lt_of_lt_of_le hbl hg.size) hc
    (.inr ⟨by simp [aP.len,hsl],rfl,rfl,m1,fun cur2 h2 => by rw [m3] at h2; injection h2 with h2; injection h2 with h2; rw [← h2]; simp [putCells]⟩) (fun i cells hi => by
     simp only [aP.get,List.getElem?_map,Option.map_map,Option.map_eq_some_iff] at hi
     obtain ⟨x,hx,rfl⟩ := hi
     refine ⟨rfl,fun j cc hj => ?_⟩
     match j with
     | 0 =>
      simp at hj
      subst hj
      have hi' : i < xs.length := by rw [← hsl]; exact (List.getElem?_eq_some_iff.1 hx).1
      have := congrArg (·[i]?) htk
      simp only [List.getElem?_take_of_lt (show i < (eO xs).length by omega),List.getElem?_map,hx,Array.getElem?_toList] at this
      exact ⟨.int .i64 x,by simpa using this, .d _ _ (.v _ rfl)⟩
     | j + 1 => simp at hj)
   refine ⟨_,F,sI μ 0 0 (some b),rfl,?_, .tup #[] [] rfl fun i v a h1 h2 => by simp at h1⟩
   have := hput.1
   rw [List.set_cons_zero,hup] at this
   exact this
end Go.Proofs.YtgcdbbidmfdonaaGreatDoor
namespace Go.Proofs.YtgcdbbidmfdonaaGreatDoor
open Go.RowKit
set_option linter.unusedVariables false
set_option maxRecDepth 100000
def Row (w : World) (A : Option Addr) (xs : List Value) : Prop :=
 xs = [] ∨ ∃ b off,A = some ⟨b,off,none⟩ ∧ ∀ j (h : j < xs.length),w.cell? ⟨b,off + j,none⟩ = some xs[j]
section
variable {w w' : World} {A : Option Addr} {xs : List Value}
theorem Row.at_ (h : Row w A xs) (hp : 0 < xs.length) : ∃ b off,A = some ⟨b,off,none⟩ ∧ b < w.heap.size ∧ ∀ j (h : j < xs.length),w.cell? ⟨b,off + j,none⟩ = some xs[j] := by
 rcases h with rfl | ⟨b,off,rfl,hc⟩
 ·simp at hp
 ·refine ⟨b,off,rfl,?_,hc⟩
  have h0 := hc 0 hp
  rcases Nat.lt_or_ge b w.heap.size with hlt | hge
  ·exact hlt
  ·unfold World.cell? at h0
   simp [Array.getElem?_eq_none hge] at h0
theorem Row.keep (h : Row w A xs) (hk : ∀ b o,b < w.heap.size → w'.cell? ⟨b,o,none⟩ = w.cell? ⟨b,o,none⟩) : Row w' A xs := by
 rcases Nat.eq_zero_or_pos xs.length with h0 | h0
 ·exact .inl (List.eq_nil_of_length_eq_zero h0)
 ·obtain ⟨b,off,rfl,hb,hc⟩ := h.at_ h0
  exact .inr ⟨b,off,rfl,fun j hj => (hk _ _ hb).trans (hc j hj)⟩
theorem Row.below (h : Row w A xs) (hb : Below w.heap.size w w') : Row w' A xs := h.keep fun b o hlt => hb.cell (p := ⟨b,o,none⟩) hlt
end
def Blk (w : World) (g : Nat) (t : TypeId) (cs : Array Value) : Prop := w.heap[g]? = some (.cells cs t (0,0))
section
variable {w w' : World} {g : Nat} {t : TypeId} {cs : Array Value}
theorem Blk.lt (h : Blk w g t cs) : g < w.heap.size := by
 rcases Nat.lt_or_ge g w.heap.size with hlt | hge
 ·exact hlt
 ·unfold Blk at h; rw [Array.getElem?_eq_none hge] at h; cases h
theorem Blk.cell (h : Blk w g t cs) (i : Nat) : w.cell? ⟨g,i,none⟩ = cs[i]? := cell_of_row w g i cs t (0,0) h
theorem Blk.frozen (h : Blk w g t cs) (i : Nat) : w.frozen? ⟨g,i,none⟩ = false := by
 unfold Blk at h
 simp [World.frozen?,h]
theorem Blk.new (w : World) (t : TypeId) (cs : Array Value) : Blk (w.alloc (.cells cs t)) w.heap.size t cs := heap_alloc_new w _
theorem Blk.alloc (h : Blk w g t cs) (o : Obj) : Blk (w.alloc o) g t cs := (Below.heap_alloc w o g h.lt).trans h
theorem Blk.set_ (h : Blk w g t cs) (i : Nat) (u : Value) : Blk (w.setCell ⟨g,i,none⟩ u) g t (cs.setIfInBounds i u) := by
 unfold Blk at h ⊢
 simp [World.setCell,Array.getElem?_modify,h]
theorem Blk.far (h : Blk w g t cs) {p : Addr} (hp : g ≠ p.block) (u : Value) : Blk (w.setCell p u) g t cs := (Below.heap_setCell w p u g hp).trans h
theorem Blk.below {B : Nat} (h : Blk w g t cs) (hb : Below B w w') (hg : g < B) : Blk w' g t cs := (hb.block g hg).trans h
theorem Blk.row (h : Blk w g t cs) : Row w (some ⟨g,0,none⟩) cs.toList :=
 .inr ⟨g,0,rfl,fun j hj => by rw [Nat.zero_add,h.cell,Array.getElem?_eq_getElem (by simpa using hj)]; simp⟩
end
section
variable {w w' : World} {base size n c : Nat} {e : TypeId} {A : Option Addr} {xs : List Value}
end
def aHz (cs : Array Value) (o : Nat) : List Value → Array Value
 | [] => cs
 | v :: vs => aHz (cs.setIfInBounds o v) (o + 1) vs
def aJl (w : World) (g : Nat) (o : Nat) : List Value → World
 | [] => w
 | v :: vs => aJl (w.setCell ⟨g,o,none⟩ v) g (o + 1) vs
theorem Blk.put {g : Nat} {t : TypeId} (vs : List Value) : ∀ {w : World} {cs : Array Value} (o : Nat),Blk w g t cs → Blk (aJl w g o vs) g t (aHz cs o vs) := by
 induction vs with
 | nil => intro w cs o h; exact h
 | cons v vs ih => intro w cs o h; exact ih (o + 1) (h.set_ o v)
theorem aC4 {w : World} {a : Addr} {v : Value} (h : w.cell? a = some v) : a.block < w.heap.size := by
 rcases Nat.lt_or_ge a.block w.heap.size with hlt | hge
 ·exact hlt
 ·unfold World.cell? at h
  simp [Array.getElem?_eq_none hge] at h
theorem kf {w w' : World} {a : Addr} {v : Value} {b : Bool} (hb : Below w.heap.size w w') (h : w.cell? a = some v) (hf : w.frozen? a = b) : w'.frozen? a = b := (hb.frozen (aC4 h)).trans hf
theorem ka {w : World} {a : Addr} {v : Value} {o : Obj} (h : w.cell? a = some v) : (w.alloc o).cell? a = some v := (World.cell?_alloc_lt w o a (aC4 h)).trans h
theorem kn (w : World) (t : TypeId) (cs : Array Value) (i : Nat) (v : Value) (h : cs[i]? = some v) : (w.alloc (.cells cs t)).cell? ⟨w.heap.size,i,none⟩ = some v := ((Blk.new w t cs).cell i).trans h
end Go.Proofs.YtgcdbbidmfdonaaGreatDoor
namespace Go.Proofs
open Go.Shelf
def Tryz.laySlLaysNn41_ren : Go.Shelf.Ren := ⟨fun | 41 => 68 | n => n,fun | 22 => 30 | 23 => 2 | 4 => 4 | n => n,fun | n => n⟩
theorem Tryz.laySlLaysNn41 : Go.Proofs.SlLaysN.n41 Tryz.prog Tryz.laySlLaysNn41_ren := {
 mixed := by kernel_rfl
 f41 := ⟨Tryz.f68.name,by decide,Tryz.func68.trans (congrArg some (by kernel_rfl))⟩
 t4 := Tryz.underlying4
 a4 := Tryz.isAgg4
 z4 := Tryz.sizeOf4
 v4 := Tryz.zeroValue4
 t22 := Tryz.underlying30
 a22 := Tryz.isAgg30
 z22 := Tryz.sizeOf30
 v22 := Tryz.zeroValue30
 t23 := Tryz.underlying2
 a23 := Tryz.isAgg2
 z23 := Tryz.sizeOf2
 v23 := Tryz.zeroValue2
 i23 := by kernel_rfl }
def Tryz.laySlLaysNn43_ren : Go.Shelf.Ren := ⟨fun | 43 => 70 | n => n,fun | 22 => 30 | 23 => 2 | 3 => 3 | 4 => 4 | 0 => 0 | n => n,fun | n => n⟩
theorem Tryz.laySlLaysNn43 : Go.Proofs.SlLaysN.n43 Tryz.prog Tryz.laySlLaysNn43_ren := {
 mixed := by kernel_rfl
 f43 := ⟨Tryz.f70.name,by decide,Tryz.func70.trans (congrArg some (by kernel_rfl))⟩
 t0 := Tryz.underlying0
 a0 := Tryz.isAgg0
 z0 := Tryz.sizeOf0
 v0 := Tryz.zeroValue0
 t3 := Tryz.underlying3
 a3 := Tryz.isAgg3
 z3 := Tryz.sizeOf3
 v3 := Tryz.zeroValue3
 t4 := Tryz.underlying4
 a4 := Tryz.isAgg4
 z4 := Tryz.sizeOf4
 v4 := Tryz.zeroValue4
 t22 := Tryz.underlying30
 a22 := Tryz.isAgg30
 z22 := Tryz.sizeOf30
 v22 := Tryz.zeroValue30
 t23 := Tryz.underlying2
 a23 := Tryz.isAgg2
 z23 := Tryz.sizeOf2
 v23 := Tryz.zeroValue2
 i23 := by kernel_rfl }
end Go.Proofs
namespace Go.Proofs.YtgcdbbidmfdonaaGreatDoor
open Go.Shelf Go.RowKit Go.Sort
set_option linter.unusedVariables false
set_option maxRecDepth 100000
set_option maxHeartbeats 2000000
theorem aBp (a : Addr) (n c : Nat) (h : n ≤ c) (hc : c ≤ 9223372036854775807) (w : World) : Calls Tryz.prog 69 #[.slice (some a) n c] w fun e w' => e = .returned (.slice (some a) n n) ∧ w' = w := by
 go_enter Tryz.func69,Tryz.ntmps69
 go_wp2
 go_ret
 exact ⟨rfl,rfl⟩
theorem aDz {w w' : World} {F F' : Nat → Prop} (h1 : ∀ b,F b → w'.heap[b]? = w.heap[b]?) (h2 : ∀ b,F b → F' b) : Evo w F (fun _ _ => none) (lks []) w' F' (fun _ _ => none) (lks []) :=
 ⟨h1,h2,fun _ h => h,fun k f o' h _ => absurd rfl h⟩
theorem aC1 {f : FuncId} {aa : List AV} {x : Value} (hF : FnC Tryz.prog f [] aa [] (.d (.v x))) {w W : World} {F : Nat → Prop} (gl : sV F w) (hfz : ∀ b,F b → b < w.heap.size) (hb : Below w.heap.size w W) {vs : Array Value} (hl : vs.size = aa.length) (hr : ∀ (i : Nat) v a,vs[i]? = some v → aa[i]? = some a → cP w F (fun _ _ => none) (lks []) v a) :
  Calls Tryz.prog f vs W fun e w' => e = .returned x ∧ Below W.heap.size W w' := by
 have hs := hb.size
 have k1 : ∀ b,F b → W.heap[b]? = w.heap[b]? := fun b h => hb.block b (hfz b h)
 have k2 : ∀ b,F b → b < W.heap.size := fun b h => Nat.lt_of_lt_of_le (hfz b h) hs
 exact aAq hF W vs hl (fun i v a h1 h2 => (hr i v a h1 h2).evo (aDz k1 k2)) (gl.evo k1 k2)
theorem aFs {p : Prop} (h : p) : Hid p := h
theorem eD.of_new {w w' : World} {F : Nat → Prop} {μ : aU} {gl : sV F w} (H : eD ⟨w,F, μ,lks [],gl⟩ F μ (lks []) w) (b : Below w.heap.size w w') (G : Nat → Prop) (hG : ∀ x,G x → w.heap.size ≤ x ∧ x < w'.heap.size) : eD ⟨w,F, μ,lks [],gl⟩ (fun x => F x ∨ G x) μ (lks []) w' := by
 have no : ∀ {k f o},lv (lks []) k f = some o → False := fun hl => by simp [lv,lks] at hl
 exact ⟨fun k f o hl => (no hl).elim,fun k f o k' f' o' b hl => (no hl).elim,fun k f o b hl => (no hl).elim,fun k f o b hl => (no hl).elim,fun x hx => hx.elim (fun hx => Nat.lt_of_lt_of_le (H.fz x hx) b.size) fun hx => (hG x hx).2,fun x hx => hx.elim .inl fun hx => .inr (.inr (hG x hx).1),
  ⟨fun x hx => b.block x (H.fz x hx),fun _ hb => .inl hb,fun _ hb => hb,fun k f o' hk ho' => (no ho').elim⟩,b.os,b.tape,b.output,b.size,fun x hx _ => b.block x hx⟩
theorem aD8 {w : World} {F : Nat → Prop} {g c : Nat} {cur : Array Value} {e : TypeId} {zs : List Int} (hF : F g) (hg : w.heap[g]? = some (.cells cur e (0,0))) (ht : cur.toList.take zs.length = zs.map (Value.int .i64)) (hc : zs.length ≤ c) (hm : c ≤ maxLen) : pD w F (.slice (some ⟨g,0,none⟩) zs.length c) (.sl (zs.map fun x => [DV.v (.int .i64 x)])) := by
 have hl : (zs.map fun x => [DV.v (.int .i64 x)]).length = zs.length := List.length_map _
 have := pD.sl (w := w) (F := F) g 0 c 1 (zs.map fun x => [DV.v (.int .i64 x)]) (fun i _ => .int .i64 (zs.getD i 0)) hF (by rw [hl]; exact hc) hm (fun i e hi => by
  simp only [List.getElem?_map,Option.map_eq_some_iff] at hi
  obtain ⟨x,_,rfl⟩ := hi; rfl) (fun i e j x hi hj => by
  simp only [List.getElem?_map,Option.map_eq_some_iff] at hi
  obtain ⟨y,hy,rfl⟩ := hi
  match j with
  | 0 =>
   have hi' : i < zs.length := (List.getElem?_eq_some_iff.1 hy).1
   have q := congrArg (·[i]?) ht
   simp only [List.getElem?_take_of_lt hi',List.getElem?_map,hy,Array.getElem?_toList,Option.map_some] at q
   simp [World.cell?,hg,q,List.getD,hy]
  | j + 1 => simp at hj) (fun i e j x hi hj => by
  simp only [List.getElem?_map,Option.map_eq_some_iff] at hi
  obtain ⟨y,hy,rfl⟩ := hi
  match j with
  | 0 =>
   simp at hj
   subst hj
   rw [List.getD_eq_getElem?_getD,hy]
   exact .v _ rfl
  | j + 1 => simp at hj)
 rw [hl] at this
 exact this
theorem sO (zs : List Int) : (Go.Lib.compact zs).length ≤ zs.length := by
 unfold Go.Lib.compact Go.Lib.compactUpTo
 rw [List.length_map]
 exact Nat.le_trans (List.length_filter_le _ _) (by simp)
def vG (w : World) (g cap : Nat) (zs : List Int) : Prop := ∃ cur,w.heap[g]? = some (.cells cur 2 (0,0)) ∧ zs.length ≤ cap ∧ cap ≤ maxLen ∧ cur.size = cap * 1 ∧ cur.toList.take zs.length = zs.map (Value.int .i64)
theorem aBz {w : World} {g cap : Nat} {zs : List Int} (h : vG w g cap zs) (hz : zs.length ≤ 1048576) : Calls Tryz.prog 62 #[.slice (some ⟨g,0,none⟩) zs.length cap] w fun e w' => e = .returned (.tuple #[]) ∧ vG w' g cap (eO zs) ∧ w.grownBy w' (some g) := by
 obtain ⟨cur,hgb,r1,r2,r3,r4⟩ := h
 have hsl := iA zs
 have hc := AnyM.slices_Sort_int Tryz.laySlLaysMn5 g 0 cap zs w (holds_of_blockI hgb r4) (Array.getElem?_eq_some_iff.1 hgb).1 (by omega)
 refine hc.mono ?_
 rintro e w' ⟨rfl,n,os,rfl⟩
 exact ⟨rfl,⟨_,heap_sortedI _ hgb,by rw [hsl]; exact r1,r2,by simp [putCells,r3],take_putCellsI cur (eO zs) (by rw [hsl]; omega)⟩,grownBy_sortedI _⟩
theorem aB0 {w : World} {g cap : Nat} {zs : List Int} (h : vG w g cap zs) (hz : zs.length ≤ 1048576) : Calls Tryz.prog 70 #[.slice (some ⟨g,0,none⟩) zs.length cap] w fun e w' => e = .returned (.slice (some ⟨g,0,none⟩) (Go.Lib.compact zs).length cap) ∧ vG w' g cap (Go.Lib.compact zs) ∧ w.grownBy w' (some g) := by
 obtain ⟨cur,hgb,r1,r2,r3,r4⟩ := h
 have hcl := sO zs
 have hc := AnyG.slices_Compact_int Tryz.laySlLaysNn43 g 0 cap zs w (holds_of_blockI hgb r4) (by omega) r1
 refine hc.mono ?_
 rintro e w' ⟨rfl,q,rfl⟩
 have e1 := heap_sortedI (n := q) (os := #[]) (Go.Lib.compact zs ++ List.replicate (zs.length - (Go.Lib.compact zs).length) 0).toArray hgb
 have e2 := grownBy_sortedI (w := w) (g := g) (n := q) (os := #[]) (Go.Lib.compact zs ++ List.replicate (zs.length - (Go.Lib.compact zs).length) 0).toArray
 rw [grow_empty] at e1 e2
 have e3 := take_putCellsI cur (Go.Lib.compact zs ++ List.replicate (zs.length - (Go.Lib.compact zs).length) 0) (by simp; omega)
 refine ⟨rfl,⟨_,e1,by omega,r2,by simp [putCells,r3],?_⟩,e2⟩
 have := congrArg (List.take (Go.Lib.compact zs).length) e3
 rw [List.take_take,List.map_append,List.take_left' (by simp)] at this
 rw [← this]
 congr 1
 simp
theorem zP {w : World} {b off c n m : Nat} {R2 R3 R4 : World → Nat → Nat → Prop} {Q : Ending → World → Prop}
  (Hin : Hid (∀ W,Below w.heap.size w W → Calls Tryz.prog 60 #[.slice (some ⟨b,off,none⟩) n c] W fun e w' => e = .returned (.bool true) ∧ Below W.heap.size W w'))
  (Hcl : Hid (∀ W,Below w.heap.size w W → Calls Tryz.prog 68 #[.slice (some ⟨b,off,none⟩) n c] W fun e w' => ∃ g cap,e = .returned (.slice (some ⟨g,0,none⟩) n cap) ∧ W.heap.size ≤ g ∧ R2 w' g cap ∧ Below W.heap.size W w'))
  (HS : Hid (∀ W g cap,R2 W g cap → Calls Tryz.prog 62 #[.slice (some ⟨g,0,none⟩) n cap] W fun e w' => e = .returned (.tuple #[]) ∧ R3 w' g cap ∧ W.grownBy w' (some g)))
  (HC : Hid (∀ W g cap,R3 W g cap → Calls Tryz.prog 70 #[.slice (some ⟨g,0,none⟩) n cap] W fun e w' => e = .returned (.slice (some ⟨g,0,none⟩) m cap) ∧ R4 w' g cap ∧ W.grownBy w' (some g)))
  (HP : Hid (∀ W g cap,R4 W g cap → m ≤ cap ∧ cap ≤ 9223372036854775807))
  (HQ : Hid (∀ g cap w',w.heap.size ≤ g → R4 w' g cap → Below w.heap.size w w' → Q (.returned (.tuple #[.slice (some ⟨g,0,none⟩) m m, .int .i64 0])) w')) :
  Calls Tryz.prog 29 #[.slice (some ⟨b,off,none⟩) n c] w Q := by
 go_enter Tryz.func29,Tryz.ntmps29
 go_wp2_with (first
  | (go_at_call 60; refine (Hin.out _ (Below.refl _ _)).mono ?_; rintro e w1 ⟨rfl,hb1⟩)
  | (go_at_call 68; refine (Hcl.out _ hb1).mono ?_; rintro e w2 ⟨g,cap,rfl,hbase,hr2,hb2⟩)
  | (go_at_call 62; refine (HS.out _ _ _ hr2).mono ?_; rintro e w3 ⟨rfl,hr3,hg3⟩)
  | (go_at_call 70; refine (HC.out _ _ _ hr3).mono ?_; rintro e w4 ⟨rfl,hr4,hg4⟩)
  | (go_at_call 69; refine (aBp _ _ _ (HP.out _ _ _ hr4).1 (HP.out _ _ _ hr4).2 _).mono ?_; rintro e w5 ⟨rfl,rfl⟩))
 have b1 := hb1.size
 have b2 : Below w.heap.size w w2 := hb1.trans (hb2.mono b1)
 have b3 : Below w.heap.size w w3 := b2.grown hg3 b2.size fun j hj => by cases hj; omega
 exact HQ.out g cap _ (by omega) hr4 (b3.grown hg4 b3.size fun j hj => by cases hj; omega)
theorem xH {w : World} {b off c : Nat} {xs : List Int} (hxl : xs.length ≤ 1048576) (hbl : b < w.heap.size)
  (hcells : ∀ j,j < xs.length → w.cell? ⟨b,off + j,none⟩ = some (.int .i64 (xs.getD j 0)))
  (hin : ∀ W,Below w.heap.size w W → Calls Tryz.prog 60 #[.slice (some ⟨b,off,none⟩) xs.length c] W fun e w' => e = .returned (.bool true) ∧ Below W.heap.size W w') (Q : Ending → World → Prop)
  (hQ : ∀ g cap w',w.heap.size ≤ g → vG w' g cap (fO xs) → Below w.heap.size w w' → Q (.returned (.tuple #[.slice (some ⟨g,0,none⟩) (fO xs).length (fO xs).length, .int .i64 0])) w') :
  Calls Tryz.prog 29 #[.slice (some ⟨b,off,none⟩) xs.length c] w Q := by
 have hclone : ∀ W,Below w.heap.size w W → Calls Tryz.prog 68 #[.slice (some ⟨b,off,none⟩) xs.length c] W fun e w' => ∃ g cap,e = .returned (.slice (some ⟨g,0,none⟩) xs.length cap) ∧ W.heap.size ≤ g ∧ vG w' g cap xs ∧ Below W.heap.size W w' := fun W hW => by
  have := AnyG.slices_Clone_int Tryz.laySlLaysNn41 b off xs.length c xs W (Nat.le_refl _) (by omega) fun j hj => (hW.cell (p := ⟨b,off + j,none⟩) hbl).trans (hcells j hj)
  refine this.mono ?_
  rintro e w' ⟨v',rfl,⟨_,hrow⟩,hnn,hb⟩
  rcases hrow with ⟨rfl,_⟩ | ⟨gb,cc,cur,rfl,hbase,hgb,r1,r2,r3,r4⟩
  ·exact absurd rfl hnn
  ·exact ⟨gb,cc,rfl,hbase,⟨cur,hgb,r1,r2,r3,by simpa using r4⟩,hb⟩
 have hsl := iA xs
 have hcl := sO (eO xs)
 have elv : fO xs = Go.Lib.compact (eO xs) := rfl
 refine zP (R2 := fun W g cap => vG W g cap xs) (R3 := fun W g cap => vG W g cap (eO xs)) (R4 := fun W g cap => vG W g cap (fO xs)) (aFs hin) (aFs hclone) (aFs fun W g cap h => aBz h hxl) (aFs fun W g cap h => ?_) (aFs fun W g cap h => ?_) (aFs hQ)
 ·have := aB0 h (by omega)
  rwa [hsl] at this
 ·obtain ⟨_,_,q,q2,_⟩ := h
  exact ⟨q,by unfold maxLen at q2; omega⟩
theorem aB9 {w : World} {s0 : Value} {Q : Ending → World → Prop} (Hin : Hid (∀ W,Below w.heap.size w W → Calls Tryz.prog 60 #[s0] W fun e w' => e = .returned (.bool false) ∧ Below W.heap.size W w'))
  (HQ : Hid (∀ w',Below w.heap.size w w' → Q (.returned (.tuple #[.slice none 0 0, .int .i64 1])) w')) : Calls Tryz.prog 29 #[s0] w Q := by
 go_enter Tryz.func29,Tryz.ntmps29
 go_wp2_with (go_at_call 60; refine (Hin.out _ (Below.refl _ _)).mono ?_; rintro e w1 ⟨rfl,hb1⟩)
 exact HQ.out w1 hb1
theorem aD3 {xs : List Int} {bv : Bool} (hxl : xs.length ≤ 1048576) (hne : bv = true → xs ≠ []) (hv : FnC Tryz.prog 60 [] [.d (.sl (xs.map fun x => [DV.v (.int .i64 x)]))] [] (.d (.v (.bool bv)))) :
  FnC Tryz.prog 29 [] [.d (.sl (xs.map fun x => [DV.v (.int .i64 x)]))] [] (.tup [.d (.sl ((if bv = true then fO xs else []).map fun x => [DV.v (.int .i64 x)])), .d (.v (.int .i64 (if bv = true then 0 else 1)))]) := by
 refine ⟨by kernel_rfl,fun w F μ us gl H hs hus => ?_⟩
 obtain ⟨s0,rfl⟩ : ∃ s0,us = #[s0] := by
  obtain ⟨l⟩ := us
  match l,hs with
  | [a],_ => exact ⟨a,rfl⟩
 have h1 := hus 0 s0 _ rfl rfl
 cases h1 with | d _ _ h0 =>
 have hin : ∀ W,Below w.heap.size w W → Calls Tryz.prog 60 #[s0] W fun e w' => e = .returned (.bool bv) ∧ Below W.heap.size W w' := fun W hW => by
  refine aC1 hv gl H.fz hW rfl fun i v a h1 h2 => ?_
  match i with
  | 0 => simp at h1 h2; subst h1 h2; exact .d _ _ h0
  | i + 1 => simp at h2
 cases bv
 ·refine aB9 (aFs hin) (aFs fun w' hb => ⟨_,F, μ,rfl,H.of_below hb, .tup _ _ rfl fun i v a h1 h2 => ?_⟩)
  match i with
  | 0 => simp at h1 h2; subst h1 h2; exact .d _ _ .nil
  | 1 => simp at h1 h2; subst h1 h2; exact .d _ _ (.v _ rfl)
  | i + 2 => simp at h2
 ·generalize hes : (xs.map fun x => [DV.v (.int .i64 x)]) = es at h0
  have hl : xs.length = es.length := by rw [← hes,List.length_map]
  have hpos : 0 < xs.length := by cases xs; exact absurd rfl (hne rfl); simp
  cases h0 with
  | nil => have := List.map_eq_nil_iff.1 hes; subst this; simp at hpos
  | emp A c hm => have := List.map_eq_nil_iff.1 hes; subst this; simp at hpos
  | sl b off c sz es g hF hc hm hz hg hr =>
   have hcells : ∀ j,j < xs.length → w.cell? ⟨b,off + j,none⟩ = some (.int .i64 (xs.getD j 0)) := fun j hj => by
    have h1 : es[j]? = some [DV.v (.int .i64 xs[j])] := by rw [← hes]; simp [hj]
    have h3 : sz = 1 := by rw [← hz j _ h1]; rfl
    subst h3
    have h4 := hg j _ 0 _ h1 rfl
    have h5 := hr j _ 0 _ h1 rfl
    rw [Nat.mul_one,Nat.add_zero] at h4
    rw [h4,List.getD_eq_getElem?_getD,List.getElem?_eq_getElem hj]
    generalize g j 0 = y at h5
    cases h5; rfl
   rw [← hl] at *
   refine xH hxl (H.fz b hF) hcells hin _ fun g cap w' hbase hrow hb => ?_
   obtain ⟨cur,hgb,r1,r2,r3,r4⟩ := hrow
   have hlt : g < w'.heap.size := (Array.getElem?_eq_some_iff.1 hgb).1
   refine ⟨_,fun x => F x ∨ x = g, μ,rfl,H.of_new hb (fun x => x = g) fun x hx => by rw [hx]; exact ⟨hbase,hlt⟩, .tup _ _ rfl fun i v a h1 h2 => ?_⟩
   match i with
   | 0 => simp at h1 h2; subst h1 h2; exact .d _ _ (aD8 (.inr rfl) hgb r4 (Nat.le_refl _) (Nat.le_trans r1 r2))
   | 1 => simp at h1 h2; subst h1 h2; exact .d _ _ (.v _ rfl)
   | i + 2 => simp at h2
end Go.Proofs.YtgcdbbidmfdonaaGreatDoor
namespace Go.Proofs
open Go.Shelf
end Go.Proofs
namespace Go.Proofs.YtgcdbbidmfdonaaGreatDoor
open Go.RowKit Go.Shelf
attribute [local go_sem] Oper.semAt_some
set_option linter.unusedVariables false
set_option maxRecDepth 100000
set_option maxHeartbeats 2000000
def qE (n₀ : Nat) (w : World) (A : Option Addr) (zs : List Int) : Prop := ∀ j,j < zs.length → ∃ b off,A = some ⟨b,off,none⟩ ∧ b < n₀ ∧ w.cell? ⟨b,off + j,none⟩ = some (.int .i64 (zs[j]?.getD 0))
theorem aD6 {zs : List Int} {k : Nat} (h : k < zs.length) : zs.take (k + 1) = zs.take k ++ [zs[k]?.getD 0] := by
 rw [List.take_add_one,List.getElem?_eq_getElem h]; rfl
theorem aGe (F : Fence) (n : Nat) (hf : F.fn 63) (hro : F.round = none) (hn : 1 ≤ n) (l Bs o n₀ cap : Nat) (A : Option Addr) (zs : List Int) (hz : zs.length ≤ 1048576) (J Jx : List Int → World → Prop)
  (hY : ∀ pre x W,J pre W → pre.length < zs.length → YieldAt F (n - 1) Tryz.prog l #[.int .i64 x] W fun e W' => (e = .returned (.bool true) ∧ J (pre ++ [x]) W' ∧ Below n₀ W W') ∨ (e = .returned (.bool false) ∧ Jx (pre ++ [x]) W'))
  (W : World) (hBs : W.cell? ⟨Bs,o,none⟩ = some (.slice A zs.length cap)) (hA : qE n₀ W A zs) (h0 : J [] W) :
  CallsIn F n Tryz.prog 63 #[.func (.yield l) #[] #[], .pointer (some ⟨Bs,o,none⟩)] W fun e W' => (∃ v,e = .returned v) ∧ ((∃ ys,ys = zs ∧ J ys W') ∨ (∃ pre,pre <+: zs ∧ Jx pre W')) := by
 refine callsIn_of_wp Tryz.func63 rfl hf ?_ hro
 simp only [Tryz.ntmps63,List.size_toArray,List.length_cons,List.length_nil,Nat.reduceAdd,Nat.reduceSub,Array.replicate_succ,Array.replicate_zero,List.push_toArray,List.append_toArray,List.nil_append,List.cons_append]
 gi_wp2
 gi_loopw [7] (fun i wr => ∃ k : Nat,k ≤ zs.length ∧ i = .int .i64 k ∧ J (zs.take k) wr ∧ Below n₀ W wr) (fun i _ => zs.length - (Go.RowKit.intOf i).toNat)
 case atStart => exact ⟨0,Nat.zero_le _,rfl,h0,Below.refl _ _⟩
 case round =>
  obtain ⟨k,hk,rfl,hJs,hnx⟩ := hrel
  by_cases hlt : k < zs.length
  ·obtain ⟨b,off,rfl,hb,hc⟩ := hA k hlt
   have htk := aD6 hlt
   obtain ⟨x,hx⟩ : ∃ x,x = zs[k]?.getD 0 := ⟨_,rfl⟩
   rw [← hx] at hc htk
   have hcx : wr.cell? ⟨b,off + k,none⟩ = some (.int .i64 x) := (hnx.cell (p := ⟨b,off + k,none⟩) hb).trans hc
   obtain ⟨fn,tmps,assign,body,hy,hR⟩ := hY _ x wr hJs (by rw [List.length_take]; omega)
   clear hx hc
   gi_wp2
   refine hR.mono ?_
   rintro e W3 (⟨rfl,hJ3,hk3⟩ | ⟨rfl,hJx3⟩)
   ·gi_wp2
    go_roundw
    case rel => exact ⟨k + 1,by omega,by simp,by rw [htk]; exact hJ3,hnx.trans hk3⟩
    case measure => simp [Go.RowKit.intOf]; omega
   ·gi_wp2
    refine bodyPost_ret (results_none rfl _ _ _) rfl ?_
    exact ⟨⟨_,rfl⟩, .inr ⟨_,by rw [← htk]; exact List.take_prefix _ _,hJx3⟩⟩
  ·obtain rfl : k = zs.length := by omega
   rw [List.take_length] at hJs
   gi_wp2
   go_end0
   exact ⟨⟨_,rfl⟩, .inl ⟨_,rfl,hJs⟩⟩
theorem qE.below {n₀ : Nat} {w W : World} {A : Option Addr} {zs : List Int} (h : qE n₀ w A zs) (hb : Below n₀ w W) : qE n₀ W A zs := fun j hj => by
 obtain ⟨b,off,rfl,h1,h2⟩ := h j hj
 exact ⟨b,off,rfl,h1,(hb.cell (p := ⟨b,off + j,none⟩) h1).trans h2⟩
theorem aBj (F : Fence) (n : Nat) (hf : F.fn 63) (hro : F.round = none) (hn : 1 ≤ n) (Bs o n₀ cap : Nat) (A : Option Addr) (zs : List Int) (hz : zs.length ≤ 1048576) (w : World) (hBl : Bs < w.heap.size) (hn₀ : n₀ ≤ w.heap.size) (hBs : w.cell? ⟨Bs,o,none⟩ = some (.slice A zs.length cap)) (hA : qE n₀ w A zs) :
  SeqStopsK F n Tryz.prog 63 #[.pointer (some ⟨Bs,o,none⟩)] (fun x : Int => #[Value.int .i64 x]) (Below n₀) (fun ys => ys = zs) (fun pre => pre <+: zs) zs.length w := fun l J Jx W hW _ _ hY h0 =>
 aGe F n hf hro hn l Bs o n₀ cap A zs hz J Jx hY W ((hW.cell (p := ⟨Bs,o,none⟩) hBl).trans hBs) (hA.below (hW.mono hn₀)) h0
theorem aC0 (F : Fence) (n : Nat) (hg : F.fn 101) (hf : F.fn 63) (hro : F.round = none) (hn : 3 ≤ n) (Bs o cap : Nat) (A : Option Addr) (zs : List Int) (hz : zs.length ≤ 1048576) (w : World) (hBl : Bs < w.heap.size) (hBs : w.cell? ⟨Bs,o,none⟩ = some (.slice A zs.length cap)) (hA : qE w.heap.size w A zs) :
  CallsIn F n Tryz.prog 101 #[.slice none 0 0, .func (.func 63) #[] #[.pointer (some ⟨Bs,o,none⟩)]] w fun e W' => ∃ v,e = .returned v ∧ W'.ownsRow w.heap.size 2 1 v zs.length (zs.map (Value.int .i64)) ∧ (v = .slice none 0 0 ↔ zs = []) ∧ Below w.heap.size w W' := by
 have h1 : 1 ≤ n := by omega
 obtain ⟨i0,hi,hz0,hz1,hz2⟩ := info_parts (P := Tryz.prog) (e := 2) (z := .int .i64 0) (size := 1) (bytes := 8) (by kernel_rfl)
 refine callsIn_of_wp_marks Tryz.func101 rfl hg ?_ hro
 simp only [Tryz.ntmps101,List.size_toArray,List.length_cons,List.length_nil,Nat.reduceAdd,Nat.reduceSub,Array.replicate_succ,Array.replicate_zero,List.push_toArray,List.append_toArray,List.nil_append,List.cons_append]
 gi_wp2
 have bO := Boxed.new w 30 (.slice none 0 0)
 have hB0 : Below w.heap.size w (w.alloc (.cells #[.slice none 0 0] 30)) := (Below.refl _ w).alloc (Nat.le_refl _) _
 refine wpIn_rangeFunc_ownG hro h1 (gf := 63) (lb := #[.pointer (some ⟨Bs,o,none⟩)]) rfl hf (enters_of Tryz.func63 (by kernel_rfl) rfl)
  (aBj F (n - 1) hf hro (by omega) Bs o w.heap.size cap A zs hz _ (by simp; omega) (by simp) ((hB0.cell (p := ⟨Bs,o,none⟩) hBl).trans hBs) (hA.below hB0)) belowK_t (belowK_b (by simp)) (Below.refl _ _) (fun _ => rfl)
  (fun pre W => (∃ v,Boxed W w.heap.size 30 v ∧ W.ownsRow w.heap.size 2 1 v pre.length (pre.map (Value.int .i64)) ∧ (v = .slice none 0 0 ↔ pre = [])) ∧ Below w.heap.size w W)
  (fun _ _ _ => False)
  (OwnFrom.and (Own.from (holdsRow_own w.heap.size w.heap.size 30 2 1 (fun pre => pre.length) (fun pre => pre.map (Value.int .i64)) (fun pre v => v = .slice none 0 0 ↔ pre = [])) _) (ownFrom_below (Nat.le_refl _) (by simp)))
  (fun _ _ _ _ _ hs _ _ => hs)
  ⟨⟨_,bO,World.ownsRow_nil _ _ _ _,by simp⟩,hB0⟩
  (fun x => { tmps := #[.slice none 0 0, .func (.func 63) #[] #[.pointer (some ⟨Bs,o,none⟩)], .pointer (some ⟨w.heap.size,0,none⟩),undef, .slice none 0 0, .int .i64 x, .func (.func 63) #[] #[.pointer (some ⟨Bs,o,none⟩)], .int .i64 x,undef,undef,undef,undef,undef],defers := [] }) ?assign ?body ?done ?stop
 case assign =>
  intro l x W K hK
  gi_wp2
  exact hK
 case body =>
  rintro l pre x W ⟨⟨v,hv,hrow,hnil⟩,hB⟩ hlt
  have hc := hv.cell
  gi_wp2_with (gi_at_builtin; refine wpListIn_append_own _ rfl _ _ 30 rfl w.heap.size 2 i0 (.int .i64 0) 1 8 Tryz.underlying30 hi hz0 hz1 hz2 rfl (by decide) _ _ _ rfl (hrow.alloc _) ⟨W.heap.size,0,none⟩ 1 1 [.int .i64 x] rfl rfl (cell_one_new _ _ _) (by simp [Value.oneCell']) (by unfold maxLen; omega) (by omega) (by have := hB.size; simp; omega) ?_; intro v' w1 hown' hgrow _; obtain ⟨g',cap',rfl⟩ := ownsRow_succ hown'; obtain ⟨hv1,hv2,hr2,hk2,hb2⟩ := hv.appended (by decide) hrow hB.size (Nat.le_refl _) hown' hgrow; have hc1 := hv1.cell; have hf1 := hv1.frozen)
  exact ⟨hk2.from _,hb2,⟨_,hv2,by simpa using hr2,by simp⟩,hB.trans hb2⟩
 case done =>
  rintro D ys W hD rfl ⟨⟨v,hv,hrow,hnil⟩,hB⟩ hK
  have hc := hv.cell
  gi_wp2
  refine ⟨by simp, .inl ⟨_,_,rfl,run_takeDeferred hK,?_⟩⟩
  exact ⟨_,results_tmp rfl _ _ _,v,rfl,ownsRow_putObj hrow _ hK rfl,hnil,hB.trans (belowK_b (w := w) (Nat.le_refl _) W D _ _ (by simp at hD; omega) hK rfl rfl)⟩
 case stop =>
  rintro D c pre W _ _ h _
  exact h.elim
theorem vB (Bs o cap : Nat) (A : Option Addr) (zs : List Int) (hz : zs.length ≤ 1048576) (w : World) (hBl : Bs < w.heap.size) (hBs : w.cell? ⟨Bs,o,none⟩ = some (.slice A zs.length cap)) (hA : qE w.heap.size w A zs) :
  Calls Tryz.prog 61 #[.func (.func 63) #[] #[.pointer (some ⟨Bs,o,none⟩)]] w fun e W' => ∃ v,e = .returned v ∧ W'.ownsRow w.heap.size 2 1 v zs.length (zs.map (Value.int .i64)) ∧ (v = .slice none 0 0 ↔ zs = []) ∧ Below w.heap.size w W' := by
 refine Go.calls_of_every_depth (L := [61,101,63]) (n := 5) fun D => ?_
 refine callsIn_of_wp Tryz.func61 rfl (by simp [Fence.list]) ?_ rfl
 simp only [Tryz.ntmps61,List.size_toArray,List.length_cons,List.length_nil,Nat.reduceAdd,Nat.reduceSub,Array.replicate_succ,Array.replicate_zero,List.push_toArray,List.append_toArray,List.nil_append,List.cons_append]
 gi_wp2_with (gi_at_call 101; refine (aC0 (Fence.list [61,101,63] (some D)) 4 (by simp [Fence.list]) (by simp [Fence.list]) rfl (by omega) Bs o cap A zs hz _ hBl hBs hA).mono ?_; rintro e w' ⟨v,rfl,hrow,hnil,hb⟩)
 go_ret
 exact ⟨v,rfl,hrow,hnil,hb⟩
theorem aGv {w : World} {F : Nat → Prop} {v : Value} {xs : List Int} (hfz : ∀ b,F b → b < w.heap.size) (h : pD w F v (.sl (xs.map fun x => [DV.v (.int .i64 x)]))) : ∃ A c,v = .slice A xs.length c ∧ qE w.heap.size w A xs := by
 generalize hes : (xs.map fun x => [DV.v (.int .i64 x)]) = es at h
 have hl : xs.length = es.length := by rw [← hes,List.length_map]
 cases h with
 | nil => exact ⟨none,0,by rw [hl]; rfl,fun j hj => by have := List.map_eq_nil_iff.1 hes; subst this; simp at hj⟩
 | emp A c hm => exact ⟨A,c,by rw [hl]; rfl,fun j hj => by have := List.map_eq_nil_iff.1 hes; subst this; simp at hj⟩
 | sl b off c sz es g hF hc hm hz hg hr =>
  refine ⟨some ⟨b,off,none⟩,c,by rw [hl],fun j hj => ⟨b,off,rfl,hfz b hF,?_⟩⟩
  have h1 : es[j]? = some [DV.v (.int .i64 xs[j])] := by rw [← hes]; simp [hj]
  have h3 : sz = 1 := by rw [← hz j _ h1]; rfl
  subst h3
  have h4 := hg j _ 0 _ h1 rfl
  have h5 := hr j _ 0 _ h1 rfl
  rw [Nat.mul_one,Nat.add_zero] at h4
  rw [h4,List.getElem?_eq_getElem hj]
  generalize g j 0 = y at h5
  cases h5; rfl
theorem aC7 {xs : List Int} (hx : xs.length ≤ 1048576) : FnC Tryz.prog 61 [] [.fn 63 [.ref [.sl (xs.map fun x => [DV.v (.int .i64 x)])]]] [.live [⟨2,1, .data (xs.map fun x => [DV.v (.int .i64 x)])⟩]] (.own 0 0 xs.length) := by
 refine ⟨by kernel_rfl,fun w F μ us gl H hs hus => ?_⟩
 obtain ⟨u0,rfl⟩ : ∃ u0,us = #[u0] := by
  obtain ⟨l⟩ := us
  match l,hs with
  | [a],_ => exact ⟨a,rfl⟩
 have h1 := hus 0 u0 _ rfl rfl
 cases h1 with | fn g vs cs hsz hrr =>
 obtain ⟨s0,rfl⟩ : ∃ s0,vs = #[s0] := by
  obtain ⟨l⟩ := vs
  match l,hsz with
  | [a],_ => exact ⟨a,rfl⟩
 have h2 := hrr 0 s0 _ rfl rfl
 cases h2 with | ref b off cs g hF hg hr =>
 have h3 := hg 0 _ rfl
 have h4 := hr 0 _ rfl
 obtain ⟨A,c,hv,hA⟩ := aGv H.fz h4
 rw [Nat.add_zero,hv] at h3
 refine (vB b off c A xs hx w (H.fz b hF) h3 hA).mono ?_
 rintro e w' ⟨v,rfl,⟨hrl,hrow⟩,hnil,hb⟩
 have hup : ∀ s s' : cY,upd (upd (lks []) 0 s) 0 s' = lks [s'] := fun s s' => by
  funext k
  cases k with
  | zero => simp [upd,lks]
  | succ k => rfl
 have hup1 : ∀ s : cY,upd (lks []) 0 s = lks [s] := fun s => by
  funext k
  cases k with
  | zero => simp [upd,lks]
  | succ k => rfl
 rcases hrow with ⟨rfl,h0⟩ | ⟨gb,cc,cur,rfl,hbase,hgb,r1,r2,r3,r4⟩
 ·have hxs : xs = [] := List.eq_nil_of_length_eq_zero h0
  subst hxs
  obtain ⟨H1,V1⟩ := (H.of_below hb).adopt 0 rfl ⟨2,1, .data []⟩ rfl
  rw [hup1] at H1
  refine ⟨_,F,sI μ 0 0 none,rfl,H1, .own _ _ _ _ rfl (by simp [lks]) fun o ho => ?_⟩
  simp [lv,lks] at ho
  subst ho
  exact ⟨by simp [aP.len],fun _ => .inl ⟨bV _ _ _ _,rfl,rfl⟩⟩
 ·have hne : xs ≠ [] := fun e => by have := hnil.2 e; cases this
  have hpos : 0 < xs.length := by cases xs; exact absurd rfl hne; simp
  obtain ⟨H1,V1⟩ := H.adopt 0 rfl ⟨2,1, .data []⟩ rfl
  have hput := H1.put (w' := w') (k := 0) (f := 0) (l := [⟨2,1, .data []⟩]) (o := ⟨2,1, .data []⟩) (by simp [upd]) rfl (o' := ⟨2,1, .data (xs.map fun x => [DV.v (.int .i64 x)])⟩) gb cur hb.size hb.os hb.tape hb.output (fun b' hb' _ => hb.block b' hb') (.inr hbase) (Array.getElem?_eq_some_iff.1 hgb).1 hgb
   (.inl (by simp [aP.len]; omega)) (fun i cells hi => by
    simp only [aP.get,List.getElem?_map,Option.map_map,Option.map_eq_some_iff] at hi
    obtain ⟨x,hxi,rfl⟩ := hi
    refine ⟨rfl,fun j cj hj => ?_⟩
    match j with
    | 0 =>
     simp at hj
     subst hj
     have hi' : i < xs.length := (List.getElem?_eq_some_iff.1 hxi).1
     have := congrArg (·[i]?) r4
     simp only [Nat.mul_one,List.getElem?_take_of_lt hi',List.getElem?_map,hxi,Array.getElem?_toList] at this
     exact ⟨.int .i64 x,by simpa using this, .d _ _ (.v _ rfl)⟩
    | j + 1 => simp at hj)
  refine ⟨_,F,sI (sI μ 0 0 none) 0 0 (some gb),rfl,?_, .own _ _ _ _ rfl (by simp [lks]) fun o ho => ?_⟩
  ·have := hput.1
   rw [List.set_cons_zero,hup] at this
   exact this
  ·simp [lv,lks] at ho
   subst ho
   exact ⟨by simp [aP.len],fun _ => .inr ⟨gb,cc,cur,bV _ _ _ _,rfl,hgb,r3,r1,r2⟩⟩
end Go.Proofs.YtgcdbbidmfdonaaGreatDoor
