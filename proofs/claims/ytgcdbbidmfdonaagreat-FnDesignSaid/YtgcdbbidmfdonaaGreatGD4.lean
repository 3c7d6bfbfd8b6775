/- Texts of this claim, one behind the other (merged by a program of mine). -/
import Derived.Test.YtgcdbbidmfdonaaGreatRows
import Derived.ProofKit
import Derived.OpenShut
import Derived.ShutString
import Derived.ChangeOld
import Derived.Below
import Derived.Deep.Slices
import Derived.Test.YtgcdbbidmfdonaaGreatProg
import Derived.Shelf.SortM.Plain
import Derived.Shelf.SortM.SortNone
import Derived.Ground.SlgmProg
import Derived.Shelf.SlGeneric
import Derived.Sort.OwnSortedInts
import Derived.StillTailTactics
import Derived.Laws.OwnMore
import Derived.Deep.AppendLies
import Derived.Deep.Draws
import Derived.Laws.Rows
import Derived.Shelf.SlicesG.Clone
import Derived.Ground.SlgnProg
import Derived.BigCall
import Derived.Deep.RegionHeld3
import Derived.Test.YtgcdbbidmfdonaaGreatGD3
set_option linter.unusedSimpArgs false
set_option linter.unusedVariables false
namespace Go.Proofs.YtgcdbbidmfdonaaGreat
open Go.ChangeShapes Go.WideShapes Go.ChangeAt Go.RowKit
open Go.ChangeMaps (open_string shut_string)
set_option maxRecDepth 100000
theorem own : ownKnob Tryz.prog.godebug = none := by kernel_rfl
theorem aMy : laidOutB Tryz.prog = true := by kernel_rfl
end Go.Proofs.YtgcdbbidmfdonaaGreat
namespace Go.Proofs.YtgcdbbidmfdonaaGreat
open Go.ChangeShapes Go.WideShapes Go.ChangeAt Go.RowKit Go.Deep
set_option linter.unusedVariables false
set_option maxRecDepth 100000
theorem aPj {w : World} {a : Addr} {v : Value} (h : w.cell? a = some v) : a.block < w.heap.size := by
 unfold World.cell? at h
 cases hb : w.heap[a.block]? with
 | none => simp [hb] at h
 | some b => exact (Array.getElem?_eq_some_iff.1 hb).1
def aQt (w : World) (cs : List Value) (ds : List DV) : Prop := cs.length = ds.length ∧ ∀ (j : Nat) v x,cs[j]? = some v → ds[j]? = some x → wR w (fun b => b < w.heap.size) v x
theorem aKj {w : World} : aQt w [] [] := ⟨rfl,fun j v x h => by simp at h⟩
theorem aG3 {w : World} {v : Value} {x : DV} {cs : List Value} {ds : List DV} (h : wR w (fun b => b < w.heap.size) v x) (k : aQt w cs ds) : aQt w (v :: cs) (x :: ds) := by
 refine ⟨by simp [k.1],fun j a b h1 h2 => ?_⟩
 cases j with
 | zero => simp at h1 h2; subst h1 h2; exact h
 | succ j => simp at h1 h2; exact k.2 j a b h1 h2
theorem aQf {w : World} (k : IntKind) (z : Int) : wR w (fun b => b < w.heap.size) (.int k z) (.v (.int k z)) := .v _ rfl
theorem aO8 {w : World} : ∀ (i : Nat) v a,(List.toArray ([] : List Value))[i]? = some v → ([] : List AV)[i]? = some a → eQ w (fun b => b < w.heap.size) (fun _ _ => none) (lks []) v a := fun i v a h => by simp at h
theorem aF5 {w : World} {v0 : Value} {a0 : AV} {vs : List Value} {bs : List AV} (h : eQ w (fun b => b < w.heap.size) (fun _ _ => none) (lks []) v0 a0) (k : ∀ (i : Nat) v a,vs.toArray[i]? = some v → bs[i]? = some a → eQ w (fun b => b < w.heap.size) (fun _ _ => none) (lks []) v a) :
  ∀ (i : Nat) v a,(v0 :: vs).toArray[i]? = some v → (a0 :: bs)[i]? = some a → eQ w (fun b => b < w.heap.size) (fun _ _ => none) (lks []) v a := fun i v a h1 h2 => by
 cases i with
 | zero => simp at h1 h2; subst h1 h2; exact h
 | succ i =>
  simp at h1 h2
  exact k i v a (by simpa using h1) h2
section
variable {H : Type} {enc : TypeId × Value → H} {W : World} {b0 : Nat} {spare : Nat → Bool} {held : Bool} {aDj : Nat} {cs : List Value} {x : DataW H × List MemPlace}
theorem aT2 {P : Program} {t e : TypeId} {α : Type} [Inhabited α] {a : Value} (f : α → List DV) (ok : α → Prop) (sz : Nat) (hf : ∀ a,(f a).length = sz) (hsz : 0 < sz) (ht : P.underlying t = some (.slice e)) (hC : P.cellsOf e = sz)
  (rd : ∀ (aDj : Nat) (cs : List Value) (x : DataW H × List MemPlace),DataW.trod enc P W b0 spare held aDj e cs = some x → ∃ m,aQt W cs (f m) ∧ ok m)
  (h : ∃ n y,DataW.trod enc P W b0 spare held n t [a] = some y) :
  ∃ xs : List α,wR W (fun b => b < W.heap.size) a (.sl (xs.map f)) ∧ xs.length ≤ 9223372036854775807 ∧ ∀ m ∈ xs,ok m := by
 obtain ⟨n,y,h⟩ := h
 rcases DataW.trod_slice ht h with ⟨h0,_⟩ | ⟨ad,len,cap,elems,rest,n',_,hcs,_,hb,hl,hm,hel,hi,_,_⟩
 ·simp at h0
  subst h0
  exact ⟨[], .nil,by simp,fun m hm => by simp at hm⟩
 ·simp at hcs
  subst hcs
  rw [hC] at hi
  obtain ⟨q,hq⟩ := choose_lt (α := α) (n := len) (p := fun k q => (∃ cs',W.cells? b0 (ad.add (k * sz)) sz = some cs' ∧ aQt W cs' (f q)) ∧ ok q) (fun k hk => by
   have h1 := hi k hk
   rw [List.getElem?_eq_getElem (by omega)] at h1
   obtain ⟨cs',hc,htr⟩ := Option.bind_eq_some_iff.1 h1
   obtain ⟨m,hm1,hm2⟩ := rd _ _ _ htr
   exact ⟨m,⟨cs',hc,hm1⟩,hm2⟩)
  have hxl : ((List.range len).map q).length = len := by simp
  refine ⟨(List.range len).map q,?_,by rw [hxl]; unfold maxLen at hm; omega,fun m hm' => ?_⟩
  ·have hcell : ∀ k,k < len → ∀ j,j < sz → ∃ v,W.cell? (ad.add (k * sz + j)) = some v ∧ ∀ x,(f (q k))[j]? = some x → wR W (fun b => b < W.heap.size) v x := by
    intro k hk j hj
    obtain ⟨⟨cs',hc,hr⟩,_⟩ := hq k hk
    obtain ⟨_,hl',hat⟩ := World.cells?_some hc
    have hjl : j < cs'.length := by rw [hr.1,hf]; exact hj
    refine ⟨cs'[j],?_,fun x hx => hr.2 j _ x (List.getElem?_eq_getElem hjl) hx⟩
    rw [← Go.Deep.add_add, ← List.getElem?_eq_getElem hjl]
    exact hat j hj
   rcases Nat.eq_zero_or_pos len with h0 | h0
   ·subst h0
    exact .emp _ _ hm
   ·obtain ⟨v0,h00,_⟩ := hcell 0 h0 0 hsz
    obtain ⟨b,off,spot⟩ := ad
    have hspot : spot = none := by
     have := World.cell?_spot h00
     simpa [Addr.add] using this
    subst hspot
    have hdd : wR W (fun b => b < W.heap.size) (.slice (some ⟨b,off,none⟩) ((List.range len).map (fun k => f (q k))).length cap) (.sl ((List.range len).map fun k => f (q k))) := by
     refine .sl b off cap sz _ (fun i j => (W.cell? ⟨b,off + i * sz + j,none⟩).getD undef) ?_ (by simpa using hl) hm (fun i e he => ?_) (fun i e j x he hx => ?_) (fun i e j x he hx => ?_)
     ·have h01 := aPj h00
      simp only [Addr.add] at h01
      split at h01 <;> exact h01
     ·rw [List.getElem?_map] at he
      obtain ⟨k,_,rfl⟩ := Option.map_eq_some_iff.1 he
      exact hf _
     all_goals
      rw [List.getElem?_map] at he
      obtain ⟨k,hk,rfl⟩ := Option.map_eq_some_iff.1 he
      obtain ⟨hil,rfl⟩ := List.getElem?_eq_some_iff.1 hk
      simp only [List.length_range] at hil
      simp only [List.getElem_range] at hx
      have hjl : j < sz := by have := (List.getElem?_eq_some_iff.1 hx).1; rw [hf] at this; exact this
      obtain ⟨v,hv,hr⟩ := hcell i hil j hjl
      rw [add_plain, ← Nat.add_assoc] at hv
      rw [hv]
     ·rfl
     ·exact hr x hx
    simpa [List.map_map,Function.comp_def] using hdd
  ·obtain ⟨k,hk,rfl⟩ := List.mem_map.1 hm'
   exact (hq k (by simpa using hk)).2
end
end Go.Proofs.YtgcdbbidmfdonaaGreat
namespace Go.Proofs.YtgcdbbidmfdonaaGreat
open Go.ChangeShapes Go.WideShapes Go.ChangeAt Go.RowKit Go.Deep
set_option linter.unusedVariables false
set_option maxRecDepth 100000
def osI (x : Int) : Prop := -9223372036854775808 ≤ x ∧ x ≤ 9223372036854775807
def aR7 (x : Int) : Prop := 0 ≤ x ∧ x ≤ 255
def osL {α : Type} (ok : α → Prop) (xs : List α) : Prop := xs.length ≤ 9223372036854775807 ∧ ∀ m ∈ xs,ok m
section
variable {H : Type} {enc : TypeId × Value → H} {W : World} {b0 : Nat} {spare : Nat → Bool} {held : Bool} {aDj : Nat} {cs : List Value} {x : DataW H × List MemPlace}
theorem aT1 {P : Program} {t e : TypeId} (ht : P.underlying t = some (.slice e)) (h : DataW.trod enc P W b0 spare held aDj t cs = some x) : ∃ v,cs = [v] := by
 rcases DataW.trod_slice ht h with ⟨h0,_⟩ | ⟨ad,len,cap,elems,rest,n',_,hcs,_⟩
 ·exact ⟨_,h0⟩
 ·exact ⟨_,hcs⟩
theorem aT3 {P : Program} {t e : TypeId} {α : Type} {a : Value} (f : α → List DV) (ok : α → Prop) (sz : Nat) (hf : ∀ a,(f a).length = sz) (hsz : 0 < sz) (ht : P.underlying t = some (.slice e)) (hC : P.cellsOf e = sz)
  (rd : ∀ (aDj : Nat) (cs : List Value) (x : DataW H × List MemPlace),DataW.trod enc P W b0 spare held aDj e cs = some x → ∃ m,aQt W cs (f m) ∧ ok m)
  (h : ∃ n y,DataW.trod enc P W b0 spare held n t [a] = some y) :
  ∃ xs : List α,wR W (fun b => b < W.heap.size) a (.sl (xs.map f)) ∧ xs.length ≤ 9223372036854775807 ∧ ∀ m ∈ xs,ok m := by
 by_cases hne : Nonempty α
 ·haveI : Inhabited α := ⟨Classical.choice hne⟩
  exact aT2 f ok sz hf hsz ht hC rd h
 ·obtain ⟨n,y,h⟩ := h
  rcases DataW.trod_slice ht h with ⟨h0,_⟩ | ⟨ad,len,cap,elems,rest,n',_,hcs,_,hb,hl,hm,hel,hi,_,_⟩
  ·simp at h0
   subst h0
   exact ⟨[], .nil,by simp,fun m hm => by simp at hm⟩
  ·simp at hcs
   subst hcs
   rcases Nat.eq_zero_or_pos len with h0 | h0
   ·subst h0
    exact ⟨[], .emp _ _ hm,by simp,fun m hm => by simp at hm⟩
   ·exfalso
    have h1 := hi 0 h0
    rw [List.getElem?_eq_getElem (by omega)] at h1
    obtain ⟨cs',hc,htr⟩ := Option.bind_eq_some_iff.1 h1
    obtain ⟨m,_⟩ := rd _ _ _ htr
    exact hne ⟨m⟩
end
end Go.Proofs.YtgcdbbidmfdonaaGreat
namespace Go.Proofs.YtgcdbbidmfdonaaGreat
open Go.RowKit
set_option linter.unusedVariables false
set_option maxRecDepth 100000
set_option maxHeartbeats 2000000
end Go.Proofs.YtgcdbbidmfdonaaGreat
namespace Go.Proofs.YtgcdbbidmfdonaaGreat
open Go.ChangeShapes Go.WideShapes Go.ChangeAt Go.RowKit Go.Deep
set_option linter.unusedVariables false
set_option maxRecDepth 100000
set_option maxHeartbeats 2000000
theorem aWm {H : Type} {enc : TypeId × Value → H} {W : World} {b0 : Nat} {spare : Nat → Bool} {held : Bool} {aDj : Nat} {cs : List Value} {x : DataW H × List MemPlace} (h : DataW.trod enc Tryz.prog W b0 spare held aDj 5 cs = some x) : ∃ v : Int,aQt W cs (cU8 v) ∧ aR7 v := by
 obtain ⟨z,rfl,_,hw⟩ := DataW.trod_int Tryz.underlying5 h
 exact ⟨z,aG3 (aQf _ _) aKj,by simpa [aR7,Lit.wf,IntKind.min,IntKind.max,IntKind.bits,IntKind.signed] using hw⟩
theorem aU2 {H : Type} {enc : TypeId × Value → H} {W : World} {b0 : Nat} {spare : Nat → Bool} {held : Bool} {aDj : Nat} {cs : List Value} {x : DataW H × List MemPlace} (h : DataW.trod enc Tryz.prog W b0 spare held aDj 22 cs = some x) : ∃ v : List Int,aQt W cs ((cL cU8) v) ∧ (osL aR7) v := by
 obtain ⟨v,hv⟩ : ∃ v,cs = [v] := aT1 (t := 22) Tryz.underlying22 h
 subst hv
 obtain ⟨xs,hr,hm,hok⟩ := aT3 cU8 aR7 1 (fun _ => rfl) (by omega) Tryz.underlying22 (by kernel_rfl) (fun aDj cs x h => aWm h) ⟨_,_,h⟩
 exact ⟨xs,aG3 hr aKj,hm,hok⟩
theorem aNn {H : Type} {enc : TypeId × Value → H} {W : World} {b0 base : Nat} {spare : Nat → Bool} {held : Bool} {v : Value} {d : DataW H} {p : List MemPlace} (hv : Value.okWide Tryz.prog W .any base 22 v) (h : DataW.Trod enc Tryz.prog W b0 spare held 22 v d p) : ∃ x : List Int,eQ W (fun b => b < W.heap.size) (fun _ _ => none) (lks []) v (.d (.sl (List.map cU8 x))) ∧ (osL aR7) x := by
 obtain ⟨a,len,cap,rfl⟩ := okWide_slice Tryz.underlying22 hv
 obtain ⟨aDj,hf⟩ := h
 obtain ⟨x,hr,hok⟩ := aU2 hf
 exact ⟨x, .d _ _ (hr.2 0 _ _ rfl rfl),hok⟩
end Go.Proofs.YtgcdbbidmfdonaaGreat
namespace Go.Proofs.YtgcdbbidmfdonaaGreat
open Go.RowKit
set_option linter.unusedVariables false
set_option maxRecDepth 100000
theorem ty2 : jK Tryz.prog 2 ⟨.int .i64,1,8, .int .i64 0⟩ := bM (by kernel_rfl)
theorem ty3 : jK Tryz.prog 3 ⟨.int .i64,1,8, .int .i64 0⟩ := bM (by kernel_rfl)
theorem ty4 : jK Tryz.prog 4 ⟨.bool,1,1, .bool false⟩ := bM (by kernel_rfl)
theorem ty5 : jK Tryz.prog 5 ⟨.int .u8,1,1, .int .u8 0⟩ := bM (by kernel_rfl)
theorem ty6 : jK Tryz.prog 6 ⟨.int .u8,1,1, .int .u8 0⟩ := bM (by kernel_rfl)
theorem ty8 : jK Tryz.prog 8 ⟨.struct #[⟨"x",2,0,false, "", "runtime",0⟩,⟨"y",3,1,false, "", "runtime",8⟩,⟨"signed",4,2,false, "", "runtime",16⟩,⟨"code",6,3,false, "", "runtime",17⟩],4,24, .agg #[.int .i64 0, .int .i64 0, .bool false, .int .u8 0]⟩ := bM (by kernel_rfl)
theorem ty9 : jK Tryz.prog 9 ⟨.string,1,16, .string ⟨#[]⟩⟩ := bM (by kernel_rfl)
theorem aWr : jK Tryz.prog 10 ⟨.string,1,16, .string ⟨#[]⟩⟩ := bM (by kernel_rfl)
theorem aWs : jK Tryz.prog 11 ⟨.string,1,16, .string ⟨#[]⟩⟩ := bM (by kernel_rfl)
theorem aWt : jK Tryz.prog 12 ⟨.int .u64,1,8, .int .u64 0⟩ := bM (by kernel_rfl)
theorem aWu : jK Tryz.prog 14 ⟨.struct #[⟨"msg",9,0,false, "", "runtime",0⟩,⟨"addr",12,1,false, "", "runtime",16⟩],2,24, .agg #[.string ⟨#[]⟩, .int .u64 0]⟩ := bM (by kernel_rfl)
theorem aWv : jK Tryz.prog 15 ⟨.pointer 342,1,8, .pointer none⟩ := bM (by kernel_rfl)
theorem aWw : jK Tryz.prog 16 ⟨.pointer 345,1,8, .pointer none⟩ := bM (by kernel_rfl)
theorem aWx : jK Tryz.prog 17 ⟨.pointer 354,1,8, .pointer none⟩ := bM (by kernel_rfl)
theorem aWy : jK Tryz.prog 19 ⟨.struct #[⟨"typ",17,0,false, "", "internal/runtime/maps",0⟩],1,8, .agg #[.pointer none]⟩ := bM (by kernel_rfl)
theorem aWz : jK Tryz.prog 22 ⟨.slice 5,1,24, .slice none 0 0⟩ := bM (by kernel_rfl)
theorem aW0 : jK Tryz.prog 24 ⟨.slice 123,1,24, .slice none 0 0⟩ := bM (by kernel_rfl)
theorem aW1 : jK Tryz.prog 25 ⟨.slice 125,1,24, .slice none 0 0⟩ := bM (by kernel_rfl)
theorem aW2 : jK Tryz.prog 27 ⟨.struct #[⟨"Arbors",24,0,false, "", "",0⟩,⟨"Meshes",25,1,false, "", "",24⟩],2,48, .agg #[.slice none 0 0, .slice none 0 0]⟩ := bM (by kernel_rfl)
theorem aW3 : jK Tryz.prog 28 ⟨.slice 170,1,24, .slice none 0 0⟩ := bM (by kernel_rfl)
theorem aW4 : jK Tryz.prog 29 ⟨.slice 181,1,24, .slice none 0 0⟩ := bM (by kernel_rfl)
theorem aW5 : jK Tryz.prog 31 ⟨.struct #[⟨"Name",9,0,false, "", "",0⟩,⟨"Months",28,1,false, "", "",16⟩,⟨"Rules",29,2,false, "", "",40⟩,⟨"Week",2,3,false, "", "",64⟩],4,72, .agg #[.string ⟨#[]⟩, .slice none 0 0, .slice none 0 0, .int .i64 0]⟩ := bM (by kernel_rfl)
theorem aW6 : jK Tryz.prog 32 ⟨.slice 2,1,24, .slice none 0 0⟩ := bM (by kernel_rfl)
theorem aW7 : jK Tryz.prog 34 ⟨.struct #[⟨"Name",9,0,false, "", "",0⟩,⟨"Works",27,1,false, "", "",16⟩,⟨"Minute",2,3,false, "", "",64⟩,⟨"Hour",2,4,false, "", "",72⟩,⟨"Escape",2,5,false, "", "",80⟩,⟨"Teeth",2,6,false, "", "",88⟩,⟨"Beats",2,7,false, "", "",96⟩,⟨"Calendar",31,8,false, "", "",104⟩,⟨"Cam",32,12,false, "", "",176⟩,⟨"Strike",2,13,false, "", "",200⟩],14,208, .agg #[.string ⟨#[]⟩, .slice none 0 0, .slice none 0 0, .int .i64 0, .int .i64 0, .int .i64 0, .int .i64 0, .int .i64 0, .string ⟨#[]⟩, .slice none 0 0, .slice none 0 0, .int .i64 0, .slice none 0 0, .int .i64 0]⟩ := bM (by kernel_rfl)
theorem aW8 : jK Tryz.prog 36 ⟨.struct #[⟨"Year",2,0,false, "", "",0⟩,⟨"Month",2,1,false, "", "",8⟩,⟨"Day",2,2,false, "", "",16⟩],3,24, .agg #[.int .i64 0, .int .i64 0, .int .i64 0]⟩ := bM (by kernel_rfl)
theorem aW9 : jK Tryz.prog 38 ⟨.struct #[⟨"Cam",32,0,false, "", "",0⟩,⟨"Months",2,1,false, "", "",24⟩,⟨"Teeth",2,2,false, "", "",32⟩,⟨"At",2,3,false, "", "",40⟩,⟨"Day",2,4,false, "", "",48⟩,⟨"Week",2,5,false, "", "",56⟩,⟨"Weekday",2,6,false, "", "",64⟩],7,72, .agg #[.slice none 0 0, .int .i64 0, .int .i64 0, .int .i64 0, .int .i64 0, .int .i64 0, .int .i64 0]⟩ := bM (by kernel_rfl)
theorem aXa : jK Tryz.prog 40 ⟨.struct #[⟨"Movement",34,0,false, "", "",0⟩,⟨"Start",36,14,false, "", "",208⟩,⟨"First",2,17,false, "", "",232⟩,⟨"Clock",2,18,false, "", "",240⟩,⟨"Dial",38,19,false, "", "",248⟩],26,320, .agg #[.string ⟨#[]⟩, .slice none 0 0, .slice none 0 0, .int .i64 0, .int .i64 0, .int .i64 0, .int .i64 0, .int .i64 0, .string ⟨#[]⟩, .slice none 0 0, .slice none 0 0, .int .i64 0, .slice none 0 0, .int .i64 0, .int .i64 0, .int .i64 0, .int .i64 0, .int .i64 0, .int .i64 0, .slice none 0 0, .int .i64 0, .int .i64 0, .int .i64 0, .int .i64 0, .int .i64 0, .int .i64 0]⟩ := bM (by kernel_rfl)
theorem aXb : jK Tryz.prog 53 ⟨.slice 177,1,24, .slice none 0 0⟩ := bM (by kernel_rfl)
theorem aXc : jK Tryz.prog 62 ⟨.struct #[⟨"Num",2,0,false, "", "",0⟩,⟨"Den",2,1,false, "", "",8⟩],2,16, .agg #[.int .i64 0, .int .i64 0]⟩ := bM (by kernel_rfl)
theorem aXd : jK Tryz.prog 66 ⟨.slice 9,1,24, .slice none 0 0⟩ := bM (by kernel_rfl)
theorem aXe : jK Tryz.prog 71 ⟨.slice 200,1,24, .slice none 0 0⟩ := bM (by kernel_rfl)
theorem aXf : jK Tryz.prog 72 ⟨.slice 215,1,24, .slice none 0 0⟩ := bM (by kernel_rfl)
theorem aXg : jK Tryz.prog 74 ⟨.struct #[⟨"Name",9,0,false, "", "",0⟩,⟨"Months",71,1,false, "", "",16⟩,⟨"Rules",72,2,false, "", "",40⟩,⟨"Week",2,3,false, "", "",64⟩],4,72, .agg #[.string ⟨#[]⟩, .slice none 0 0, .slice none 0 0, .int .i64 0]⟩ := bM (by kernel_rfl)
theorem aXh : jK Tryz.prog 82 ⟨.pointer 157,1,8, .pointer none⟩ := bM (by kernel_rfl)
theorem aXi : jK Tryz.prog 87 ⟨.pointer 34,1,8, .pointer none⟩ := bM (by kernel_rfl)
theorem aXj : jK Tryz.prog 94 ⟨.pointer 40,1,8, .pointer none⟩ := bM (by kernel_rfl)
theorem aU6 : jK Tryz.prog 113 ⟨.slice 121,1,24, .slice none 0 0⟩ := bM (by kernel_rfl)
theorem aU7 : jK Tryz.prog 115 ⟨.struct #[⟨"Train",113,0,false, "", "",0⟩,⟨"Error",62,1,false, "", "",24⟩],3,40, .agg #[.slice none 0 0, .int .i64 0, .int .i64 0]⟩ := bM (by kernel_rfl)
theorem aU8 : jK Tryz.prog 119 ⟨.struct #[⟨"LowDriver",2,0,false, "", "",0⟩,⟨"HighDriver",2,1,false, "", "",8⟩,⟨"LowDriven",2,2,false, "", "",16⟩,⟨"HighDriven",2,3,false, "", "",24⟩,⟨"Stages",2,4,false, "", "",32⟩],5,40, .agg #[.int .i64 0, .int .i64 0, .int .i64 0, .int .i64 0, .int .i64 0]⟩ := bM (by kernel_rfl)
theorem aU9 : jK Tryz.prog 121 ⟨.struct #[⟨"Driver",2,0,false, "", "",0⟩,⟨"Driven",2,1,false, "", "",8⟩],2,16, .agg #[.int .i64 0, .int .i64 0]⟩ := bM (by kernel_rfl)
theorem aVa : jK Tryz.prog 123 ⟨.struct #[⟨"Name",9,0,false, "", "",0⟩,⟨"Wheels",32,1,false, "", "",16⟩],2,40, .agg #[.string ⟨#[]⟩, .slice none 0 0]⟩ := bM (by kernel_rfl)
theorem aVb : jK Tryz.prog 125 ⟨.struct #[⟨"A",2,0,false, "", "",0⟩,⟨"WheelA",2,1,false, "", "",8⟩,⟨"B",2,2,false, "", "",16⟩,⟨"WheelB",2,3,false, "", "",24⟩],4,32, .agg #[.int .i64 0, .int .i64 0, .int .i64 0, .int .i64 0]⟩ := bM (by kernel_rfl)
theorem aVc : jK Tryz.prog 128 ⟨.slice 62,1,24, .slice none 0 0⟩ := bM (by kernel_rfl)
theorem aVd : jK Tryz.prog 140 ⟨.pointer 31,1,8, .pointer none⟩ := bM (by kernel_rfl)
theorem aVe : jK Tryz.prog 155 ⟨.int .u64,1,8, .int .u64 0⟩ := bM (by kernel_rfl)
theorem aVf : jK Tryz.prog 157 ⟨.struct #[⟨"code",22,0,false, "", "loop.example/g00921/spec",0⟩,⟨"at",3,1,false, "", "loop.example/g00921/spec",24⟩,⟨"seed",155,2,false, "", "loop.example/g00921/spec",32⟩],3,40, .agg #[.slice none 0 0, .int .i64 0, .int .u64 0]⟩ := bM (by kernel_rfl)
theorem aVg : jK Tryz.prog 163 ⟨.pointer 38,1,8, .pointer none⟩ := bM (by kernel_rfl)
theorem aVh : jK Tryz.prog 170 ⟨.struct #[⟨"Name",9,0,false, "", "",0⟩,⟨"Days",2,1,false, "", "",16⟩,⟨"Leap",2,2,false, "", "",24⟩],3,32, .agg #[.string ⟨#[]⟩, .int .i64 0, .int .i64 0]⟩ := bM (by kernel_rfl)
theorem aVi : jK Tryz.prog 177 ⟨.struct #[⟨"Year",2,0,false, "", "",0⟩,⟨"Month",2,1,false, "", "",8⟩,⟨"Shown",2,2,false, "", "",16⟩,⟨"Right",2,3,false, "", "",24⟩],4,32, .agg #[.int .i64 0, .int .i64 0, .int .i64 0, .int .i64 0]⟩ := bM (by kernel_rfl)
theorem aVj : jK Tryz.prog 181 ⟨.struct #[⟨"Every",2,0,false, "", "",0⟩,⟨"Rest",2,1,false, "", "",8⟩,⟨"Leap",4,2,false, "", "",16⟩],3,24, .agg #[.int .i64 0, .int .i64 0, .bool false]⟩ := bM (by kernel_rfl)
theorem aVk : jK Tryz.prog 197 ⟨.pointer 27,1,8, .pointer none⟩ := bM (by kernel_rfl)
theorem aVl : jK Tryz.prog 200 ⟨.struct #[⟨"Name",9,0,false, "", "",0⟩,⟨"Days",2,1,false, "", "",16⟩,⟨"Leap",2,2,false, "", "",24⟩],3,32, .agg #[.string ⟨#[]⟩, .int .i64 0, .int .i64 0]⟩ := bM (by kernel_rfl)
theorem aVm : jK Tryz.prog 211 ⟨.pointer 119,1,8, .pointer none⟩ := bM (by kernel_rfl)
theorem aVn : jK Tryz.prog 215 ⟨.struct #[⟨"Every",2,0,false, "", "",0⟩,⟨"Rest",2,1,false, "", "",8⟩,⟨"Leap",4,2,false, "", "",16⟩],3,24, .agg #[.int .i64 0, .int .i64 0, .bool false]⟩ := bM (by kernel_rfl)
theorem aVo : jK Tryz.prog 237 ⟨.int .u64,1,8, .int .u64 0⟩ := bM (by kernel_rfl)
theorem aVp : jK Tryz.prog 243 ⟨.map 2 255,1,8, .map none⟩ := bM (by kernel_rfl)
theorem aVq : jK Tryz.prog 245 ⟨.struct #[⟨"products",32,0,false, "", "loop.example/g00921/impl",0⟩,⟨"lists",243,1,false, "", "loop.example/g00921/impl",24⟩],2,32, .agg #[.slice none 0 0, .map none]⟩ := bM (by kernel_rfl)
theorem aVr : jK Tryz.prog 247 ⟨.slice 252,1,24, .slice none 0 0⟩ := bM (by kernel_rfl)
theorem aVs : jK Tryz.prog 252 ⟨.struct #[⟨"p",2,0,false, "", "loop.example/g00921/impl",0⟩,⟨"q",2,1,false, "", "loop.example/g00921/impl",8⟩,⟨"far",2,2,false, "", "loop.example/g00921/impl",16⟩],3,24, .agg #[.int .i64 0, .int .i64 0, .int .i64 0]⟩ := bM (by kernel_rfl)
theorem aVt : jK Tryz.prog 255 ⟨.slice 32,1,24, .slice none 0 0⟩ := bM (by kernel_rfl)
theorem aVu : jK Tryz.prog 267 ⟨.pointer 123,1,8, .pointer none⟩ := bM (by kernel_rfl)
theorem aVv : jK Tryz.prog 281 ⟨.slice 4,1,24, .slice none 0 0⟩ := bM (by kernel_rfl)
theorem aVw : jK Tryz.prog 299 ⟨.slice 306,1,24, .slice none 0 0⟩ := bM (by kernel_rfl)
theorem aVx : jK Tryz.prog 302 ⟨.pointer 304,1,8, .pointer none⟩ := bM (by kernel_rfl)
theorem aVy : jK Tryz.prog 304 ⟨.struct #[⟨"driver",2,0,false, "", "loop.example/g00921/spec",0⟩,⟨"driven",2,1,false, "", "loop.example/g00921/spec",8⟩,⟨"off",2,2,false, "", "loop.example/g00921/spec",16⟩,⟨"train",113,3,false, "", "loop.example/g00921/spec",24⟩],4,48, .agg #[.int .i64 0, .int .i64 0, .int .i64 0, .slice none 0 0]⟩ := bM (by kernel_rfl)
theorem aVz : jK Tryz.prog 306 ⟨.struct #[⟨"value",2,0,false, "", "loop.example/g00921/spec",0⟩,⟨"teeth",32,1,false, "", "loop.example/g00921/spec",8⟩],2,32, .agg #[.int .i64 0, .slice none 0 0]⟩ := bM (by kernel_rfl)
theorem aV0 : jK Tryz.prog 309 ⟨.pointer 306,1,8, .pointer none⟩ := bM (by kernel_rfl)
theorem aV1 : jK Tryz.prog 316 ⟨.slice 3,1,24, .slice none 0 0⟩ := bM (by kernel_rfl)
theorem aV2 : jK Tryz.prog 321 ⟨.int .i64,1,8, .int .i64 0⟩ := bM (by kernel_rfl)
theorem aV3 : jK Tryz.prog 328 ⟨.int .u32,1,4, .int .u32 0⟩ := bM (by kernel_rfl)
theorem aV4 : jK Tryz.prog 331 ⟨.int .u64,1,8, .int .u64 0⟩ := bM (by kernel_rfl)
theorem aV5 : jK Tryz.prog 335 ⟨.pointer 3,1,8, .pointer none⟩ := bM (by kernel_rfl)
theorem aV6 : jK Tryz.prog 337 ⟨.pointer 331,1,8, .pointer none⟩ := bM (by kernel_rfl)
theorem aV7 : jK Tryz.prog 348 ⟨.int .u8,1,1, .int .u8 0⟩ := bM (by kernel_rfl)
def tt : Tab := jR (jR (jR (jR (jR (jR (jR (jR (jR (jR (jR (jR (jR (jR (jR (jR (jR (jR (jR (jR (jR (jR (jR (jR (jR (jR (jR (jR (jR (jR (jR (jR (jR (jR (jR (jR (jR (jR (jR (jR (jR (jR (jR (jR (jR (jR (jR (jR (jR (jR (jR (jR (jR (jR (jR (jR (jR (jR (jR (jR (jR (jR (jR (jR (jR (jR (jR (jR (jR (jR (jR (jR (jR (jR ((fun _ => none)) 2 ⟨.int .i64,1,8, .int .i64 0⟩) 3 ⟨.int .i64,1,8, .int .i64 0⟩) 4 ⟨.bool,1,1, .bool false⟩) 5 ⟨.int .u8,1,1, .int .u8 0⟩) 6 ⟨.int .u8,1,1, .int .u8 0⟩) 8 ⟨.struct #[⟨"x",2,0,false, "", "runtime",0⟩,⟨"y",3,1,false, "", "runtime",8⟩,⟨"signed",4,2,false, "", "runtime",16⟩,⟨"code",6,3,false, "", "runtime",17⟩],4,24, .agg #[.int .i64 0, .int .i64 0, .bool false, .int .u8 0]⟩) 9 ⟨.string,1,16, .string ⟨#[]⟩⟩) 10 ⟨.string,1,16, .string ⟨#[]⟩⟩) 11 ⟨.string,1,16, .string ⟨#[]⟩⟩) 12 ⟨.int .u64,1,8, .int .u64 0⟩) 14 ⟨.struct #[⟨"msg",9,0,false, "", "runtime",0⟩,⟨"addr",12,1,false, "", "runtime",16⟩],2,24, .agg #[.string ⟨#[]⟩, .int .u64 0]⟩) 15 ⟨.pointer 342,1,8, .pointer none⟩) 16 ⟨.pointer 345,1,8, .pointer none⟩) 17 ⟨.pointer 354,1,8, .pointer none⟩) 19 ⟨.struct #[⟨"typ",17,0,false, "", "internal/runtime/maps",0⟩],1,8, .agg #[.pointer none]⟩) 22 ⟨.slice 5,1,24, .slice none 0 0⟩) 24 ⟨.slice 123,1,24, .slice none 0 0⟩) 25 ⟨.slice 125,1,24, .slice none 0 0⟩) 27 ⟨.struct #[⟨"Arbors",24,0,false, "", "",0⟩,⟨"Meshes",25,1,false, "", "",24⟩],2,48, .agg #[.slice none 0 0, .slice none 0 0]⟩) 28 ⟨.slice 170,1,24, .slice none 0 0⟩) 29 ⟨.slice 181,1,24, .slice none 0 0⟩) 31 ⟨.struct #[⟨"Name",9,0,false, "", "",0⟩,⟨"Months",28,1,false, "", "",16⟩,⟨"Rules",29,2,false, "", "",40⟩,⟨"Week",2,3,false, "", "",64⟩],4,72, .agg #[.string ⟨#[]⟩, .slice none 0 0, .slice none 0 0, .int .i64 0]⟩) 32 ⟨.slice 2,1,24, .slice none 0 0⟩) 34 ⟨.struct #[⟨"Name",9,0,false, "", "",0⟩,⟨"Works",27,1,false, "", "",16⟩,⟨"Minute",2,3,false, "", "",64⟩,⟨"Hour",2,4,false, "", "",72⟩,⟨"Escape",2,5,false, "", "",80⟩,⟨"Teeth",2,6,false, "", "",88⟩,⟨"Beats",2,7,false, "", "",96⟩,⟨"Calendar",31,8,false, "", "",104⟩,⟨"Cam",32,12,false, "", "",176⟩,⟨"Strike",2,13,false, "", "",200⟩],14,208, .agg #[.string ⟨#[]⟩, .slice none 0 0, .slice none 0 0, .int .i64 0, .int .i64 0, .int .i64 0, .int .i64 0, .int .i64 0, .string ⟨#[]⟩, .slice none 0 0, .slice none 0 0, .int .i64 0, .slice none 0 0, .int .i64 0]⟩) 36 ⟨.struct #[⟨"Year",2,0,false, "", "",0⟩,⟨"Month",2,1,false, "", "",8⟩,⟨"Day",2,2,false, "", "",16⟩],3,24, .agg #[.int .i64 0, .int .i64 0, .int .i64 0]⟩) 38 ⟨.struct #[⟨"Cam",32,0,false, "", "",0⟩,⟨"Months",2,1,false, "", "",24⟩,⟨"Teeth",2,2,false, "", "",32⟩,⟨"At",2,3,false, "", "",40⟩,⟨"Day",2,4,false, "", "",48⟩,⟨"Week",2,5,false, "", "",56⟩,⟨"Weekday",2,6,false, "", "",64⟩],7,72, .agg #[.slice none 0 0, .int .i64 0, .int .i64 0, .int .i64 0, .int .i64 0, .int .i64 0, .int .i64 0]⟩) 40 ⟨.struct #[⟨"Movement",34,0,false, "", "",0⟩,⟨"Start",36,14,false, "", "",208⟩,⟨"First",2,17,false, "", "",232⟩,⟨"Clock",2,18,false, "", "",240⟩,⟨"Dial",38,19,false, "", "",248⟩],26,320, .agg #[.string ⟨#[]⟩, .slice none 0 0, .slice none 0 0, .int .i64 0, .int .i64 0, .int .i64 0, .int .i64 0, .int .i64 0, .string ⟨#[]⟩, .slice none 0 0, .slice none 0 0, .int .i64 0, .slice none 0 0, .int .i64 0, .int .i64 0, .int .i64 0, .int .i64 0, .int .i64 0, .int .i64 0, .slice none 0 0, .int .i64 0, .int .i64 0, .int .i64 0, .int .i64 0, .int .i64 0, .int .i64 0]⟩) 53 ⟨.slice 177,1,24, .slice none 0 0⟩) 62 ⟨.struct #[⟨"Num",2,0,false, "", "",0⟩,⟨"Den",2,1,false, "", "",8⟩],2,16, .agg #[.int .i64 0, .int .i64 0]⟩) 66 ⟨.slice 9,1,24, .slice none 0 0⟩) 71 ⟨.slice 200,1,24, .slice none 0 0⟩) 72 ⟨.slice 215,1,24, .slice none 0 0⟩) 74 ⟨.struct #[⟨"Name",9,0,false, "", "",0⟩,⟨"Months",71,1,false, "", "",16⟩,⟨"Rules",72,2,false, "", "",40⟩,⟨"Week",2,3,false, "", "",64⟩],4,72, .agg #[.string ⟨#[]⟩, .slice none 0 0, .slice none 0 0, .int .i64 0]⟩) 82 ⟨.pointer 157,1,8, .pointer none⟩) 87 ⟨.pointer 34,1,8, .pointer none⟩) 94 ⟨.pointer 40,1,8, .pointer none⟩) 113 ⟨.slice 121,1,24, .slice none 0 0⟩) 115 ⟨.struct #[⟨"Train",113,0,false, "", "",0⟩,⟨"Error",62,1,false, "", "",24⟩],3,40, .agg #[.slice none 0 0, .int .i64 0, .int .i64 0]⟩) 119 ⟨.struct #[⟨"LowDriver",2,0,false, "", "",0⟩,⟨"HighDriver",2,1,false, "", "",8⟩,⟨"LowDriven",2,2,false, "", "",16⟩,⟨"HighDriven",2,3,false, "", "",24⟩,⟨"Stages",2,4,false, "", "",32⟩],5,40, .agg #[.int .i64 0, .int .i64 0, .int .i64 0, .int .i64 0, .int .i64 0]⟩) 121 ⟨.struct #[⟨"Driver",2,0,false, "", "",0⟩,⟨"Driven",2,1,false, "", "",8⟩],2,16, .agg #[.int .i64 0, .int .i64 0]⟩) 123 ⟨.struct #[⟨"Name",9,0,false, "", "",0⟩,⟨"Wheels",32,1,false, "", "",16⟩],2,40, .agg #[.string ⟨#[]⟩, .slice none 0 0]⟩) 125 ⟨.struct #[⟨"A",2,0,false, "", "",0⟩,⟨"WheelA",2,1,false, "", "",8⟩,⟨"B",2,2,false, "", "",16⟩,⟨"WheelB",2,3,false, "", "",24⟩],4,32, .agg #[.int .i64 0, .int .i64 0, .int .i64 0, .int .i64 0]⟩) 128 ⟨.slice 62,1,24, .slice none 0 0⟩) 140 ⟨.pointer 31,1,8, .pointer none⟩) 155 ⟨.int .u64,1,8, .int .u64 0⟩) 157 ⟨.struct #[⟨"code",22,0,false, "", "loop.example/g00921/spec",0⟩,⟨"at",3,1,false, "", "loop.example/g00921/spec",24⟩,⟨"seed",155,2,false, "", "loop.example/g00921/spec",32⟩],3,40, .agg #[.slice none 0 0, .int .i64 0, .int .u64 0]⟩) 163 ⟨.pointer 38,1,8, .pointer none⟩) 170 ⟨.struct #[⟨"Name",9,0,false, "", "",0⟩,⟨"Days",2,1,false, "", "",16⟩,⟨"Leap",2,2,false, "", "",24⟩],3,32, .agg #[.string ⟨#[]⟩, .int .i64 0, .int .i64 0]⟩) 177 ⟨.struct #[⟨"Year",2,0,false, "", "",0⟩,⟨"Month",2,1,false, "", "",8⟩,⟨"Shown",2,2,false, "", "",16⟩,⟨"Right",2,3,false, "", "",24⟩],4,32, .agg #[.int .i64 0, .int .i64 0, .int .i64 0, .int .i64 0]⟩) 181 ⟨.struct #[⟨"Every",2,0,false, "", "",0⟩,⟨"Rest",2,1,false, "", "",8⟩,⟨"Leap",4,2,false, "", "",16⟩],3,24, .agg #[.int .i64 0, .int .i64 0, .bool false]⟩) 197 ⟨.pointer 27,1,8, .pointer none⟩) 200 ⟨.struct #[⟨"Name",9,0,false, "", "",0⟩,⟨"Days",2,1,false, "", "",16⟩,⟨"Leap",2,2,false, "", "",24⟩],3,32, .agg #[.string ⟨#[]⟩, .int .i64 0, .int .i64 0]⟩) 211 ⟨.pointer 119,1,8, .pointer none⟩) 215 ⟨.struct #[⟨"Every",2,0,false, "", "",0⟩,⟨"Rest",2,1,false, "", "",8⟩,⟨"Leap",4,2,false, "", "",16⟩],3,24, .agg #[.int .i64 0, .int .i64 0, .bool false]⟩) 237 ⟨.int .u64,1,8, .int .u64 0⟩) 243 ⟨.map 2 255,1,8, .map none⟩) 245 ⟨.struct #[⟨"products",32,0,false, "", "loop.example/g00921/impl",0⟩,⟨"lists",243,1,false, "", "loop.example/g00921/impl",24⟩],2,32, .agg #[.slice none 0 0, .map none]⟩) 247 ⟨.slice 252,1,24, .slice none 0 0⟩) 252 ⟨.struct #[⟨"p",2,0,false, "", "loop.example/g00921/impl",0⟩,⟨"q",2,1,false, "", "loop.example/g00921/impl",8⟩,⟨"far",2,2,false, "", "loop.example/g00921/impl",16⟩],3,24, .agg #[.int .i64 0, .int .i64 0, .int .i64 0]⟩) 255 ⟨.slice 32,1,24, .slice none 0 0⟩) 267 ⟨.pointer 123,1,8, .pointer none⟩) 281 ⟨.slice 4,1,24, .slice none 0 0⟩) 299 ⟨.slice 306,1,24, .slice none 0 0⟩) 302 ⟨.pointer 304,1,8, .pointer none⟩) 304 ⟨.struct #[⟨"driver",2,0,false, "", "loop.example/g00921/spec",0⟩,⟨"driven",2,1,false, "", "loop.example/g00921/spec",8⟩,⟨"off",2,2,false, "", "loop.example/g00921/spec",16⟩,⟨"train",113,3,false, "", "loop.example/g00921/spec",24⟩],4,48, .agg #[.int .i64 0, .int .i64 0, .int .i64 0, .slice none 0 0]⟩) 306 ⟨.struct #[⟨"value",2,0,false, "", "loop.example/g00921/spec",0⟩,⟨"teeth",32,1,false, "", "loop.example/g00921/spec",8⟩],2,32, .agg #[.int .i64 0, .slice none 0 0]⟩) 309 ⟨.pointer 306,1,8, .pointer none⟩) 316 ⟨.slice 3,1,24, .slice none 0 0⟩) 321 ⟨.int .i64,1,8, .int .i64 0⟩) 328 ⟨.int .u32,1,4, .int .u32 0⟩) 331 ⟨.int .u64,1,8, .int .u64 0⟩) 335 ⟨.pointer 3,1,8, .pointer none⟩) 337 ⟨.pointer 331,1,8, .pointer none⟩) 348 ⟨.int .u8,1,1, .int .u8 0⟩
theorem tok : TOk Tryz.prog tt := (bL (bL (bL (bL (bL (bL (bL (bL (bL (bL (bL (bL (bL (bL (bL (bL (bL (bL (bL (bL (bL (bL (bL (bL (bL (bL (bL (bL (bL (bL (bL (bL (bL (bL (bL (bL (bL (bL (bL (bL (bL (bL (bL (bL (bL (bL (bL (bL (bL (bL (bL (bL (bL (bL (bL (bL (bL (bL (bL (bL (bL (bL (bL (bL (bL (bL (bL (bL (bL (bL (bL (bL (bL (bL (aSr _) ty2) ty3) ty4) ty5) ty6) ty8) ty9) aWr) aWs) aWt) aWu) aWv) aWw) aWx) aWy) aWz) aW0) aW1) aW2) aW3) aW4) aW5) aW6) aW7) aW8) aW9) aXa) aXb) aXc) aXd) aXe) aXf) aXg) aXh) aXi) aXj) aU6) aU7) aU8) aU9) aVa) aVb) aVc) aVd) aVe) aVf) aVg) aVh) aVi) aVj) aVk) aVl) aVm) aVn) aVo) aVp) aVq) aVr) aVs) aVt) aVu) aVv) aVw) aVx) aVy) aVz) aV0) aV1) aV2) aV3) aV4) aV5) aV6) aV7)
theorem follows : Tryz.prog.follows .mixedOrders = true := by kernel_rfl
end Go.Proofs.YtgcdbbidmfdonaaGreat
namespace Go.Proofs
open Go.Shelf
def Tryz.laySlLaysMn5_ren : Go.Shelf.Ren := ⟨fun | 5 => 258 | 8 => 282 | 7 => 281 | 19 => 297 | 20 => 298 | 10 => 288 | 11 => 289 | 12 => 290 | 13 => 291 | 14 => 292 | 15 => 293 | 16 => 294 | 17 => 295 | 18 => 296 | 30 => 302 | 31 => 303 | 32 => 304 | 33 => 305 | 34 => 306 | 35 => 259 | 40 => 307 | n => n,fun | 23 => 32 | 25 => 2 | 3 => 3 | 32 => 237 | 22 => 32 | 0 => 0 | 44 => 328 | 46 => 155 | 4 => 4 | 36 => 322 | 35 => 321 | 41 => 248 | 5 => 5 | 9 => 9 | 53 => 331 | 57 => 335 | 63 => 337 | 64 => 338 | n => n,fun | n => n⟩
theorem Tryz.laySlLaysMn5 : Go.Proofs.SlLaysM.n5 Tryz.prog Tryz.laySlLaysMn5_ren := {
 mixed := by kernel_rfl
 f5 := ⟨Tryz.f258.name,by decide,Tryz.func258.trans (congrArg some (by kernel_rfl))⟩
 f7 := ⟨Tryz.f281.name,by decide,Tryz.func281.trans (congrArg some (by kernel_rfl))⟩
 f8 := Tryz.func282.trans (congrArg some (by kernel_rfl))
 f10 := ⟨Tryz.f288.name,by decide,Tryz.func288.trans (congrArg some (by kernel_rfl))⟩
 f11 := ⟨Tryz.f289.name,by decide,Tryz.func289.trans (congrArg some (by kernel_rfl))⟩
 f12 := ⟨Tryz.f290.name,by decide,Tryz.func290.trans (congrArg some (by kernel_rfl))⟩
 f13 := ⟨Tryz.f291.name,by decide,Tryz.func291.trans (congrArg some (by kernel_rfl))⟩
 f14 := ⟨Tryz.f292.name,by decide,Tryz.func292.trans (congrArg some (by kernel_rfl))⟩
 f15 := ⟨Tryz.f293.name,by decide,Tryz.func293.trans (congrArg some (by kernel_rfl))⟩
 f16 := ⟨Tryz.f294.name,by decide,Tryz.func294.trans (congrArg some (by kernel_rfl))⟩
 f17 := ⟨Tryz.f295.name,by decide,Tryz.func295.trans (congrArg some (by kernel_rfl))⟩
 f18 := ⟨Tryz.f296.name,by decide,Tryz.func296.trans (congrArg some (by kernel_rfl))⟩
 f19 := Tryz.func297.trans (congrArg some (by kernel_rfl))
 f20 := Tryz.func298.trans (congrArg some (by kernel_rfl))
 f30 := ⟨Tryz.f302.name,by decide,Tryz.func302.trans (congrArg some (by kernel_rfl))⟩
 f31 := Tryz.func303.trans (congrArg some (by kernel_rfl))
 f32 := Tryz.func304.trans (congrArg some (by kernel_rfl))
 f33 := ⟨Tryz.f305.name,by decide,Tryz.func305.trans (congrArg some (by kernel_rfl))⟩
 f34 := ⟨Tryz.f306.name,by decide,Tryz.func306.trans (congrArg some (by kernel_rfl))⟩
 f35 := ⟨Tryz.f259.name,by decide,Tryz.func259.trans (congrArg some (by kernel_rfl))⟩
 f40 := ⟨Tryz.f307.name,by decide,Tryz.func307.trans (congrArg some (by kernel_rfl))⟩
 t0 := Tryz.underlying0
 a0 := Tryz.isAgg0
 z0 := Tryz.sizeOf0
 v0 := Tryz.zeroValue0
 t3 := Tryz.underlying3
 a3 := Tryz.isAgg3
 z3 := Tryz.sizeOf3
 v3 := Tryz.zeroValue3
 t4 := Tryz.underlying4
 a4 := Tryz.isAgg4
 z4 := Tryz.sizeOf4
 v4 := Tryz.zeroValue4
 t5 := Tryz.underlying5
 a5 := Tryz.isAgg5
 z5 := Tryz.sizeOf5
 v5 := Tryz.zeroValue5
 t9 := Tryz.underlying9
 a9 := Tryz.isAgg9
 z9 := Tryz.sizeOf9
 v9 := Tryz.zeroValue9
 t22 := Tryz.underlying32
 a22 := Tryz.isAgg32
 z22 := Tryz.sizeOf32
 v22 := Tryz.zeroValue32
 t23 := Tryz.underlying32
 a23 := Tryz.isAgg32
 z23 := Tryz.sizeOf32
 v23 := Tryz.zeroValue32
 t25 := Tryz.underlying2
 a25 := Tryz.isAgg2
 z25 := Tryz.sizeOf2
 v25 := Tryz.zeroValue2
 t32 := Tryz.underlying237
 a32 := Tryz.isAgg237
 z32 := Tryz.sizeOf237
 v32 := Tryz.zeroValue237
 t35 := Tryz.underlying321
 a35 := Tryz.isAgg321
 z35 := Tryz.sizeOf321
 v35 := Tryz.zeroValue321
 t36 := Tryz.underlying322
 a36 := Tryz.isAgg322
 z36 := Tryz.sizeOf322
 v36 := Tryz.zeroValue322
 t41 := Tryz.underlying248
 a41 := Tryz.isAgg248
 z41 := Tryz.sizeOf248
 v41 := Tryz.zeroValue248
 t44 := Tryz.underlying328
 a44 := Tryz.isAgg328
 z44 := Tryz.sizeOf328
 v44 := Tryz.zeroValue328
 t46 := Tryz.underlying155
 a46 := Tryz.isAgg155
 z46 := Tryz.sizeOf155
 v46 := Tryz.zeroValue155
 t53 := Tryz.underlying331
 a53 := Tryz.isAgg331
 z53 := Tryz.sizeOf331
 v53 := Tryz.zeroValue331
 t57 := Tryz.underlying335
 a57 := Tryz.isAgg335
 z57 := Tryz.sizeOf335
 v57 := Tryz.zeroValue335
 t63 := Tryz.underlying337
 a63 := Tryz.isAgg337
 z63 := Tryz.sizeOf337
 v63 := Tryz.zeroValue337
 t64 := Tryz.underlying338
 a64 := Tryz.isAgg338
 z64 := Tryz.sizeOf338
 v64 := Tryz.zeroValue338 }
end Go.Proofs
namespace Go.Proofs.YtgcdbbidmfdonaaGreat
open Go.Shelf Go.RowKit Go.Sort
set_option linter.unusedVariables false
set_option maxRecDepth 100000
end Go.Proofs.YtgcdbbidmfdonaaGreat
namespace Go.Proofs.YtgcdbbidmfdonaaGreat
open Go.RowKit
set_option linter.unusedVariables false
set_option maxRecDepth 100000
def Row (w : World) (A : Option Addr) (xs : List Value) : Prop :=
 xs = [] ∨ ∃ b off,A = some ⟨b,off,none⟩ ∧ ∀ j (h : j < xs.length),w.cell? ⟨b,off + j,none⟩ = some xs[j]
section
variable {w w' : World} {A : Option Addr} {xs : List Value}
theorem Row.at_ (h : Row w A xs) (hp : 0 < xs.length) : ∃ b off,A = some ⟨b,off,none⟩ ∧ b < w.heap.size ∧ ∀ j (h : j < xs.length),w.cell? ⟨b,off + j,none⟩ = some xs[j] := by
 rcases h with rfl | ⟨b,off,rfl,hc⟩
 ·simp at hp
 ·refine ⟨b,off,rfl,?_,hc⟩
  have h0 := hc 0 hp
  rcases Nat.lt_or_ge b w.heap.size with hlt | hge
  ·exact hlt
  ·unfold World.cell? at h0
   simp [Array.getElem?_eq_none hge] at h0
theorem Row.keep (h : Row w A xs) (hk : ∀ b o,b < w.heap.size → w'.cell? ⟨b,o,none⟩ = w.cell? ⟨b,o,none⟩) : Row w' A xs := by
 rcases Nat.eq_zero_or_pos xs.length with h0 | h0
 ·exact .inl (List.eq_nil_of_length_eq_zero h0)
 ·obtain ⟨b,off,rfl,hb,hc⟩ := h.at_ h0
  exact .inr ⟨b,off,rfl,fun j hj => (hk _ _ hb).trans (hc j hj)⟩
theorem Row.below (h : Row w A xs) (hb : Below w.heap.size w w') : Row w' A xs := h.keep fun b o hlt => hb.cell (p := ⟨b,o,none⟩) hlt
end
def Blk (w : World) (g : Nat) (t : TypeId) (cs : Array Value) : Prop := w.heap[g]? = some (.cells cs t (0,0))
section
variable {w w' : World} {g : Nat} {t : TypeId} {cs : Array Value}
theorem Blk.lt (h : Blk w g t cs) : g < w.heap.size := by
 rcases Nat.lt_or_ge g w.heap.size with hlt | hge
 ·exact hlt
 ·unfold Blk at h; rw [Array.getElem?_eq_none hge] at h; cases h
theorem Blk.cell (h : Blk w g t cs) (i : Nat) : w.cell? ⟨g,i,none⟩ = cs[i]? := cell_of_row w g i cs t (0,0) h
theorem Blk.frozen (h : Blk w g t cs) (i : Nat) : w.frozen? ⟨g,i,none⟩ = false := by
 unfold Blk at h
 simp [World.frozen?,h]
theorem Blk.new (w : World) (t : TypeId) (cs : Array Value) : Blk (w.alloc (.cells cs t)) w.heap.size t cs := heap_alloc_new w _
theorem Blk.alloc (h : Blk w g t cs) (o : Obj) : Blk (w.alloc o) g t cs := (Below.heap_alloc w o g h.lt).trans h
theorem Blk.set_ (h : Blk w g t cs) (i : Nat) (u : Value) : Blk (w.setCell ⟨g,i,none⟩ u) g t (cs.setIfInBounds i u) := by
 unfold Blk at h ⊢
 simp [World.setCell,Array.getElem?_modify,h]
theorem Blk.far (h : Blk w g t cs) {p : Addr} (hp : g ≠ p.block) (u : Value) : Blk (w.setCell p u) g t cs := (Below.heap_setCell w p u g hp).trans h
theorem Blk.below {B : Nat} (h : Blk w g t cs) (hb : Below B w w') (hg : g < B) : Blk w' g t cs := (hb.block g hg).trans h
theorem Blk.row (h : Blk w g t cs) : Row w (some ⟨g,0,none⟩) cs.toList :=
 .inr ⟨g,0,rfl,fun j hj => by rw [Nat.zero_add,h.cell,Array.getElem?_eq_getElem (by simpa using hj)]; simp⟩
end
section
variable {w w' : World} {base size n c : Nat} {e : TypeId} {A : Option Addr} {xs : List Value}
end
def aTt (cs : Array Value) (o : Nat) : List Value → Array Value
 | [] => cs
 | v :: vs => aTt (cs.setIfInBounds o v) (o + 1) vs
def aWe (w : World) (g : Nat) (o : Nat) : List Value → World
 | [] => w
 | v :: vs => aWe (w.setCell ⟨g,o,none⟩ v) g (o + 1) vs
theorem Blk.put {g : Nat} {t : TypeId} (vs : List Value) : ∀ {w : World} {cs : Array Value} (o : Nat),Blk w g t cs → Blk (aWe w g o vs) g t (aTt cs o vs) := by
 induction vs with
 | nil => intro w cs o h; exact h
 | cons v vs ih => intro w cs o h; exact ih (o + 1) (h.set_ o v)
theorem aMb {w : World} {a : Addr} {v : Value} (h : w.cell? a = some v) : a.block < w.heap.size := by
 rcases Nat.lt_or_ge a.block w.heap.size with hlt | hge
 ·exact hlt
 ·unfold World.cell? at h
  simp [Array.getElem?_eq_none hge] at h
theorem kf {w w' : World} {a : Addr} {v : Value} {b : Bool} (hb : Below w.heap.size w w') (h : w.cell? a = some v) (hf : w.frozen? a = b) : w'.frozen? a = b := (hb.frozen (aMb h)).trans hf
theorem ka {w : World} {a : Addr} {v : Value} {o : Obj} (h : w.cell? a = some v) : (w.alloc o).cell? a = some v := (World.cell?_alloc_lt w o a (aMb h)).trans h
theorem kn (w : World) (t : TypeId) (cs : Array Value) (i : Nat) (v : Value) (h : cs[i]? = some v) : (w.alloc (.cells cs t)).cell? ⟨w.heap.size,i,none⟩ = some v := ((Blk.new w t cs).cell i).trans h
end Go.Proofs.YtgcdbbidmfdonaaGreat
namespace Go.Proofs
open Go.Shelf
def Tryz.laySlLaysNn41_ren : Go.Shelf.Ren := ⟨fun | 41 => 130 | n => n,fun | 22 => 32 | 23 => 2 | 4 => 4 | n => n,fun | n => n⟩
theorem Tryz.laySlLaysNn41 : Go.Proofs.SlLaysN.n41 Tryz.prog Tryz.laySlLaysNn41_ren := {
 mixed := by kernel_rfl
 f41 := ⟨Tryz.f130.name,by decide,Tryz.func130.trans (congrArg some (by kernel_rfl))⟩
 t4 := Tryz.underlying4
 a4 := Tryz.isAgg4
 z4 := Tryz.sizeOf4
 v4 := Tryz.zeroValue4
 t22 := Tryz.underlying32
 a22 := Tryz.isAgg32
 z22 := Tryz.sizeOf32
 v22 := Tryz.zeroValue32
 t23 := Tryz.underlying2
 a23 := Tryz.isAgg2
 z23 := Tryz.sizeOf2
 v23 := Tryz.zeroValue2
 i23 := by kernel_rfl }
end Go.Proofs
namespace Go.Proofs.YtgcdbbidmfdonaaGreat
open Go.Shelf Go.RowKit Go.Sort Go.Maps
set_option linter.unusedVariables false
set_option maxRecDepth 100000
set_option maxHeartbeats 2000000
theorem jY {p : Prop} (h : p) : Hid p := h
theorem aUu : (Tryz.prog.info? 2).map (fun i => (i.zero,i.size,i.bytes)) = some (some (.int .i64 0),1,8) := by kernel_rfl
theorem aUv : (Tryz.prog.info? 32).map (fun i => (i.zero,i.size,i.bytes)) = some (some (.slice none 0 0),1,24) := by kernel_rfl
abbrev aUo (w : World) (base : Nat) (v : Value) (l : List Int) : Prop := aUg 2 w base v l
abbrev aO4 (w : World) (base : Nat) (v : Value) (rows : List (List Int)) : Prop := wV 2 32 w base v rows
theorem aMd {w : World} {base : Nat} {x : Value} {l : List Int} (h : aUo w base x l) (hl : l.length ≤ 1000) : Calls Tryz.prog 130 #[x] w fun e w' => ∃ v',e = .returned v' ∧ w'.ownsRow w.heap.size 2 1 v' l.length (l.map (Value.int .i64)) ∧ Below w.heap.size w w' := by
 rcases h.2 with ⟨rfl,h0⟩ | ⟨g,cap,cur,rfl,h1,h2,h3,h4,h5,h6⟩
 ·have : l = [] := List.eq_nil_of_length_eq_zero h0
  subst this
  refine (AnyG.slices_Clone_int_nil Tryz.laySlLaysNn41 _ _ w).mono ?_
  rintro e w' ⟨rfl,rfl⟩
  exact ⟨_,rfl,World.ownsRow_nil _ _ _ _,Below.refl _ _⟩
 ·have := AnyG.slices_Clone_int Tryz.laySlLaysNn41 g 0 l.length cap l w (Nat.le_refl _) (by omega) fun j hj => by
   have q := congrArg (·[j]?) h6
   simp only [Nat.mul_one,List.getElem?_take_of_lt hj,List.getElem?_map,Array.getElem?_toList] at q
   simp [World.cell?,h2,q,List.getD,hj]
  refine this.mono ?_
  rintro e w' ⟨v',rfl,hrow,_,hb⟩
  rw [List.take_length] at hrow
  exact ⟨v',rfl,hrow,hb⟩
theorem aDq {low high : Int} (k : Nat) : ∀ l ∈ bX low high k,l.length = k := by
 induction k with
 | zero => intro l h; simp [bX] at h; subst h; rfl
 | succ k ih =>
  intro l h
  simp only [bX,List.mem_flatMap] at h
  obtain ⟨l',h1,h2⟩ := h
  simp only [xF,List.mem_map] at h2
  obtain ⟨i,_,rfl⟩ := h2
  simp [ih l' h1]
theorem aEl {low high : Int} (hlow : 1 ≤ low) (hh : low ≤ high) (k : Nat) : ∀ l ∈ bX low high k,low ≤ pD low l ∧ pD low l ≤ high := by
 induction k with
 | zero => intro l h; simp [bX] at h; subst h; simp [pD]; exact hh
 | succ k ih =>
  intro l h
  simp only [bX,List.mem_flatMap] at h
  obtain ⟨l',h1,h2⟩ := h
  simp only [xF,List.mem_map,List.mem_range] at h2
  obtain ⟨i,hi,rfl⟩ := h2
  have := ih l' h1
  unfold pD at hi
  simp only [pD,List.getLast?_append,List.getLast?_singleton,Option.some_or,Option.getD_some] at this ⊢
  omega
theorem aRx {low high : Int} (h1 : 1 ≤ low) (h2 : high ≤ 120) {l : List Int} (h3 : low ≤ pD low l) : (xF low high l).length ≤ 120 := by simp [xF]; omega
theorem xP {low high : Int} (hlow : 1 ≤ low) (hh : low ≤ high) (hhi : high ≤ 120) (k : Nat) : 1 ≤ (bX low high k).length ∧ (bX low high k).length ≤ 120 ^ k := by
 induction k with
 | zero => simp [bX]
 | succ k ih =>
  simp only [bX,List.length_flatMap]
  have hf := aEl hlow hh k
  generalize bX low high k = ls at ih hf
  have key : ∀ ls : List (List Int),(∀ l ∈ ls,low ≤ pD low l ∧ pD low l ≤ high) → ls.length ≤ (ls.map fun l => (xF low high l).length).sum ∧ (ls.map fun l => (xF low high l).length).sum ≤ 120 * ls.length := fun ls => by
   induction ls with
   | nil => simp
   | cons a ls ih =>
    intro h
    have h1 := ih fun l hl => h l (List.mem_cons_of_mem _ hl)
    have h2 := h a (List.mem_cons_self ..)
    have h3 : 1 ≤ (xF low high a).length ∧ (xF low high a).length ≤ 120 := by simp [xF]; omega
    simp only [List.map_cons,List.sum_cons,List.length_cons]
    omega
  have := key ls hf
  rw [Nat.pow_succ]
  omega
def Lev (low high : Int) (cnt : Nat) (w1 : World) (i v : Value) (wr : World) : Prop := ∃ j c : Nat,Hid (c + j = cnt) ∧ i = .int .i64 (c : Int) ∧ Hid (aO4 wr w1.heap.size v (bX low high j)) ∧ Hid (Below w1.heap.size w1 wr)
def Mid (low high : Int) (wj : World) (ls : List (List Int)) (i v : Value) (wr : World) : Prop := ∃ k : Nat,k ≤ ls.length ∧ i = .int .i64 (k : Int) ∧ Hid (aO4 wr wj.heap.size v ((ls.take k).flatMap (xF low high))) ∧ Hid (Below wj.heap.size wj wr)
def Inn (low high : Int) (wj : World) (rows0 : List (List Int)) (l : List Int) (f : Int) (i v : Value) (wr : World) : Prop := ∃ m : Nat,f + m ≤ high + 1 ∧ i = .int .i64 (f + m) ∧ Hid (aO4 wr wj.heap.size v (rows0 ++ (List.range m).map fun (i : Nat) => l ++ [f + (i : Int)])) ∧ Hid (Below wj.heap.size wj wr) ∧ wj.heap.size ≤ wr.heap.size
theorem aM4 {low high : Int} {cnt n1 : Nat} (w1 : World) (hn : n1 = w1.heap.size) : Lev low high cnt w1 (.int .i64 (cnt : Int)) (.slice (some ⟨n1,0,none⟩) 1 1) (w1.alloc (.cells #[.slice none 0 0] 32)) := by
 subst hn
 refine ⟨0,cnt,jY rfl,rfl,jY ⟨[.slice none 0 0],⟨rfl, .inr ⟨w1.heap.size,1, #[.slice none 0 0],rfl,Nat.le_refl _,heap_alloc_new w1 _,Nat.le_refl _,by unfold maxLen; omega,rfl,rfl⟩⟩,fun i x r h1 h2 => ?_⟩,jY ((Below.refl _ _).alloc (Nat.le_refl _) _)⟩
 match i with
 | 0 =>
  simp [bX] at h1 h2
  subst h1 h2
  exact ⟨World.ownsRow_nil _ _ _ _, .inl rfl,fun _ => rfl⟩
 | i + 1 => simp at h1
theorem cell_of_row {w : World} {b e n cap : Nat} {g : Nat} {vals : List Value} (h : w.ownsRow b e 1 (.slice (some ⟨g,0,none⟩) n cap) n vals) {k : Nat} {x : Value} (hx : vals[k]? = some x) : w.cell? ⟨g,k,none⟩ = some x := by
 have := h.cells (g := g) rfl k x hx
 rwa [show (⟨g,0,none⟩ : Addr).add k = ⟨g,k,none⟩ from by simp only [Addr.add]; split <;> simp_all] at this
theorem aAu {low high : Int} {wj wr : World} {ls : List (List Int)} {k : Nat} {l : List Int} {f : Int} {i v : Value} (hk : k < ls.length) (hl : ls[k]? = some l) (hf : pD low l = f) (hi : i = .int .i64 (high + 1)) (h : Inn low high wj ((ls.take k).flatMap (xF low high)) l f i v wr) :
  Mid low high wj ls (.int .i64 ((k : Int) + 1)) v wr := by
 obtain ⟨m,h1,h2,h3,h4,h5⟩ := h
 refine ⟨k + 1,hk,by simp,jY ?_,h4⟩
 have hm : m = (high + 1 - f).toNat := by
  rw [hi] at h2
  simp only [Value.int.injEq,true_and] at h2
  omega
 have he : ls[k] = l := by rw [List.getElem?_eq_getElem hk] at hl; exact Option.some.inj hl
 rw [List.take_succ_eq_append_getElem hk,List.flatMap_append,he]
 have e2 : [l].flatMap (xF low high) = (List.range m).map fun (i : Nat) => l ++ [f + (i : Int)] := by
  simp only [List.flatMap_cons,List.flatMap_nil,List.append_nil,xF,hf,hm]
 rw [e2]
 exact h3.out
theorem aN0 {low high : Int} {ls : List (List Int)} (h1 : 1 ≤ low) (h2 : high ≤ 120) (hls : ∀ l ∈ ls,low ≤ pD low l) (k : Nat) : ((ls.take k).flatMap (xF low high)).length ≤ 120 * ls.length := by
 have key : ∀ ls : List (List Int),(∀ l ∈ ls,low ≤ pD low l) → (ls.flatMap (xF low high)).length ≤ 120 * ls.length := fun ls => by
  induction ls with
  | nil => simp
  | cons a ls ih =>
   intro h
   have q1 := ih fun l hl => h l (List.mem_cons_of_mem _ hl)
   have q2 := aRx h1 h2 (h a (List.mem_cons_self ..))
   rw [List.flatMap_cons,List.length_append,List.length_cons]
   omega
 refine Nat.le_trans (key _ fun l hl => hls l (List.mem_of_mem_take hl)) ?_
 rw [List.length_take]
 omega
theorem aAt {low high : Int} {wj wr w2 w3 w4 : World} {rows0 : List (List Int)} {l : List Int} {f : Int} {m : Nat} {v vc v1 v2 : Value} {vals : List Value} {o o' : Obj} (hm : f + m ≤ high) (hv : yQ 2 32 wr wj.heap.size v (rows0 ++ (List.range m).map fun (i : Nat) => l ++ [f + (i : Int)]) vals) (hB : Hid (Below wj.heap.size wj wr)) (hz : wj.heap.size ≤ wr.heap.size)
  (hb2 : Below wr.heap.size wr w2) (hvc : w2.ownsRow wr.heap.size 2 1 vc l.length (l.map (Value.int .i64))) (hg1 : (w2.alloc o).grownBy w3 vc.ownBlock) (ho1 : w3.ownsRow wr.heap.size 2 1 v1 (l.length + 1) (l.map (Value.int .i64) ++ [.int .i64 (f + m)]))
  (hg2 : (w3.alloc o').grownBy w4 v.ownBlock) (ho2 : w4.ownsRow wj.heap.size 32 1 v2 ((rows0 ++ (List.range m).map fun (i : Nat) => l ++ [f + (i : Int)]).length + 1) (vals ++ [v1])) (hloc : v2.ownBlock = v.ownBlock ∨ v2.ownBlock = some (w3.alloc o').heap.size) :
  Inn low high wj rows0 l f (.int .i64 (f + m + 1)) v2 w4 := by
 obtain ⟨q1,q2,q3⟩ := aTu rfl hB.out hz hv hb2 hvc hg1 ho1 hg2 ho2 hloc
 refine ⟨m + 1,by omega,by simp; omega,jY ?_,jY q2,q3⟩
 rw [List.range_succ,List.map_append, ← List.append_assoc]
 exact q1
theorem aP0 {low high : Int} {cnt j c k : Nat} {w1 wj wr : World} {v : Value} (hj : c + 1 + j = cnt) (hk : k = (bX low high j).length) (hN : Hid (aO4 wr wj.heap.size v (((bX low high j).take k).flatMap (xF low high)))) (hB : Hid (Below wj.heap.size wj wr)) (h1 : Hid (Below w1.heap.size w1 wj)) :
  Lev low high cnt w1 (.int .i64 (c : Int)) v wr := by
 refine ⟨j + 1,c,jY (by omega),rfl,jY ?_,jY ?_⟩
 ·have := hN.out
  rw [hk,List.take_length] at this
  exact this.base_ h1.out.size
 ·exact h1.out.trans (hB.out.mono h1.out.size)
theorem aNz {w : World} {b n : Nat} {e : TypeId} {v : Value} {xs : List Value} (h : w.ownsRow b e 1 v n xs) : v.oneCell' = true := by
 rcases h.2 with ⟨rfl,_⟩ | ⟨g,cap,cur,rfl,_⟩ <;> rfl
theorem aB8 {w : World} {b n s : Nat} {e : TypeId} {v : Value} {xs : List Value} (h : w.ownsRow b e s v (n + 1) xs) : ∃ g cap,v = .slice (some ⟨g,0,none⟩) (n + 1) cap := by
 rcases h.2 with ⟨_,h0⟩ | ⟨g,cap,cur,rfl,_⟩
 ·omega
 ·exact ⟨g,cap,rfl⟩
theorem aMz {low : Int} {wj wk : World} {base g cap : Nat} {x : Value} {l : List Int} {f : Int} (hx : x = .slice (some ⟨g,0,none⟩) l.length cap) (hl : l ≠ []) (h : aUo wj base x l) (hB : Below wj.heap.size wj wk) (hf : pD low l = f) : wk.cell? ⟨g,l.length - 1,none⟩ = some (.int .i64 f) := by
 subst hx
 have hlt := (h.lt g rfl).2
 refine (hB.cell (p := ⟨g,l.length - 1,none⟩) hlt).trans (cell_of_row h ?_)
 have hp : 0 < l.length := List.length_pos_iff.2 hl
 simp only [pD,List.getLast?_eq_getElem?] at hf
 rw [List.getElem?_map,List.getElem?_eq_getElem (show l.length - 1 < l.length by omega)] at *
 simpa using hf
abbrev aKy (ls : List (List Int)) (vals : List Value) (wB : World) (kp k : Nat) (vP : Value) (val : Int → Value) (wr : World) : Prop := aFw Tryz.prog 2 2 32 245 ls vals wB wB.heap.size kp k vP val wr
def Grp (ls : List (List Int)) (vals : List Value) (wB : World) (i : Value) (wr : World) : Prop := ∃ (k : Nat) (vP : Value) (val : Int → Value),k ≤ ls.length ∧ i = .int .i64 (k : Int) ∧ Hid (aKy ls vals wB k k vP val wr)
theorem aMv {ls : List (List Int)} {vals : List Value} {w : World} : Grp ls vals w (.int .i64 0) ((w.alloc (.map #[] 0)).alloc (.cells #[.slice none 0 0, .map (some w.heap.size)] 245)) := by
 have z : (w.alloc (.map #[] 0)).heap.size = w.heap.size + 1 := by simp
 refine ⟨0, .slice none 0 0,fun _ => .slice none 0 0,Nat.zero_le _,rfl,jY ⟨((Below.refl _ _).alloc (Nat.le_refl _) _).alloc (by simp) _,by simp,?_,World.ownsRow_nil _ _ _ _,(aPa w).same (Below.heap_alloc _ _ _ (by simp)),fun p => World.ownsRow_nil _ _ _ _,fun p _ => rfl,fun p q _ => .inl rfl,fun p => .inl rfl⟩⟩
 have := heap_alloc_new (w.alloc (.map #[] 0)) (.cells #[.slice none 0 0, .map (some w.heap.size)] 245)
 rwa [z] at this
theorem aIq : ∀ (l : List Int) (a : Int),l.foldl (· * ·) a = a * cU l
 | [],a => by simp [cU]
 | x :: l,a => by
  unfold cU
  rw [List.foldl_cons,List.foldl_cons,aIq l,aIq l (1 * x)]
  rw [Int.one_mul,Int.mul_assoc]
theorem aNp (l : List Int) (x : Int) : cU (l ++ [x]) = cU l * x := by unfold cU; rw [List.foldl_append]; rfl
theorem aP2 {low high : Int} (hlow : 1 ≤ low) (hh : low ≤ high) (k : Nat) : ∀ l ∈ bX low high k, ∀ x ∈ l,low ≤ x ∧ x ≤ high := by
 induction k with
 | zero => intro l h x hx; simp [bX] at h; subst h; simp at hx
 | succ k ih =>
  intro l h x hx
  have hm := h
  simp only [bX,List.mem_flatMap] at h
  obtain ⟨l',h1,h2⟩ := h
  simp only [xF,List.mem_map,List.mem_range] at h2
  obtain ⟨i,hi,rfl⟩ := h2
  rcases List.mem_append.1 hx with hx | hx
  ·exact ih l' h1 x hx
  ·have := aEl hlow hh (k + 1) _ hm
   simp only [pD,List.getLast?_append,List.getLast?_singleton,Option.some_or,Option.getD_some] at this
   rw [List.mem_singleton.1 hx]
   simpa [pD] using this
theorem aIr {low high : Int} (hlow : 1 ≤ low) (hhi : high ≤ 120) : ∀ (l : List Int),(∀ x ∈ l,low ≤ x ∧ x ≤ high) → 1 ≤ cU l ∧ cU l ≤ 120 ^ l.length
 | [],_ => by simp [cU]
 | x :: l,h => by
  obtain ⟨h1,h2⟩ := aIr hlow hhi l fun y hy => h y (List.mem_cons_of_mem _ hy)
  have hx := h x (List.mem_cons_self ..)
  have e : cU (x :: l) = x * cU l := by
   show l.foldl (· * ·) (1 * x) = _
   rw [aIq,Int.one_mul]
  rw [e,List.length_cons,Int.pow_succ]
  constructor
  ·have := Int.mul_le_mul (show (1 : Int) ≤ x by omega) h1 (by omega) (by omega)
   omega
  ·have := Int.mul_le_mul (show x ≤ 120 by omega) h2 (by omega) (by omega)
   rwa [Int.mul_comm (120 ^ l.length) 120]
theorem aNq {low high : Int} {l : List Int} {m : Nat} (hlow : 1 ≤ low) (hhi : high ≤ 120) (hl : ∀ x ∈ l,low ≤ x ∧ x ≤ high) (h3 : l.length ≤ 3) (hm : m < l.length) : cU (l.take (m + 1)) = cU (l.take m) * l.getD m 0 ∧ 1 ≤ cU (l.take m) * l.getD m 0 ∧ cU (l.take m) * l.getD m 0 ≤ 1728000 := by
 have e : cU (l.take (m + 1)) = cU (l.take m) * l.getD m 0 := by
  rw [List.take_succ_eq_append_getElem hm,aNp]
  simp [List.getD,hm]
 obtain ⟨h1,h2⟩ := aIr hlow hhi (l.take (m + 1)) fun x hx => hl x (List.mem_of_mem_take hx)
 rw [e] at h1 h2
 refine ⟨e,h1,Int.le_trans h2 ?_⟩
 have : (l.take (m + 1)).length ≤ 3 := by rw [List.length_take]; omega
 rcases (show (l.take (m + 1)).length = 0 ∨ (l.take (m + 1)).length = 1 ∨ (l.take (m + 1)).length = 2 ∨ (l.take (m + 1)).length = 3 by omega) with e | e | e | e <;> rw [e] <;> decide
theorem aQb {low high : Int} {l : List Int} (hlow : 1 ≤ low) (hhi : high ≤ 120) (hl : ∀ x ∈ l,low ≤ x ∧ x ≤ high) (h3 : l.length ≤ 3) : 1 ≤ cU l ∧ cU l ≤ 1728000 := by
 obtain ⟨h1,h2⟩ := aIr hlow hhi l hl
 refine ⟨h1,Int.le_trans h2 ?_⟩
 rcases (show l.length = 0 ∨ l.length = 1 ∨ l.length = 2 ∨ l.length = 3 by omega) with e | e | e | e <;> rw [e] <;> decide
def Prd (l : List Int) (w : World) (i v : Value) (wr : World) : Prop := ∃ m : Nat,m ≤ l.length ∧ i = .int .i64 (m : Int) ∧ v = .int .i64 (cU (l.take m)) ∧ wr = w
theorem aQr (w : World) : (zeroValue 255).run Tryz.prog w = .ok (.slice none 0 0) w := by kernel_rfl
theorem aMu {ls : List (List Int)} {vals : List Value} {wB wr : World} {k : Nat} {vP : Value} {val : Int → Value} {p : Int} (h : aKy ls vals wB k k vP val wr) (hlv : ls.length = vals.length) (hs : p ∈ gW (ls.take k)) :
  ∃ gp n cp,val p = .slice (some ⟨gp,0,none⟩) (n + 1) cp ∧ Hid (n + 1 = (oR (ls.take k) (vals.take k) p).length) := by
 have hne : oR (ls.take k) (vals.take k) p ≠ [] := fun e => (aHu (by simp [hlv])).1 e hs
 have hp : 0 < (oR (ls.take k) (vals.take k) p).length := List.length_pos_iff.2 hne
 rcases (h.row p).2 with ⟨_,h0⟩ | ⟨g,cap,cur,h1,_⟩
 ·omega
 ·exact ⟨g,(oR (ls.take k) (vals.take k) p).length - 1,cap,by rw [h1]; congr 1; omega,jY (by omega)⟩
theorem aE0 {ls : List (List Int)} {vals : List Value} {wB wr W : World} {kp k : Nat} {vP v : Value} {val : Int → Value} {p : Int} (h : aKy ls vals wB kp k vP val wr) (hp : InK p) (hv : val p = v) (hW : W.heap[wB.heap.size]? = wr.heap[wB.heap.size]?) : (Instr.lookup 243 (.map (some wB.heap.size)) (.int .i64 p) false).run Tryz.prog W = .ok v W := by
 rw [← hv]
 exact (h.map.same hW).look Tryz.underlying243 Tryz.underlying2 (aQr _) hp
theorem aOs (ls : List (List Int)) (vals : List Value) (p : Int) : (oR ls vals p).length ≤ ls.length := by
 unfold oR
 rw [List.length_map]
 exact Nat.le_trans (List.length_filter_le _ _) (by rw [List.length_zip]; omega)
theorem aJz {ls : List (List Int)} {vals : List Value} {wB wr w7 : World} {kp k : Nat} {vP v : Value} {val : Int → Value} {p : Int} {o : Obj} (N : Nat) (h : aKy ls vals wB kp k vP val wr) (hp : InK p) (hv : val p = v) (hg : (wr.alloc o).drew.grownBy w7 v.ownBlock) (hlen : ls.length ≤ 1728000) (hkl : k < ls.length) (g cap : Nat) :
  ∃ w8,(Instr.mapUpdate 243 (.map (some wB.heap.size)) (.int .i64 p) (.slice (some ⟨g,0,none⟩) N cap)).run Tryz.prog w7 = .ok () w8 ∧ w7.cell? ⟨wB.heap.size + 1,1,none⟩ = some (.map (some wB.heap.size)) ∧ w8.cell? ⟨wB.heap.size + 1,1,none⟩ = some (.map (some wB.heap.size)) ∧
   Hid (AtV Tryz.prog 2 w8 wB.heap.size (k + 1) (fun q => if q = p then .slice (some ⟨g,0,none⟩) N cap else val q) ∧ w7.grownBy w8 (some wB.heap.size)) := by
 have hrl : ∀ g,v.ownBlock = some g → wB.heap.size + 2 ≤ g := fun g hg => ((h.row p).lt g (by rw [hv]; exact hg)).1
 have hB : ∀ x,x ≤ wB.heap.size + 1 → w7.heap[x]? = wr.heap[x]? := fun x hx => by
  have := h.sz
  rw [hg.block x (by simp; omega) fun e => by have := hrl x e.symm; omega]
  exact Below.heap_alloc wr o x (by omega)
 obtain ⟨w8,h1,h2,h3⟩ := (h.map.same (hB wB.heap.size (by omega))).put Tryz.underlying243 Tryz.underlying2 (by unfold maxLen; omega) hp (.slice (some ⟨g,0,none⟩) N cap)
 have c7 : w7.cell? ⟨wB.heap.size + 1,1,none⟩ = some (.map (some wB.heap.size)) := (World.cell?_of_block (hB _ (Nat.le_refl _))).trans h.c1
 refine ⟨w8,h1,c7,?_,jY ⟨h2,h3⟩⟩
 refine (World.cell?_of_block (h3.block _ ?_ (by simp))).trans c7
 have := hg.size
 have := h.sz
 simp at *
 omega
theorem aKp (ls : List (List Int)) : (gW ls).length ≤ ls.length := by
 have key : ∀ (ls : List (List Int)) (acc : List Int),(ls.foldl (fun acc l => if cU l ∈ acc then acc else acc ++ [cU l]) acc).length ≤ acc.length + ls.length := fun ls => by
  induction ls with
  | nil => simp
  | cons l ls ih =>
   intro acc
   rw [List.foldl_cons,List.length_cons]
   refine Nat.le_trans (ih _) ?_
   split
   ·omega
   ·simp; omega
 have := key ls []
 simpa [gW] using this
theorem aMr {ls : List (List Int)} {vals : List Value} {wB wr w5 : World} {kp k : Nat} {vP : Value} {val : Int → Value} {o : Obj} (h : aKy ls vals wB kp k vP val wr) (hg : (wr.alloc o).grownBy w5 vP.ownBlock) :
  w5.cell? ⟨wB.heap.size + 1,0,none⟩ = some vP ∧ w5.frozen? ⟨wB.heap.size + 1,0,none⟩ = false ∧ w5.heap[wB.heap.size + 1]? = some (.cells #[vP, .map (some wB.heap.size)] 245 (0,0)) := by
 have hB : w5.heap[wB.heap.size + 1]? = wr.heap[wB.heap.size + 1]? := by
  have := h.sz
  rw [hg.block _ (by simp; omega) fun e => by have := (h.prd.lt _ e.symm).1; omega]
  exact Below.heap_alloc wr o _ (by omega)
 refine ⟨(World.cell?_of_block hB).trans h.c0,(World.frozen?_of_block hB).trans h.f0,hB.trans h.cel⟩
theorem aJa {w : World} {b : Nat} {u m v : Value} {T : TypeId} (h : w.heap[b]? = some (.cells #[u,m] T (0,0))) : (w.setCell ⟨b,0,none⟩ v).heap = w.heap.setIfInBounds b (.cells #[v,m] T (0,0)) := by
 apply Array.ext_getElem?
 intro i
 by_cases e : i = b
 ·subst e
  have hlt := (Array.getElem?_eq_some_iff.1 h).1
  rw [Array.getElem?_setIfInBounds_self_of_lt hlt]
  simp [World.setCell,Array.getElem?_modify,h]
 ·rw [Array.getElem?_setIfInBounds_ne (fun q => e q.symm)]
  simp [World.setCell,Array.getElem?_modify]
  exact fun q => absurd q.symm e
theorem aPt {ls : List (List Int)} {vals : List Value} {wB wr w5 w6 : World} {k : Nat} {vP vP' : Value} {val : Int → Value} {p : Int} {l : List Int} {o : Obj} (h : aKy ls vals wB k k vP val wr) (hk : k < ls.length) (hl : ls[k]? = some l) (hp : cU l = p) (hs : p ∉ gW (ls.take k)) (ho : w5.ownsRow (wB.heap.size + 2) 2 1 vP' ((gW (ls.take k)).length + 1) ((gW (ls.take k)).map (Value.int .i64) ++ [.int .i64 p]))
  (hg : (wr.alloc o).grownBy w5 vP.ownBlock) (hloc : vP'.ownBlock = vP.ownBlock ∨ vP'.ownBlock = some (wr.alloc o).heap.size) (hc : w5.heap[wB.heap.size + 1]? = some (.cells #[vP, .map (some wB.heap.size)] 245 (0,0))) (hw : w5.setCell ⟨wB.heap.size + 1,0,none⟩ vP' = w6) :
  aKy ls vals wB (k + 1) k vP' val w6 := by
 subst hp hw
 exact aFw.fresh h hk hl hs ho hg hloc (aJa hc) rfl rfl rfl
theorem aLk {ls : List (List Int)} {vals : List Value} {wB wr : World} {k : Nat} {vP : Value} {val : Int → Value} (h : aKy ls vals wB ls.length k vP val wr) (hp : 1 ≤ ls.length) :
  ∃ g N cap,vP = .slice (some ⟨g,0,none⟩) N cap ∧ Hid (N = (gW ls).length) := by
 have h1 := h.prd
 rw [List.take_length] at h1
 have hne : 0 < (gW ls).length := by
  have : cU ls[0] ∈ gW ls := aHl.2 ⟨ls[0],List.getElem_mem _,rfl⟩
  exact List.length_pos_of_mem this
 rcases h1.2 with ⟨_,h0⟩ | ⟨g,cap,cur,h1,_⟩
 ·omega
 ·exact ⟨g,_,cap,h1,jY rfl⟩
theorem aQc {ls : List (List Int)} {vals : List Value} {wB wr : World} {k g N cap : Nat} {val : Int → Value} (h : aKy ls vals wB ls.length k (.slice (some ⟨g,0,none⟩) N cap) val wr) (hN : N = (gW ls).length) : wr.ownsRow (wB.heap.size + 2) 2 1 (.slice (some ⟨g,0,none⟩) N cap) N ((gW (ls.take ls.length)).map (Value.int .i64)) := by
 have h1 := h.prd
 rw [List.take_length] at h1 ⊢
 subst hN
 exact h1
theorem aQp {w : World} {b g N cap : Nat} {zs : List Int} (h : w.ownsRow b 2 1 (.slice (some ⟨g,0,none⟩) N cap) N (zs.map (Value.int .i64))) (hz : zs.length ≤ 1728000) : Calls Tryz.prog 258 #[.slice (some ⟨g,0,none⟩) N cap] w fun e w' => e = .returned (.tuple #[]) ∧ w'.ownsRow b 2 1 (.slice (some ⟨g,0,none⟩) N cap) N ((aAj zs).map (Value.int .i64)) ∧ w.grownBy w' (some g) := by
 have hN : N = zs.length := by have := h.1; simp at this; omega
 subst hN
 rcases h.2 with ⟨h0,_⟩ | ⟨g',cap',cur,h0,r0,hgb,r1,r2,r3,r4⟩
 ·cases h0
 cases h0
 have hsl := aCh zs
 rw [Nat.mul_one] at r4
 have hc := AnyM.slices_Sort_int Tryz.laySlLaysMn5 g 0 cap zs w (holds_of_blockI hgb r4) (Array.getElem?_eq_some_iff.1 hgb).1 (by omega)
 refine hc.mono ?_
 rintro e w' ⟨rfl,n,os,rfl⟩
 refine ⟨rfl,⟨by simp [hsl], .inr ⟨g,cap,_,rfl,r0,heap_sortedI _ hgb,r1,r2,by simp [putCells,r3],?_⟩⟩,grownBy_sortedI _⟩
 rw [Nat.mul_one]
 have := take_putCellsI cur (aAj zs) (by rw [hsl]; omega)
 rwa [hsl] at this
theorem aUw {w wj wr : World} {T : TypeId} (h1 : Below (w.alloc (.cells #[.slice none 0 0, .map none] T)).heap.size (w.alloc (.cells #[.slice none 0 0, .map none] T)) wj) (h2 : Below wj.heap.size wj wr) :
  wr.cell? ⟨w.heap.size,0,none⟩ = some (.slice none 0 0) ∧ wr.cell? ⟨w.heap.size,1,none⟩ = some (.map none) ∧ wr.frozen? ⟨w.heap.size,0,none⟩ = false ∧ wr.frozen? ⟨w.heap.size,1,none⟩ = false := by
 have z : (w.alloc (.cells #[.slice none 0 0, .map none] T)).heap.size = w.heap.size + 1 := by simp
 have h := h1.size
 rw [z] at h h1
 have e : wr.heap[w.heap.size]? = some (.cells #[.slice none 0 0, .map none] T (0,0)) := by
  rw [h2.block _ (by omega),h1.block _ (by omega)]
  exact heap_alloc_new w _
 simp [World.cell?,World.frozen?,e]
theorem aOi {ls : List (List Int)} {vals : List Value} {w wj wr wS : World} {kp k g N cap : Nat} {val : Int → Value} (h1 : Below (w.alloc (.cells #[.slice none 0 0, .map none] 245)).heap.size (w.alloc (.cells #[.slice none 0 0, .map none] 245)) wj) (h : aKy ls vals wj kp k (.slice (some ⟨g,0,none⟩) N cap) val wr) (hg : wr.grownBy wS (some g)) :
  wS.cell? ⟨wj.heap.size + 1,0,none⟩ = some (.slice (some ⟨g,0,none⟩) N cap) ∧ wS.cell? ⟨wj.heap.size + 1,1,none⟩ = some (.map (some wj.heap.size)) ∧ wS.cell? ⟨w.heap.size,0,none⟩ = some (.slice none 0 0) ∧ wS.cell? ⟨w.heap.size,1,none⟩ = some (.map none) ∧ wS.frozen? ⟨w.heap.size,0,none⟩ = false ∧ wS.frozen? ⟨w.heap.size,1,none⟩ = false := by
 have hlt := h.prd.lt g rfl
 have hsz := h.sz
 have z : (w.alloc (.cells #[.slice none 0 0, .map none] 245)).heap.size = w.heap.size + 1 := by simp
 have hz := h1.size
 rw [z] at hz
 have hb : ∀ x,x < wj.heap.size + 2 → wS.heap[x]? = wr.heap[x]? := fun x hx => hg.block x (by omega) (by simp; omega)
 obtain ⟨a,b,c,d⟩ := aUw h1 h.bel
 exact ⟨(World.cell?_of_block (hb _ (by simp))).trans h.c0,(World.cell?_of_block (hb _ (by simp))).trans h.c1,(World.cell?_of_block (hb _ (by simp; omega))).trans a,(World.cell?_of_block (hb _ (by simp; omega))).trans b,(World.frozen?_of_block (hb _ (by simp; omega))).trans c,(World.frozen?_of_block (hb _ (by simp; omega))).trans d⟩
theorem aAr {ls : List (List Int)} {vals : List Value} {wB wr w7 w8 : World} {kp k gg cap N : Nat} {vP v x : Value} {val : Int → Value} {p : Int} {l : List Int} {o : Obj} (h : aKy ls vals wB kp k vP val wr) (hk : k < ls.length) (hl : ls[k]? = some l) (hx : vals[k]? = some x) (hlen : ls.length = vals.length) (hp : cU l = p) (hv : val p = v) (hn : N = (oR (ls.take k) (vals.take k) p).length + 1)
  (ho7 : w7.ownsRow (wB.heap.size + 2) 32 1 (.slice (some ⟨gg,0,none⟩) N cap) N (oR (ls.take k) (vals.take k) p ++ [x])) (hg7 : (wr.alloc o).drew.grownBy w7 v.ownBlock) (hat : v.ownBlock = some gg ∨ gg = wr.heap.size + 1)
  (hm : Hid (AtV Tryz.prog 2 w8 wB.heap.size (k + 1) (fun q => if q = p then .slice (some ⟨gg,0,none⟩) N cap else val q) ∧ w7.grownBy w8 (some wB.heap.size))) :
  aKy ls vals wB kp (k + 1) vP (fun q => if q = p then .slice (some ⟨gg,0,none⟩) N cap else val q) w8 := by
 subst hp hn hv
 refine aFw.join (o := o) h hk hl hx hlen ho7 ⟨hg7.os,hg7.tape,hg7.output,hg7.size,hg7.block⟩ ?_ hm.out.1 hm.out.2
 rcases hat with e | e
 ·exact .inl e.symm
 ·right
  rw [e]
  simp [Value.ownBlock]
def aUm (low high : Int) (cnt : Nat) (w : World) (vP : Value) (B : Nat) (w' : World) : Prop := ∃ (vals : List Value) (val : Int → Value) (n : Nat),Below w.heap.size w w' ∧ w.heap.size ≤ B ∧ w'.ownsRow w.heap.size 2 1 vP (gW (bX low high cnt)).length ((aAj (gW (bX low high cnt))).map (Value.int .i64)) ∧ AtV Tryz.prog 2 w' B n val ∧
 (∀ p,w'.ownsRow w.heap.size 32 1 (val p) (oR (bX low high cnt) vals p).length (oR (bX low high cnt) vals p)) ∧ (∀ (i : Nat) x r,vals[i]? = some x → (bX low high cnt)[i]? = some r → aUo w' w.heap.size x r) ∧ (bX low high cnt).length = vals.length
theorem yI {w : World} {b o : Nat} {v : Value} {x : Nat} (h : x ≠ b) : (w.setCell ⟨b,o,none⟩ v).heap[x]? = w.heap[x]? := by
 simp [World.setCell,Array.getElem?_modify]
 exact fun q => absurd q.symm h
theorem aTc {low high : Int} {j : Nat} {vals : List Value} {w wj wr wS : World} {g N cap : Nat} {val : Int → Value} {u : Value} (h1 : Below (w.alloc (.cells #[.slice none 0 0, .map none] 245)).heap.size (w.alloc (.cells #[.slice none 0 0, .map none] 245)) wj) (h : aKy (bX low high j) vals wj (bX low high j).length (bX low high j).length (.slice (some ⟨g,0,none⟩) N cap) val wr) (hg : wr.grownBy wS (some g))
  (hN : N = (gW (bX low high j)).length) (ho : wS.ownsRow (wj.heap.size + 2) 2 1 (.slice (some ⟨g,0,none⟩) N cap) N ((aAj (gW ((bX low high j).take (bX low high j).length))).map (Value.int .i64)))
  (hv : yQ 2 32 wj (w.alloc (.cells #[.slice none 0 0, .map none] 245)).heap.size u (bX low high j) vals) : aUm low high j w (.slice (some ⟨g,0,none⟩) N cap) wj.heap.size ((wS.setCell ⟨w.heap.size,0,none⟩ (.slice (some ⟨g,0,none⟩) N cap)).setCell ⟨w.heap.size,1,none⟩ (.map (some wj.heap.size))) := by
 have z : (w.alloc (.cells #[.slice none 0 0, .map none] 245)).heap.size = w.heap.size + 1 := by simp
 have hz := h1.size
 rw [z] at hz h1 hv
 have hlt := h.prd.lt g rfl
 have hsz := h.sz
 have hgs := hg.size
 have hob : ∀ x,x ≠ w.heap.size → ((wS.setCell ⟨w.heap.size,0,none⟩ (.slice (some ⟨g,0,none⟩) N cap)).setCell ⟨w.heap.size,1,none⟩ (.map (some wj.heap.size))).heap[x]? = wS.heap[x]? := fun x hx => by rw [yI hx,yI hx]
 have hr : ∀ x,x < wr.heap.size → x ≠ w.heap.size → x ≠ g → ((wS.setCell ⟨w.heap.size,0,none⟩ (.slice (some ⟨g,0,none⟩) N cap)).setCell ⟨w.heap.size,1,none⟩ (.map (some wj.heap.size))).heap[x]? = wr.heap[x]? := fun x h2 h3 h4 => (hob x h3).trans (hg.block x h2 (by simpa using h4))
 have e : (bX low high j).take (bX low high j).length = bX low high j := List.take_length
 have e2 : vals.take (bX low high j).length = vals := by rw [← hv.len,List.take_length]
 rw [e] at ho
 subst hN
 refine ⟨vals,val,_,⟨?_,?_,?_,?_,fun x hx => ?_⟩,by omega,mR (fS ho fun x hx => hob x ?_) (by omega),h.map.same (hr _ (by omega) (by omega) (by omega)),fun p => ?_,fun i x r q1 q2 => ?_,hv.len.symm⟩
 ·exact (hg.os.trans h.bel.os).trans h1.os
 ·exact (hg.tape.trans h.bel.tape).trans h1.tape
 ·exact (hg.output.trans h.bel.output).trans h1.output
 ·simp [World.setCell]; omega
 ·rw [hr x (by omega) (by omega) (by omega),h.bel.block x (by omega),h1.block x (by omega)]
  exact Below.heap_alloc w _ x hx
 ·have := ho.lt x hx; omega
 ·have h5 := h.row p
  rw [e,e2] at h5
  refine mR (fS h5 fun x hx => ?_) (by omega)
  have h6 := h5.lt x hx
  refine hr x h6.2 (by omega) fun e => ?_
  rcases h.sepP p with q | q
  ·rw [q] at hx; cases hx
  ·exact q (by rw [hx,e]; rfl)
 ·obtain ⟨q3,_⟩ := hv.2 i x r q1 q2
  refine mR (fS q3 fun y hy => ?_) (by omega)
  have h6 := q3.lt y hy
  rw [hr y (by omega) (by omega) (by omega),h.bel.block y h6.2]
theorem aOe {w : World} {low high : Int} {cnt : Nat} (hlow : 1 ≤ low) (hh : low ≤ high) (hhi : high ≤ 120) (hc : cnt ≤ 3) (hc1 : 1 ≤ cnt) (Q : Ending → World → Prop) (HQ : Hid (∀ vP B w',aUm low high cnt w vP B w' → Q (.returned (.agg #[vP, .map (some B)])) w')) : Calls Tryz.prog 216 #[.int .i64 low, .int .i64 high, .int .i64 (cnt : Int)] w Q := by
 have hmm := @run_makeMap Tryz.prog
 obtain ⟨iI,hiI,hI0,hI1,hI2⟩ := info_parts aUu
 obtain ⟨iS,hiS,hS0,hS1,hS2⟩ := info_parts aUv
 go_enter Tryz.func216,Tryz.ntmps216
 go_wp2
 go_loopw [2,7] (fun i v wr => Lev low high cnt (w.alloc (.cells #[.slice none 0 0, .map none] 245)) i v wr) (fun i _ _ => (intOf i).toNat)
 case atStart => exact aM4 _ (by simp)
 case round =>
  rename World => wj
  obtain ⟨j,c,hj,rfl,hN,hB⟩ := hrel
  rcases c with _ | c
  ·have hjc : j = cnt := by have := hj.out; omega
   subst hjc
   rw [show ((0 : Nat) : Int) = 0 from rfl]
   obtain ⟨vals,hv,hel⟩ := hN.out
   have hpos := (xP hlow hh hhi j).1
   have hcn := (xP hlow hh hhi j).2
   have hp3 : 120 ^ j ≤ 1728000 := Nat.le_trans (Nat.pow_le_pow_right (by omega) hc) (by omega)
   rcases hv.2 with ⟨_,h0⟩ | ⟨g,cap,cur,rfl,r1,r2,r3,r4,r5,r6⟩
   ·omega
   clear r2 r5 r6
   have hlen : (bX low high j).length ≤ 1728000 := by omega
   have Hv := jY hv
   have Hel := jY hel
   have hgl := (hv.lt g rfl).2
   clear hv hel hcn hp3 r1
   go_wp2
   go_loopw [60] (fun i wr => Grp (bX low high j) vals wj i wr) (fun i _ => (bX low high j).length - (intOf i).toNat)
   case atStart => exact aMv
   case round =>
    rename World => wk
    obtain ⟨k,vP,val,hk,rfl,HG⟩ := hrel
    rcases Nat.lt_or_ge k (bX low high j).length with hkl | hkl
    ·obtain ⟨l,hl⟩ : ∃ l,(bX low high j)[k]? = some l := ⟨_,List.getElem?_eq_getElem hkl⟩
     obtain ⟨x,hx⟩ : ∃ x,vals[k]? = some x := ⟨_,List.getElem?_eq_getElem (by rw [yQ.len ⟨Hv.out,Hel.out⟩]; exact hkl)⟩
     have hlm : l ∈ bX low high j := List.mem_of_getElem? hl
     have hll := aDq j l hlm
     have Hli := jY (aP2 hlow hh j l hlm)
     have Hox := jY (Hel.out k x l hx hl).1
     have cx : wk.cell? ⟨g,k,none⟩ = some x := (HG.out.bel.cell (p := ⟨g,k,none⟩) hgl).trans (cell_of_row Hv.out hx)
     obtain ⟨gx,capx,rfl⟩ : ∃ g cap,x = .slice (some ⟨g,0,none⟩) l.length cap := by
      rcases Hox.out.2 with ⟨_,h0⟩ | ⟨g,cap,cur,rfl,_⟩
      ·omega
      ·exact ⟨g,cap,rfl⟩
     have Hcx : Hid (∀ m,m < l.length → wk.cell? ⟨gx,m,none⟩ = some (.int .i64 (l.getD m 0))) := jY fun m hm => (HG.out.bel.cell (p := ⟨gx,m,none⟩) (Hox.out.lt gx rfl).2).trans (cell_of_row Hox.out (by simp [List.getD,hm]))
     have hl3 : l.length ≤ 3 := by omega
     have hlv : (bX low high j).length = vals.length := (yQ.len ⟨Hv.out,Hel.out⟩).symm
     have Hlv := jY hlv
     clear hlm hll hlv
     go_wp2
     go_loopw [66,16] (fun i v wr => Prd l wk i v wr) (fun i _ _ => l.length - (intOf i).toNat)
     case atStart => exact ⟨0,Nat.zero_le _,rfl,rfl,rfl⟩
     case round =>
      obtain ⟨m,hm,rfl,rfl,rfl⟩ := hrel
      rcases Nat.lt_or_ge m l.length with hml | hml
      ·have c := Hcx.out m hml
       have hb := aNq hlow hhi Hli.out hl3 hml
       obtain ⟨y,hy⟩ : ∃ y,l.getD m 0 = y := ⟨_,rfl⟩
       rw [hy] at c hb
       clear hy
       have hb1 := hb.2.1
       have hb2 := hb.2.2
       have Hbe := jY hb.1
       clear hb
       go_wp2
       go_roundw
       case rel => first | exact ⟨m + 1,by omega,by go_num,by rw [Hbe.out],rfl⟩ | trace_state
       case measure => simp [intOf]; omega
      ·have hme : m = l.length := by omega
       subst hme
       rw [List.take_length]
       have hpr := aQb hlow hhi Hli.out hl3
       obtain ⟨p,hp⟩ : ∃ p,cU l = p := ⟨_,rfl⟩
       rw [hp] at hpr ⊢
       have Hp := jY hp
       have Hpr := jY hpr
       have hkc : InK p := by unfold InK; omega
       have c1 := HG.out.c1
       have c0 := HG.out.c0
       have f0 := HG.out.f0
       clear hp hpr
       by_cases hs : p ∈ gW ((bX low high j).take k)
       ·obtain ⟨gp,n,cp,hv,Hn⟩ : ∃ gp n cp,val p = .slice (some ⟨gp,0,none⟩) (n + 1) cp ∧ Hid (n + 1 = (oR ((bX low high j).take k) (vals.take k) p).length) := aMu HG.out (hlv := by rw [yQ.len ⟨Hv.out,Hel.out⟩]) hs
        have hlook := HG.out.map.look Tryz.underlying243 Tryz.underlying2 (aQr _) hkc
        rw [hv] at hlook
        have hL1 : (Instr.lookup 243 (.map (some wj.heap.size)) (.int .i64 p) false).run Tryz.prog wr.drew = .ok (.slice (some ⟨gp,0,none⟩) (n + 1) cp) wr.drew := aE0 HG.out hkc hv rfl
        have hL2 : (Instr.lookup 243 (.map (some wj.heap.size)) (.int .i64 p) false).run Tryz.prog (wr.alloc (.cells #[.slice (some ⟨gx,0,none⟩) l.length capx] 32)).drew = .ok (.slice (some ⟨gp,0,none⟩) (n + 1) cp) (wr.alloc (.cells #[.slice (some ⟨gx,0,none⟩) l.length capx] 32)).drew := aE0 HG.out hkc hv (Below.heap_alloc _ _ _ HG.out.map.lt)
        have hrow := HG.out.row p
        rw [hv, ← Hn.out] at hrow
        have Hrow := jY hrow
        clear hrow
        have hn1 : n + 1 ≤ 1728000 := by rw [Hn.out]; exact Nat.le_trans (aOs _ _ _) (by rw [List.length_take]; omega)
        have lB := HG.out.sz
        go_wp2
        go_region_held3 (fun w' => w'.cell? ⟨wj.heap.size + 1,1,none⟩ = some (.map (some wj.heap.size))) (first | go_keep | assumption)
         ((refine step_append_lies _ (by rfl) _ _ _ (by rfl) (wj.heap.size + 2) 32 iS _ 1 24 Tryz.underlying255 hiS hS0 hS1 hS2 rfl (by omega) _ (n + 1) _ (by rfl) ((Hrow.out.alloc _).drew) ⟨wr.heap.size,0,none⟩ 1 1 [.slice (some ⟨gx,0,none⟩) l.length capx] (by rfl) (by rfl) (World.news_of_block (cs := #[.slice (some ⟨gx,0,none⟩) l.length capx]) (t := 32) (fr := (0,0)) (heap_alloc_new wr _)) (by simp [Value.oneCell']) (by omega) (by unfold maxLen; omega) (by omega) (by simp; omega) (wr.heap.size + 1) (by simp) ?_; intro gg cap2 w7 ho7 hg7 hat7 hlt7; obtain ⟨w8,hr8,c17,c18,Hm8⟩ := aJz (n + 1 + 1) HG.out hkc hv hg7 hlen hkl gg cap2))
        all_goals go_wp2
        all_goals go_roundw
        all_goals first
         | exact ⟨k + 1,vP,_,hkl,by go_num,jY (aAr (HG.out.seen hkl hl (by rw [Hp.out]; exact hs)) hkl hl hx Hlv.out Hp.out hv (by rw [← Hn.out]) ho7 hg7 hat7 Hm8)⟩
         | (simp [intOf]; omega)
         | exact ⟨k + 1,vP,_,hkl,by go_num,jY (aAr (HG.out.seen hkl hl (by rw [Hp.out]; exact hs)) hkl hl hx Hlv.out Hp.out hv (by rw [← Hn.out]) ho7 hg7 hat7 Hm8)⟩
       ·have hve := (aHu (ls := (bX low high j).take k) (vals := vals.take k) (p := p) (by have := Hlv.out; simp; omega)).2 hs
        have hv : val p = .slice none 0 0 := HG.out.nil p hve
        have hlook := HG.out.map.look Tryz.underlying243 Tryz.underlying2 (aQr _) hkc
        rw [hv] at hlook
        have lB := HG.out.sz
        have lP : (gW ((bX low high j).take k)).length ≤ 1728000 := Nat.le_trans (aKp _) (by rw [List.length_take]; omega)
        have Hve := jY hve
        clear hve
        go_wp2_with (first
         | (at_builtin; refine wpList_append_own_at _ rfl _ _ 32 rfl (wj.heap.size + 2) 2 iI (.int .i64 0) 1 8 Tryz.underlying32 hiI hI0 hI1 hI2 rfl (by decide) vP _ _ rfl (HG.out.prd.alloc _) ⟨wr.heap.size,0,none⟩ 1 1 [.int .i64 p] rfl rfl (cell_one_new _ _ _) (fun u hu => by simp at hu; subst hu; rfl) (by unfold maxLen; omega) (by omega) (by simp; omega) ?_; intro vP2 w5 ho5 hg5 hnil5 hloc5; obtain ⟨g5,cap5,rfl⟩ := aB8 ho5; obtain ⟨c50,f50,hc5⟩ := aMr HG.out hg5; have Ho5 := jY ho5; have Hg5 := jY hg5; have Hloc5 := jY hloc5; have Hc5 := jY hc5; clear ho5 hg5 hloc5 hnil5 hc5)
         | go_in)
        generalize hw6 : w5.setCell ⟨wj.heap.size + 1,0,none⟩ (.slice (some ⟨g5,0,none⟩) ((gW ((bX low high j).take k)).length + 1) cap5) = w6
        have HG6 := jY (aPt HG.out hkl hl Hp.out hs Ho5.out Hg5.out Hloc5.out Hc5.out hw6)
        clear hw6 c50 f50 c0 c1 f0 hlook lB
        have c16 := HG6.out.c1
        have hL1 : (Instr.lookup 243 (.map (some wj.heap.size)) (.int .i64 p) false).run Tryz.prog w6.drew = .ok (.slice none 0 0) w6.drew := aE0 HG6.out hkc hv rfl
        have hL2 : (Instr.lookup 243 (.map (some wj.heap.size)) (.int .i64 p) false).run Tryz.prog (w6.alloc (.cells #[.slice (some ⟨gx,0,none⟩) l.length capx] 32)).drew = .ok (.slice none 0 0) (w6.alloc (.cells #[.slice (some ⟨gx,0,none⟩) l.length capx] 32)).drew := aE0 HG6.out hkc hv (Below.heap_alloc _ _ _ HG6.out.map.lt)
        have lB6 := HG6.out.sz
        have Hrow := jY (show w6.ownsRow (wj.heap.size + 2) 32 1 (.slice none 0 0) 0 [] from World.ownsRow_nil _ _ _ _)
        go_region_held3 (fun w' => w'.cell? ⟨wj.heap.size + 1,1,none⟩ = some (.map (some wj.heap.size))) (first | go_keep | assumption)
         ((refine step_append_lies _ (by rfl) _ _ _ (by rfl) (wj.heap.size + 2) 32 iS _ 1 24 Tryz.underlying255 hiS hS0 hS1 hS2 rfl (by omega) _ 0 _ (by rfl) ((Hrow.out.alloc _).drew) ⟨w6.heap.size,0,none⟩ 1 1 [.slice (some ⟨gx,0,none⟩) l.length capx] (by rfl) (by rfl) (World.news_of_block (cs := #[.slice (some ⟨gx,0,none⟩) l.length capx]) (t := 32) (fr := (0,0)) (heap_alloc_new w6 _)) (by simp [Value.oneCell']) (by omega) (by unfold maxLen; omega) (by omega) (by simp; omega) (w6.heap.size + 1) (by simp) ?_; intro gg cap2 w7 ho7 hg7 hat7 hlt7; obtain ⟨w8,hr8,c17,c18,Hm8⟩ := aJz (0 + 1) HG6.out hkc hv hg7 hlen hkl gg cap2))
        all_goals go_wp2
        all_goals go_roundw
        all_goals first
         | exact ⟨k + 1,_,_,hkl,by go_num,jY (aAr (HG6.out) hkl hl hx Hlv.out Hp.out hv (by rw [Hve.out]; rfl) (by rw [Hve.out]; exact ho7) hg7 hat7 Hm8)⟩
         | (simp [intOf]; omega)
         | exact ⟨k + 1,_,_,hkl,by go_num,jY (aAr (HG6.out) hkl hl hx Hlv.out Hp.out hv (by rw [Hve.out]; rfl) (by rw [Hve.out]; exact ho7) hg7 hat7 Hm8)⟩
    ·have hke : k = (bX low high j).length := by omega
     subst hke
     obtain ⟨gP,N,cP,hvP,HN⟩ := aLk HG.out hpos
     subst hvP
     have HS := jY (aQp (aQc HG.out HN.out) (by have := aKp ((bX low high j).take (bX low high j).length); rw [List.length_take] at this; omega))
     have c0 := HG.out.c0
     go_wp2_with (first
      | (go_at_call 258; refine HS.out.mono ?_; rintro e wS ⟨rfl,hoS,hgS⟩; obtain ⟨s0,s1,t0,t1,q0,q1⟩ := aOi hB.out HG.out hgS)
      | go_in)
     refine bodyPost_ret (v := .agg #[.slice (some ⟨gP,0,none⟩) N cP, .map (some wj.heap.size)]) (by simp [results,Tryz.results216,go_sem, *]) rfl ?_
     exact HQ.out _ _ _ (aTc hB.out HG.out hgS HN.out hoS ⟨Hv.out,Hel.out⟩)
  ·obtain ⟨vals,hv,hel⟩ := hN.out
   have hpos := (xP hlow hh hhi j).1
   have hcn := (xP hlow hh hhi j).2
   have hp3 : 120 ^ j ≤ 14400 := by
    have : j ≤ 2 := by have := hj.out; omega
    exact Nat.le_trans (Nat.pow_le_pow_right (by omega) this) (by omega)
   rcases hv.2 with ⟨_,h0⟩ | ⟨g,cap,cur,rfl,r1,r2,r3,r4,r5,r6⟩
   ·omega
   clear r2 r5 r6
   have hlen : (bX low high j).length ≤ 14400 := by omega
   have Hv := jY hv
   have Hel := jY hel
   have hgl := (hv.lt g rfl).2
   have hc3 : c ≤ 3 := by have := hj.out; omega
   clear hv hel hcn hp3 r1
   go_wp2
   go_loopw [26,8] (fun i v wr => Mid low high wj (bX low high j) i v wr) (fun i _ _ => (bX low high j).length - (intOf i).toNat)
   case atStart => exact ⟨0,Nat.zero_le _,rfl,jY wV.nil,jY (Below.refl _ _)⟩
   case round =>
    rename World => wk
    obtain ⟨k,hk,rfl,hN2,hB2⟩ := hrel
    rcases Nat.lt_or_ge k (bX low high j).length with hkl | hkl
    ·obtain ⟨l,hl⟩ : ∃ l,(bX low high j)[k]? = some l := ⟨_,List.getElem?_eq_getElem hkl⟩
     obtain ⟨x,hx⟩ : ∃ x,vals[k]? = some x := ⟨_,List.getElem?_eq_getElem (by rw [yQ.len ⟨Hv.out,Hel.out⟩]; exact hkl)⟩
     have hlm : l ∈ bX low high j := List.mem_of_getElem? hl
     obtain ⟨hf1,hf2⟩ := aEl hlow hh j l hlm
     have hll := aDq j l hlm
     have Hox := jY (Hel.out k x l hx hl).1
     have Hne := jY (Hel.out k x l hx hl).2.2
     have cx : wk.cell? ⟨g,k,none⟩ = some x := (hB2.out.cell (p := ⟨g,k,none⟩) hgl).trans (cell_of_row Hv.out hx)
     obtain ⟨f,hf⟩ : ∃ f,pD low l = f := ⟨_,rfl⟩
     rw [hf] at hf1 hf2
     have Hll := jY (show l.length ≤ 3 by have := hj.out; omega)
     have Hf := jY hf
     have Hrl := jY (aN0 (k := k) hlow hhi fun l' hl' => (aEl hlow hh j l' hl').1)
     have Hlast : Hid (∀ g cap,x = .slice (some ⟨g,0,none⟩) l.length cap → l ≠ [] → wk.cell? ⟨g,l.length - 1,none⟩ = some (.int .i64 f)) := jY fun g cap hx0 hl0 => aMz hx0 hl0 Hox.out hB2.out Hf.out
     have Hnil : Hid (l = [] → f = low) := jY fun h => by have := Hf.out; subst h; simpa [pD] using this.symm
     clear hf hll hlm hx
     have HC : Hid (∀ W,Below wj.heap.size wj W → Calls Tryz.prog 130 #[x] W fun e w' => ∃ v',e = .returned v' ∧ w'.ownsRow W.heap.size 2 1 v' l.length (l.map (Value.int .i64)) ∧ Below W.heap.size W w') := jY fun W hW => aMd (w := W) (l := l) (fS Hox.out fun g hg => hW.block g (Hox.out.lt g hg).2) (by have := Hll.out; omega)
     have hwk : wj.heap.size ≤ wk.heap.size := hB2.out.size
     rcases Hox.out.2 with ⟨rfl,h0⟩ | ⟨gx,capx,curx,rfl,x1,x2,x3,x4,x5,x6⟩
     ·have hl0 := List.eq_nil_of_length_eq_zero h0
      have Hf0 := jY (Hnil.out hl0)
      clear h0 Hlast Hnil hl0 Hne
      go_wp2
      go_loopw [12,8] (fun i v wr => Inn low high wj (((bX low high j).take k).flatMap (xF low high)) l f i v wr) (fun i _ _ => (high + 1 - intOf i).toNat)
      case atStart => exact ⟨0,by omega,by rw [← Hf0.out]; simp,jY (by simpa using hN2.out),hB2,hwk⟩
      case round =>
       obtain ⟨m,hm,rfl,hN3,hB3,hz3⟩ := hrel
       by_cases hmh : f + m ≤ high
       ·obtain ⟨vals3,hv3⟩ := hN3.out
        have Hc := jY (HC.out wr hB3.out)
        have Hv3 := jY hv3
        have hl3' : l.length ≤ 3 := by have := Hll.out; omega
        have hr3 : (((bX low high j).take k).flatMap (xF low high) ++ (List.range m).map fun (i : Nat) => l ++ [f + (i : Int)]).length ≤ 2000000 := by
         have := Hrl.out
         rw [List.length_append,List.length_map,List.length_range]
         omega
        have Hl3' := jY hl3'
        have Hr3 := jY hr3
        clear hv3 hl3' hr3
        go_wp2_with (first
         | (go_at_call 130; refine Hc.out.mono ?_; rintro e w2 ⟨vc,rfl,hvc,hb2⟩; have Hvc := jY hvc; have Hb2 := jY hb2; clear hvc hb2)
         | (at_builtin; refine wpList_append_own_at _ rfl _ _ 32 rfl wr.heap.size 2 iI (.int .i64 0) 1 8 Tryz.underlying32 hiI hI0 hI1 hI2 rfl (by decide) vc _ _ rfl (Hvc.out.alloc _) ⟨w2.heap.size,0,none⟩ 1 1 [.int .i64 (f + m)] rfl rfl (cell_one_new _ _ _) (fun u hu => by simp at hu; subst hu; rfl) (by have := Hl3'.out; unfold maxLen; omega) (by have := Hl3'.out; omega) (by have := Hb2.out.size; simp; omega) ?_; intro v1 w3 ho1 hg1 hnil1 hloc1; obtain ⟨g1,cap1,rfl⟩ := aB8 ho1; have Ho1 := jY ho1; have Hg1 := jY hg1; clear ho1 hg1 hnil1 hloc1)
         | (at_builtin; refine wpList_append_own_at _ rfl _ _ 255 rfl wj.heap.size 32 iS (.slice none 0 0) 1 24 Tryz.underlying255 hiS hS0 hS1 hS2 rfl (by decide) _ _ vals3 rfl ((aWd (B := 0) Hv3.out.1 Hb2.out Hvc.out Hg1.out).alloc _) ⟨w3.heap.size,0,none⟩ 1 1 [.slice (some ⟨g1,0,none⟩) (l.length + 1) cap1] rfl rfl (cell_one_new _ _ _) (fun u hu => by simp at hu; subst hu; exact aNz Ho1.out) (by have := Hr3.out; unfold maxLen; omega) (by have := Hr3.out; omega) (by have h1 := Hb2.out.size; have h2 := Hg1.out.size; simp at h2 ⊢; omega) ?_; intro v2 w4 ho2 hg2 hnil2 hloc2; have Ho2 := jY ho2; have Hg2 := jY hg2; have Hloc2 := jY hloc2; clear ho2 hg2 hnil2 hloc2)
         | go_in)
        go_roundw
        case rel => first | exact aAt (low := low) hmh Hv3.out hB3 hz3 Hb2.out Hvc.out Hg1.out Ho1.out Hg2.out Ho2.out Hloc2.out | exact ⟨_,_,_,_,_,_,_,_,_,_,_,_,_,_,_,aAt (low := low) hmh Hv3.out hB3 hz3 Hb2.out Hvc.out Hg1.out Ho1.out Hg2.out Ho2.out Hloc2.out,rfl⟩
        case measure => simp [intOf]; omega
       ·have hme : f + m = high + 1 := by omega
        go_wp2
        go_roundw
        case rel => first | exact aAu hkl hl Hf.out (by rw [hme]) ⟨m,hm,rfl,hN3,hB3,hz3⟩ | exact ⟨_,_,_,_,_,aAu hkl hl Hf.out (by rw [hme]) ⟨m,hm,rfl,hN3,hB3,hz3⟩,rfl,rfl,rfl,rfl,rfl⟩
        case measure => simp [intOf]; omega
     ·clear x1 x2 x5 x6
      have hl0 : l ≠ [] := fun e => by have := Hne.out e; cases this
      have hc0 := Hlast.out gx capx rfl hl0
      have h0 : 0 < l.length := List.length_pos_iff.2 hl0
      have hl3 : l.length ≤ 3 := by have := Hll.out; omega
      clear Hlast Hnil Hne
      go_wp2
      go_loopw [12,8] (fun i v wr => Inn low high wj (((bX low high j).take k).flatMap (xF low high)) l f i v wr) (fun i _ _ => (high + 1 - intOf i).toNat)
      case atStart => exact ⟨0,by omega,by simp,jY (by simpa using hN2.out),hB2,hwk⟩
      case round =>
       obtain ⟨m,hm,rfl,hN3,hB3,hz3⟩ := hrel
       by_cases hmh : f + m ≤ high
       ·obtain ⟨vals3,hv3⟩ := hN3.out
        have Hc := jY (HC.out wr hB3.out)
        have Hv3 := jY hv3
        have hl3' : l.length ≤ 3 := by have := Hll.out; omega
        have hr3 : (((bX low high j).take k).flatMap (xF low high) ++ (List.range m).map fun (i : Nat) => l ++ [f + (i : Int)]).length ≤ 2000000 := by
         have := Hrl.out
         rw [List.length_append,List.length_map,List.length_range]
         omega
        have Hl3' := jY hl3'
        have Hr3 := jY hr3
        clear hv3 hl3' hr3
        go_wp2_with (first
         | (go_at_call 130; refine Hc.out.mono ?_; rintro e w2 ⟨vc,rfl,hvc,hb2⟩; have Hvc := jY hvc; have Hb2 := jY hb2; clear hvc hb2)
         | (at_builtin; refine wpList_append_own_at _ rfl _ _ 32 rfl wr.heap.size 2 iI (.int .i64 0) 1 8 Tryz.underlying32 hiI hI0 hI1 hI2 rfl (by decide) vc _ _ rfl (Hvc.out.alloc _) ⟨w2.heap.size,0,none⟩ 1 1 [.int .i64 (f + m)] rfl rfl (cell_one_new _ _ _) (fun u hu => by simp at hu; subst hu; rfl) (by have := Hl3'.out; unfold maxLen; omega) (by have := Hl3'.out; omega) (by have := Hb2.out.size; simp; omega) ?_; intro v1 w3 ho1 hg1 hnil1 hloc1; obtain ⟨g1,cap1,rfl⟩ := aB8 ho1; have Ho1 := jY ho1; have Hg1 := jY hg1; clear ho1 hg1 hnil1 hloc1)
         | (at_builtin; refine wpList_append_own_at _ rfl _ _ 255 rfl wj.heap.size 32 iS (.slice none 0 0) 1 24 Tryz.underlying255 hiS hS0 hS1 hS2 rfl (by decide) _ _ vals3 rfl ((aWd (B := 0) Hv3.out.1 Hb2.out Hvc.out Hg1.out).alloc _) ⟨w3.heap.size,0,none⟩ 1 1 [.slice (some ⟨g1,0,none⟩) (l.length + 1) cap1] rfl rfl (cell_one_new _ _ _) (fun u hu => by simp at hu; subst hu; exact aNz Ho1.out) (by have := Hr3.out; unfold maxLen; omega) (by have := Hr3.out; omega) (by have h1 := Hb2.out.size; have h2 := Hg1.out.size; simp at h2 ⊢; omega) ?_; intro v2 w4 ho2 hg2 hnil2 hloc2; have Ho2 := jY ho2; have Hg2 := jY hg2; have Hloc2 := jY hloc2; clear ho2 hg2 hnil2 hloc2)
         | go_in)
        go_roundw
        case rel => first | exact aAt (low := low) hmh Hv3.out hB3 hz3 Hb2.out Hvc.out Hg1.out Ho1.out Hg2.out Ho2.out Hloc2.out | exact ⟨_,_,_,_,_,_,_,_,_,_,_,_,_,_,_,aAt (low := low) hmh Hv3.out hB3 hz3 Hb2.out Hvc.out Hg1.out Ho1.out Hg2.out Ho2.out Hloc2.out,rfl⟩
        case measure => simp [intOf]; omega
       ·have hme : f + m = high + 1 := by omega
        go_wp2
        go_roundw
        case rel => first | exact aAu hkl hl Hf.out (by rw [hme]) ⟨m,hm,rfl,hN3,hB3,hz3⟩ | exact ⟨_,_,_,_,_,aAu hkl hl Hf.out (by rw [hme]) ⟨m,hm,rfl,hN3,hB3,hz3⟩,rfl,rfl,rfl,rfl,rfl⟩
        case measure => simp [intOf]; omega
    ·have hke : k = (bX low high j).length := by omega
     go_wp2
     go_roundw
     case rel => exact aP0 hj.out hke hN2 hB2 hB
     case measure => simp [intOf]
end Go.Proofs.YtgcdbbidmfdonaaGreat
namespace Go.Proofs.YtgcdbbidmfdonaaGreat
open Go.Shelf Go.RowKit Go.Sort Go.Maps
set_option linter.unusedVariables false
set_option maxRecDepth 100000
theorem aJu {w : World} {F : Nat → Prop} {base n : Nat} {e : TypeId} {v : Value} {vals : List Value} {es : List DV} (h : w.ownsRow base e 1 v n vals) (hF : ∀ g,base ≤ g → g < w.heap.size → F g) (hl : es.length = n) (hr : ∀ (i : Nat) x y,vals[i]? = some x → es[i]? = some y → wR w F x y) : wR w F v (.sl (es.map fun y => [y])) := by
 have hvl : vals.length = n := by have := h.1; omega
 rcases h.2 with ⟨rfl,h0⟩ | ⟨g,cap,cur,rfl,h1,h2,h3,h4,h5,h6⟩
 ·have : es = [] := List.eq_nil_of_length_eq_zero (by omega)
  subst this
  exact .nil
 ·have hlm : (es.map fun y => [y]).length = n := by rw [List.length_map,hl]
  have hlt := (Array.getElem?_eq_some_iff.1 h2).1
  have := wR.sl (w := w) (F := F) g 0 cap 1 (es.map fun y => [y]) (fun i _ => vals.getD i (.bool false)) (hF g h1 hlt) (by omega) h4 (fun i e hi => by
   simp only [List.getElem?_map,Option.map_eq_some_iff] at hi
   obtain ⟨x,_,rfl⟩ := hi; rfl) (fun i e j x hi hj => by
   simp only [List.getElem?_map,Option.map_eq_some_iff] at hi
   obtain ⟨y,hy,rfl⟩ := hi
   match j with
   | 0 =>
    have hi' : i < vals.length := by have := (List.getElem?_eq_some_iff.1 hy).1; omega
    have := h.cells (g := g) rfl i vals[i] (List.getElem?_eq_getElem hi')
    simp only [List.getD_eq_getElem?_getD,List.getElem?_eq_getElem hi',Option.getD_some]
    simpa [Addr.add] using (cell_of_row h (List.getElem?_eq_getElem hi'))
   | j + 1 => simp at hj) (fun i e j x hi hj => by
   simp only [List.getElem?_map,Option.map_eq_some_iff] at hi
   obtain ⟨y,hy,rfl⟩ := hi
   match j with
   | 0 =>
    simp at hj
    subst hj
    have hi' : i < vals.length := by have := (List.getElem?_eq_some_iff.1 hy).1; omega
    simp only [List.getD_eq_getElem?_getD,List.getElem?_eq_getElem hi',Option.getD_some]
    exact hr i _ _ (List.getElem?_eq_getElem hi') hy
   | j + 1 => simp at hj)
  rw [hlm] at this
  exact this
theorem aGf {w : World} {F : Nat → Prop} {base : Nat} {e : TypeId} {v : Value} {l : List Int} {n : Nat} (hn : n = l.length) (h : w.ownsRow base e 1 v n (l.map (Value.int .i64))) (hF : ∀ g,base ≤ g → g < w.heap.size → F g) : wR w F v (.sl (l.map fun x => [DV.v (.int .i64 x)])) := by
 have := aJu (es := l.map fun x => DV.v (.int .i64 x)) h hF (by simp [hn]) fun i x y hx hy => by
  simp only [List.getElem?_map,Option.map_eq_some_iff] at hx hy
  obtain ⟨a,h1,rfl⟩ := hx
  obtain ⟨b,h2,rfl⟩ := hy
  rw [h1] at h2
  cases h2
  exact .v _ rfl
 rwa [List.map_map] at this
theorem aHx {ls : List (List Int)} {vals : List Value} (h : ls.length = vals.length) (p : Int) : eY ls p = ((ls.zip vals).filter fun q => decide (cU q.1 = p)).map (·.1) := by
 unfold eY
 induction ls generalizing vals with
 | nil => rfl
 | cons l ls ih =>
  obtain ⟨v,vals,rfl⟩ : ∃ v vs,vals = v :: vs := by cases vals; simp at h; exact ⟨_,_,rfl⟩
  rw [List.zip_cons_cons,List.filter_cons,List.filter_cons]
  have := ih (vals := vals) (by simpa using h)
  by_cases e : cU l = p <;> simp [e,this]
theorem aPo {low high : Int} {cnt B : Nat} {w w' : World} {vP : Value} {F : Nat → Prop} (h : aUm low high cnt w vP B w') (hF : ∀ g,w.heap.size ≤ g → g < w'.heap.size → F g) :
  wR w' F vP (.sl ((aAj (gW (bX low high cnt))).map fun x => [DV.v (.int .i64 x)])) ∧ wR w' F (.map (some B)) (.mp (eY (bX low high cnt))) := by
 obtain ⟨vals,val,n,h1,h2,h3,h4,h5,h6,h7⟩ := h
 refine ⟨aGf (aCh _).symm h3 hF,?_⟩
 obtain ⟨clock,es,hb,hk⟩ := h4.key Tryz.underlying243 Tryz.underlying2 (aQr w')
 refine .mp B clock es _ val (hF B h2 h4.lt) hb (fun k k0 k1 => hk k ⟨k0,k1⟩) fun k k0 k1 => ?_
 have := aJu (es := (eY (bX low high cnt) k).map fun r => DV.sl (r.map fun x => [DV.v (.int .i64 x)])) (h5 k) hF (by rw [List.length_map,aHx h7,List.length_map]; unfold oR; rw [List.length_map]) fun i x y hx hy => by
  rw [aHx h7] at hy
  unfold oR at hx
  simp only [List.getElem?_map,Option.map_eq_some_iff,List.map_map] at hx hy
  obtain ⟨q,hq,rfl⟩ := hx
  obtain ⟨q',hq',rfl⟩ := hy
  rw [hq] at hq'
  cases hq'
  have hm := List.mem_of_getElem? hq
  have hz := (List.mem_filter.1 hm).1
  obtain ⟨i',hi',e⟩ := List.getElem_of_mem hz
  rw [List.getElem_zip] at e
  subst e
  rw [List.length_zip] at hi'
  exact aGf rfl (h6 i' _ _ (List.getElem?_eq_getElem (by omega)) (List.getElem?_eq_getElem (by omega))) hF
 rw [List.map_map] at this
 exact this
theorem aR5 {w w' : World} {F : Nat → Prop} {μ : cF} {gl : aH2 F w} (H : jN ⟨w,F, μ,lks [],gl⟩ F μ (lks []) w) (b : Below w.heap.size w w') (G : Nat → Prop) (hG : ∀ x,G x → w.heap.size ≤ x ∧ x < w'.heap.size) : jN ⟨w,F, μ,lks [],gl⟩ (fun x => F x ∨ G x) μ (lks []) w' := by
 have no : ∀ {k f o},lv (lks []) k f = some o → False := fun hl => by simp [lv,lks] at hl
 exact ⟨fun k f o hl => (no hl).elim,fun k f o k' f' o' b hl => (no hl).elim,fun k f o b hl => (no hl).elim,fun k f o b hl => (no hl).elim,fun x hx => hx.elim (fun hx => Nat.lt_of_lt_of_le (H.fz x hx) b.size) fun hx => (hG x hx).2,fun x hx => hx.elim .inl fun hx => .inr (.inr (hG x hx).1),
  ⟨fun x hx => b.block x (H.fz x hx),fun _ hb => .inl hb,fun _ hb => hb,fun k f o' hk ho' => (no ho').elim⟩,b.os,b.tape,b.output,b.size,fun x hx _ => b.block x hx⟩
theorem aT0 {low high cnt : Int} (h : 1 ≤ low ∧ low ≤ high ∧ high ≤ 120 ∧ 1 ≤ cnt ∧ cnt ≤ 3) : FnC Tryz.prog 216 [] [.d (.v (.int .i64 low)), .d (.v (.int .i64 high)), .d (.v (.int .i64 cnt))] [] (.agg [.d (.sl ((aAj (gW (bX low high cnt.toNat))).map fun x => [DV.v (.int .i64 x)])), .d (.mp (eY (bX low high cnt.toNat)))]) := by
 obtain ⟨q1,q2,q3,q4,q5⟩ := h
 refine ⟨by kernel_rfl,fun w F μ us gl H hs hus => ?_⟩
 obtain ⟨s0,s1,s2,rfl⟩ : ∃ s0 s1 s2,us = #[s0,s1,s2] := by
  obtain ⟨l⟩ := us
  match l,hs with
  | [a,b,c],_ => exact ⟨a,b,c,rfl⟩
 have e0 := mE (hus 0 s0 _ rfl rfl)
 have e1 := mE (hus 1 s1 _ rfl rfl)
 have e2 := mE (hus 2 s2 _ rfl rfl)
 subst e0 e1 e2
 obtain ⟨c,rfl⟩ : ∃ c : Nat,cnt = c := ⟨cnt.toNat,by omega⟩
 rw [Int.toNat_natCast]
 refine aOe q1 q2 q3 (by omega) (by omega) _ (jY fun vP B w' hf => ?_)
 obtain ⟨d1,d2⟩ := aPo (F := fun x => F x ∨ (w.heap.size ≤ x ∧ x < w'.heap.size)) hf fun g h1 h2 => .inr ⟨h1,h2⟩
 obtain ⟨vals,val,n,h1,_⟩ := hf
 refine ⟨_,fun x => F x ∨ (w.heap.size ≤ x ∧ x < w'.heap.size), μ,rfl,aR5 H h1 (fun x => w.heap.size ≤ x ∧ x < w'.heap.size) fun x hx => hx, .agg _ _ rfl fun i v a h1 h2 => ?_⟩
 match i with
 | 0 => simp at h1 h2; subst h1 h2; exact .d _ _ d1
 | 1 => simp at h1 h2; subst h1 h2; exact .d _ _ d2
 | i + 2 => simp at h2
end Go.Proofs.YtgcdbbidmfdonaaGreat
