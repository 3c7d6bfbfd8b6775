/- Texts of this claim, one behind the other (merged by a program of mine). -/
import Derived.Test.YtgcdbbidmfdonaaGreatRows
import Derived.ProofKit
import Derived.OpenShut
import Derived.ShutString
import Derived.ChangeOld
import Derived.Below
import Derived.Deep.Slices
import Derived.Test.YtgcdbbidmfdonaaGreatProg
import Derived.Test.YtgcdbbidmfdonaaGreatGT3
set_option linter.unusedSimpArgs false
set_option linter.unusedVariables false
namespace Go.Proofs.YtgcdbbidmfdonaaGreat
open Go.ChangeShapes Go.WideShapes Go.ChangeAt Go.RowKit
open Go.ChangeMaps (open_string shut_string)
set_option maxRecDepth 100000
theorem own : ownKnob Tryz.prog.godebug = none := by kernel_rfl
theorem aPj : laidOutB Tryz.prog = true := by kernel_rfl
end Go.Proofs.YtgcdbbidmfdonaaGreat
namespace Go.Proofs.YtgcdbbidmfdonaaGreat
open Go.ChangeShapes Go.WideShapes Go.ChangeAt Go.RowKit Go.Deep
set_option linter.unusedVariables false
set_option maxRecDepth 100000
theorem aQd {w : World} {a : Addr} {v : Value} (h : w.cell? a = some v) : a.block < w.heap.size := by
 unfold World.cell? at h
 cases hb : w.heap[a.block]? with
 | none => simp [hb] at h
 | some b => exact (Array.getElem?_eq_some_iff.1 hb).1
def aRp (w : World) (cs : List Value) (ds : List DV) : Prop := cs.length = ds.length ∧ ∀ (j : Nat) v x,cs[j]? = some v → ds[j]? = some x → aEd w (fun b => b < w.heap.size) v x
theorem aKw {w : World} : aRp w [] [] := ⟨rfl,fun j v x h => by simp at h⟩
theorem aJb {w : World} {v : Value} {x : DV} {cs : List Value} {ds : List DV} (h : aEd w (fun b => b < w.heap.size) v x) (k : aRp w cs ds) : aRp w (v :: cs) (x :: ds) := by
 refine ⟨by simp [k.1],fun j a b h1 h2 => ?_⟩
 cases j with
 | zero => simp at h1 h2; subst h1 h2; exact h
 | succ j => simp at h1 h2; exact k.2 j a b h1 h2
theorem aRb {w : World} (k : IntKind) (z : Int) : aEd w (fun b => b < w.heap.size) (.int k z) (.v (.int k z)) := .v _ rfl
theorem aQa {w : World} : ∀ (i : Nat) v a,(List.toArray ([] : List Value))[i]? = some v → ([] : List AV)[i]? = some a → fF w (fun b => b < w.heap.size) (fun _ _ => none) (lks []) v a := fun i v a h => by simp at h
theorem aI8 {w : World} {v0 : Value} {a0 : AV} {vs : List Value} {bs : List AV} (h : fF w (fun b => b < w.heap.size) (fun _ _ => none) (lks []) v0 a0) (k : ∀ (i : Nat) v a,vs.toArray[i]? = some v → bs[i]? = some a → fF w (fun b => b < w.heap.size) (fun _ _ => none) (lks []) v a) :
  ∀ (i : Nat) v a,(v0 :: vs).toArray[i]? = some v → (a0 :: bs)[i]? = some a → fF w (fun b => b < w.heap.size) (fun _ _ => none) (lks []) v a := fun i v a h1 h2 => by
 cases i with
 | zero => simp at h1 h2; subst h1 h2; exact h
 | succ i =>
  simp at h1 h2
  exact k i v a (by simpa using h1) h2
section
variable {H : Type} {enc : TypeId × Value → H} {W : World} {b0 : Nat} {spare : Nat → Bool} {held : Bool} {aB9 : Nat} {cs : List Value} {x : DataW H × List MemPlace}
theorem aT3 {P : Program} {t e : TypeId} {α : Type} [Inhabited α] {a : Value} (f : α → List DV) (ok : α → Prop) (sz : Nat) (hf : ∀ a,(f a).length = sz) (hsz : 0 < sz) (ht : P.underlying t = some (.slice e)) (hC : P.cellsOf e = sz)
  (rd : ∀ (aB9 : Nat) (cs : List Value) (x : DataW H × List MemPlace),DataW.trod enc P W b0 spare held aB9 e cs = some x → ∃ m,aRp W cs (f m) ∧ ok m)
  (h : ∃ n y,DataW.trod enc P W b0 spare held n t [a] = some y) :
  ∃ xs : List α,aEd W (fun b => b < W.heap.size) a (.sl (xs.map f)) ∧ xs.length ≤ 9223372036854775807 ∧ ∀ m ∈ xs,ok m := by
 obtain ⟨n,y,h⟩ := h
 rcases DataW.trod_slice ht h with ⟨h0,_⟩ | ⟨ad,len,cap,elems,rest,n',_,hcs,_,hb,hl,hm,hel,hi,_,_⟩
 ·simp at h0
  subst h0
  exact ⟨[], .nil,by simp,fun m hm => by simp at hm⟩
 ·simp at hcs
  subst hcs
  rw [hC] at hi
  obtain ⟨q,hq⟩ := choose_lt (α := α) (n := len) (p := fun k q => (∃ cs',W.cells? b0 (ad.add (k * sz)) sz = some cs' ∧ aRp W cs' (f q)) ∧ ok q) (fun k hk => by
   have h1 := hi k hk
   rw [List.getElem?_eq_getElem (by omega)] at h1
   obtain ⟨cs',hc,htr⟩ := Option.bind_eq_some_iff.1 h1
   obtain ⟨m,hm1,hm2⟩ := rd _ _ _ htr
   exact ⟨m,⟨cs',hc,hm1⟩,hm2⟩)
  have hxl : ((List.range len).map q).length = len := by simp
  refine ⟨(List.range len).map q,?_,by rw [hxl]; unfold maxLen at hm; omega,fun m hm' => ?_⟩
  ·have hcell : ∀ k,k < len → ∀ j,j < sz → ∃ v,W.cell? (ad.add (k * sz + j)) = some v ∧ ∀ x,(f (q k))[j]? = some x → aEd W (fun b => b < W.heap.size) v x := by
    intro k hk j hj
    obtain ⟨⟨cs',hc,hr⟩,_⟩ := hq k hk
    obtain ⟨_,hl',hat⟩ := World.cells?_some hc
    have hjl : j < cs'.length := by rw [hr.1,hf]; exact hj
    refine ⟨cs'[j],?_,fun x hx => hr.2 j _ x (List.getElem?_eq_getElem hjl) hx⟩
    rw [← Go.Deep.add_add, ← List.getElem?_eq_getElem hjl]
    exact hat j hj
   rcases Nat.eq_zero_or_pos len with h0 | h0
   ·subst h0
    exact .emp _ _ hm
   ·obtain ⟨v0,h00,_⟩ := hcell 0 h0 0 hsz
    obtain ⟨b,off,spot⟩ := ad
    have hspot : spot = none := by
     have := World.cell?_spot h00
     simpa [Addr.add] using this
    subst hspot
    have hdd : aEd W (fun b => b < W.heap.size) (.slice (some ⟨b,off,none⟩) ((List.range len).map (fun k => f (q k))).length cap) (.sl ((List.range len).map fun k => f (q k))) := by
     refine .sl b off cap sz _ (fun i j => (W.cell? ⟨b,off + i * sz + j,none⟩).getD undef) ?_ (by simpa using hl) hm (fun i e he => ?_) (fun i e j x he hx => ?_) (fun i e j x he hx => ?_)
     ·have h01 := aQd h00
      simp only [Addr.add] at h01
      split at h01 <;> exact h01
     ·rw [List.getElem?_map] at he
      obtain ⟨k,_,rfl⟩ := Option.map_eq_some_iff.1 he
      exact hf _
     all_goals
      rw [List.getElem?_map] at he
      obtain ⟨k,hk,rfl⟩ := Option.map_eq_some_iff.1 he
      obtain ⟨hil,rfl⟩ := List.getElem?_eq_some_iff.1 hk
      simp only [List.length_range] at hil
      simp only [List.getElem_range] at hx
      have hjl : j < sz := by have := (List.getElem?_eq_some_iff.1 hx).1; rw [hf] at this; exact this
      obtain ⟨v,hv,hr⟩ := hcell i hil j hjl
      rw [add_plain, ← Nat.add_assoc] at hv
      rw [hv]
     ·rfl
     ·exact hr x hx
    simpa [List.map_map,Function.comp_def] using hdd
  ·obtain ⟨k,hk,rfl⟩ := List.mem_map.1 hm'
   exact (hq k (by simpa using hk)).2
end
end Go.Proofs.YtgcdbbidmfdonaaGreat
namespace Go.Proofs.YtgcdbbidmfdonaaGreat
open Go.ChangeShapes Go.WideShapes Go.ChangeAt Go.RowKit Go.Deep
set_option linter.unusedVariables false
set_option maxRecDepth 100000
def osI (x : Int) : Prop := -9223372036854775808 ≤ x ∧ x ≤ 9223372036854775807
def aSa (x : Int) : Prop := 0 ≤ x ∧ x ≤ 255
def osL {α : Type} (ok : α → Prop) (xs : List α) : Prop := xs.length ≤ 9223372036854775807 ∧ ∀ m ∈ xs,ok m
section
variable {H : Type} {enc : TypeId × Value → H} {W : World} {b0 : Nat} {spare : Nat → Bool} {held : Bool} {aB9 : Nat} {cs : List Value} {x : DataW H × List MemPlace}
theorem aTp {P : Program} {t e : TypeId} (ht : P.underlying t = some (.slice e)) (h : DataW.trod enc P W b0 spare held aB9 t cs = some x) : ∃ v,cs = [v] := by
 rcases DataW.trod_slice ht h with ⟨h0,_⟩ | ⟨ad,len,cap,elems,rest,n',_,hcs,_⟩
 ·exact ⟨_,h0⟩
 ·exact ⟨_,hcs⟩
theorem aT8 {P : Program} {t e : TypeId} {α : Type} {a : Value} (f : α → List DV) (ok : α → Prop) (sz : Nat) (hf : ∀ a,(f a).length = sz) (hsz : 0 < sz) (ht : P.underlying t = some (.slice e)) (hC : P.cellsOf e = sz)
  (rd : ∀ (aB9 : Nat) (cs : List Value) (x : DataW H × List MemPlace),DataW.trod enc P W b0 spare held aB9 e cs = some x → ∃ m,aRp W cs (f m) ∧ ok m)
  (h : ∃ n y,DataW.trod enc P W b0 spare held n t [a] = some y) :
  ∃ xs : List α,aEd W (fun b => b < W.heap.size) a (.sl (xs.map f)) ∧ xs.length ≤ 9223372036854775807 ∧ ∀ m ∈ xs,ok m := by
 by_cases hne : Nonempty α
 ·haveI : Inhabited α := ⟨Classical.choice hne⟩
  exact aT3 f ok sz hf hsz ht hC rd h
 ·obtain ⟨n,y,h⟩ := h
  rcases DataW.trod_slice ht h with ⟨h0,_⟩ | ⟨ad,len,cap,elems,rest,n',_,hcs,_,hb,hl,hm,hel,hi,_,_⟩
  ·simp at h0
   subst h0
   exact ⟨[], .nil,by simp,fun m hm => by simp at hm⟩
  ·simp at hcs
   subst hcs
   rcases Nat.eq_zero_or_pos len with h0 | h0
   ·subst h0
    exact ⟨[], .emp _ _ hm,by simp,fun m hm => by simp at hm⟩
   ·exfalso
    have h1 := hi 0 h0
    rw [List.getElem?_eq_getElem (by omega)] at h1
    obtain ⟨cs',hc,htr⟩ := Option.bind_eq_some_iff.1 h1
    obtain ⟨m,_⟩ := rd _ _ _ htr
    exact hne ⟨m⟩
end
end Go.Proofs.YtgcdbbidmfdonaaGreat
namespace Go.Proofs.YtgcdbbidmfdonaaGreat
open Go.RowKit
set_option linter.unusedVariables false
set_option maxRecDepth 100000
set_option maxHeartbeats 2000000
end Go.Proofs.YtgcdbbidmfdonaaGreat
namespace Go.Proofs.YtgcdbbidmfdonaaGreat
open Go.ChangeShapes Go.WideShapes Go.ChangeAt Go.RowKit Go.Deep
set_option linter.unusedVariables false
set_option maxRecDepth 100000
set_option maxHeartbeats 2000000
theorem aW0 {H : Type} {enc : TypeId × Value → H} {W : World} {b0 : Nat} {spare : Nat → Bool} {held : Bool} {aB9 : Nat} {cs : List Value} {x : DataW H × List MemPlace} (h : DataW.trod enc Tryz.prog W b0 spare held aB9 5 cs = some x) : ∃ v : Int,aRp W cs (cU8 v) ∧ aSa v := by
 obtain ⟨z,rfl,_,hw⟩ := DataW.trod_int Tryz.underlying5 h
 exact ⟨z,aJb (aRb _ _) aKw,by simpa [aSa,Lit.wf,IntKind.min,IntKind.max,IntKind.bits,IntKind.signed] using hw⟩
theorem aVt {H : Type} {enc : TypeId × Value → H} {W : World} {b0 : Nat} {spare : Nat → Bool} {held : Bool} {aB9 : Nat} {cs : List Value} {x : DataW H × List MemPlace} (h : DataW.trod enc Tryz.prog W b0 spare held aB9 22 cs = some x) : ∃ v : List Int,aRp W cs ((cL cU8) v) ∧ (osL aSa) v := by
 obtain ⟨v,hv⟩ : ∃ v,cs = [v] := aTp (t := 22) Tryz.underlying22 h
 subst hv
 obtain ⟨xs,hr,hm,hok⟩ := aT8 cU8 aSa 1 (fun _ => rfl) (by omega) Tryz.underlying22 (by kernel_rfl) (fun aB9 cs x h => aW0 h) ⟨_,_,h⟩
 exact ⟨xs,aJb hr aKw,hm,hok⟩
theorem aOi {H : Type} {enc : TypeId × Value → H} {W : World} {b0 base : Nat} {spare : Nat → Bool} {held : Bool} {v : Value} {d : DataW H} {p : List MemPlace} (hv : Value.okWide Tryz.prog W .any base 22 v) (h : DataW.Trod enc Tryz.prog W b0 spare held 22 v d p) : ∃ x : List Int,fF W (fun b => b < W.heap.size) (fun _ _ => none) (lks []) v (.d (.sl (List.map cU8 x))) ∧ (osL aSa) x := by
 obtain ⟨a,len,cap,rfl⟩ := okWide_slice Tryz.underlying22 hv
 obtain ⟨aB9,hf⟩ := h
 obtain ⟨x,hr,hok⟩ := aVt hf
 exact ⟨x, .d _ _ (hr.2 0 _ _ rfl rfl),hok⟩
end Go.Proofs.YtgcdbbidmfdonaaGreat
namespace Go.Proofs.YtgcdbbidmfdonaaGreat
open Go.RowKit
set_option linter.unusedVariables false
set_option maxRecDepth 100000
theorem ty2 : jR Tryz.prog 2 ⟨.int .i64,1,8, .int .i64 0⟩ := bU (by kernel_rfl)
theorem ty3 : jR Tryz.prog 3 ⟨.int .i64,1,8, .int .i64 0⟩ := bU (by kernel_rfl)
theorem ty4 : jR Tryz.prog 4 ⟨.bool,1,1, .bool false⟩ := bU (by kernel_rfl)
theorem ty5 : jR Tryz.prog 5 ⟨.int .u8,1,1, .int .u8 0⟩ := bU (by kernel_rfl)
theorem ty6 : jR Tryz.prog 6 ⟨.int .u8,1,1, .int .u8 0⟩ := bU (by kernel_rfl)
theorem ty8 : jR Tryz.prog 8 ⟨.struct #[⟨"x",2,0,false, "", "runtime",0⟩,⟨"y",3,1,false, "", "runtime",8⟩,⟨"signed",4,2,false, "", "runtime",16⟩,⟨"code",6,3,false, "", "runtime",17⟩],4,24, .agg #[.int .i64 0, .int .i64 0, .bool false, .int .u8 0]⟩ := bU (by kernel_rfl)
theorem ty9 : jR Tryz.prog 9 ⟨.string,1,16, .string ⟨#[]⟩⟩ := bU (by kernel_rfl)
theorem aWm : jR Tryz.prog 10 ⟨.string,1,16, .string ⟨#[]⟩⟩ := bU (by kernel_rfl)
theorem aWi : jR Tryz.prog 11 ⟨.string,1,16, .string ⟨#[]⟩⟩ := bU (by kernel_rfl)
theorem aWj : jR Tryz.prog 12 ⟨.int .u64,1,8, .int .u64 0⟩ := bU (by kernel_rfl)
theorem aW6 : jR Tryz.prog 14 ⟨.struct #[⟨"msg",9,0,false, "", "runtime",0⟩,⟨"addr",12,1,false, "", "runtime",16⟩],2,24, .agg #[.string ⟨#[]⟩, .int .u64 0]⟩ := bU (by kernel_rfl)
theorem aW1 : jR Tryz.prog 15 ⟨.pointer 342,1,8, .pointer none⟩ := bU (by kernel_rfl)
theorem aWe : jR Tryz.prog 16 ⟨.pointer 345,1,8, .pointer none⟩ := bU (by kernel_rfl)
theorem aWk : jR Tryz.prog 17 ⟨.pointer 354,1,8, .pointer none⟩ := bU (by kernel_rfl)
theorem aWx : jR Tryz.prog 19 ⟨.struct #[⟨"typ",17,0,false, "", "internal/runtime/maps",0⟩],1,8, .agg #[.pointer none]⟩ := bU (by kernel_rfl)
theorem aWh : jR Tryz.prog 22 ⟨.slice 5,1,24, .slice none 0 0⟩ := bU (by kernel_rfl)
theorem aWg : jR Tryz.prog 24 ⟨.slice 123,1,24, .slice none 0 0⟩ := bU (by kernel_rfl)
theorem aWn : jR Tryz.prog 25 ⟨.slice 125,1,24, .slice none 0 0⟩ := bU (by kernel_rfl)
theorem aWv : jR Tryz.prog 27 ⟨.struct #[⟨"Arbors",24,0,false, "", "",0⟩,⟨"Meshes",25,1,false, "", "",24⟩],2,48, .agg #[.slice none 0 0, .slice none 0 0]⟩ := bU (by kernel_rfl)
theorem aWd : jR Tryz.prog 28 ⟨.slice 170,1,24, .slice none 0 0⟩ := bU (by kernel_rfl)
theorem aWs : jR Tryz.prog 29 ⟨.slice 181,1,24, .slice none 0 0⟩ := bU (by kernel_rfl)
theorem aWw : jR Tryz.prog 31 ⟨.struct #[⟨"Name",9,0,false, "", "",0⟩,⟨"Months",28,1,false, "", "",16⟩,⟨"Rules",29,2,false, "", "",40⟩,⟨"Week",2,3,false, "", "",64⟩],4,72, .agg #[.string ⟨#[]⟩, .slice none 0 0, .slice none 0 0, .int .i64 0]⟩ := bU (by kernel_rfl)
theorem aW7 : jR Tryz.prog 32 ⟨.slice 2,1,24, .slice none 0 0⟩ := bU (by kernel_rfl)
theorem aW4 : jR Tryz.prog 34 ⟨.struct #[⟨"Name",9,0,false, "", "",0⟩,⟨"Works",27,1,false, "", "",16⟩,⟨"Minute",2,3,false, "", "",64⟩,⟨"Hour",2,4,false, "", "",72⟩,⟨"Escape",2,5,false, "", "",80⟩,⟨"Teeth",2,6,false, "", "",88⟩,⟨"Beats",2,7,false, "", "",96⟩,⟨"Calendar",31,8,false, "", "",104⟩,⟨"Cam",32,12,false, "", "",176⟩,⟨"Strike",2,13,false, "", "",200⟩],14,208, .agg #[.string ⟨#[]⟩, .slice none 0 0, .slice none 0 0, .int .i64 0, .int .i64 0, .int .i64 0, .int .i64 0, .int .i64 0, .string ⟨#[]⟩, .slice none 0 0, .slice none 0 0, .int .i64 0, .slice none 0 0, .int .i64 0]⟩ := bU (by kernel_rfl)
theorem aW3 : jR Tryz.prog 36 ⟨.struct #[⟨"Year",2,0,false, "", "",0⟩,⟨"Month",2,1,false, "", "",8⟩,⟨"Day",2,2,false, "", "",16⟩],3,24, .agg #[.int .i64 0, .int .i64 0, .int .i64 0]⟩ := bU (by kernel_rfl)
theorem aWz : jR Tryz.prog 38 ⟨.struct #[⟨"Cam",32,0,false, "", "",0⟩,⟨"Months",2,1,false, "", "",24⟩,⟨"Teeth",2,2,false, "", "",32⟩,⟨"At",2,3,false, "", "",40⟩,⟨"Day",2,4,false, "", "",48⟩,⟨"Week",2,5,false, "", "",56⟩,⟨"Weekday",2,6,false, "", "",64⟩],7,72, .agg #[.slice none 0 0, .int .i64 0, .int .i64 0, .int .i64 0, .int .i64 0, .int .i64 0, .int .i64 0]⟩ := bU (by kernel_rfl)
theorem aWf : jR Tryz.prog 40 ⟨.struct #[⟨"Movement",34,0,false, "", "",0⟩,⟨"Start",36,14,false, "", "",208⟩,⟨"First",2,17,false, "", "",232⟩,⟨"Clock",2,18,false, "", "",240⟩,⟨"Dial",38,19,false, "", "",248⟩],26,320, .agg #[.string ⟨#[]⟩, .slice none 0 0, .slice none 0 0, .int .i64 0, .int .i64 0, .int .i64 0, .int .i64 0, .int .i64 0, .string ⟨#[]⟩, .slice none 0 0, .slice none 0 0, .int .i64 0, .slice none 0 0, .int .i64 0, .int .i64 0, .int .i64 0, .int .i64 0, .int .i64 0, .int .i64 0, .slice none 0 0, .int .i64 0, .int .i64 0, .int .i64 0, .int .i64 0, .int .i64 0, .int .i64 0]⟩ := bU (by kernel_rfl)
theorem aW8 : jR Tryz.prog 53 ⟨.slice 177,1,24, .slice none 0 0⟩ := bU (by kernel_rfl)
theorem aWp : jR Tryz.prog 62 ⟨.struct #[⟨"Num",2,0,false, "", "",0⟩,⟨"Den",2,1,false, "", "",8⟩],2,16, .agg #[.int .i64 0, .int .i64 0]⟩ := bU (by kernel_rfl)
theorem aWt : jR Tryz.prog 66 ⟨.slice 9,1,24, .slice none 0 0⟩ := bU (by kernel_rfl)
theorem aWa : jR Tryz.prog 71 ⟨.slice 200,1,24, .slice none 0 0⟩ := bU (by kernel_rfl)
theorem aW5 : jR Tryz.prog 72 ⟨.slice 215,1,24, .slice none 0 0⟩ := bU (by kernel_rfl)
theorem aW9 : jR Tryz.prog 74 ⟨.struct #[⟨"Name",9,0,false, "", "",0⟩,⟨"Months",71,1,false, "", "",16⟩,⟨"Rules",72,2,false, "", "",40⟩,⟨"Week",2,3,false, "", "",64⟩],4,72, .agg #[.string ⟨#[]⟩, .slice none 0 0, .slice none 0 0, .int .i64 0]⟩ := bU (by kernel_rfl)
theorem aWl : jR Tryz.prog 82 ⟨.pointer 157,1,8, .pointer none⟩ := bU (by kernel_rfl)
theorem aWy : jR Tryz.prog 87 ⟨.pointer 34,1,8, .pointer none⟩ := bU (by kernel_rfl)
theorem aV9 : jR Tryz.prog 94 ⟨.pointer 40,1,8, .pointer none⟩ := bU (by kernel_rfl)
theorem aV3 : jR Tryz.prog 113 ⟨.slice 121,1,24, .slice none 0 0⟩ := bU (by kernel_rfl)
theorem aUq : jR Tryz.prog 115 ⟨.struct #[⟨"Train",113,0,false, "", "",0⟩,⟨"Error",62,1,false, "", "",24⟩],3,40, .agg #[.slice none 0 0, .int .i64 0, .int .i64 0]⟩ := bU (by kernel_rfl)
theorem aUr : jR Tryz.prog 119 ⟨.struct #[⟨"LowDriver",2,0,false, "", "",0⟩,⟨"HighDriver",2,1,false, "", "",8⟩,⟨"LowDriven",2,2,false, "", "",16⟩,⟨"HighDriven",2,3,false, "", "",24⟩,⟨"Stages",2,4,false, "", "",32⟩],5,40, .agg #[.int .i64 0, .int .i64 0, .int .i64 0, .int .i64 0, .int .i64 0]⟩ := bU (by kernel_rfl)
theorem aU5 : jR Tryz.prog 121 ⟨.struct #[⟨"Driver",2,0,false, "", "",0⟩,⟨"Driven",2,1,false, "", "",8⟩],2,16, .agg #[.int .i64 0, .int .i64 0]⟩ := bU (by kernel_rfl)
theorem aVq : jR Tryz.prog 123 ⟨.struct #[⟨"Name",9,0,false, "", "",0⟩,⟨"Wheels",32,1,false, "", "",16⟩],2,40, .agg #[.string ⟨#[]⟩, .slice none 0 0]⟩ := bU (by kernel_rfl)
theorem aV2 : jR Tryz.prog 125 ⟨.struct #[⟨"A",2,0,false, "", "",0⟩,⟨"WheelA",2,1,false, "", "",8⟩,⟨"B",2,2,false, "", "",16⟩,⟨"WheelB",2,3,false, "", "",24⟩],4,32, .agg #[.int .i64 0, .int .i64 0, .int .i64 0, .int .i64 0]⟩ := bU (by kernel_rfl)
theorem aVj : jR Tryz.prog 128 ⟨.slice 62,1,24, .slice none 0 0⟩ := bU (by kernel_rfl)
theorem aVk : jR Tryz.prog 140 ⟨.pointer 31,1,8, .pointer none⟩ := bU (by kernel_rfl)
theorem aU7 : jR Tryz.prog 155 ⟨.int .u64,1,8, .int .u64 0⟩ := bU (by kernel_rfl)
theorem aVm : jR Tryz.prog 157 ⟨.struct #[⟨"code",22,0,false, "", "loop.example/g00921/spec",0⟩,⟨"at",3,1,false, "", "loop.example/g00921/spec",24⟩,⟨"seed",155,2,false, "", "loop.example/g00921/spec",32⟩],3,40, .agg #[.slice none 0 0, .int .i64 0, .int .u64 0]⟩ := bU (by kernel_rfl)
theorem aVg : jR Tryz.prog 163 ⟨.pointer 38,1,8, .pointer none⟩ := bU (by kernel_rfl)
theorem aVv : jR Tryz.prog 170 ⟨.struct #[⟨"Name",9,0,false, "", "",0⟩,⟨"Days",2,1,false, "", "",16⟩,⟨"Leap",2,2,false, "", "",24⟩],3,32, .agg #[.string ⟨#[]⟩, .int .i64 0, .int .i64 0]⟩ := bU (by kernel_rfl)
theorem aUx : jR Tryz.prog 177 ⟨.struct #[⟨"Year",2,0,false, "", "",0⟩,⟨"Month",2,1,false, "", "",8⟩,⟨"Shown",2,2,false, "", "",16⟩,⟨"Right",2,3,false, "", "",24⟩],4,32, .agg #[.int .i64 0, .int .i64 0, .int .i64 0, .int .i64 0]⟩ := bU (by kernel_rfl)
theorem aVd : jR Tryz.prog 181 ⟨.struct #[⟨"Every",2,0,false, "", "",0⟩,⟨"Rest",2,1,false, "", "",8⟩,⟨"Leap",4,2,false, "", "",16⟩],3,24, .agg #[.int .i64 0, .int .i64 0, .bool false]⟩ := bU (by kernel_rfl)
theorem aU2 : jR Tryz.prog 197 ⟨.pointer 27,1,8, .pointer none⟩ := bU (by kernel_rfl)
theorem aU8 : jR Tryz.prog 200 ⟨.struct #[⟨"Name",9,0,false, "", "",0⟩,⟨"Days",2,1,false, "", "",16⟩,⟨"Leap",2,2,false, "", "",24⟩],3,32, .agg #[.string ⟨#[]⟩, .int .i64 0, .int .i64 0]⟩ := bU (by kernel_rfl)
theorem aUs : jR Tryz.prog 211 ⟨.pointer 119,1,8, .pointer none⟩ := bU (by kernel_rfl)
theorem aUp : jR Tryz.prog 215 ⟨.struct #[⟨"Every",2,0,false, "", "",0⟩,⟨"Rest",2,1,false, "", "",8⟩,⟨"Leap",4,2,false, "", "",16⟩],3,24, .agg #[.int .i64 0, .int .i64 0, .bool false]⟩ := bU (by kernel_rfl)
theorem aVx : jR Tryz.prog 237 ⟨.int .u64,1,8, .int .u64 0⟩ := bU (by kernel_rfl)
theorem aUw : jR Tryz.prog 245 ⟨.struct #[⟨"products",32,0,false, "", "loop.example/g00921/impl",0⟩,⟨"lists",243,1,false, "", "loop.example/g00921/impl",24⟩],2,32, .agg #[.slice none 0 0, .map none]⟩ := bU (by kernel_rfl)
theorem aU0 : jR Tryz.prog 247 ⟨.slice 252,1,24, .slice none 0 0⟩ := bU (by kernel_rfl)
theorem aVb : jR Tryz.prog 252 ⟨.struct #[⟨"p",2,0,false, "", "loop.example/g00921/impl",0⟩,⟨"q",2,1,false, "", "loop.example/g00921/impl",8⟩,⟨"far",2,2,false, "", "loop.example/g00921/impl",16⟩],3,24, .agg #[.int .i64 0, .int .i64 0, .int .i64 0]⟩ := bU (by kernel_rfl)
theorem aVe : jR Tryz.prog 255 ⟨.slice 32,1,24, .slice none 0 0⟩ := bU (by kernel_rfl)
theorem aU1 : jR Tryz.prog 267 ⟨.pointer 123,1,8, .pointer none⟩ := bU (by kernel_rfl)
theorem aVo : jR Tryz.prog 281 ⟨.slice 4,1,24, .slice none 0 0⟩ := bU (by kernel_rfl)
theorem aVr : jR Tryz.prog 299 ⟨.slice 306,1,24, .slice none 0 0⟩ := bU (by kernel_rfl)
theorem aUt : jR Tryz.prog 302 ⟨.pointer 304,1,8, .pointer none⟩ := bU (by kernel_rfl)
theorem aU6 : jR Tryz.prog 304 ⟨.struct #[⟨"driver",2,0,false, "", "loop.example/g00921/spec",0⟩,⟨"driven",2,1,false, "", "loop.example/g00921/spec",8⟩,⟨"off",2,2,false, "", "loop.example/g00921/spec",16⟩,⟨"train",113,3,false, "", "loop.example/g00921/spec",24⟩],4,48, .agg #[.int .i64 0, .int .i64 0, .int .i64 0, .slice none 0 0]⟩ := bU (by kernel_rfl)
theorem aVi : jR Tryz.prog 306 ⟨.struct #[⟨"value",2,0,false, "", "loop.example/g00921/spec",0⟩,⟨"teeth",32,1,false, "", "loop.example/g00921/spec",8⟩],2,32, .agg #[.int .i64 0, .slice none 0 0]⟩ := bU (by kernel_rfl)
theorem aUv : jR Tryz.prog 309 ⟨.pointer 306,1,8, .pointer none⟩ := bU (by kernel_rfl)
theorem aVu : jR Tryz.prog 316 ⟨.slice 3,1,24, .slice none 0 0⟩ := bU (by kernel_rfl)
theorem aVl : jR Tryz.prog 321 ⟨.int .i64,1,8, .int .i64 0⟩ := bU (by kernel_rfl)
theorem aVp : jR Tryz.prog 328 ⟨.int .u32,1,4, .int .u32 0⟩ := bU (by kernel_rfl)
theorem aVf : jR Tryz.prog 331 ⟨.int .u64,1,8, .int .u64 0⟩ := bU (by kernel_rfl)
theorem aU3 : jR Tryz.prog 335 ⟨.pointer 3,1,8, .pointer none⟩ := bU (by kernel_rfl)
theorem aUz : jR Tryz.prog 337 ⟨.pointer 331,1,8, .pointer none⟩ := bU (by kernel_rfl)
theorem aVs : jR Tryz.prog 348 ⟨.int .u8,1,1, .int .u8 0⟩ := bU (by kernel_rfl)
def tt : Tab := kB (kB (kB (kB (kB (kB (kB (kB (kB (kB (kB (kB (kB (kB (kB (kB (kB (kB (kB (kB (kB (kB (kB (kB (kB (kB (kB (kB (kB (kB (kB (kB (kB (kB (kB (kB (kB (kB (kB (kB (kB (kB (kB (kB (kB (kB (kB (kB (kB (kB (kB (kB (kB (kB (kB (kB (kB (kB (kB (kB (kB (kB (kB (kB (kB (kB (kB (kB (kB (kB (kB (kB (kB ((fun _ => none)) 2 ⟨.int .i64,1,8, .int .i64 0⟩) 3 ⟨.int .i64,1,8, .int .i64 0⟩) 4 ⟨.bool,1,1, .bool false⟩) 5 ⟨.int .u8,1,1, .int .u8 0⟩) 6 ⟨.int .u8,1,1, .int .u8 0⟩) 8 ⟨.struct #[⟨"x",2,0,false, "", "runtime",0⟩,⟨"y",3,1,false, "", "runtime",8⟩,⟨"signed",4,2,false, "", "runtime",16⟩,⟨"code",6,3,false, "", "runtime",17⟩],4,24, .agg #[.int .i64 0, .int .i64 0, .bool false, .int .u8 0]⟩) 9 ⟨.string,1,16, .string ⟨#[]⟩⟩) 10 ⟨.string,1,16, .string ⟨#[]⟩⟩) 11 ⟨.string,1,16, .string ⟨#[]⟩⟩) 12 ⟨.int .u64,1,8, .int .u64 0⟩) 14 ⟨.struct #[⟨"msg",9,0,false, "", "runtime",0⟩,⟨"addr",12,1,false, "", "runtime",16⟩],2,24, .agg #[.string ⟨#[]⟩, .int .u64 0]⟩) 15 ⟨.pointer 342,1,8, .pointer none⟩) 16 ⟨.pointer 345,1,8, .pointer none⟩) 17 ⟨.pointer 354,1,8, .pointer none⟩) 19 ⟨.struct #[⟨"typ",17,0,false, "", "internal/runtime/maps",0⟩],1,8, .agg #[.pointer none]⟩) 22 ⟨.slice 5,1,24, .slice none 0 0⟩) 24 ⟨.slice 123,1,24, .slice none 0 0⟩) 25 ⟨.slice 125,1,24, .slice none 0 0⟩) 27 ⟨.struct #[⟨"Arbors",24,0,false, "", "",0⟩,⟨"Meshes",25,1,false, "", "",24⟩],2,48, .agg #[.slice none 0 0, .slice none 0 0]⟩) 28 ⟨.slice 170,1,24, .slice none 0 0⟩) 29 ⟨.slice 181,1,24, .slice none 0 0⟩) 31 ⟨.struct #[⟨"Name",9,0,false, "", "",0⟩,⟨"Months",28,1,false, "", "",16⟩,⟨"Rules",29,2,false, "", "",40⟩,⟨"Week",2,3,false, "", "",64⟩],4,72, .agg #[.string ⟨#[]⟩, .slice none 0 0, .slice none 0 0, .int .i64 0]⟩) 32 ⟨.slice 2,1,24, .slice none 0 0⟩) 34 ⟨.struct #[⟨"Name",9,0,false, "", "",0⟩,⟨"Works",27,1,false, "", "",16⟩,⟨"Minute",2,3,false, "", "",64⟩,⟨"Hour",2,4,false, "", "",72⟩,⟨"Escape",2,5,false, "", "",80⟩,⟨"Teeth",2,6,false, "", "",88⟩,⟨"Beats",2,7,false, "", "",96⟩,⟨"Calendar",31,8,false, "", "",104⟩,⟨"Cam",32,12,false, "", "",176⟩,⟨"Strike",2,13,false, "", "",200⟩],14,208, .agg #[.string ⟨#[]⟩, .slice none 0 0, .slice none 0 0, .int .i64 0, .int .i64 0, .int .i64 0, .int .i64 0, .int .i64 0, .string ⟨#[]⟩, .slice none 0 0, .slice none 0 0, .int .i64 0, .slice none 0 0, .int .i64 0]⟩) 36 ⟨.struct #[⟨"Year",2,0,false, "", "",0⟩,⟨"Month",2,1,false, "", "",8⟩,⟨"Day",2,2,false, "", "",16⟩],3,24, .agg #[.int .i64 0, .int .i64 0, .int .i64 0]⟩) 38 ⟨.struct #[⟨"Cam",32,0,false, "", "",0⟩,⟨"Months",2,1,false, "", "",24⟩,⟨"Teeth",2,2,false, "", "",32⟩,⟨"At",2,3,false, "", "",40⟩,⟨"Day",2,4,false, "", "",48⟩,⟨"Week",2,5,false, "", "",56⟩,⟨"Weekday",2,6,false, "", "",64⟩],7,72, .agg #[.slice none 0 0, .int .i64 0, .int .i64 0, .int .i64 0, .int .i64 0, .int .i64 0, .int .i64 0]⟩) 40 ⟨.struct #[⟨"Movement",34,0,false, "", "",0⟩,⟨"Start",36,14,false, "", "",208⟩,⟨"First",2,17,false, "", "",232⟩,⟨"Clock",2,18,false, "", "",240⟩,⟨"Dial",38,19,false, "", "",248⟩],26,320, .agg #[.string ⟨#[]⟩, .slice none 0 0, .slice none 0 0, .int .i64 0, .int .i64 0, .int .i64 0, .int .i64 0, .int .i64 0, .string ⟨#[]⟩, .slice none 0 0, .slice none 0 0, .int .i64 0, .slice none 0 0, .int .i64 0, .int .i64 0, .int .i64 0, .int .i64 0, .int .i64 0, .int .i64 0, .slice none 0 0, .int .i64 0, .int .i64 0, .int .i64 0, .int .i64 0, .int .i64 0, .int .i64 0]⟩) 53 ⟨.slice 177,1,24, .slice none 0 0⟩) 62 ⟨.struct #[⟨"Num",2,0,false, "", "",0⟩,⟨"Den",2,1,false, "", "",8⟩],2,16, .agg #[.int .i64 0, .int .i64 0]⟩) 66 ⟨.slice 9,1,24, .slice none 0 0⟩) 71 ⟨.slice 200,1,24, .slice none 0 0⟩) 72 ⟨.slice 215,1,24, .slice none 0 0⟩) 74 ⟨.struct #[⟨"Name",9,0,false, "", "",0⟩,⟨"Months",71,1,false, "", "",16⟩,⟨"Rules",72,2,false, "", "",40⟩,⟨"Week",2,3,false, "", "",64⟩],4,72, .agg #[.string ⟨#[]⟩, .slice none 0 0, .slice none 0 0, .int .i64 0]⟩) 82 ⟨.pointer 157,1,8, .pointer none⟩) 87 ⟨.pointer 34,1,8, .pointer none⟩) 94 ⟨.pointer 40,1,8, .pointer none⟩) 113 ⟨.slice 121,1,24, .slice none 0 0⟩) 115 ⟨.struct #[⟨"Train",113,0,false, "", "",0⟩,⟨"Error",62,1,false, "", "",24⟩],3,40, .agg #[.slice none 0 0, .int .i64 0, .int .i64 0]⟩) 119 ⟨.struct #[⟨"LowDriver",2,0,false, "", "",0⟩,⟨"HighDriver",2,1,false, "", "",8⟩,⟨"LowDriven",2,2,false, "", "",16⟩,⟨"HighDriven",2,3,false, "", "",24⟩,⟨"Stages",2,4,false, "", "",32⟩],5,40, .agg #[.int .i64 0, .int .i64 0, .int .i64 0, .int .i64 0, .int .i64 0]⟩) 121 ⟨.struct #[⟨"Driver",2,0,false, "", "",0⟩,⟨"Driven",2,1,false, "", "",8⟩],2,16, .agg #[.int .i64 0, .int .i64 0]⟩) 123 ⟨.struct #[⟨"Name",9,0,false, "", "",0⟩,⟨"Wheels",32,1,false, "", "",16⟩],2,40, .agg #[.string ⟨#[]⟩, .slice none 0 0]⟩) 125 ⟨.struct #[⟨"A",2,0,false, "", "",0⟩,⟨"WheelA",2,1,false, "", "",8⟩,⟨"B",2,2,false, "", "",16⟩,⟨"WheelB",2,3,false, "", "",24⟩],4,32, .agg #[.int .i64 0, .int .i64 0, .int .i64 0, .int .i64 0]⟩) 128 ⟨.slice 62,1,24, .slice none 0 0⟩) 140 ⟨.pointer 31,1,8, .pointer none⟩) 155 ⟨.int .u64,1,8, .int .u64 0⟩) 157 ⟨.struct #[⟨"code",22,0,false, "", "loop.example/g00921/spec",0⟩,⟨"at",3,1,false, "", "loop.example/g00921/spec",24⟩,⟨"seed",155,2,false, "", "loop.example/g00921/spec",32⟩],3,40, .agg #[.slice none 0 0, .int .i64 0, .int .u64 0]⟩) 163 ⟨.pointer 38,1,8, .pointer none⟩) 170 ⟨.struct #[⟨"Name",9,0,false, "", "",0⟩,⟨"Days",2,1,false, "", "",16⟩,⟨"Leap",2,2,false, "", "",24⟩],3,32, .agg #[.string ⟨#[]⟩, .int .i64 0, .int .i64 0]⟩) 177 ⟨.struct #[⟨"Year",2,0,false, "", "",0⟩,⟨"Month",2,1,false, "", "",8⟩,⟨"Shown",2,2,false, "", "",16⟩,⟨"Right",2,3,false, "", "",24⟩],4,32, .agg #[.int .i64 0, .int .i64 0, .int .i64 0, .int .i64 0]⟩) 181 ⟨.struct #[⟨"Every",2,0,false, "", "",0⟩,⟨"Rest",2,1,false, "", "",8⟩,⟨"Leap",4,2,false, "", "",16⟩],3,24, .agg #[.int .i64 0, .int .i64 0, .bool false]⟩) 197 ⟨.pointer 27,1,8, .pointer none⟩) 200 ⟨.struct #[⟨"Name",9,0,false, "", "",0⟩,⟨"Days",2,1,false, "", "",16⟩,⟨"Leap",2,2,false, "", "",24⟩],3,32, .agg #[.string ⟨#[]⟩, .int .i64 0, .int .i64 0]⟩) 211 ⟨.pointer 119,1,8, .pointer none⟩) 215 ⟨.struct #[⟨"Every",2,0,false, "", "",0⟩,⟨"Rest",2,1,false, "", "",8⟩,⟨"Leap",4,2,false, "", "",16⟩],3,24, .agg #[.int .i64 0, .int .i64 0, .bool false]⟩) 237 ⟨.int .u64,1,8, .int .u64 0⟩) 245 ⟨.struct #[⟨"products",32,0,false, "", "loop.example/g00921/impl",0⟩,⟨"lists",243,1,false, "", "loop.example/g00921/impl",24⟩],2,32, .agg #[.slice none 0 0, .map none]⟩) 247 ⟨.slice 252,1,24, .slice none 0 0⟩) 252 ⟨.struct #[⟨"p",2,0,false, "", "loop.example/g00921/impl",0⟩,⟨"q",2,1,false, "", "loop.example/g00921/impl",8⟩,⟨"far",2,2,false, "", "loop.example/g00921/impl",16⟩],3,24, .agg #[.int .i64 0, .int .i64 0, .int .i64 0]⟩) 255 ⟨.slice 32,1,24, .slice none 0 0⟩) 267 ⟨.pointer 123,1,8, .pointer none⟩) 281 ⟨.slice 4,1,24, .slice none 0 0⟩) 299 ⟨.slice 306,1,24, .slice none 0 0⟩) 302 ⟨.pointer 304,1,8, .pointer none⟩) 304 ⟨.struct #[⟨"driver",2,0,false, "", "loop.example/g00921/spec",0⟩,⟨"driven",2,1,false, "", "loop.example/g00921/spec",8⟩,⟨"off",2,2,false, "", "loop.example/g00921/spec",16⟩,⟨"train",113,3,false, "", "loop.example/g00921/spec",24⟩],4,48, .agg #[.int .i64 0, .int .i64 0, .int .i64 0, .slice none 0 0]⟩) 306 ⟨.struct #[⟨"value",2,0,false, "", "loop.example/g00921/spec",0⟩,⟨"teeth",32,1,false, "", "loop.example/g00921/spec",8⟩],2,32, .agg #[.int .i64 0, .slice none 0 0]⟩) 309 ⟨.pointer 306,1,8, .pointer none⟩) 316 ⟨.slice 3,1,24, .slice none 0 0⟩) 321 ⟨.int .i64,1,8, .int .i64 0⟩) 328 ⟨.int .u32,1,4, .int .u32 0⟩) 331 ⟨.int .u64,1,8, .int .u64 0⟩) 335 ⟨.pointer 3,1,8, .pointer none⟩) 337 ⟨.pointer 331,1,8, .pointer none⟩) 348 ⟨.int .u8,1,1, .int .u8 0⟩
theorem tok : TOk Tryz.prog tt := (bV (bV (bV (bV (bV (bV (bV (bV (bV (bV (bV (bV (bV (bV (bV (bV (bV (bV (bV (bV (bV (bV (bV (bV (bV (bV (bV (bV (bV (bV (bV (bV (bV (bV (bV (bV (bV (bV (bV (bV (bV (bV (bV (bV (bV (bV (bV (bV (bV (bV (bV (bV (bV (bV (bV (bV (bV (bV (bV (bV (bV (bV (bV (bV (bV (bV (bV (bV (bV (bV (bV (bV (bV (aR3 _) ty2) ty3) ty4) ty5) ty6) ty8) ty9) aWm) aWi) aWj) aW6) aW1) aWe) aWk) aWx) aWh) aWg) aWn) aWv) aWd) aWs) aWw) aW7) aW4) aW3) aWz) aWf) aW8) aWp) aWt) aWa) aW5) aW9) aWl) aWy) aV9) aV3) aUq) aUr) aU5) aVq) aV2) aVj) aVk) aU7) aVm) aVg) aVv) aUx) aVd) aU2) aU8) aUs) aUp) aVx) aUw) aU0) aVb) aVe) aU1) aVo) aVr) aUt) aU6) aVi) aUv) aVu) aVl) aVp) aVf) aU3) aUz) aVs)
theorem follows : Tryz.prog.follows .mixedOrders = true := by kernel_rfl
end Go.Proofs.YtgcdbbidmfdonaaGreat
namespace Go.Proofs.YtgcdbbidmfdonaaGreat
open Go.RowKit
set_option linter.unusedVariables false
set_option maxRecDepth 100000
set_option maxHeartbeats 2000000
theorem aNa : Tryz.prog.eqGuardType Tryz.prog.depth 125 = false := by kernel_rfl
theorem aG1 {x y : Operand} (a b : cH) (w : World) : (do eqGuard .eql 125 x y (.agg #[.int .i64 a.A, .int .i64 a.WheelA, .int .i64 a.B, .int .i64 a.WheelB]) (.agg #[.int .i64 b.A, .int .i64 b.WheelA, .int .i64 b.B, .int .i64 b.WheelB]); binOp .eql 125 (.agg #[.int .i64 a.A, .int .i64 a.WheelA, .int .i64 a.B, .int .i64 a.WheelB]) (.agg #[.int .i64 b.A, .int .i64 b.WheelA, .int .i64 b.B, .int .i64 b.WheelB]) : Sem Value).run Tryz.prog w = .ok (.bool (decide (a = b))) w := by
 have g : (eqGuard .eql 125 x y (.agg #[.int .i64 a.A, .int .i64 a.WheelA, .int .i64 a.B, .int .i64 a.WheelB]) (.agg #[.int .i64 b.A, .int .i64 b.WheelA, .int .i64 b.B, .int .i64 b.WheelB])).run Tryz.prog w = .ok () w := by simp [eqGuard,aNa]
 rw [Sem.run_bind,g,Result.andThen_ok]
 obtain ⟨x0,x1,x2,x3⟩ := a
 obtain ⟨y0,y1,y2,y3⟩ := b
 simp [go_sem]
 (repeat' split) <;> simp_all [aDt]
theorem wG {N : Nat} {t : Nat → AV} {h : eK} {d : Tmp} {ty : TypeId} {pos : String} {aft : Array Edge} {g : Option (Nat × Bool)} {x y : Operand} {a b : cH} (hx : toV (evA N ⟨t,h⟩ x) = some (.agg #[.int .i64 a.A, .int .i64 a.WheelA, .int .i64 a.B, .int .i64 a.WheelB])) (hy : toV (evA N ⟨t,h⟩ y) = some (.agg #[.int .i64 b.A, .int .i64 b.WheelA, .int .i64 b.B, .int .i64 b.WheelB])) : fE Tryz.prog N ⟨some d, .binOp .eql 125 x y 125,ty,pos,aft,g⟩ ⟨t,h⟩ (dB (decide (a = b))) := mU hx hy (fun w => aG1 a b w)
theorem aE5 : Tryz.prog.eqGuardType Tryz.prog.depth 62 = false := by kernel_rfl
theorem aEu {x y : Operand} (a b : aJ) (w : World) : (do eqGuard .eql 62 x y (.agg #[.int .i64 a.Num, .int .i64 a.Den]) (.agg #[.int .i64 b.Num, .int .i64 b.Den]); binOp .eql 62 (.agg #[.int .i64 a.Num, .int .i64 a.Den]) (.agg #[.int .i64 b.Num, .int .i64 b.Den]) : Sem Value).run Tryz.prog w = .ok (.bool (decide (a = b))) w := by
 have g : (eqGuard .eql 62 x y (.agg #[.int .i64 a.Num, .int .i64 a.Den]) (.agg #[.int .i64 b.Num, .int .i64 b.Den])).run Tryz.prog w = .ok () w := by simp [eqGuard,aE5]
 rw [Sem.run_bind,g,Result.andThen_ok]
 obtain ⟨x0,x1⟩ := a
 obtain ⟨y0,y1⟩ := b
 simp [go_sem]
 (repeat' split) <;> simp_all [aDt]
theorem aF6 {N : Nat} {t : Nat → AV} {h : eK} {d : Tmp} {ty : TypeId} {pos : String} {aft : Array Edge} {g : Option (Nat × Bool)} {x y : Operand} {a b : aJ} (hx : toV (evA N ⟨t,h⟩ x) = some (.agg #[.int .i64 a.Num, .int .i64 a.Den])) (hy : toV (evA N ⟨t,h⟩ y) = some (.agg #[.int .i64 b.Num, .int .i64 b.Den])) : fE Tryz.prog N ⟨some d, .binOp .eql 62 x y 62,ty,pos,aft,g⟩ ⟨t,h⟩ (dB (decide (a = b))) := mU hx hy (fun w => aEu a b w)
theorem aEt {x y : Operand} (a b : aJ) (w : World) : (do eqGuard .neq 62 x y (.agg #[.int .i64 a.Num, .int .i64 a.Den]) (.agg #[.int .i64 b.Num, .int .i64 b.Den]); binOp .neq 62 (.agg #[.int .i64 a.Num, .int .i64 a.Den]) (.agg #[.int .i64 b.Num, .int .i64 b.Den]) : Sem Value).run Tryz.prog w = .ok (.bool (decide (a ≠ b))) w := by
 have g : (eqGuard .neq 62 x y (.agg #[.int .i64 a.Num, .int .i64 a.Den]) (.agg #[.int .i64 b.Num, .int .i64 b.Den])).run Tryz.prog w = .ok () w := by simp [eqGuard,aE5]
 rw [Sem.run_bind,g,Result.andThen_ok]
 obtain ⟨x0,x1⟩ := a
 obtain ⟨y0,y1⟩ := b
 simp [go_sem]
 (repeat' split) <;> simp_all [aDt]
theorem uN {N : Nat} {t : Nat → AV} {h : eK} {d : Tmp} {ty : TypeId} {pos : String} {aft : Array Edge} {g : Option (Nat × Bool)} {x y : Operand} {a b : aJ} (hx : toV (evA N ⟨t,h⟩ x) = some (.agg #[.int .i64 a.Num, .int .i64 a.Den])) (hy : toV (evA N ⟨t,h⟩ y) = some (.agg #[.int .i64 b.Num, .int .i64 b.Den])) : fE Tryz.prog N ⟨some d, .binOp .neq 62 x y 62,ty,pos,aft,g⟩ ⟨t,h⟩ (dB (decide (a ≠ b))) := mU hx hy (fun w => aEt a b w)
theorem aMy {p0 : List Int} {p1 : List Int} {r : Bool} (h0 : xM p0 p1 = some r) : FnC Tryz.prog 7 [] [dL cU8 p0,(dL cU8 p1)] [] (dB r) := by
 refine fi 13 tok Tryz.func7 ?_
 unfold xM at h0
 refine sq [0] (pa (nx (sq [0,1,2,3,4,5,6,7,8] ?_)))
 refine pm ?_
 refine rP rfl (aN tok rfl rfl rfl) (rP rfl (eI rfl rfl) (pm ?_))
 refine gT (u := 8) h0 rfl (fun hc h0 => ?_) (fun hc h0 => ?_)
 iterate 3 refine k1 ?_
 refine pkt ?_
 refine pa (nx (aD ?_))
 cases h0
 exact r0t 4 rfl
 refine pm1 ?_
 refine rp rfl (w1 rfl rfl rfl) rfl (aN tok rfl rfl rfl) (rp rfl (w1 rfl rfl rfl) rfl (eI rfl rfl) (pkf ?_))
 refine pa (nx (aD ?_))
 cases h0
 exact r0t 4 rfl
theorem aC2 {p0 : List Int} {r : bN} (h0 : rG p0 = some r) : FnC Tryz.prog 38 [] [dL cU8 p0] [.live [⟨157,3, .av [[dL cU8 r.code,(dI r.at_), .d (.v (.int .u64 r.seed))]]⟩]] (.ptr 0 0 1 0 0) := by
 refine fi 6 tok Tryz.func38 ?_
 unfold rG at h0
 refine sq [0] (pa (nx (sq [0,1,2,3] ?_)))
 refine pm ?_
 refine rP rfl (pbl (C0 := [zl,z0, .d (.v (.int .u64 0))]) tok rfl rfl rfl) (bxx 3 ?_)
 refine rP rfl (aR (r := .ptr _ _ _ _ _) rfl) (nx (aD ?_))
 cases h0
 exact dJ (rs := [.tmp 2]) [3] rfl
theorem wI {p0 : bN} {r : Int × bN} (h0 : iU p0 = some r) : FnC Tryz.prog 132 [.live [⟨157,3, .av [[dL cU8 p0.code,(dI p0.at_), .d (.v (.int .u64 p0.seed))]]⟩]] [.ptr 0 0 1 0 0] [.live [⟨157,3, .av [[dL cU8 r.2.code,(dI r.2.at_), .d (.v (.int .u64 r.2.seed))]]⟩]] (dI r.1) := by
 refine fi 62 tok Tryz.func132 ?_
 unfold iU at h0
 refine sq [0] (pa (nx (sq [0] ?_)))
 refine pa (nx ?_)
 obtain ⟨v2,h1,h0⟩ := bnd h0
 refine bG ⟨aE (aE ((fun _ => .dead)) 0 (.ptr 0 0 1 0 0)) 3 (dI v2),lks [.live [⟨157,3, .av [[dL cU8 p0.code,(dI p0.at_), .d (.v (.int .u64 p0.seed))]]⟩], .no, .no]⟩ ?_ ?_
 refine aG (aF (is := [0,1,2,3,4,5,6,7,8,9]) [0,1,3,7,0,16,48,112,240,511] follows (by kernel_rfl) (tP rfl (aH (r := .ptr _ _ _ _ _) rfl) (bS rfl w0 rfl (cW rfl rfl) rfl rfl rfl (tfa tok ?_))))
 refine tld tok ?_
 refine tP rfl (aH (r := .ptr _ _ _ _ _) rfl) (bS rfl w0 rfl (cW rfl rfl) rfl rfl rfl (tfa tok ?_))
 refine tld tok ?_
 refine tP rfl (aN tok rfl rfl rfl) (tP rfl (bX rfl rfl) (bE ?_))
 refine ⟨by kernel_rfl,?_⟩
 refine aI ?_
 refine bM h1 rfl (fun hc h1 => ?_) (fun hc h1 => ?_)
 refine aF (is := [0,1,2,3,4,5,6,7,8,9,10,11]) [0,1,3,7,0,16,48,112,255,511,1023,2047] follows (by kernel_rfl) (tP rfl (aH (r := .ptr _ _ _ _ _) rfl) (bS rfl w0 rfl (cW rfl rfl) rfl rfl rfl (tfa tok ?_)))
 refine tld tok ?_
 refine tP rfl (aH (r := .ptr _ _ _ _ _) rfl) (bS rfl w0 rfl (cW rfl rfl) rfl rfl rfl (tfa tok ?_))
 refine tld tok ?_
 obtain ⟨v1,hv1,h1⟩ := bnd h1
 refine tP rfl (cV tok hv1 rfl rfl rfl rfl rfl rfl) (tlr tok ?_)
 refine tP rfl (aMa tok rfl rfl rfl rfl rfl) (tpa ?_)
 refine bE ?_
 refine ⟨by kernel_rfl,?_⟩
 refine aI ?_
 cases h1
 exact wk [0,1,2]
 refine sk ?_
 cases h1
 exact wk [0,1,2]
 refine sq [0,1,2,3,4,5,6,7] (rP rfl (aH (r := .ptr _ _ _ _ _) rfl) (rL rfl (cW rfl rfl) (fa tok ?_)))
 refine ld tok ?_
 refine rP rfl (bI rfl rfl) (rL rfl (cW rfl rfl) (fa tok ?_))
 refine bs1 tok (nx (sq [0,1,2,3,4,5,6,7,8,9,10,11,12] ?_))
 refine rP rfl (aH (r := .ptr _ _ _ _ _) rfl) (rP rfl (aH (r := .ptr _ _ _ _ _) rfl) (rL rfl (cW rfl rfl) (fa tok ?_)))
 refine ld tok ?_
 refine rP rfl (aPl rfl rfl) (pm ?_)
 refine rP rfl (aKu tok rfl rfl rfl rfl rfl) (rP rfl (aKm rfl rfl) (rP rfl (aKm rfl rfl) (rL rfl (cW rfl rfl) (fa tok ?_))))
 refine bs1 tok (nx (aG (aG ?_)))
 refine aF (is := [0,1,2,3,4,5,6,7,8,9]) [0,1,3,7,0,16,48,112,240,511] follows (by kernel_rfl) (tP rfl (aH (r := .ptr _ _ _ _ _) rfl) (bS rfl w0 rfl (cW rfl rfl) rfl rfl rfl (tfa tok ?_)))
 refine tld tok ?_
 refine tP rfl (aH (r := .ptr _ _ _ _ _) rfl) (bS rfl w0 rfl (cW rfl rfl) rfl rfl rfl (tfa tok ?_))
 refine tld tok ?_
 refine tP rfl (aN tok rfl rfl rfl) (tP rfl (iW rfl rfl) (bE ?_))
 refine ⟨by kernel_rfl,?_⟩
 refine aI ?_
 refine bM h0 rfl (fun hc h0 => ?_) (fun hc h0 => ?_)
 refine sq [0,1] (pm ?_)
 refine pa (nx (aD (aS ?_)))
 cases h0
 exact nU (rs := [.tmp 2]) 1 rfl rfl
 refine sk (sq [0,1,2,3,4,5,6,7] (rP rfl (aH (r := .ptr _ _ _ _ _) rfl) (rL rfl (cW rfl rfl) (fa tok ?_))))
 refine ld tok ?_
 refine rP rfl (aTh rfl rfl (by decide)) (rP rfl (aTr rfl rfl) (rP rfl (aMa tok rfl rfl rfl rfl rfl) (pa (nx (aD ?_)))))
 cases h0
 exact nU (rs := [.tmp 2]) 1 rfl rfl
theorem cY {p0 : bN} {p1 : Int} {r : Int × bN} (h0 : bR p0 p1 = some r) : FnC Tryz.prog 55 [.live [⟨157,3, .av [[dL cU8 p0.code,(dI p0.at_), .d (.v (.int .u64 p0.seed))]]⟩]] [.ptr 0 0 1 0 0,(dI p1)] [.live [⟨157,3, .av [[dL cU8 r.2.code,(dI r.2.at_), .d (.v (.int .u64 r.2.seed))]]⟩]] (dI r.1) := by
 refine fi 20 tok Tryz.func55 ?_
 unfold bR at h0
 refine sq [0] (pa (nx (aG (sq [0,1] ?_))))
 refine pm ?_
 refine rP rfl (iW rfl rfl) (nx ?_)
 refine bM h0 rfl (fun hc h0 => ?_) (fun hc h0 => ?_)
 refine sq [0] (pa (nx (aD (aS ?_))))
 cases h0
 exact nU (rs := [.tmp 4]) 1 rfl rfl
 refine sk (sq [0,1,2] (rP rfl (aH (r := .ptr _ _ _ _ _) rfl) ?_))
 obtain ⟨v1,hv1,h0⟩ := bnd h0
 refine rw1 rfl w0 rfl (dU [0] 300 (wI hv1) rfl rfl) (pa (nx ?_))
 obtain ⟨v3,h1,h0⟩ := bnd h0
 refine bG ⟨aE (aE ((fun _ => .dead)) 1 (dI p1)) 5 (dI v3.1),lks [.live [⟨157,3, .av [[dL cU8 v3.2.code,(dI v3.2.at_), .d (.v (.int .u64 v3.2.seed))]]⟩], .no, .no]⟩ ?_ ?_
 refine sq [0,1] (pm ?_)
 refine rP rfl (eI rfl rfl) (nx ?_)
 refine bM h1 rfl (fun hc h1 => ?_) (fun hc h1 => ?_)
 refine sr [0,1,2,3,4,5] (pm ?_)
 refine rP rfl (fO rfl rfl) (rP rfl (aH (r := .ptr _ _ _ _ _) rfl) ?_)
 obtain ⟨v2,hv2,h1⟩ := bnd h1
 refine rw1 rfl w0 rfl (dU [0] 300 (wI hv2) rfl rfl) (rP rfl (bI rfl rfl) (pa (nx ?_)))
 cases h1
 exact wk [0,1,2]
 refine sk ?_
 cases h1
 exact wk [0,1,2]
 refine sq [0,1,2,3] (pm ?_)
 refine pm ?_
 obtain ⟨hq4,h0⟩ := dM h0
 refine rP rfl (fJ rfl rfl hq4) (pa (nx (aD ?_)))
 cases h0
 exact nU (rs := [.tmp 4]) 1 rfl rfl
theorem jW {p0 : bN} {p1 : Int} {r : Bool × bN} (h0 : fG p0 p1 = some r) : FnC Tryz.prog 115 [.live [⟨157,3, .av [[dL cU8 p0.code,(dI p0.at_), .d (.v (.int .u64 p0.seed))]]⟩]] [.ptr 0 0 1 0 0,(dI p1)] [.live [⟨157,3, .av [[dL cU8 r.2.code,(dI r.2.at_), .d (.v (.int .u64 r.2.seed))]]⟩]] (dB r.1) := by
 refine fi 9 tok Tryz.func115 ?_
 unfold fG at h0
 refine sq [0] (pa (nx (sq [0,1,2,3,4] ?_)))
 refine rP rfl (aH (r := .ptr _ _ _ _ _) rfl) (pm ?_)
 obtain ⟨v1,hv1,h0⟩ := bnd h0
 refine rw1 rfl w0 rfl (dU [0] 300 (cY hv1) rfl rfl) (rP rfl (eN rfl rfl) (pa (nx (aD ?_))))
 cases h0
 exact nU (rs := [.tmp 4]) 1 rfl rfl
theorem aAx  {r : List ByteArray} (h0 : lC  = some r) : FnC Tryz.prog 212 [] [] [.live [⟨9,1, .data (List.map cS r)⟩]] (.own 0 0 r.length) := by
 refine fi 2 tok Tryz.func212 ?_
 unfold lC at h0
 refine sq [0] (pa (nx (sq [0,1] ?_)))
 refine rS rfl (vE 3 tok cS [(⟨#[101,103,121,112,116,105,97,110]⟩ : ByteArray),(⟨#[102,105,120,101,100]⟩ : ByteArray),(⟨#[103,114,101,103,111,114,105,97,110]⟩ : ByteArray),(⟨#[106,117,108,105,97,110]⟩ : ByteArray)] rfl rfl rfl (by repeat (first | exact Els.nil _ | apply Els.cons (cs := [.d _]) rfl rfl rfl | apply Els.cons (cs := _ :: _) rfl rfl rfl)) rfl rfl rfl (by repeat (first | exact cX.nil | (apply cX.cons; (repeat (first | exact fZ.nil | apply fZ.cons))))) rfl rfl) (rP rfl (aR (r := .own _ _ _) rfl) (nx (aD ?_)))
 cases h0
 exact dJ (rs := [.tmp 0]) [3] rfl
theorem aD2 {p0 : bN} {p1 : List ByteArray} {r : ByteArray × bN} (h0 : nQ p0 p1 = some r) : FnC Tryz.prog 211 [.live [⟨157,3, .av [[dL cU8 p0.code,(dI p0.at_), .d (.v (.int .u64 p0.seed))]]⟩]] [.ptr 0 0 1 0 0,(dL cS p1)] [.live [⟨157,3, .av [[dL cU8 r.2.code,(dI r.2.at_), .d (.v (.int .u64 r.2.seed))]]⟩]] (dS r.1) := by
 refine fi 12 tok Tryz.func211 ?_
 unfold nQ at h0
 refine sq [0] (pa (nx (sq [0,1,2,3,4,5,6,7] ?_)))
 refine pm ?_
 refine rP rfl (aH (r := .ptr _ _ _ _ _) rfl) (pm ?_)
 refine rP rfl (aN tok rfl rfl rfl) ?_
 obtain ⟨v1,hv1,h0⟩ := bnd h0
 refine rw1 rfl w0 rfl (dU [0] 300 (cY hv1) rfl rfl) ?_
 obtain ⟨v2,hv2,h0⟩ := bnd h0
 refine rP rfl (cV tok hv2 rfl rfl rfl rfl rfl rfl) (lr tok ?_)
 refine pa (nx (aD ?_))
 cases h0
 exact nU (rs := [.tmp 4]) 1 rfl rfl
theorem aFn {p0 : Int} {r : ByteArray} (h0 : oO p0 = some r) : FnC Tryz.prog 213 [] [dI p0] [] (dS r) := by
 refine fi 34 tok Tryz.func213 ?_
 unfold oO at h0
 refine sq [0] (pa (nx (sq [0,1] ?_)))
 refine rS rfl (eJ 3 tok rfl rfl rfl rfl) (rP rfl (aR (r := .own _ _ _) rfl) (nx ?_))
 obtain ⟨v11,h1,h0⟩ := bnd h0
 refine bG ⟨aE (aE ((fun _ => .dead)) 0 (dI p0)) 3 (.own 3 0 (v11).length),lks [.no, .no, .no, .live [⟨5,1, .data (List.map cU8 v11)⟩]]⟩ ?_ ?_
 refine sq [0,1] (pm ?_)
 refine pa (nx (aK ?_))
 refine bD (fun s6 => ⟨aE (aE (aE ((fun _ => .dead)) 0 (dI p0)) 3 (.own 3 0 (s6.2).length)) 4 (dI s6.1),lks [.no, .no, .no, .live [⟨5,1, .data (List.map cU8 s6.2)⟩]]⟩) h1 ?_ (fun s6 y h2 => ?_)
 exact wk [0,1,2,3]
 refine aG (sq [0,1] (pm ?_))
 refine rP rfl (fA rfl rfl) (nx ?_)
 refine bM h2 rfl (fun hc h2 => ?_) (fun hc h2 => ?_)
 refine sk (aG (aK (sq [0,1,2] (pm ?_))))
 refine rP rfl (fJ rfl rfl (by decide)) (pa (nx ?_))
 obtain ⟨v8,h3,h2⟩ := bnd h2
 refine bG ⟨aE (aE (aE (aE ((fun _ => .dead)) 0 (dI p0)) 3 (.own 3 0 (s6.2).length)) 4 (dI s6.1)) 5 (dI v8),lks [.no, .no, .no, .live [⟨5,1, .data (List.map cU8 s6.2)⟩]]⟩ ?_ ?_
 refine sq [0,1] (pm ?_)
 refine rP rfl (bX rfl rfl) (nx ?_)
 refine bM h3 rfl (fun hc h3 => ?_) (fun hc h3 => ?_)
 refine sr [0,1,2] (pm ?_)
 refine rP rfl (vC rfl) (pa (nx ?_))
 cases h3
 exact wk [0,1,2,3]
 refine sk ?_
 cases h3
 exact wk [0,1,2,3]
 refine sr [0,1,2,3,4,5,6] (pm ?_)
 refine rP rfl (bI rfl rfl) (rP rfl (aKu tok rfl rfl rfl rfl rfl) (rS rfl (vE 4 tok cU8 [IntKind.u8.wrap (w64 (48 + v8))] rfl rfl rfl (by repeat (first | exact Els.nil _ | apply Els.cons (cs := [.d _]) rfl rfl rfl | apply Els.cons (cs := _ :: _) rfl rfl rfl)) rfl rfl rfl (by repeat (first | exact cX.nil | (apply cX.cons; (repeat (first | exact fZ.nil | apply fZ.cons))))) rfl rfl) (rP rfl (aH (r := .own _ _ _) rfl) ?_)))
 obtain ⟨hq9,h2⟩ := dM h2
 refine rw1 rfl w0 rfl (aTu tok hq9 rfl rfl rfl rfl rfl rfl rfl rfl rfl rfl rfl rfl rfl rfl rfl) (rP rfl (aR (r := .own _ _ _) rfl) (bB (bF (aI (sr [0,1,2] (pm ?_))))))
 refine rP rfl (kN rfl rfl (by decide)) (pa (bB ?_))
 refine cA ?_
 cases h2
 refine ⟨_,rfl,?_⟩
 exact wk [0,1,2,4]
 refine bK (bY ?_)
 cases h2
 refine cC ⟨_,rfl,fun e => ?_⟩
 subst e
 refine aY (aI ?_)
 exact wk [0,1,2,3]
 refine aG (sq [0,1,2] (rP rfl (aH (r := .own _ _ _) rfl) (rL rfl (nO tok rfl rfl rfl rfl rfl) (rP rfl (eN rfl rfl) (nx ?_)))))
 refine bM h0 rfl (fun hc h0 => ?_) (fun hc h0 => ?_)
 refine sq [0] (pa (nx (aD (aS ?_))))
 cases h0
 exact r0t 2 rfl
 refine sk (aG (sq [0,1] (pm ?_)))
 refine rP rfl (bX rfl rfl) (nx ?_)
 refine bM h0 rfl (fun hc h0 => ?_) (fun hc h0 => ?_)
 refine sq [0,1,2,3] (rP rfl (aH (r := .own _ _ _) rfl) (rS rfl (aTk tok rfl rfl rfl rfl rfl rfl rfl rfl rfl rfl) ?_))
 obtain ⟨hq12,h0⟩ := dM h0
 refine rP rfl (aNk rfl rfl hq12) (pa (nx (aD (aS ?_))))
 cases h0
 exact r0t 2 rfl
 refine sk (sq [0,1,2] (rP rfl (aH (r := .own _ _ _) rfl) (rS rfl (aTk tok rfl rfl rfl rfl rfl rfl rfl rfl rfl rfl) (pa (nx (aD ?_))))))
 cases h0
 exact r0t 2 rfl
theorem aBf {p0 : Int} {p1 : Int} {r : List bP} (h0 : sI p0 p1 = some r) : FnC Tryz.prog 193 [] [dI p0,(dI p1)] [.live [⟨170,3, .data (List.map aM r)⟩]] (.own 0 0 r.length) := by
 refine fi 23 tok Tryz.func193 ?_
 unfold sI at h0
 refine sq [0] (pa (nx (sq [0,1] ?_)))
 refine rS rfl (eJ 3 tok rfl rfl rfl rfl) (rP rfl (aR (r := .own _ _ _) rfl) (nx ?_))
 obtain ⟨v9,h1,h0⟩ := bnd h0
 refine bG ⟨aE ((fun _ => .dead)) 5 (.own 3 0 (v9).length),lks [.no, .no, .no, .live [⟨170,3, .data (List.map aM v9)⟩]]⟩ ?_ ?_
 refine sq [0] (pa (nx (aK ?_)))
 refine bD (fun s5 => ⟨aE (aE (aE (aE ((fun _ => .dead)) 0 (dI p0)) 1 (dI p1)) 5 (.own 3 0 (s5.2).length)) 6 (dI s5.1),lks [.no, .no, .no, .live [⟨170,3, .data (List.map aM s5.2)⟩]]⟩) h1 ?_ (fun s5 y h2 => ?_)
 exact wk [0,1,2,3]
 refine aG (sq [0,1,2] (pm ?_))
 refine pm ?_
 refine rP rfl (iW rfl rfl) (nx ?_)
 refine bM h2 rfl (fun hc h2 => ?_) (fun hc h2 => ?_)
 refine sk (aG (aK (sr [0,1,2,3,4,5,6,7,8,9] (rP rfl (aH (r := .own _ _ _) rfl) (pm ?_)))))
 obtain ⟨v6,hv6,h2⟩ := bnd h2
 refine rS rfl (aO 4 (aFn hv6) rfl rfl rfl) ?_
 obtain ⟨hq7,h2⟩ := dM h2
 refine rP rfl (aNk rfl rfl hq7) (pm ?_)
 refine pm ?_
 refine rP rfl (pbl (C0 := [ze,z0,z0]) tok rfl rfl rfl) (rS rfl (iL tok aM [(⟨(⟨#[109]⟩ : ByteArray) ++ v6,p1,p1⟩ : bP)] rfl rfl rfl (by repeat (first | exact Els.nil _ | apply Els.cons (cs := [.d _]) rfl rfl rfl | apply Els.cons (cs := _ :: _) rfl rfl rfl)) rfl rfl rfl (by repeat (first | exact cX.nil | (apply cX.cons; (repeat (first | exact fZ.nil | apply fZ.cons))))) rfl) ?_)
 obtain ⟨hq8,h2⟩ := dM h2
 refine rw1 rfl w0 rfl (fP tok hq8 rfl rfl rfl rfl rfl rfl rfl rfl rfl rfl rfl rfl (fun _ => rfl)) (rP rfl (aR (r := .own _ _ _) rfl) (bB (bF (aI (sr [0,1,2] (pm ?_))))))
 refine rP rfl (bI rfl rfl) (pa (bB ?_))
 refine cA ?_
 cases h2
 refine ⟨_,rfl,?_⟩
 exact wk [0,1,2,3]
 refine bK (bY ?_)
 cases h2
 refine cC ⟨_,rfl,fun e => ?_⟩
 subst e
 refine aY (aI ?_)
 exact wk [0,1,2,3]
 refine sq [0,1] (rP rfl (aH (r := .own _ _ _) rfl) (rP rfl (aR (r := .own _ _ _) rfl) (nx (aD ?_))))
 cases h0
 exact dJ (rs := [.tmp 4]) [3] rfl
theorem vA  {r : List bA} (h0 : lW  = some r) : FnC Tryz.prog 194 [] [] [.live [⟨181,3, .data (List.map aB r)⟩]] (.own 0 0 r.length) := by
 refine fi 5 tok Tryz.func194 ?_
 unfold lW at h0
 refine sq [0] (pa (nx (sq [0,1,2,3,4] ?_)))
 iterate 3 refine rP rfl (pbl (C0 := [z0,z0,(dB false)]) tok rfl rfl rfl) ?_
 refine rS rfl (vE 3 tok aB [(⟨4,0,true⟩ : bA),(⟨100,0,false⟩ : bA),(⟨400,0,true⟩ : bA)] rfl rfl rfl (by repeat (first | exact Els.nil _ | apply Els.cons (cs := [.d _]) rfl rfl rfl | apply Els.cons (cs := _ :: _) rfl rfl rfl)) rfl rfl rfl (by repeat (first | exact cX.nil | (apply cX.cons; (repeat (first | exact fZ.nil | apply fZ.cons))))) rfl rfl) (rP rfl (aR (r := .own _ _ _) rfl) (nx (aD ?_)))
 cases h0
 exact dJ (rs := [.tmp 0]) [3] rfl
theorem aBj  {r : List bP} (h0 : sL  = some r) : FnC Tryz.prog 195 [] [] [.live [⟨170,3, .data (List.map aM r)⟩]] (.own 0 0 r.length) := by
 refine fi 32 tok Tryz.func195 ?_
 unfold sL at h0
 refine sq [0] (pa (nx (sq [0,1] ?_)))
 refine rS rfl (vE 3 tok cS [(⟨#[106,97,110]⟩ : ByteArray),(⟨#[102,101,98]⟩ : ByteArray),(⟨#[109,97,114]⟩ : ByteArray),(⟨#[97,112,114]⟩ : ByteArray),(⟨#[109,97,121]⟩ : ByteArray),(⟨#[106,117,110]⟩ : ByteArray),(⟨#[106,117,108]⟩ : ByteArray),(⟨#[97,117,103]⟩ : ByteArray),(⟨#[115,101,112]⟩ : ByteArray),(⟨#[111,99,116]⟩ : ByteArray),(⟨#[110,111,118]⟩ : ByteArray),(⟨#[100,101,99]⟩ : ByteArray)] rfl rfl rfl (by repeat (first | exact Els.nil _ | apply Els.cons (cs := [.d _]) rfl rfl rfl | apply Els.cons (cs := _ :: _) rfl rfl rfl)) rfl rfl rfl (by repeat (first | exact cX.nil | (apply cX.cons; (repeat (first | exact fZ.nil | apply fZ.cons))))) rfl rfl) (rP rfl (aR (r := .own _ _ _) rfl) (nx (sq [0,1] (rS rfl (vE 4 tok cI [31,28,31,30,31,30,31,31,30,31,30,31] rfl rfl rfl (by repeat (first | exact Els.nil _ | apply Els.cons (cs := [.d _]) rfl rfl rfl | apply Els.cons (cs := _ :: _) rfl rfl rfl)) rfl rfl rfl (by repeat (first | exact cX.nil | (apply cX.cons; (repeat (first | exact fZ.nil | apply fZ.cons))))) rfl rfl) (rP rfl (aR (r := .own _ _ _) rfl) (nx (sq [0,1] (rS rfl (eJ 5 tok rfl rfl rfl rfl) (rP rfl (aR (r := .own _ _ _) rfl) (nx ?_))))))))))
 obtain ⟨v11,h1,h0⟩ := bnd h0
 refine bG ⟨aE ((fun _ => .dead)) 3 (.own 3 0 (v11).length),lks [.no, .no, .no, .live [⟨170,3, .data (List.map aM v11)⟩]]⟩ ?_ ?_
 refine sq [0] (pa (nx (aK ?_)))
 refine bD (fun s6 => ⟨aE (aE (aE (aE ((fun _ => .dead)) 1 (.own 3 0 ([(⟨#[106,97,110]⟩ : ByteArray),(⟨#[102,101,98]⟩ : ByteArray),(⟨#[109,97,114]⟩ : ByteArray),(⟨#[97,112,114]⟩ : ByteArray),(⟨#[109,97,121]⟩ : ByteArray),(⟨#[106,117,110]⟩ : ByteArray),(⟨#[106,117,108]⟩ : ByteArray),(⟨#[97,117,103]⟩ : ByteArray),(⟨#[115,101,112]⟩ : ByteArray),(⟨#[111,99,116]⟩ : ByteArray),(⟨#[110,111,118]⟩ : ByteArray),(⟨#[100,101,99]⟩ : ByteArray)]).length)) 2 (.own 4 0 ([31,28,31,30,31,30,31,31,30,31,30,31]).length)) 3 (.own 5 0 (s6.2).length)) 4 (dI s6.1),lks [.no, .no, .no, .live [⟨9,1, .data (List.map cS [(⟨#[106,97,110]⟩ : ByteArray),(⟨#[102,101,98]⟩ : ByteArray),(⟨#[109,97,114]⟩ : ByteArray),(⟨#[97,112,114]⟩ : ByteArray),(⟨#[109,97,121]⟩ : ByteArray),(⟨#[106,117,110]⟩ : ByteArray),(⟨#[106,117,108]⟩ : ByteArray),(⟨#[97,117,103]⟩ : ByteArray),(⟨#[115,101,112]⟩ : ByteArray),(⟨#[111,99,116]⟩ : ByteArray),(⟨#[110,111,118]⟩ : ByteArray),(⟨#[100,101,99]⟩ : ByteArray)])⟩], .live [⟨2,1, .data (List.map cI [31,28,31,30,31,30,31,31,30,31,30,31])⟩], .live [⟨170,3, .data (List.map aM s6.2)⟩]]⟩) h1 ?_ (fun s6 y h2 => ?_)
 exact wk [0,1,2,3,4,5]
 refine aG (sq [0,1] (pm ?_))
 refine rP rfl (bX rfl rfl) (nx ?_)
 refine bM h2 rfl (fun hc h2 => ?_) (fun hc h2 => ?_)
 refine sk (aG (aK (aF (is := [0,1,2,3,4,5,6,7,8,9,10,11,12,13,14,15,16]) [0,0,0,6,14,0,0,96,224,0,0,1536,3584,8190,16382,32767,65535] follows (by kernel_rfl) (tP rfl (aH (r := .own _ _ _) rfl) (tP rfl (aH (r := .own _ _ _) rfl) (tpm ?_))))))
 obtain ⟨v7,hv7,h2⟩ := bnd h2
 refine bS rfl w0 rfl (lI tok hv7 rfl rfl rfl rfl rfl rfl rfl rfl) rfl rfl rfl (bS rfl w0 rfl (nY tok (iY hv7).2.1 rfl rfl rfl rfl rfl rfl) rfl rfl rfl (tP rfl (aH (r := .own _ _ _) rfl) (tpm ?_)))
 obtain ⟨v8,hv8,h2⟩ := bnd h2
 refine bS rfl w0 rfl (lI tok hv8 rfl rfl rfl rfl rfl rfl rfl rfl) rfl rfl rfl (bS rfl w0 rfl (nY tok (iY hv8).2.1 rfl rfl rfl rfl rfl rfl) rfl rfl rfl (tP rfl (aH (r := .own _ _ _) rfl) (tpm ?_)))
 obtain ⟨v9,hv9,h2⟩ := bnd h2
 refine bS rfl w0 rfl (lI tok hv9 rfl rfl rfl rfl rfl rfl rfl rfl) rfl rfl rfl (bS rfl w0 rfl (nY tok (iY hv9).2.1 rfl rfl rfl rfl rfl rfl) rfl rfl rfl (tP rfl (pbl (C0 := [ze,z0,z0]) tok rfl rfl rfl) (aSt rfl w0 rfl (iL tok aM [(⟨v7,v8,v9⟩ : bP)] rfl rfl rfl (by repeat (first | exact Els.nil _ | apply Els.cons (cs := [.d _]) rfl rfl rfl | apply Els.cons (cs := _ :: _) rfl rfl rfl)) rfl rfl rfl (by repeat (first | exact cX.nil | (apply cX.cons; (repeat (first | exact fZ.nil | apply fZ.cons))))) rfl) ?_)))
 obtain ⟨hq10,h2⟩ := dM h2
 refine zR rfl w0 rfl (fP tok hq10 rfl rfl rfl rfl rfl rfl rfl rfl rfl rfl rfl rfl (fun _ => rfl)) (tP rfl (aR (r := .own _ _ _) rfl) (bE ?_))
 refine ⟨by kernel_rfl,?_⟩
 refine bF (aI (sr [0,1,2] (pm ?_)))
 refine rP rfl (bI rfl rfl) (pa (bB ?_))
 refine cA ?_
 cases h2
 refine ⟨_,rfl,?_⟩
 exact wk [0,1,2,3,4,5]
 refine bK (bY ?_)
 cases h2
 refine cC ⟨_,rfl,fun e => ?_⟩
 subst e
 refine aY (aI ?_)
 exact wk [0,1,2,5]
 refine sq [0,1,2,3] (rP rfl (aH (r := .own _ _ _) rfl) ?_)
 obtain ⟨v12,hv12,h0⟩ := bnd h0
 refine rL rfl (lI tok hv12 rfl rfl rfl rfl rfl rfl rfl rfl) (rL rfl (aQ9 tok (iY hv12).2.1 rfl rfl rfl rfl rfl rfl rfl rfl) (rw0 rfl w0 (aJh (cs := [.d _]) tok (⟨v12.Name,v12.Days,29⟩ : bP) (iY hv12).2.1 rfl rfl rfl rfl rfl rfl rfl rfl) (nx (sq [0,1] (rP rfl (aH (r := .own _ _ _) rfl) (rP rfl (aR (r := .own _ _ _) rfl) (nx (aD ?_))))))))
 cases h0
 exact dJ (rs := [.tmp 0]) [3] rfl
theorem aAs {p0 : ByteArray} {r : aA × Int} (h0 : lF p0 = some r) : FnC Tryz.prog 113 [] [dS p0] [.live [⟨170,3, .data (List.map aM r.1.Months)⟩], .live [⟨181,3, .data (List.map aB r.1.Rules)⟩]] (.tup [.agg [dS r.1.Name, .own 0 0 r.1.Months.length, .own 1 0 r.1.Rules.length,(dI r.1.Week)],(dI r.2)]) := by
 refine fi 36 tok Tryz.func113 ?_
 unfold lF at h0
 refine sq [0,1] (al 3 [ze,zl,zl,z0] tok ?_)
 refine pa (nx (aG (sq [0] ?_)))
 refine pm (nx (aK (sq [0,1] ?_)))
 refine rP rfl (uF rfl rfl) (pa (nx ?_))
 refine bM h0 rfl (fun hc h0 => ?_) (fun hc h0 => ?_)
 refine sq [0,1,2,3,4,5,6,7] (pm ?_)
 obtain ⟨v1,hv1,h0⟩ := bnd h0
 refine rS rfl (aO 4 (aBf hv1) rfl rfl rfl) (rP rfl (pbl (C0 := [ze,z0,z0]) tok rfl rfl rfl) (rS rfl (iL tok aM [(⟨(⟨#[109,49,51]⟩ : ByteArray),5,5⟩ : bP)] rfl rfl rfl (by repeat (first | exact Els.nil _ | apply Els.cons (cs := [.d _]) rfl rfl rfl | apply Els.cons (cs := _ :: _) rfl rfl rfl)) rfl rfl rfl (by repeat (first | exact cX.nil | (apply cX.cons; (repeat (first | exact fZ.nil | apply fZ.cons))))) rfl) ?_))
 obtain ⟨hq2,h0⟩ := dM h0
 refine rw1 rfl w0 rfl (fP tok hq2 rfl rfl rfl rfl rfl rfl rfl rfl rfl rfl rfl rfl (fun _ => rfl)) (rP rfl (pbl (C0 := [ze,zl,zl,z0]) tok rfl rfl rfl) (bst tok ?_))
 refine pa (nx ?_)
 refine wa 5 181 3 3 2 (aD ?_)
 refine bH (aS ?_)
 cases h0
 exact dJ (rs := [.cell 2 31, .tmp 3]) [4,5] rfl
 refine sq [0,1] (rP rfl (uF rfl rfl) (pa (nx ?_)))
 refine bM h0 rfl (fun hc h0 => ?_) (fun hc h0 => ?_)
 refine sq [0,1,2,3,4,5,6,7,8] (pm ?_)
 obtain ⟨v3,hv3,h0⟩ := bnd h0
 refine rS rfl (aO 4 (aBf hv3) rfl rfl rfl) (rP rfl (pbl (C0 := [ze,z0,z0]) tok rfl rfl rfl) (rS rfl (iL tok aM [(⟨(⟨#[109,49,51]⟩ : ByteArray),29,30⟩ : bP)] rfl rfl rfl (by repeat (first | exact Els.nil _ | apply Els.cons (cs := [.d _]) rfl rfl rfl | apply Els.cons (cs := _ :: _) rfl rfl rfl)) rfl rfl rfl (by repeat (first | exact cX.nil | (apply cX.cons; (repeat (first | exact fZ.nil | apply fZ.cons))))) rfl) ?_))
 obtain ⟨hq4,h0⟩ := dM h0
 refine rw1 rfl w0 rfl (fP tok hq4 rfl rfl rfl rfl rfl rfl rfl rfl rfl rfl rfl rfl (fun _ => rfl)) ?_
 obtain ⟨v5,hv5,h0⟩ := bnd h0
 refine rS rfl (aO 5 (vA hv5) rfl rfl rfl) (rP rfl (pbl (C0 := [ze,zl,zl,z0]) tok rfl rfl rfl) (bst tok ?_))
 refine pa (nx (aD ?_))
 refine bH (aS ?_)
 cases h0
 exact dJ (rs := [.cell 2 31, .tmp 3]) [4,5] rfl
 refine sq [0,1] (rP rfl (uF rfl rfl) (pa (nx ?_)))
 refine bM h0 rfl (fun hc h0 => ?_) (fun hc h0 => ?_)
 refine sq [0,1,2,3,4,5] (pm ?_)
 obtain ⟨v6,hv6,h0⟩ := bnd h0
 refine rS rfl (aO 4 (aBj hv6) rfl rfl rfl) ?_
 obtain ⟨v7,hv7,h0⟩ := bnd h0
 refine rS rfl (aO 5 (vA hv7) rfl rfl rfl) (rP rfl (pbl (C0 := [ze,zl,zl,z0]) tok rfl rfl rfl) (bst tok ?_))
 refine pa (nx (aD ?_))
 refine bH (aS ?_)
 cases h0
 exact dJ (rs := [.cell 2 31, .tmp 3]) [4,5] rfl
 refine sq [0,1] (rP rfl (uF rfl rfl) (pa (nx ?_)))
 refine bM h0 rfl (fun hc h0 => ?_) (fun hc h0 => ?_)
 refine sq [0,1,2,3,4,5,6] (pm ?_)
 obtain ⟨v8,hv8,h0⟩ := bnd h0
 refine rS rfl (aO 4 (aBj hv8) rfl rfl rfl) (rP rfl (pbl (C0 := [z0,z0,(dB false)]) tok rfl rfl rfl) (rS rfl (vE 5 tok aB [(⟨4,0,true⟩ : bA)] rfl rfl rfl (by repeat (first | exact Els.nil _ | apply Els.cons (cs := [.d _]) rfl rfl rfl | apply Els.cons (cs := _ :: _) rfl rfl rfl)) rfl rfl rfl (by repeat (first | exact cX.nil | (apply cX.cons; (repeat (first | exact fZ.nil | apply fZ.cons))))) rfl rfl) (rP rfl (pbl (C0 := [ze,zl,zl,z0]) tok rfl rfl rfl) (bst tok ?_))))
 refine pa (nx (aD ?_))
 refine bH (aS ?_)
 cases h0
 exact dJ (rs := [.cell 2 31, .tmp 3]) [4,5] rfl
 refine cU (bF (aI (sq [0,1,2] (rP rfl (pbl (C0 := [ze,zl,zl,z0]) tok rfl rfl rfl) (bst tok ?_)))))
 refine pa (nx ?_)
 refine wa 4 170 3 3 1 ?_
 refine wa 5 181 3 3 2 (aD ?_)
 cases h0
 exact dJ (rs := [.cell 2 31, .tmp 3]) [4,5] rfl
theorem hM {p0 : bN} {p1 : List Int} {r : Int × bN} (h0 : eR p0 p1 = some r) : FnC Tryz.prog 56 [.live [⟨157,3, .av [[dL cU8 p0.code,(dI p0.at_), .d (.v (.int .u64 p0.seed))]]⟩]] [.ptr 0 0 1 0 0,(dL cI p1)] [.live [⟨157,3, .av [[dL cU8 r.2.code,(dI r.2.at_), .d (.v (.int .u64 r.2.seed))]]⟩]] (dI r.1) := by
 refine fi 12 tok Tryz.func56 ?_
 unfold eR at h0
 refine sq [0] (pa (nx (sq [0,1,2,3,4,5,6,7] ?_)))
 refine pm ?_
 refine rP rfl (aH (r := .ptr _ _ _ _ _) rfl) (pm ?_)
 refine rP rfl (aN tok rfl rfl rfl) ?_
 obtain ⟨v1,hv1,h0⟩ := bnd h0
 refine rw1 rfl w0 rfl (dU [0] 300 (cY hv1) rfl rfl) ?_
 obtain ⟨v2,hv2,h0⟩ := bnd h0
 refine rP rfl (cV tok hv2 rfl rfl rfl rfl rfl rfl) (lr tok ?_)
 refine pa (nx (aD ?_))
 cases h0
 exact nU (rs := [.tmp 4]) 1 rfl rfl
theorem cZ {p0 : Int} {p1 : Int} {p2 : Int} {r : Bool} (h0 : cN p0 p1 p2 = some r) : FnC Tryz.prog 90 [] [dI p0,(dI p1),(dI p2)] [] (dB r) := by
 refine fi 15 tok Tryz.func90 ?_
 unfold cN at h0
 refine sq [0] (pa (nx (sq [0,1,2,3,4,5,6,7,8] ?_)))
 refine pm ?_
 refine pm ?_
 refine rP rfl (tN rfl rfl) (pm ?_)
 refine gT (u := 10) h0 rfl (fun hc h0 => ?_) (fun hc h0 => ?_)
 refine pm1 ?_
 refine pm1 ?_
 refine rp rfl (w1 rfl rfl rfl) rfl (iW rfl rfl) (pkt ?_)
 refine pa (nx (aD ?_))
 cases h0
 exact r0t 6 rfl
 iterate 3 refine k1 ?_
 refine pkf ?_
 refine pa (nx (aD ?_))
 cases h0
 exact r0t 6 rfl
theorem aAm {p0 : Int} {p1 : Int} {r : Int} (h0 : oB p0 p1 = some r) : FnC Tryz.prog 163 [] [dI p0,(dI p1)] [] (dI r) := by
 refine fi 14 tok Tryz.func163 ?_
 unfold oB at h0
 refine sq [0] (pa (nx ?_))
 obtain ⟨v5,h1,h0⟩ := bnd h0
 refine bG ⟨aE ((fun _ => .dead)) 0 (dI v5),lks [.no, .no, .no]⟩ ?_ ?_
 refine aK ?_
 refine bD (fun s3 => ⟨aE (aE ((fun _ => .dead)) 0 (dI s3.1)) 1 (dI s3.2),lks [.no, .no, .no]⟩) h1 ?_ (fun s3 y h2 => ?_)
 exact wk [0,1,2]
 refine aG (sq [0,1] (pm ?_))
 refine rP rfl (eI rfl rfl) (nx ?_)
 refine bM h2 rfl (fun hc h2 => ?_) (fun hc h2 => ?_)
 refine sk (aK (sq [0,1,2,3] (pm ?_)))
 refine pm ?_
 obtain ⟨hq4,h2⟩ := dM h2
 refine rP rfl (fJ rfl rfl hq4) (pa (nx (sq [0,1] ?_)))
 refine pm ?_
 refine pa (nx (sr [0,1] ?_))
 refine pm ?_
 refine pa (bB ?_)
 refine bF (cA ?_)
 cases h2
 refine ⟨_,rfl,?_⟩
 exact wk [0,1,2]
 refine bK (bY ?_)
 cases h2
 refine cC ⟨_,rfl,fun e => ?_⟩
 subst e
 refine aY (aI ?_)
 exact wk [0,1,2]
 refine sq [0,1] (pm ?_)
 refine pa (nx (aD ?_))
 cases h0
 exact r0t 4 rfl
theorem aBc {p0 : List bA} {r : Int × Bool} (h0 : mS p0 = some r) : FnC Tryz.prog 166 [] [dL aB p0] [] (.tup [dI r.1,(dB r.2)]) := by
 refine fi 55 tok Tryz.func166 ?_
 unfold mS at h0
 refine sq [0,1] (pa ?_)
 refine pa (nx (sq [0] ?_))
 refine pa (nx ?_)
 obtain ⟨v23x,h1,h0⟩ := bnd h0
 refine dX v23x (fun v23 => ⟨aE (aE ((fun _ => .dead)) 0 (dL aB p0)) 4 (dI v23),lks [.no, .no, .no]⟩) ?_ ?_
 refine sq [0] (pa (nx (aK ?_)))
 refine bD (fun s12 => ⟨aE (aE (aE ((fun _ => .dead)) 0 (dL aB p0)) 4 (dI s12.1)) 5 (dI s12.2),lks [.no, .no, .no]⟩) h1 ?_ (fun s12 y h2 => ?_)
 exact wk [0,1,2]
 refine aG (sq [0,1,2,3] (pm ?_))
 refine pm ?_
 refine rP rfl (aN tok rfl rfl rfl) (rP rfl (bX rfl rfl) (nx ?_))
 refine bM h2 rfl (fun hc h2 => ?_) (fun hc h2 => ?_)
 refine sk (aG (aK (aG ?_)))
 obtain ⟨v18,h3,h2⟩ := bnd h2
 refine bG ⟨aE (aE (aE (aE ((fun _ => .dead)) 0 (dL aB p0)) 4 (dI s12.1)) 5 (dI s12.2)) 33 (dB v18),lks [.no, .no, .no]⟩ ?_ ?_
 refine aF (is := [0,1,2,3,4,5,6,7,8,9,10,11,12,13,14,15,16,17,18,19,20,21]) [0,0,3,7,15,31,63,127,255,255,1023,2047,4095,255,255,24831,57599,123135,254207,524287,1048575,2097151] follows (by kernel_rfl) (tpm ?_)
 refine tpm ?_
 obtain ⟨v13,hv13,h3⟩ := bnd h3
 refine tP rfl (cV tok hv13 rfl rfl rfl rfl rfl rfl) (tfr tok ?_)
 refine tlr tok ?_
 obtain ⟨v14,hv14,h3⟩ := bnd h3
 refine jB rfl w0 rfl (cP 3 (cZ hv14) rfl rfl rfl) (tP rfl (bO rfl) (tpm ?_))
 refine nT (u := 19) h3 rfl (fun hc h3 => ?_) (fun hc h3 => ?_)
 iterate 13 refine k2 ?_
 refine vG ?_
 refine bE ?_
 refine ⟨by kernel_rfl,?_⟩
 refine aI ?_
 cases h3
 exact wk [0,1,2]
 refine aJc ?_
 refine aJc ?_
 obtain ⟨v15,hv15,h3⟩ := bnd h3
 refine qJ rfl (w1 rfl rfl rfl) rfl (cV tok hv15 rfl rfl rfl rfl rfl rfl) (wR tok ?_)
 refine aAi tok ?_
 refine aJc ?_
 refine aJc ?_
 obtain ⟨v16,hv16,h3⟩ := bnd h3
 refine qJ rfl (w1 rfl rfl rfl) rfl (cV tok hv16 rfl rfl rfl rfl rfl rfl) (wR tok ?_)
 refine aAi tok ?_
 refine qJ rfl (w1 rfl rfl rfl) rfl (eM rfl rfl) ?_
 obtain ⟨v17,hv17,h3⟩ := bnd h3
 refine jB rfl (w1 rfl rfl rfl) rfl (cP 3 (cZ hv17) rfl rfl rfl) (qJ rfl (w1 rfl rfl rfl) rfl (bO rfl) (tA ?_))
 refine bE ?_
 refine ⟨by kernel_rfl,?_⟩
 refine aI ?_
 cases h3
 refine iM.trans_ (gW (d := 23) (ds := cI v15.Rest) rfl (by repeat (first | exact Pre.z _ | apply Pre.t))) (iM.trans_ (gW (d := 28) (ds := cI v16.Every) rfl (by repeat (first | exact Pre.z _ | apply Pre.t))) ?_)
 exact wk [0,1,2]
 refine bL h2 rfl (fun hc h2 => ?_) (fun hc h2 => ?_)
 refine sq [0,1] (pa ?_)
 refine pa (nx (aD (aS ?_)))
 refine bH (aS ?_)
 cases h2
 refine eV ⟨_,rfl,fun e => ?_⟩
 subst e
 refine bH ?_
 replace h0 := gG h0
 refine aS ?_
 cases h0
 exact fN (rs := [.tmp 2, .tmp 3]) rfl
 refine sk (aG (aF (is := [0,1,2,3,4,5,6,9,10,11,12,13,7,8,14,15]) [0,0,0,0,12,28,60,126,255,0,0,1536,3584,7680,16383,32767] follows (by kernel_rfl) ?_))
 iterate 4 refine tpm ?_
 obtain ⟨v19,hv19,h2⟩ := bnd h2
 refine tP rfl (cV tok hv19 rfl rfl rfl rfl rfl rfl) (tfr tok ?_)
 refine tlr tok ?_
 refine tpm ?_
 refine tpm ?_
 obtain ⟨v20,hv20,h2⟩ := bnd h2
 refine tP rfl (cV tok hv20 rfl rfl rfl rfl rfl rfl) (tfr tok ?_)
 refine tlr tok ?_
 obtain ⟨v21,hv21,h2⟩ := bnd h2
 refine jB rfl w0 rfl (cP 3 (aAm hv21) rfl rfl rfl) ?_
 obtain ⟨hq22,h2⟩ := dM h2
 refine tP rfl (kN rfl rfl hq22) (tP rfl (fO rfl rfl) (tpa ?_))
 refine bE ?_
 refine ⟨by kernel_rfl,?_⟩
 refine aI (sq [0,1] (pm ?_))
 refine rP rfl (eI rfl rfl) (nx ?_)
 refine bM h2 rfl (fun hc h2 => ?_) (fun hc h2 => ?_)
 refine sq [0,1] (pa ?_)
 refine pa (nx (aD ?_))
 refine bH (aS ?_)
 cases h2
 refine eV ⟨_,rfl,fun e => ?_⟩
 subst e
 refine bH ?_
 replace h0 := gG h0
 refine aS ?_
 cases h0
 exact fN (rs := [.tmp 2, .tmp 3]) rfl
 refine cU (bF (aI (sr [0,1,2] (pm ?_))))
 refine rP rfl (bI rfl rfl) (pa (bB ?_))
 refine cA ?_
 cases h2
 refine ⟨_,rfl,?_⟩
 exact wk [0,1,2]
 refine bK (bY ?_)
 cases h2
 refine cC ⟨_,rfl,fun e => ?_⟩
 subst e
 refine aY (aI ?_)
 refine ⟨_,rfl,?_⟩
 exact wk [0,1,2]
 rintro v23 rfl
 replace h0 := iP h0
 refine sq [0,1,2,3,4,5] (pm ?_)
 refine pm ?_
 refine rP rfl (aN tok rfl rfl rfl) (rP rfl (iW rfl rfl) (pa ?_))
 refine pa (nx (aD ?_))
 cases h0
 exact fN (rs := [.tmp 2, .tmp 3]) rfl
theorem aBd {p0 : Int} {r : Bool} (h0 : mP p0 = some r) : FnC Tryz.prog 168 [] [.d (.v (.int .u8 p0))] [] (dB r) := by
 refine fi 9 tok Tryz.func168 ?_
 unfold mP at h0
 refine sq [0] (pa (nx (sq [0,1,2,3,4,5,6] ?_)))
 refine pm ?_
 refine rP rfl (tN rfl rfl) (pm ?_)
 refine gT (u := 5) h0 rfl (fun hc h0 => ?_) (fun hc h0 => ?_)
 refine pm1 ?_
 refine rp rfl (w1 rfl rfl rfl) rfl (iW rfl rfl) (pkt ?_)
 refine pa (nx (aD ?_))
 cases h0
 exact r0t 2 rfl
 refine k1 ?_
 refine k1 ?_
 refine pkf ?_
 refine pa (nx (aD ?_))
 cases h0
 exact r0t 2 rfl
theorem aI2 {p0 : Int} {r : Bool} (h0 : pJ p0 = some r) : FnC Tryz.prog 169 [] [.d (.v (.int .u8 p0))] [] (dB r) := by
 refine fi 9 tok Tryz.func169 ?_
 unfold pJ at h0
 refine sq [0] (pa (nx (sq [0,1,2,3,4,5,6] ?_)))
 refine pm ?_
 refine rP rfl (tN rfl rfl) (pm ?_)
 refine gT (u := 5) h0 rfl (fun hc h0 => ?_) (fun hc h0 => ?_)
 refine pm1 ?_
 refine rp rfl (w1 rfl rfl rfl) rfl (iW rfl rfl) (pkt ?_)
 refine pa (nx (aD ?_))
 cases h0
 exact r0t 2 rfl
 refine k1 ?_
 refine k1 ?_
 refine pkf ?_
 refine pa (nx (aD ?_))
 cases h0
 exact r0t 2 rfl
theorem tF {p0 : ByteArray} {r : Bool} (h0 : kZ p0 = some r) : FnC Tryz.prog 89 [] [dS p0] [] (dB r) := by
 refine fi 41 tok Tryz.func89 ?_
 unfold kZ at h0
 refine sq [0] (pa (nx (aG ?_)))
 obtain ⟨v3,h1,h0⟩ := bnd h0
 refine bG ⟨aE (aE ((fun _ => .dead)) 0 (dS p0)) 16 (dB v3),lks [.no, .no, .no]⟩ ?_ ?_
 refine sr [0,1,2,3,4,5,6,7,8,9,10,11,12] (pm ?_)
 refine rP rfl (uF rfl rfl) (pm ?_)
 refine gT (u := 6) h1 rfl (fun hc h1 => ?_) (fun hc h1 => ?_)
 iterate 3 refine k1 ?_
 refine pkt ?_
 refine pm ?_
 iterate 4 refine k1 ?_
 refine pkt (nx ?_)
 cases h1
 exact wk [0,1,2]
 refine pm1 ?_
 refine rp rfl (w1 rfl rfl rfl) rfl (xN tok rfl rfl rfl) (rp rfl (w1 rfl rfl rfl) rfl (eI rfl rfl) (pkf ?_))
 refine pm ?_
 refine gT (u := 11) h1 rfl (fun hc h1 => ?_) (fun hc h1 => ?_)
 iterate 4 refine k1 ?_
 refine pkt (nx ?_)
 cases h1
 exact wk [0,1,2]
 refine pm1 ?_
 obtain ⟨v1,hv1,h1⟩ := bnd h1
 refine rp rfl (w1 rfl rfl rfl) rfl (aG4 tok hv1 rfl rfl rfl rfl) ?_
 obtain ⟨v2,hv2,h1⟩ := bnd h1
 refine rs rfl (w1 rfl rfl rfl) rfl (aO 3 (aBd hv2) rfl rfl rfl) (rp rfl (w1 rfl rfl rfl) rfl (bO rfl) (pkf (nx ?_)))
 cases h1
 exact wk [0,1,2]
 refine bL h0 rfl (fun hc h0 => ?_) (fun hc h0 => ?_)
 refine sq [0] (pa (nx (aD (aS ?_))))
 cases h0
 exact r0t 2 rfl
 refine sk ?_
 obtain ⟨v18x,h1,h0⟩ := bnd h0
 refine dX v18x (fun v18 => ⟨(fun _ => .dead),lks [.no, .no, .no]⟩) ?_ ?_
 refine sq [0] (pa (nx (aK ?_)))
 refine bD (fun s11 => ⟨aE (aE ((fun _ => .dead)) 0 (dS p0)) 3 (dI s11),lks [.no, .no, .no]⟩) h1 ?_ (fun s11 y h2 => ?_)
 exact wk [0,1,2]
 refine aG (sq [0,1,2,3] (pm ?_))
 refine pm ?_
 refine rP rfl (xN tok rfl rfl rfl) (rP rfl (bX rfl rfl) (nx ?_))
 refine bM h2 rfl (fun hc h2 => ?_) (fun hc h2 => ?_)
 refine sk (aG (aK ?_))
 obtain ⟨v17,h3,h2⟩ := bnd h2
 refine bG ⟨aE (aE (aE ((fun _ => .dead)) 0 (dS p0)) 3 (dI s11)) 40 (dB v17),lks [.no, .no, .no]⟩ ?_ ?_
 refine sr [0,1,2,3,4,5,6,7,8,9,10,11,12,13,14,15,16,17] (pm ?_)
 refine pm ?_
 obtain ⟨v12,hv12,h3⟩ := bnd h3
 refine rP rfl (aG4 tok hv12 rfl rfl rfl rfl) ?_
 obtain ⟨v13,hv13,h3⟩ := bnd h3
 refine rS rfl (aO 3 (aBd hv13) rfl rfl rfl) (rP rfl (bO rfl) (pm ?_))
 refine dH (u := 28) h3 rfl (fun hc h3 => ?_) (fun hc h3 => ?_)
 refine pm1 ?_
 refine pm1 ?_
 obtain ⟨v14,hv14,h3⟩ := bnd h3
 refine rp rfl (w1 rfl rfl rfl) rfl (aG4 tok hv14 rfl rfl rfl rfl) ?_
 obtain ⟨v15,hv15,h3⟩ := bnd h3
 refine rs rfl (w1 rfl rfl rfl) rfl (aO 3 (aI2 hv15) rfl rfl rfl) (rp rfl (w1 rfl rfl rfl) rfl (bO rfl) (pkt ?_))
 refine pm ?_
 refine dH (u := 35) h3 rfl (fun hc h3 => ?_) (fun hc h3 => ?_)
 refine pm1 ?_
 refine pm1 ?_
 obtain ⟨v16,hv16,h3⟩ := bnd h3
 refine rp rfl (w1 rfl rfl rfl) rfl (aG4 tok hv16 rfl rfl rfl rfl) (rp rfl (w1 rfl rfl rfl) rfl (fA rfl rfl) (pkt (nx ?_)))
 cases h3
 exact wk [0,1,2]
 iterate 4 refine k1 ?_
 refine pkf (nx ?_)
 cases h3
 exact wk [0,1,2]
 iterate 5 refine k1 ?_
 refine pkf ?_
 refine pm ?_
 iterate 4 refine k1 ?_
 refine pkf (nx ?_)
 cases h3
 exact wk [0,1,2]
 refine bL h2 rfl (fun hc h2 => ?_) (fun hc h2 => ?_)
 refine sq [0] (pa (nx (aD ?_)))
 refine bH (aS ?_)
 cases h2
 refine eV ⟨_,rfl,fun e => ?_⟩
 subst e
 refine bH ?_
 replace h0 := gG h0
 refine aS ?_
 cases h0
 exact r0t 2 rfl
 refine cU (bF (aI (sr [0,1,2] (pm ?_))))
 refine rP rfl (bI rfl rfl) (pa (bB ?_))
 refine cA ?_
 cases h2
 refine ⟨_,rfl,?_⟩
 exact wk [0,1,2]
 refine bK (bY ?_)
 cases h2
 refine cC ⟨_,rfl,fun e => ?_⟩
 subst e
 refine aY (aI ?_)
 refine ⟨_,rfl,?_⟩
 exact wk [0,1,2]
 rintro v18 rfl
 replace h0 := iP h0
 refine sq [0] (pa (nx (aD ?_)))
 cases h0
 exact r0t 2 rfl
theorem aGg {p0 : List bP} {r : Bool} (h0 : nJ p0 = some r) : FnC Tryz.prog 167 [] [dL aM p0] [] (dB r) := by
 refine fi 55 tok Tryz.func167 ?_
 unfold nJ at h0
 refine sq [0] (pa (nx ?_))
 obtain ⟨v31x,h1,h0⟩ := bnd h0
 refine dX v31x (fun v31 => ⟨aE ((fun _ => .dead)) 0 (dL aM p0),lks [.no, .no, .no]⟩) ?_ ?_
 refine sq [0] (pa (nx (aK ?_)))
 refine bD (fun s16 => ⟨aE (aE ((fun _ => .dead)) 0 (dL aM p0)) 3 (dI s16),lks [.no, .no, .no]⟩) h1 ?_ (fun s16 y h2 => ?_)
 exact wk [0,1,2]
 refine aG (sq [0,1,2,3] (pm ?_))
 refine pm ?_
 refine rP rfl (aN tok rfl rfl rfl) (rP rfl (bX rfl rfl) (nx ?_))
 refine bM h2 rfl (fun hc h2 => ?_) (fun hc h2 => ?_)
 refine sk ?_
 obtain ⟨v30x,h3,h2⟩ := bnd h2
 refine dX v30x (fun v30 => ⟨aE (aE ((fun _ => .dead)) 0 (dL aM p0)) 3 (dI s16),lks [.no, .no, .no]⟩) ?_ ?_
 refine aK (aG ?_)
 obtain ⟨v23,h4,h3⟩ := bnd h3
 refine bG ⟨aE (aE (aE ((fun _ => .dead)) 0 (dL aM p0)) 3 (dI s16)) 35 (dB v23),lks [.no, .no, .no]⟩ ?_ ?_
 refine sr [0,1,2,3,4,5,6,7,8,9,10,11,12,13,14,15,16,17,18,19,20,21,22,23,24] (pm ?_)
 refine pm ?_
 obtain ⟨v17,hv17,h4⟩ := bnd h4
 refine rP rfl (cV tok hv17 rfl rfl rfl rfl rfl rfl) (fr tok ?_)
 refine lr tok ?_
 obtain ⟨v18,hv18,h4⟩ := bnd h4
 refine rS rfl (aO 3 (tF hv18) rfl rfl rfl) (rP rfl (bO rfl) (pm ?_))
 refine dH (u := 18) h4 rfl (fun hc h4 => ?_) (fun hc h4 => ?_)
 iterate 7 refine k1 ?_
 refine pkt ?_
 refine pm ?_
 iterate 7 refine k1 ?_
 refine pkt (nx ?_)
 cases h4
 exact wk [0,1,2]
 refine pm1 ?_
 refine pm1 ?_
 obtain ⟨v19,hv19,h4⟩ := bnd h4
 refine rp rfl (w1 rfl rfl rfl) rfl (cV tok hv19 rfl rfl rfl rfl rfl rfl) (fr1 tok ?_)
 refine lr1 tok ?_
 obtain ⟨v20,hv20,h4⟩ := bnd h4
 refine rs rfl (w1 rfl rfl rfl) rfl (aO 3 (cZ hv20) rfl rfl rfl) (rp rfl (w1 rfl rfl rfl) rfl (bO rfl) (pkf ?_))
 refine pm ?_
 refine dH (u := 27) h4 rfl (fun hc h4 => ?_) (fun hc h4 => ?_)
 iterate 7 refine k1 ?_
 refine pkt (nx ?_)
 cases h4
 refine iM.trans_ (gW (d := 22) (ds := cI v19.Days) rfl (by repeat (first | exact Pre.z _ | apply Pre.t))) ?_
 exact wk [0,1,2]
 refine pm1 ?_
 refine pm1 ?_
 obtain ⟨v21,hv21,h4⟩ := bnd h4
 refine rp rfl (w1 rfl rfl rfl) rfl (cV tok hv21 rfl rfl rfl rfl rfl rfl) (fr1 tok ?_)
 refine lr1 tok ?_
 obtain ⟨v22,hv22,h4⟩ := bnd h4
 refine rs rfl (w1 rfl rfl rfl) rfl (aO 3 (cZ hv22) rfl rfl rfl) (rp rfl (w1 rfl rfl rfl) rfl (bO rfl) (pkf (nx ?_)))
 cases h4
 refine iM.trans_ (gW (d := 22) (ds := cI v19.Days) rfl (by repeat (first | exact Pre.z _ | apply Pre.t))) (iM.trans_ (gW (d := 31) (ds := cI v21.Leap) rfl (by repeat (first | exact Pre.z _ | apply Pre.t))) ?_)
 exact wk [0,1,2]
 refine bL h3 rfl (fun hc h3 => ?_) (fun hc h3 => ?_)
 refine sq [0] (pa (nx (aD (aS ?_))))
 refine bH ?_
 cases h3
 replace h2 := gG h2
 refine aS ?_
 cases h2
 refine eV ⟨_,rfl,fun e => ?_⟩
 subst e
 refine bH ?_
 replace h0 := gG h0
 refine aS ?_
 cases h0
 exact r0t 2 rfl
 refine sk (sq [0] (pa (nx (aK ?_))))
 refine bD (fun s27 => ⟨aE (aE (aE ((fun _ => .dead)) 0 (dL aM p0)) 3 (dI s16)) 4 (dI s27),lks [.no, .no, .no]⟩) h3 ?_ (fun s27 y h4 => ?_)
 exact wk [0,1,2]
 refine aG (sq [0,1,2] (pm ?_))
 refine pm ?_
 refine rP rfl (bX rfl rfl) (nx ?_)
 refine bM h4 rfl (fun hc h4 => ?_) (fun hc h4 => ?_)
 refine sk (aG (aK (aG (aF (is := [0,1,2,3,4,5,6,7,8,9,10]) [0,0,3,7,15,0,0,96,224,480,1023] follows (by kernel_rfl) (tpm ?_)))))
 refine tpm ?_
 obtain ⟨v28,hv28,h4⟩ := bnd h4
 refine tP rfl (cV tok hv28 rfl rfl rfl rfl rfl rfl) (tfr tok ?_)
 refine tlr tok ?_
 refine tpm ?_
 refine tpm ?_
 obtain ⟨v29,hv29,h4⟩ := bnd h4
 refine tP rfl (cV tok hv29 rfl rfl rfl rfl rfl rfl) (tfr tok ?_)
 refine tlr tok ?_
 refine tP rfl (uF rfl rfl) (bE ?_)
 refine ⟨by kernel_rfl,?_⟩
 refine aI ?_
 refine bM h4 rfl (fun hc h4 => ?_) (fun hc h4 => ?_)
 refine sq [0] (pa (nx (aD ?_)))
 refine bH (aS ?_)
 cases h4
 refine eV ⟨_,rfl,fun e => ?_⟩
 subst e
 refine bH (bH ?_)
 replace h2 := gG h2
 refine aS ?_
 cases h2
 refine eV ⟨_,rfl,fun e => ?_⟩
 subst e
 refine bH ?_
 replace h0 := gG h0
 refine aS ?_
 cases h0
 exact r0t 2 rfl
 refine cU (bF (aI (sr [0,1,2] (pm ?_))))
 refine rP rfl (bI rfl rfl) (pa (bB ?_))
 refine cA ?_
 cases h4
 refine ⟨_,rfl,?_⟩
 exact wk [0,1,2]
 refine bK (bY ?_)
 cases h4
 refine cC ⟨_,rfl,fun e => ?_⟩
 subst e
 refine aY ?_
 refine bF (aI ?_)
 refine ⟨_,rfl,?_⟩
 exact wk [0,1,2]
 rintro v30 rfl
 replace h2 := iP h2
 refine sr [0,1,2] (pm ?_)
 refine rP rfl (bI rfl rfl) (pa (bB ?_))
 refine cA ?_
 cases h2
 refine ⟨_,rfl,?_⟩
 exact wk [0,1,2]
 refine bK (bY ?_)
 cases h2
 refine cC ⟨_,rfl,fun e => ?_⟩
 subst e
 refine aY (aI ?_)
 refine ⟨_,rfl,?_⟩
 exact wk [0,1,2]
 rintro v31 rfl
 replace h0 := iP h0
 refine sq [0,1,2,3] (pm ?_)
 refine rP rfl (aN tok rfl rfl rfl) ?_
 obtain ⟨v32,hv32,h0⟩ := bnd h0
 refine rS rfl (aO 3 (cZ hv32) rfl rfl rfl) (pa (nx (aD ?_)))
 cases h0
 exact r0t 2 rfl
theorem wN {p0 : aA} {r : Bool} (h0 : nM p0 = some r) : FnC Tryz.prog 88 [] [.ref (dG p0)] [] (dB r) := by
 refine fi 35 tok Tryz.func88 ?_
 unfold nM at h0
 refine sq [0] (pa (nx (sq [0,1,2,3,4,5,6,7,8,9] ?_)))
 refine pmr ?_
 refine nr ?_
 refine fr tok ?_
 refine lr tok ?_
 obtain ⟨v1,hv1,h0⟩ := bnd h0
 refine rS rfl (aO 3 (aBc hv1) rfl rfl rfl) (rP rfl (aH (r := .tup _) rfl) (rP rfl (aQ rfl rfl) (rP rfl (aQ rfl rfl) (pa ?_))))
 refine pa (nx (sq [0,1,2,3,4,5,6,7,8,9,10,11,12,13,14,15,16,17,18,19,20,21,22] ?_))
 refine pm ?_
 refine pm ?_
 refine dH (u := 14) h0 rfl (fun hc h0 => ?_) (fun hc h0 => ?_)
 refine aE8 ?_
 refine nr1 ?_
 refine fr1 tok ?_
 refine lr1 tok ?_
 obtain ⟨v2,hv2,h0⟩ := bnd h0
 refine rs rfl (w1 rfl rfl rfl) rfl (aO 3 (tF hv2) rfl rfl rfl) (pkt ?_)
 refine pm ?_
 refine dH (u := 21) h0 rfl (fun hc h0 => ?_) (fun hc h0 => ?_)
 refine aE8 ?_
 refine nr1 ?_
 refine fr1 tok ?_
 refine lr1 tok ?_
 obtain ⟨v3,hv3,h0⟩ := bnd h0
 refine rs rfl (w1 rfl rfl rfl) rfl (aO 3 (aGg hv3) rfl rfl rfl) (pkt ?_)
 refine pm ?_
 refine dH (u := 28) h0 rfl (fun hc h0 => ?_) (fun hc h0 => ?_)
 refine aE8 ?_
 refine nr1 ?_
 refine fr1 tok ?_
 refine lr1 tok ?_
 obtain ⟨v4,hv4,h0⟩ := bnd h0
 refine rs rfl (w1 rfl rfl rfl) rfl (aO 3 (cZ hv4) rfl rfl rfl) (pkt ?_)
 refine pa (nx (aD ?_))
 cases h0
 exact r0t 2 rfl
 iterate 5 refine k1 ?_
 refine pkf ?_
 refine pa (nx (aD ?_))
 cases h0
 exact r0t 2 rfl
 iterate 5 refine k1 ?_
 refine pkf ?_
 refine pm ?_
 iterate 5 refine k1 ?_
 refine pkf ?_
 refine pa (nx (aD ?_))
 cases h0
 exact r0t 2 rfl
 iterate 5 refine k1 ?_
 refine pkf ?_
 refine pm ?_
 iterate 5 refine k1 ?_
 refine pkf ?_
 refine pm ?_
 iterate 5 refine k1 ?_
 refine pkf ?_
 refine pa (nx (aD ?_))
 cases h0
 exact r0t 2 rfl
theorem aGf {p0 : bN} {r : aA × bN} (h0 : nD p0 = some r) : FnC Tryz.prog 140 [.live [⟨157,3, .av [[dL cU8 p0.code,(dI p0.at_), .d (.v (.int .u64 p0.seed))]]⟩]] [.ptr 0 0 1 0 0] [.live [⟨157,3, .av [[dL cU8 r.2.code,(dI r.2.at_), .d (.v (.int .u64 r.2.seed))]]⟩], .live [⟨170,3, .data (List.map aM r.1.Months)⟩], .live [⟨181,3, .data (List.map aB r.1.Rules)⟩]] (.agg [dS r.1.Name, .own 1 0 r.1.Months.length, .own 2 0 r.1.Rules.length,(dI r.1.Week)]) := by
 refine fi 85 tok Tryz.func140 ?_
 unfold nD at h0
 refine sq [0] (al 3 [ze,zl,zl,z0] tok (nx (aG (sq [0,1] ?_))))
 refine rP rfl (aH (r := .ptr _ _ _ _ _) rfl) ?_
 obtain ⟨v1,hv1,h0⟩ := bnd h0
 refine rw1 rfl w0 rfl (dU [0] 300 (jW hv1) rfl rfl) (nx ?_)
 refine bL h0 rfl (fun hc h0 => ?_) (fun hc h0 => ?_)
 refine sq [0,1,2,3,4,5,6,7,8,9] (rP rfl (aH (r := .ptr _ _ _ _ _) rfl) ?_)
 obtain ⟨v2,hv2,h0⟩ := bnd h0
 refine rS rfl (aO 4 (aAx hv2) rfl rfl rfl) ?_
 obtain ⟨v3,hv3,h0⟩ := bnd h0
 refine uM (tU (k := 4) (t' := aE (aE (aE ((fun _ => .dead)) 2 (.ptr 3 0 1 0 0)) 14 (.ptr 0 0 1 0 0)) 15 (dL cS v2)) rfl (FzL.nil)) (rw1 rfl w0 rfl (dU [0] 300 (aD2 hv3) rfl rfl) ?_)
 obtain ⟨v4,hv4,h0⟩ := bnd h0
 refine rS rfl (aO 5 (aAs hv4) rfl rfl rfl) (rP rfl (aH (r := .tup _) rfl) (rP rfl (aQ rfl rfl) (rP rfl (aQ rfl rfl) (al 7 [ze,zl,zl,z0] tok ?_))))
 refine bst tok ?_
 refine pa (nx (sq [0,1] ?_))
 refine rL rfl (aU tok rfl rfl rfl rfl) (bst tok (nx (aD (aS ?_))))
 cases h0
 exact aQr (rs := [.cell 2 31]) 1 [0,5,6] rfl
 refine sk (sq [0,1,2,3,4,5] (rP rfl (aH (r := .ptr _ _ _ _ _) rfl) ?_))
 obtain ⟨v5,hv5,h0⟩ := bnd h0
 refine rw1 rfl w0 rfl (dU [0] 300 (cY hv5) rfl rfl) (rP rfl (bI rfl rfl) (rP rfl (pbl (C0 := [ze,zl,zl,z0]) tok rfl rfl rfl) (al 4 [ze,zl,zl,z0] tok ?_)))
 refine bst tok (nx (sq [0,1,2,3] ?_))
 refine rP rfl (aH (r := .ptr _ _ _ _ _) rfl) ?_
 obtain ⟨v6,hv6,h0⟩ := bnd h0
 refine rw1 rfl w0 rfl (dU [0] 300 (cY hv6) rfl rfl) (rP rfl (bI rfl rfl) (pa (nx ?_)))
 obtain ⟨v23,h1,h0⟩ := bnd h0
 refine bG ⟨aE (aE (aE ((fun _ => .dead)) 0 (.ptr 0 0 1 0 0)) 2 (.ptr 3 0 1 0 0)) 5 (.ptr 4 0 1 0 0),lks [.live [⟨157,3, .av [[dL cU8 v23.1.code,(dI v23.1.at_), .d (.v (.int .u64 v23.1.seed))]]⟩], .no, .no, .live [⟨31,4, .av [[ze,zl,zl,z0]]⟩], .live [⟨31,4, .av [[dS (⟨#[111,119,110]⟩ : ByteArray), .own 5 0 (v23.2).length,zl,(dI (w64 (1 + v5.1)))]]⟩], .live [⟨170,3, .data (List.map aM v23.2)⟩]]⟩ ?_ ?_
 refine sq [0] (pa (nx (aK ?_)))
 refine bD (fun s15 => ⟨aE (aE (aE (aE (aE ((fun _ => .dead)) 0 (.ptr 0 0 1 0 0)) 2 (.ptr 3 0 1 0 0)) 5 (.ptr 4 0 1 0 0)) 6 (dI (w64 (1 + v6.1)))) 7 (dI s15.1),lks [.live [⟨157,3, .av [[dL cU8 s15.2.1.code,(dI s15.2.1.at_), .d (.v (.int .u64 s15.2.1.seed))]]⟩], .no, .no, .live [⟨31,4, .av [[ze,zl,zl,z0]]⟩], .live [⟨31,4, .av [[dS (⟨#[111,119,110]⟩ : ByteArray), .own 5 0 (s15.2.2).length,zl,(dI (w64 (1 + v5.1)))]]⟩], .live [⟨170,3, .data (List.map aM s15.2.2)⟩]]⟩) h1 ?_ (fun s15 y h2 => ?_)
 refine iM.trans_ (qS 5 rfl 170 3 (kb := 4) (j := 1) rfl rfl (by repeat (first | exact Spl.z _ | apply Spl.t | apply Spl.d))) ?_
 exact wk [0,1,2,3,4,5]
 refine aG (sq [0,1,2] (pm ?_))
 refine pm ?_
 refine rP rfl (iW rfl rfl) (nx ?_)
 refine bM h2 rfl (fun hc h2 => ?_) (fun hc h2 => ?_)
 refine sk (aG (aK (sq [0,1,2,3,4,5,6,7,8] (pm ?_))))
 obtain ⟨v16,hv16,h2⟩ := bnd h2
 refine rS rfl (aO 6 (aFn hv16) rfl rfl rfl) ?_
 obtain ⟨hq17,h2⟩ := dM h2
 refine rP rfl (aNk rfl rfl hq17) (rP rfl (aH (r := .ptr _ _ _ _ _) rfl) ?_)
 obtain ⟨v18,hv18,h2⟩ := bnd h2
 refine rw1 rfl w0 rfl (dU [0] 300 (cY hv18) rfl rfl) (rP rfl (bI rfl rfl) (rP rfl (pbl (C0 := [ze,z0,z0]) tok rfl rfl rfl) (al 6 [ze,z0,z0] tok ?_)))
 refine bst tok (nx (sq [0,1,2,3] ?_))
 refine fa tok ?_
 refine ld tok ?_
 refine fa tok ?_
 refine bs1 tok (nx ?_)
 obtain ⟨v21,h3,h2⟩ := bnd h2
 refine bG ⟨aE (aE (aE (aE (aE (aE ((fun _ => .dead)) 0 (.ptr 0 0 1 0 0)) 2 (.ptr 3 0 1 0 0)) 5 (.ptr 4 0 1 0 0)) 6 (dI (w64 (1 + v6.1)))) 7 (dI s15.1)) 8 (.ptr 5 0 1 0 0),lks [.live [⟨157,3, .av [[dL cU8 v21.1.code,(dI v21.1.at_), .d (.v (.int .u64 v21.1.seed))]]⟩], .no, .no, .live [⟨31,4, .av [[ze,zl,zl,z0]]⟩], .live [⟨31,4, .av [[dS (⟨#[111,119,110]⟩ : ByteArray), .own 6 0 (s15.2.2).length,zl,(dI (w64 (1 + v5.1)))]]⟩], .live [⟨170,3, .av [[dS v21.2.Name,(dI v21.2.Days),(dI v21.2.Leap)]]⟩], .live [⟨170,3, .data (List.map aM s15.2.2)⟩]]⟩ ?_ ?_
 refine sq [0,1] (rP rfl (aH (r := .ptr _ _ _ _ _) rfl) ?_)
 obtain ⟨v19,hv19,h3⟩ := bnd h3
 refine rw1 rfl w0 rfl (dU [0] 300 (jW hv19) rfl rfl) (nx ?_)
 refine bL h3 rfl (fun hc h3 => ?_) (fun hc h3 => ?_)
 refine sr [0,1,2,3,4] (rP rfl (aH (r := .ptr _ _ _ _ _) rfl) ?_)
 obtain ⟨v20,hv20,h3⟩ := bnd h3
 refine rw1 rfl w0 rfl (dU [0] 300 (cY hv20) rfl rfl) (rP rfl (bI rfl rfl) (fa tok ?_))
 refine bs1 tok (nx ?_)
 cases h3
 exact wk [0,1,2,3,4,6,5]
 refine sk ?_
 cases h3
 exact wk [0,1,2,3,4,6,5]
 refine sr [0,1,2,3,4,5,6] (fa tok ?_)
 refine ld tok ?_
 refine rL rfl (aU tok rfl rfl rfl rfl) (rS rfl (iL tok aM [v21.2] rfl rfl rfl (by repeat (first | exact Els.nil _ | apply Els.cons (cs := [.d _]) rfl rfl rfl | apply Els.cons (cs := _ :: _) rfl rfl rfl)) rfl rfl rfl (by repeat (first | exact cX.nil | (apply cX.cons; (repeat (first | exact fZ.nil | apply fZ.cons))))) rfl) ?_)
 obtain ⟨hq22,h2⟩ := dM h2
 refine rw1 rfl w0 rfl (fP tok hq22 rfl rfl rfl rfl rfl rfl rfl rfl rfl rfl rfl rfl (fun _ => rfl)) (fa tok ?_)
 refine rw0 rfl w0 (fQ (cs := [.own _ _ _]) tok rfl rfl rfl rfl rfl rfl rfl) (bB (bF (aI (sr [0,1,2] (pm ?_)))))
 refine rP rfl (bI rfl rfl) (pa (bB ?_))
 refine cA ?_
 cases h2
 refine ⟨_,rfl,?_⟩
 exact wk [0,1,2,3,4,6]
 refine bK (bY ?_)
 cases h2
 refine cC ⟨_,rfl,fun e => ?_⟩
 subst e
 refine aY (aI ?_)
 exact wk [0,1,2,3,4,5]
 obtain ⟨v35,h1,h0⟩ := bnd h0
 refine bG ⟨aE (aE ((fun _ => .dead)) 2 (.ptr 3 0 1 0 0)) 5 (.ptr 4 0 1 0 0),lks [.live [⟨157,3, .av [[dL cU8 v35.1.code,(dI v35.1.at_), .d (.v (.int .u64 v35.1.seed))]]⟩], .no, .no, .live [⟨31,4, .av [[ze,zl,zl,z0]]⟩], .live [⟨31,4, .av [[dS (⟨#[111,119,110]⟩ : ByteArray), .own 5 0 (v23.2).length, .own 6 0 (v35.2).length,(dI (w64 (1 + v5.1)))]]⟩], .live [⟨170,3, .data (List.map aM v23.2)⟩], .live [⟨181,3, .data (List.map aB v35.2)⟩]]⟩ ?_ ?_
 refine sq [0,1,2] (rP rfl (aH (r := .ptr _ _ _ _ _) rfl) ?_)
 obtain ⟨v24,hv24,h1⟩ := bnd h1
 refine rw1 rfl w0 rfl (dU [0] 300 (cY hv24) rfl rfl) (pa (nx (aK ?_)))
 refine bD (fun s30 => ⟨aE (aE (aE (aE ((fun _ => .dead)) 0 (.ptr 0 0 1 0 0)) 2 (.ptr 3 0 1 0 0)) 5 (.ptr 4 0 1 0 0)) 9 (dI s30.1),lks [.live [⟨157,3, .av [[dL cU8 s30.2.1.code,(dI s30.2.1.at_), .d (.v (.int .u64 s30.2.1.seed))]]⟩], .no, .no, .live [⟨31,4, .av [[ze,zl,zl,z0]]⟩], .live [⟨31,4, .av [[dS (⟨#[111,119,110]⟩ : ByteArray), .own 5 0 (v23.2).length, .own 6 0 (s30.2.2).length,(dI (w64 (1 + v5.1)))]]⟩], .live [⟨170,3, .data (List.map aM v23.2)⟩], .live [⟨181,3, .data (List.map aB s30.2.2)⟩]]⟩) h1 ?_ (fun s30 y h2 => ?_)
 refine iM.trans_ (qS 6 rfl 181 3 (kb := 4) (j := 2) rfl rfl (by repeat (first | exact Spl.z _ | apply Spl.t | apply Spl.d))) ?_
 exact wk [0,1,2,3,4,5,6]
 refine aG (sq [0,1] (pm ?_))
 refine rP rfl (eI rfl rfl) (nx ?_)
 refine bM h2 rfl (fun hc h2 => ?_) (fun hc h2 => ?_)
 refine sk (aG (aK (sq [0,1,2,3,4,5] (rP rfl (aH (r := .ptr _ _ _ _ _) rfl) (rS rfl (iL tok cI [1,2,3,4,5,8,33,100] rfl rfl rfl (by repeat (first | exact Els.nil _ | apply Els.cons (cs := [.d _]) rfl rfl rfl | apply Els.cons (cs := _ :: _) rfl rfl rfl)) rfl rfl rfl (by repeat (first | exact cX.nil | (apply cX.cons; (repeat (first | exact fZ.nil | apply fZ.cons))))) rfl) ?_)))))
 obtain ⟨v31,hv31,h2⟩ := bnd h2
 refine rw1 rfl w0 rfl (dU [0] 300 (hM hv31) rfl rfl) (rP rfl (pbl (C0 := [z0,z0,(dB false)]) tok rfl rfl rfl) (al 7 [z0,z0,(dB false)] tok ?_))
 refine bst tok (nx (sq [0,1,2,3,4,5] ?_))
 refine rP rfl (aH (r := .ptr _ _ _ _ _) rfl) (fa tok ?_)
 refine ld tok ?_
 obtain ⟨v32,hv32,h2⟩ := bnd h2
 refine rw1 rfl w0 rfl (dU [0] 300 (cY hv32) rfl rfl) (fa tok ?_)
 refine bs1 tok (nx (sq [0,1,2,3,4] ?_))
 refine rP rfl (aH (r := .ptr _ _ _ _ _) rfl) ?_
 obtain ⟨v33,hv33,h2⟩ := bnd h2
 refine rw1 rfl w0 rfl (dU [0] 300 (jW hv33) rfl rfl) (rP rfl (bO rfl) (fa tok ?_))
 refine bs1 tok (nx (sr [0,1,2,3,4,5,6] ?_))
 refine fa tok ?_
 refine ld tok ?_
 refine rL rfl (aU tok rfl rfl rfl rfl) (rS rfl (iL tok aB [(⟨v31.1,v32.1, !v33.1⟩ : bA)] rfl rfl rfl (by repeat (first | exact Els.nil _ | apply Els.cons (cs := [.d _]) rfl rfl rfl | apply Els.cons (cs := _ :: _) rfl rfl rfl)) rfl rfl rfl (by repeat (first | exact cX.nil | (apply cX.cons; (repeat (first | exact fZ.nil | apply fZ.cons))))) rfl) ?_)
 obtain ⟨hq34,h2⟩ := dM h2
 refine rw1 rfl w0 rfl (fP tok hq34 rfl rfl rfl rfl rfl rfl rfl rfl rfl rfl rfl rfl (fun _ => rfl)) (fa tok ?_)
 refine rw0 rfl w0 (fQ (cs := [.own _ _ _]) tok rfl rfl rfl rfl rfl rfl rfl) (bB (bF (aI (sr [0,1,2] (pm ?_)))))
 refine rP rfl (eM rfl rfl) (pa (bB ?_))
 refine cA ?_
 cases h2
 refine ⟨_,rfl,?_⟩
 exact wk [0,1,2,3,4,5,6]
 refine bK (bY ?_)
 cases h2
 refine cC ⟨_,rfl,fun e => ?_⟩
 subst e
 refine aY (aI ?_)
 exact wk [0,1,2,3,4,5,6]
 obtain ⟨v37,h1,h0⟩ := bnd h0
 refine bG ⟨aE (aE ((fun _ => .dead)) 2 (.ptr 3 0 1 0 0)) 5 (.ptr 4 0 1 0 0),lks [.live [⟨157,3, .av [[dL cU8 v35.1.code,(dI v35.1.at_), .d (.v (.int .u64 v35.1.seed))]]⟩], .no, .no, .live [⟨31,4, .av [[ze,zl,zl,z0]]⟩], .live [⟨31,4, .av [[dS (⟨#[111,119,110]⟩ : ByteArray), .own 5 0 (v23.2).length, .own 6 0 (v37).length,(dI (w64 (1 + v5.1)))]]⟩], .live [⟨170,3, .data (List.map aM v23.2)⟩], .live [⟨181,3, .data (List.map aB v37)⟩]]⟩ ?_ ?_
 refine sq [0,1] ?_
 obtain ⟨v36,hv36,h1⟩ := bnd h1
 refine rS rfl (eE 7 (wN hv36) rfl rfl) (rP rfl (bO rfl) (nx ?_))
 refine bL h1 rfl (fun hc h1 => ?_) (fun hc h1 => ?_)
 refine sr [0,1,2] (rS rfl (eJ 7 tok rfl rfl rfl rfl) (fa tok ?_))
 refine rw0 rfl w0 (fQ (cs := [.own _ _ _]) tok rfl rfl rfl rfl rfl rfl rfl) (nx ?_)
 cases h1
 exact wk [0,1,2,3,4,5,7]
 refine sk ?_
 cases h1
 exact wk [0,1,2,3,4,5,6]
 refine sq [0,1] (rL rfl (aU tok rfl rfl rfl rfl) (bst tok (nx (aD ?_))))
 cases h0
 exact aQr (rs := [.cell 2 31]) 1 [0,5,6] rfl
theorem qC {p0 : Int} {r : Bool} (h0 : iB p0 = some r) : FnC Tryz.prog 91 [] [dI p0] [] (dB r) := by
 refine fi 5 tok Tryz.func91 ?_
 unfold iB at h0
 refine sq [0] (pa (nx (sq [0,1,2] ?_)))
 refine pm ?_
 obtain ⟨v1,hv1,h0⟩ := bnd h0
 refine rS rfl (aO 3 (cZ hv1) rfl rfl rfl) (pa (nx (aD ?_)))
 cases h0
 exact r0t 2 rfl
theorem aHu {p0 : aA} {p1 : Int} {r : Bool} (h0 : sO p0 p1 = some r) : FnC Tryz.prog 170 [] [.ref (dG p0),(dI p1)] [] (dB r) := by
 refine fi 17 tok Tryz.func170 ?_
 unfold sO at h0
 refine sq [0] (pa (nx (sq [0,1,2,3,4,5,6,7,8,9,10,11,12] ?_)))
 refine pm ?_
 obtain ⟨v1,hv1,h0⟩ := bnd h0
 refine rS rfl (aO 3 (cZ hv1) rfl rfl rfl) (pm ?_)
 refine dH (u := 7) h0 rfl (fun hc h0 => ?_) (fun hc h0 => ?_)
 refine pm1 ?_
 refine aE8 ?_
 refine nr1 ?_
 refine fr1 tok ?_
 refine lr1 tok ?_
 refine rp rfl (w1 rfl rfl rfl) rfl (aN tok rfl rfl rfl) (rp rfl (w1 rfl rfl rfl) rfl (fO rfl rfl) (rp rfl (w1 rfl rfl rfl) rfl (iW rfl rfl) (pkt ?_)))
 refine pa (nx (aD ?_))
 cases h0
 exact r0t 4 rfl
 iterate 8 refine k1 ?_
 refine pkf ?_
 refine pa (nx (aD ?_))
 cases h0
 exact r0t 4 rfl
theorem aGy {p0 : aA} {p1 : Int} {r : Int} (h0 : mY p0 p1 = some r) : FnC Tryz.prog 171 [] [.ref (dG p0),(dI p1)] [] (dI r) := by
 refine fi 22 tok Tryz.func171 ?_
 unfold mY at h0
 refine sq [0] (pa (nx (sq [0,1,2,3,4,5,6,7,8,9] ?_)))
 refine pmr ?_
 refine nr ?_
 refine fr tok ?_
 refine lr tok ?_
 obtain ⟨v1,hv1,h0⟩ := bnd h0
 refine rS rfl (aO 3 (aBc hv1) rfl rfl rfl) (rP rfl (aH (r := .tup _) rfl) (rP rfl (aQ rfl rfl) (rP rfl (aQ rfl rfl) (pa ?_))))
 refine pa (nx (sq [0,1,2,3,4,5,6,7] ?_))
 iterate 3 refine pm ?_
 obtain ⟨v2,hv2,h0⟩ := bnd h0
 refine rS rfl (aO 3 (aAm hv2) rfl rfl rfl) ?_
 obtain ⟨hq3,h0⟩ := dM h0
 refine rP rfl (kN rfl rfl hq3) (pm ?_)
 refine rP rfl (fO rfl rfl) (pa (nx (aD ?_)))
 cases h0
 exact r0t 4 rfl
theorem aDd {p0 : aA} {p1 : Int} {r : Bool} (h0 : oH p0 p1 = some r) : FnC Tryz.prog 237 [] [.ref (dG p0),(dI p1)] [] (dB r) := by
 refine fi 44 tok Tryz.func237 ?_
 unfold oH at h0
 refine sq [0] (pa (nx (sq [0] ?_)))
 refine pa (nx ?_)
 obtain ⟨v13,h1,h0⟩ := bnd h0
 refine bG ⟨aE ((fun _ => .dead)) 5 (dB v13),lks [.no, .no, .no]⟩ ?_ ?_
 refine sq [0] (pa (nx (aK ?_)))
 refine bD (fun s7 => ⟨aE (aE (aE (aE ((fun _ => .dead)) 0 (.ref (dG p0))) 1 (dI p1)) 5 (dB s7.1)) 6 (dI s7.2),lks [.no, .no, .no]⟩) h1 ?_ (fun s7 y h2 => ?_)
 exact wk [0,1,2]
 refine aG (sq [0,1,2,3,4,5,6] (pm ?_))
 refine pmr ?_
 refine nr ?_
 refine fr tok ?_
 refine lr tok ?_
 refine rP rfl (aN tok rfl rfl rfl) (rP rfl (bX rfl rfl) (nx ?_))
 refine bM h2 rfl (fun hc h2 => ?_) (fun hc h2 => ?_)
 refine sk ?_
 obtain ⟨v12,h3,h2⟩ := bnd h2
 refine bG ⟨aE (aE (aE (aE ((fun _ => .dead)) 0 (.ref (dG p0))) 1 (dI p1)) 5 (dB v12)) 6 (dI s7.2),lks [.no, .no, .no]⟩ ?_ ?_
 refine aK (aG (aF (is := [0,1,2,3,4,5,6,7,8,9,10,11,12,13,14,15,16,17,18]) [0,0,2,6,14,0,62,126,254,511,0,1024,3072,7168,0,31744,64512,130048,262143] follows (by kernel_rfl) (tpm ?_)))
 refine rZ ?_
 refine tnr ?_
 refine tfr tok ?_
 refine tlr tok ?_
 refine tpm ?_
 obtain ⟨v8,hv8,h3⟩ := bnd h3
 refine tP rfl (cV tok hv8 rfl rfl rfl rfl rfl rfl) (tfr tok ?_)
 refine tlr tok ?_
 obtain ⟨hq9,h3⟩ := dM h3
 refine tP rfl (fJ rfl rfl hq9) (rZ ?_)
 refine tnr ?_
 refine tfr tok ?_
 refine tlr tok ?_
 refine tpm ?_
 obtain ⟨v10,hv10,h3⟩ := bnd h3
 refine tP rfl (cV tok hv10 rfl rfl rfl rfl rfl rfl) (tfr tok ?_)
 refine tlr tok ?_
 refine tP rfl (eN rfl rfl) (bE ?_)
 refine ⟨by kernel_rfl,?_⟩
 refine aI ?_
 refine bM h3 rfl (fun hc h3 => ?_) (fun hc h3 => ?_)
 refine sr [0,1,2,3,4,5,6,7,8] (pmr ?_)
 refine nr ?_
 refine fr tok ?_
 refine lr tok ?_
 refine pm ?_
 obtain ⟨v11,hv11,h3⟩ := bnd h3
 refine rP rfl (cV tok hv11 rfl rfl rfl rfl rfl rfl) (fr tok ?_)
 refine lr tok ?_
 refine pa (bB ?_)
 refine bF (aI ?_)
 cases h3
 exact wk [0,1,2]
 refine cU (bF (aI ?_))
 cases h3
 exact wk [0,1,2]
 refine sr [0,1,2] (pm ?_)
 refine rP rfl (bI rfl rfl) (pa (bB ?_))
 refine cA ?_
 cases h2
 refine ⟨_,rfl,?_⟩
 exact wk [0,1,2]
 refine bK (bY ?_)
 cases h2
 refine cC ⟨_,rfl,fun e => ?_⟩
 subst e
 refine aY (aI ?_)
 exact wk [0,1,2]
 refine sq [0,1] (pm ?_)
 refine pa (nx (aD ?_))
 cases h0
 exact r0t 4 rfl
theorem aL7 {p0 : Int} {p1 : Int} {r : Int} (h0 : xA p0 p1 = some r) : FnC Tryz.prog 238 [] [dI p0,(dI p1)] [] (dI r) := by
 refine fi 10 tok Tryz.func238 ?_
 unfold xA at h0
 refine sq [0] (pa (nx (aG (sq [0,1,2] ?_))))
 refine pm ?_
 refine pm ?_
 refine rP rfl (bX rfl rfl) (nx ?_)
 refine bM h0 rfl (fun hc h0 => ?_) (fun hc h0 => ?_)
 refine sq [0,1] (pm ?_)
 refine pa (nx (aD (aS ?_)))
 cases h0
 exact r0t 4 rfl
 refine sk (sq [0,1] (pm ?_))
 refine pa (nx (aD ?_))
 cases h0
 exact r0t 4 rfl
theorem aI0 {p0 : aA} {p1 : Int} {p2 : Int} {p3 : Int} {p4 : Int} {r : Int} (h0 : pH p0 p1 p2 p3 p4 = some r) : FnC Tryz.prog 172 [] [.ref (dG p0),(dI p1),(dI p2),(dI p3),(dI p4)] [] (dI r) := by
 refine fi 62 tok Tryz.func172 ?_
 unfold pH at h0
 refine sq [0] (pa (nx (sq [0] ?_)))
 refine pa (nx (sq [0] ?_))
 refine pa (nx ?_)
 obtain ⟨v7,h1,h0⟩ := bnd h0
 refine bG ⟨aE (aE (aE (aE ((fun _ => .dead)) 0 (.ref (dG p0))) 4 (dI p4)) 11 (dI v7.1)) 12 (dI v7.2),lks [.no, .no, .no]⟩ ?_ ?_
 refine sq [0,1] (pm ?_)
 refine pa (nx (aK ?_))
 refine bD (fun s4 => ⟨aE (aE (aE (aE (aE (aE (aE ((fun _ => .dead)) 0 (.ref (dG p0))) 2 (dI p2)) 3 (dI p3)) 4 (dI p4)) 11 (dI s4.1)) 12 (dI s4.2.1)) 13 (dI s4.2.2),lks [.no, .no, .no]⟩) h1 ?_ (fun s4 y h2 => ?_)
 exact wk [0,1,2]
 refine aG (sq [0,1,2] (pm ?_))
 refine pm ?_
 refine rP rfl (bX rfl rfl) (nx ?_)
 refine bM h2 rfl (fun hc h2 => ?_) (fun hc h2 => ?_)
 refine sk ?_
 obtain ⟨v6,h3,h2⟩ := bnd h2
 refine bG ⟨aE (aE (aE (aE (aE (aE (aE ((fun _ => .dead)) 0 (.ref (dG p0))) 2 (dI p2)) 3 (dI p3)) 4 (dI p4)) 11 (dI v6)) 12 (dI (w64 (s4.2.1 + 1)))) 13 (dI s4.2.2),lks [.no, .no, .no]⟩ ?_ ?_
 refine aK (sq [0,1,2] (pm ?_))
 refine rP rfl (bI rfl rfl) (pa (nx (sq [0,1,2] ?_)))
 refine pmr ?_
 refine pm ?_
 obtain ⟨v5,hv5,h3⟩ := bnd h3
 refine rS rfl (aO 3 (aDd hv5) rfl rfl rfl) (nx ?_)
 refine bL h3 rfl (fun hc h3 => ?_) (fun hc h3 => ?_)
 refine sr [0,1,2] (pm ?_)
 refine rP rfl (bI rfl rfl) (pa (bB ?_))
 refine bF (aI ?_)
 cases h3
 exact wk [0,1,2]
 refine cU (bF (aI ?_))
 cases h3
 exact wk [0,1,2]
 refine sr [0,1,2,3] (pm ?_)
 refine pm ?_
 refine rP rfl (bI rfl rfl) (pa (bB ?_))
 refine cA ?_
 cases h2
 refine ⟨_,rfl,?_⟩
 exact wk [0,1,2]
 refine bK (bY ?_)
 cases h2
 refine cC ⟨_,rfl,fun e => ?_⟩
 subst e
 refine aY (aI ?_)
 exact wk [0,1,2]
 refine sq [0,1,2,3,4,5,6] (pmr ?_)
 refine nr ?_
 refine fr tok ?_
 refine lr tok ?_
 refine pm ?_
 obtain ⟨v8,hv8,h0⟩ := bnd h0
 refine rP rfl (cV tok hv8 rfl rfl rfl rfl rfl rfl) (par (nx (aG (aK (sq [0,1,2,3,4] ?_)))))
 refine pm ?_
 refine rP rfl (fO rfl rfl) (pm ?_)
 refine rP rfl (eI rfl rfl) (pa (nx ?_))
 refine bM h0 rfl (fun hc h0 => ?_) (fun hc h0 => ?_)
 refine sq [0,1,2,3,4] (pmr ?_)
 refine nr ?_
 refine fr tok ?_
 refine lr tok ?_
 refine pa (nx (aD ?_))
 refine bH (aS ?_)
 cases h0
 exact r0t 10 rfl
 refine sq [0,1,2,3,4] (pm ?_)
 refine rP rfl (fO rfl rfl) (pm ?_)
 refine rP rfl (bX rfl rfl) (pa (nx ?_))
 refine bM h0 rfl (fun hc h0 => ?_) (fun hc h0 => ?_)
 refine sq [0,1,2,3,4] (pmr ?_)
 refine nr ?_
 refine fr tok ?_
 refine lr tok ?_
 refine pa (nx (aD ?_))
 refine bH (aS ?_)
 cases h0
 exact r0t 10 rfl
 refine cU (bF (aI (aG (aF (is := [0,1,2,3,4,5,6,7,8,9]) [0,1,3,7,0,16,48,112,255,511] follows (by kernel_rfl) (rZ ?_)))))
 refine tnr ?_
 refine tfr tok ?_
 refine tlr tok ?_
 refine rZ ?_
 refine tnr ?_
 refine tfr tok ?_
 refine tlr tok ?_
 obtain ⟨v9,hv9,h0⟩ := bnd h0
 refine jB rfl w0 rfl (cP 3 (aL7 hv9) rfl rfl rfl) (tpa ?_)
 refine bE ?_
 refine ⟨by kernel_rfl,?_⟩
 refine aI (aD ?_)
 cases h0
 exact r0t 10 rfl
theorem uC {p0 : aA} {p1 : Int} {p2 : Int} {r : Int} (h0 : kS p0 p1 p2 = some r) : FnC Tryz.prog 191 [] [.ref (dG p0),(dI p1),(dI p2)] [] (dI r) := by
 refine fi 26 tok Tryz.func191 ?_
 unfold kS at h0
 refine sq [0] (pa (nx (aG (sq [0,1,2] ?_))))
 refine pmr ?_
 refine pm ?_
 obtain ⟨v1,hv1,h0⟩ := bnd h0
 refine rS rfl (aO 3 (aDd hv1) rfl rfl rfl) (nx ?_)
 refine bL h0 rfl (fun hc h0 => ?_) (fun hc h0 => ?_)
 refine sq [0,1,2,3,4,5,6,7,8] (pmr ?_)
 refine nr ?_
 refine fr tok ?_
 refine lr tok ?_
 refine pm ?_
 obtain ⟨v2,hv2,h0⟩ := bnd h0
 refine rP rfl (cV tok hv2 rfl rfl rfl rfl rfl rfl) (fr tok ?_)
 refine lr tok ?_
 refine pa (nx (aD (aS ?_)))
 cases h0
 exact r0t 6 rfl
 refine sk (sq [0,1,2,3,4,5,6,7,8] (pmr ?_))
 refine nr ?_
 refine fr tok ?_
 refine lr tok ?_
 refine pm ?_
 obtain ⟨v3,hv3,h0⟩ := bnd h0
 refine rP rfl (cV tok hv3 rfl rfl rfl rfl rfl rfl) (fr tok ?_)
 refine lr tok ?_
 refine pa (nx (aD ?_))
 cases h0
 exact r0t 6 rfl
theorem aIt {p0 : aA} {p1 : List Int} {p2 : Int} {p3 : Int} {r : gX × Bool} (h0 : pX p0 p1 p2 p3 = some r) : FnC Tryz.prog 239 [] [.ref (dG p0),(dL cI p1),(dI p2),(dI p3)] [] (.tup [.agg [dI r.1.Year,(dI r.1.Month),(dI r.1.Shown),(dI r.1.Right)],(dB r.2)]) := by
 refine fi 49 tok Tryz.func239 ?_
 unfold pX at h0
 refine sq [0,1] (al 3 [z0,z0,z0,z0] tok ?_)
 refine pa (nx (sq [0,1,2,3,4,5,6,7,8] ?_))
 refine pm ?_
 refine rP rfl (aN tok rfl rfl rfl) (pmr ?_)
 refine nr ?_
 refine fr tok ?_
 refine lr tok ?_
 refine rP rfl (aN tok rfl rfl rfl) ?_
 obtain ⟨hq1,h0⟩ := dM h0
 refine rP rfl (kN rfl rfl hq1) (pa (nx (sq [0,1,2,3,4,5,6,7,8,9] ?_)))
 refine pm ?_
 refine pm ?_
 refine rP rfl (bI rfl rfl) (pmr ?_)
 refine pm ?_
 refine pm ?_
 obtain ⟨v2,hv2,h0⟩ := bnd h0
 refine rS rfl (aO 4 (uC hv2) rfl rfl rfl) (rP rfl (pbl (C0 := [z0,z0,z0,z0]) tok rfl rfl rfl) (al 4 [z0,z0,z0,z0] tok ?_))
 refine bst tok (nx (aG ?_))
 refine aF (is := [0,1,2,3,4,5,6,7,8,9,10,11,12,13,14,15]) [0,0,0,6,0,16,48,112,240,510,0,2046,4095,8191,16383,32767] follows (by kernel_rfl) ?_
 iterate 3 refine tpm ?_
 obtain ⟨hq3,h0⟩ := dM h0
 refine tP rfl (fJ rfl rfl hq3) (rZ ?_)
 refine tnr ?_
 refine tfr tok ?_
 refine tlr tok ?_
 refine tP rfl (aN tok rfl rfl rfl) (tP rfl (fO rfl rfl) (tpm ?_))
 refine tP rfl (bI rfl rfl) ?_
 obtain ⟨v4,hv4,h0⟩ := bnd h0
 refine tP rfl (cV tok hv4 rfl rfl rfl rfl rfl rfl) (tlr tok ?_)
 refine tfa tok ?_
 refine iK rfl w0 (fQ (cs := [.d _]) tok rfl rfl rfl rfl rfl rfl rfl) (bE ?_)
 refine ⟨by kernel_rfl,?_⟩
 refine aI (aG (aF (is := [0,1,2,3,4,5,6,7]) [0,0,2,0,8,30,1,127] follows (by kernel_rfl) (bS rfl w0 rfl (aU tok rfl rfl rfl rfl) rfl rfl rfl (tfa tok ?_))))
 refine tld tok ?_
 refine tfa tok ?_
 refine tld tok ?_
 refine tP rfl (fA rfl rfl) (iK rfl w0 (fQ (cs := _ :: _) tok rfl rfl rfl rfl rfl rfl rfl) (tpa ?_))
 refine bE ?_
 refine ⟨by kernel_rfl,?_⟩
 refine aI (aD ?_)
 cases h0
 exact fN (rs := [.cell 8 177, .tmp 9]) rfl
theorem aIh {p0 : aA} {p1 : List Int} {p2 : Int} {r : Int} (h0 : pY p0 p1 p2 = some r) : FnC Tryz.prog 173 [] [.ref (dG p0),(dL cI p1),(dI p2)] [] (dI r) := by
 refine fi 38 tok Tryz.func173 ?_
 unfold pY at h0
 refine sq [0] (pa (nx (sq [0] ?_)))
 refine pa (nx ?_)
 obtain ⟨v17,h1,h0⟩ := bnd h0
 refine bG ⟨aE ((fun _ => .dead)) 7 (dI v17),lks [.no, .no, .no]⟩ ?_ ?_
 refine sq [0] (pa (nx (aK ?_)))
 refine bD (fun s9 => ⟨aE (aE (aE (aE (aE ((fun _ => .dead)) 0 (.ref (dG p0))) 1 (dL cI p1)) 2 (dI p2)) 7 (dI s9.1)) 8 (dI s9.2),lks [.no, .no, .no]⟩) h1 ?_ (fun s9 y h2 => ?_)
 exact wk [0,1,2]
 refine aG (sq [0,1,2] (pm ?_))
 refine pm ?_
 refine rP rfl (bX rfl rfl) (nx ?_)
 refine bM h2 rfl (fun hc h2 => ?_) (fun hc h2 => ?_)
 refine sk ?_
 obtain ⟨v16,h3,h2⟩ := bnd h2
 refine bG ⟨aE (aE (aE (aE (aE ((fun _ => .dead)) 0 (.ref (dG p0))) 1 (dL cI p1)) 2 (dI p2)) 7 (dI v16)) 8 (dI s9.2),lks [.no, .no, .no]⟩ ?_ ?_
 refine aK (sq [0] (pa (nx (aK ?_))))
 refine bD (fun s13 => ⟨aE (aE (aE (aE (aE (aE ((fun _ => .dead)) 0 (.ref (dG p0))) 1 (dL cI p1)) 2 (dI p2)) 7 (dI s13.1)) 8 (dI s9.2)) 9 (dI s13.2),lks [.no, .no, .no]⟩) h3 ?_ (fun s13 y h4 => ?_)
 exact wk [0,1,2]
 refine aG (sq [0,1,2,3,4,5,6] (pm ?_))
 refine pmr ?_
 refine nr ?_
 refine fr tok ?_
 refine lr tok ?_
 refine rP rfl (aN tok rfl rfl rfl) (rP rfl (bX rfl rfl) (nx ?_))
 refine bM h4 rfl (fun hc h4 => ?_) (fun hc h4 => ?_)
 refine sk ?_
 obtain ⟨v15,h5,h4⟩ := bnd h4
 refine bG ⟨aE (aE (aE (aE (aE (aE ((fun _ => .dead)) 0 (.ref (dG p0))) 1 (dL cI p1)) 2 (dI p2)) 7 (dI v15)) 8 (dI s9.2)) 9 (dI s13.2),lks [.no, .no, .no]⟩ ?_ ?_
 refine aK (sq [0,1,2,3,4,5,6,7,8,9,10] (pmr ?_))
 iterate 3 refine pm ?_
 obtain ⟨v14,hv14,h5⟩ := bnd h5
 refine rS rfl (aO 3 (aIt hv14) rfl rfl rfl) (rP rfl (aH (r := .tup _) rfl) (rP rfl (aQ rfl rfl) (rP rfl (aQ rfl rfl) (al 3 [z0,z0,z0,z0] tok ?_))))
 refine bst tok ?_
 refine pa (nx (sq [0] ?_))
 refine pm (nx ?_)
 refine bL h5 rfl (fun hc h5 => ?_) (fun hc h5 => ?_)
 refine sr [0,1,2] (pm ?_)
 refine rP rfl (bI rfl rfl) (pa (bB ?_))
 refine bF (aI ?_)
 cases h5
 exact wk [0,1,2]
 refine cU (bF (aI ?_))
 cases h5
 exact wk [0,1,2]
 refine sr [0,1,2] (pm ?_)
 refine rP rfl (bI rfl rfl) (pa (bB ?_))
 refine cA ?_
 cases h4
 refine ⟨_,rfl,?_⟩
 exact wk [0,1,2]
 refine bK (bY ?_)
 cases h4
 refine cC ⟨_,rfl,fun e => ?_⟩
 subst e
 refine aY ?_
 refine bF (aI ?_)
 exact wk [0,1,2]
 refine sr [0,1,2] (pm ?_)
 refine rP rfl (bI rfl rfl) (pa (bB ?_))
 refine cA ?_
 cases h2
 refine ⟨_,rfl,?_⟩
 exact wk [0,1,2]
 refine bK (bY ?_)
 cases h2
 refine cC ⟨_,rfl,fun e => ?_⟩
 subst e
 refine aY (aI ?_)
 exact wk [0,1,2]
 refine sq [0,1] (pm ?_)
 refine pa (nx (aD ?_))
 cases h0
 exact r0t 6 rfl
theorem aKe {p0 : aA} {p1 : Int} {r : List Int × Int × Int} (h0 : qY p0 p1 = some r) : FnC Tryz.prog 92 [] [.agg [dS p0.Name,(dL aM p0.Months),(dL aB p0.Rules),(dI p0.Week)],(dI p1)] [.live [⟨2,1, .data (List.map cI r.1)⟩]] (.tup [.own 0 0 r.1.length,(dI r.2.1),(dI r.2.2)]) := by
 refine fi 43 tok Tryz.func92 ?_
 unfold qY at h0
 refine sq [0,1,2,3] (bxx 3 ?_)
 iterate 3 refine pa ?_
 refine nx (aG (sq [0,1] ?_))
 obtain ⟨v1,hv1,h0⟩ := bnd h0
 refine rS rfl (eE 4 (wN hv1) rfl rfl) (rP rfl (bO rfl) (nx ?_))
 refine bL h0 rfl (fun hc h0 => ?_) (fun hc h0 => ?_)
 refine sq [0,1,2] ?_
 iterate 3 refine pa ?_
 refine nx (cJ (dD 4 rfl 2 1 (d := 4) rfl) (aD (aS ?_)))
 cases h0
 exact dJ (rs := [.tmp 4, .tmp 5, .tmp 6]) [4] rfl
 refine sk (aG (sq [0,1,2] (pm ?_)))
 obtain ⟨v2,hv2,h0⟩ := bnd h0
 refine rS rfl (eE 4 (aHu hv2) rfl rfl) (rP rfl (bO rfl) (nx ?_))
 refine bL h0 rfl (fun hc h0 => ?_) (fun hc h0 => ?_)
 refine sq [0,1,2] ?_
 iterate 3 refine pa ?_
 refine nx (cJ (dD 4 rfl 2 1 (d := 4) rfl) (aD (aS ?_)))
 cases h0
 exact dJ (rs := [.tmp 4, .tmp 5, .tmp 6]) [4] rfl
 refine sk (sq [0,1,2] (pm ?_))
 obtain ⟨v3,hv3,h0⟩ := bnd h0
 refine rS rfl (eE 4 (aGy hv3) rfl rfl) (pa (nx (sq [0,1] ?_)))
 refine rS rfl (eJ 4 tok rfl rfl rfl rfl) (rP rfl (aR (r := .own _ _ _) rfl) (nx ?_))
 obtain ⟨v20,h1,h0⟩ := bnd h0
 refine bG ⟨aE (aE (aE ((fun _ => .dead)) 2 (.ptr 3 0 1 0 0)) 7 (dI v3)) 8 (.own 4 0 (v20).length),lks [.no, .no, .no, .live [⟨31,4, .av [[dS p0.Name,(dL aM p0.Months),(dL aB p0.Rules),(dI p0.Week)]]⟩], .live [⟨2,1, .data (List.map cI v20)⟩]]⟩ ?_ ?_
 refine sq [0] (pa (nx (aK ?_)))
 refine bD (fun s12 => ⟨aE (aE (aE (aE (aE ((fun _ => .dead)) 1 (dI p1)) 2 (.ptr 3 0 1 0 0)) 7 (dI v3)) 8 (.own 4 0 (s12.2).length)) 9 (dI s12.1),lks [.no, .no, .no, .live [⟨31,4, .av [[dS p0.Name,(dL aM p0.Months),(dL aB p0.Rules),(dI p0.Week)]]⟩], .live [⟨2,1, .data (List.map cI s12.2)⟩]]⟩) h1 ?_ (fun s12 y h2 => ?_)
 exact wk [0,1,2,3,4]
 refine aG (sq [0,1,2] (pm ?_))
 refine pm ?_
 refine rP rfl (bX rfl rfl) (nx ?_)
 refine bM h2 rfl (fun hc h2 => ?_) (fun hc h2 => ?_)
 refine sk ?_
 obtain ⟨v19,h3,h2⟩ := bnd h2
 refine bG ⟨aE (aE (aE (aE (aE ((fun _ => .dead)) 1 (dI p1)) 2 (.ptr 3 0 1 0 0)) 7 (dI v3)) 8 (.own 4 0 (v19).length)) 9 (dI s12.1),lks [.no, .no, .no, .live [⟨31,4, .av [[dS p0.Name,(dL aM p0.Months),(dL aB p0.Rules),(dI p0.Week)]]⟩], .live [⟨2,1, .data (List.map cI v19)⟩]]⟩ ?_ ?_
 refine aK (sq [0] (pa (nx (aK ?_))))
 refine bD (fun s16 => ⟨aE (aE (aE (aE (aE (aE ((fun _ => .dead)) 1 (dI p1)) 2 (.ptr 3 0 1 0 0)) 7 (dI v3)) 8 (.own 4 0 (s16.2).length)) 9 (dI s12.1)) 10 (dI s16.1),lks [.no, .no, .no, .live [⟨31,4, .av [[dS p0.Name,(dL aM p0.Months),(dL aB p0.Rules),(dI p0.Week)]]⟩], .live [⟨2,1, .data (List.map cI s16.2)⟩]]⟩) h3 ?_ (fun s16 y h4 => ?_)
 exact wk [0,1,2,3,4]
 refine aG (sq [0,1,2,3,4] (pm ?_))
 refine fa tok ?_
 refine ld tok ?_
 refine rP rfl (aN tok rfl rfl rfl) (rP rfl (bX rfl rfl) (nx ?_))
 refine bM h4 rfl (fun hc h4 => ?_) (fun hc h4 => ?_)
 refine sk (aG (aK (sr [0,1,2,3,4,5,6,7,8] (rP rfl (aH (r := .own _ _ _) rfl) ?_))))
 iterate 4 refine pm ?_
 obtain ⟨v17,hv17,h4⟩ := bnd h4
 refine rS rfl (eE 5 (aI0 hv17) rfl rfl) (rS rfl (iL tok cI [v17] rfl rfl rfl (by repeat (first | exact Els.nil _ | apply Els.cons (cs := [.d _]) rfl rfl rfl | apply Els.cons (cs := _ :: _) rfl rfl rfl)) rfl rfl rfl (by repeat (first | exact cX.nil | (apply cX.cons; (repeat (first | exact fZ.nil | apply fZ.cons))))) rfl) ?_)
 obtain ⟨hq18,h4⟩ := dM h4
 refine rw1 rfl w0 rfl (fP tok hq18 rfl rfl rfl rfl rfl rfl rfl rfl rfl rfl rfl rfl (fun _ => rfl)) (rP rfl (aR (r := .own _ _ _) rfl) (bB (bF (aI (sr [0,1,2] (pm ?_))))))
 refine rP rfl (bI rfl rfl) (pa (bB ?_))
 refine cA ?_
 cases h4
 refine ⟨_,rfl,?_⟩
 exact wk [0,1,2,3,4]
 refine bK (bY ?_)
 cases h4
 refine cC ⟨_,rfl,fun e => ?_⟩
 subst e
 refine aY ?_
 refine bF (aI ?_)
 exact wk [0,1,2,3,4]
 refine sr [0,1,2] (pm ?_)
 refine rP rfl (bI rfl rfl) (pa (bB ?_))
 refine cA ?_
 cases h2
 refine ⟨_,rfl,?_⟩
 exact wk [0,1,2,3,4]
 refine bK (bY ?_)
 cases h2
 refine cC ⟨_,rfl,fun e => ?_⟩
 subst e
 refine aY (aI ?_)
 exact wk [0,1,2,3,4]
 refine sq [0,1,2,3,4,5,6] (rP rfl (aH (r := .own _ _ _) rfl) (rP rfl (aH (r := .own _ _ _) rfl) (pm ?_)))
 obtain ⟨v21,hv21,h0⟩ := bnd h0
 refine rS rfl (eE 5 (aIh hv21) rfl rfl) (rP rfl (aR (r := .own _ _ _) rfl) (pa ?_))
 refine pa (nx (aD ?_))
 cases h0
 exact dJ (rs := [.tmp 4, .tmp 5, .tmp 6]) [4] rfl
theorem aD5 {p0 : Int} {r : Int} (h0 : oS p0 = some r) : FnC Tryz.prog 174 [] [dI p0] [] (.d (.v (.int .u64 r))) := by
 refine fi 10 tok Tryz.func174 ?_
 unfold oS at h0
 refine sq [0] (pa (nx (aG (sq [0,1] ?_))))
 refine pm ?_
 refine rP rfl (bX rfl rfl) (nx ?_)
 refine bM h0 rfl (fun hc h0 => ?_) (fun hc h0 => ?_)
 refine sq [0,1,2,3] (pm ?_)
 refine rP rfl (aKu tok rfl rfl rfl rfl rfl) (rP rfl (aO8 rfl) (pa (nx (aD (aS ?_)))))
 cases h0
 exact r0t 2 rfl
 refine sk (sq [0,1,2] (pm ?_))
 refine rP rfl (aKu tok rfl rfl rfl rfl rfl) (pa (nx (aD ?_)))
 cases h0
 exact r0t 2 rfl
theorem nZ {p0 : Int} {p1 : Int} {r : aJ × Bool} (h0 : fM p0 p1 = some r) : FnC Tryz.prog 93 [] [dI p0,(dI p1)] [] (.tup [.agg [dI r.1.Num,(dI r.1.Den)],(dB r.2)]) := by
 refine fi 53 tok Tryz.func93 ?_
 unfold fM at h0
 refine sq [0,1] (al 3 [z0,z0] tok ?_)
 refine pa (nx (sq [0,1,2] ?_))
 refine pm ?_
 obtain ⟨v1,hv1,h0⟩ := bnd h0
 refine rS rfl (aO 4 (aD5 hv1) rfl rfl rfl) (pa (nx (sq [0,1,2] ?_)))
 refine pm ?_
 obtain ⟨v2,hv2,h0⟩ := bnd h0
 refine rS rfl (aO 4 (aD5 hv2) rfl rfl rfl) (pa (nx (sq [0,1] ?_)))
 refine pm ?_
 refine pa (nx (sq [0,1] ?_))
 refine pm ?_
 refine pa (nx ?_)
 obtain ⟨v7,h1,h0⟩ := bnd h0
 refine bG ⟨aE (aE (aE (aE (aE (aE ((fun _ => .dead)) 0 (dI p0)) 1 (dI p1)) 4 (.ptr 3 0 1 0 0)) 6 (.d (.v (.int .u64 v1)))) 7 (.d (.v (.int .u64 v2)))) 8 (.d (.v (.int .u64 v7))),lks [.no, .no, .no, .live [⟨62,2, .av [[z0,z0]]⟩]]⟩ ?_ ?_
 refine aK ?_
 refine bD (fun s5 => ⟨aE (aE (aE (aE (aE (aE (aE ((fun _ => .dead)) 0 (dI p0)) 1 (dI p1)) 4 (.ptr 3 0 1 0 0)) 6 (.d (.v (.int .u64 v1)))) 7 (.d (.v (.int .u64 v2)))) 8 (.d (.v (.int .u64 s5.1)))) 9 (.d (.v (.int .u64 s5.2))),lks [.no, .no, .no, .live [⟨62,2, .av [[z0,z0]]⟩]]⟩) h1 ?_ (fun s5 y h2 => ?_)
 exact wk [0,1,2,3]
 refine aG (sq [0,1] (pm ?_))
 refine rP rfl (eI rfl rfl) (nx ?_)
 refine bM h2 rfl (fun hc h2 => ?_) (fun hc h2 => ?_)
 refine sk (aK (sq [0,1,2,3] (pm ?_)))
 refine pm ?_
 obtain ⟨hq6,h2⟩ := dM h2
 refine rP rfl (fJ rfl rfl hq6) (pa (nx (sq [0,1] ?_)))
 refine pm ?_
 refine pa (nx (sr [0,1] ?_))
 refine pm ?_
 refine pa (bB ?_)
 refine bF (cA ?_)
 cases h2
 refine ⟨_,rfl,?_⟩
 exact wk [0,1,2,3]
 refine bK (bY ?_)
 cases h2
 refine cC ⟨_,rfl,fun e => ?_⟩
 subst e
 refine aY (aI ?_)
 exact wk [0,1,2,3]
 refine sq [0,1,2,3] (pm ?_)
 refine pm ?_
 obtain ⟨hq8,h0⟩ := dM h0
 refine rP rfl (aD8 rfl rfl hq8) (pa (nx (sq [0,1,2,3] ?_)))
 refine pm ?_
 refine pm ?_
 obtain ⟨hq9,h0⟩ := dM h0
 refine rP rfl (aD8 rfl rfl hq9) (pa (nx (aG ?_)))
 obtain ⟨v10,h1,h0⟩ := bnd h0
 refine bG ⟨aE (aE (aE (aE (aE (aE ((fun _ => .dead)) 0 (dI p0)) 1 (dI p1)) 4 (.ptr 3 0 1 0 0)) 6 (.d (.v (.int .u64 (IntKind.u64.wrap (v1.tdiv v7)))))) 7 (.d (.v (.int .u64 (IntKind.u64.wrap (v2.tdiv v7)))))) 36 (dB v10),lks [.no, .no, .no, .live [⟨62,2, .av [[z0,z0]]⟩]]⟩ ?_ ?_
 refine sr [0,1,2,3,4,5] (pm ?_)
 refine rP rfl (eI rfl rfl) (pm ?_)
 refine gT (u := 33) h1 rfl (fun hc h1 => ?_) (fun hc h1 => ?_)
 refine k1 ?_
 refine k1 ?_
 refine pkt (nx ?_)
 cases h1
 exact wk [0,1,2,3]
 refine pm1 ?_
 refine rp rfl (w1 rfl rfl rfl) rfl (eI rfl rfl) (pkf (nx ?_))
 cases h1
 exact wk [0,1,2,3]
 refine bL h0 rfl (fun hc h0 => ?_) (fun hc h0 => ?_)
 refine sq [0,1,2] (rP rfl (pbl (C0 := [z0,z0]) tok rfl rfl rfl) (bst tok ?_))
 refine pa (nx (aD (aS ?_)))
 cases h0
 exact fN (rs := [.cell 4 62, .tmp 5]) rfl
 refine sk (sq [0,1,2,3,4,5,6] (pm ?_))
 refine rP rfl (aMa tok rfl rfl rfl rfl rfl) (pm ?_)
 refine rP rfl (aMa tok rfl rfl rfl rfl rfl) (rP rfl (pbl (C0 := [z0,z0]) tok rfl rfl rfl) (al 4 [z0,z0] tok ?_))
 refine bst tok (nx ?_)
 obtain ⟨v11,h1,h0⟩ := bnd h0
 refine bG ⟨aE (aE ((fun _ => .dead)) 4 (.ptr 3 0 1 0 0)) 11 (.ptr 4 0 1 0 0),lks [.no, .no, .no, .live [⟨62,2, .av [[z0,z0]]⟩], .live [⟨62,2, .av [[dI v11.Num,(dI v11.Den)]]⟩]]⟩ ?_ ?_
 refine sq [0,1,2,3,4] (pm ?_)
 refine rP rfl (bX rfl rfl) (pm ?_)
 refine rP rfl (bX rfl rfl) (rP rfl (aNz tok rfl rfl rfl rfl) (nx ?_))
 refine bL h1 rfl (fun hc h1 => ?_) (fun hc h1 => ?_)
 refine sr [0,1,2,3,4] (fa tok ?_)
 refine ld tok ?_
 refine rP rfl (vC rfl) (fa tok ?_)
 refine bs1 tok (nx ?_)
 cases h1
 exact wk [0,1,2,3,4]
 refine sk ?_
 cases h1
 exact wk [0,1,2,3,4]
 refine sq [0,1,2] (rL rfl (aU tok rfl rfl rfl rfl) (bst tok ?_))
 refine pa (nx (aD ?_))
 cases h0
 exact fN (rs := [.cell 4 62, .tmp 5]) rfl
theorem aGx  {r : qE} (h0 : qN  = some r) : FnC Tryz.prog 95 [] [] [] (.agg [dI r.LowDriver,(dI r.HighDriver),(dI r.LowDriven),(dI r.HighDriven),(dI r.Stages)]) := by
 refine fi 2 tok Tryz.func95 ?_
 unfold qN at h0
 refine sq [0] (al 3 [z0,z0,z0,z0,z0] tok (nx (sq [0,1] ?_)))
 refine rP rfl (pbl (C0 := [z0,z0,z0,z0,z0]) tok rfl rfl rfl) (bst tok (nx (aD ?_)))
 cases h0
 exact fN (rs := [.cell 0 119]) rfl
theorem rN {p0 : Int} {r : Int} (h0 : iI p0 = some r) : FnC Tryz.prog 164 [] [dI p0] [] (dI r) := by
 refine fi 8 tok Tryz.func164 ?_
 unfold iI at h0
 refine sq [0] (pa (nx (aG (sq [0,1] ?_))))
 refine pm ?_
 refine rP rfl (bX rfl rfl) (nx ?_)
 refine bM h0 rfl (fun hc h0 => ?_) (fun hc h0 => ?_)
 refine sq [0,1,2] (pm ?_)
 refine rP rfl (vC rfl) (pa (nx (aD (aS ?_))))
 cases h0
 exact r0t 2 rfl
 refine sk (sq [0,1] (pm ?_))
 refine pa (nx (aD ?_))
 cases h0
 exact r0t 2 rfl
theorem aHy {p0 : aJ} {r : Bool} (h0 : tO p0 = some r) : FnC Tryz.prog 81 [] [.agg [dI p0.Num,(dI p0.Den)]] [] (dB r) := by
 refine fi 20 tok Tryz.func81 ?_
 unfold tO at h0
 refine sq [0,1] (bxx 3 ?_)
 refine pa (nx (aG ?_))
 refine aF (is := [0,1,2,3,4,5,6,7,8,9,10,12,13,11,14,15,16,17]) [0,1,3,7,15,31,63,127,255,511,1023,2047,511,4607,16383,32767,65535,131071] follows (by kernel_rfl) (tfa tok ?_)
 refine tld tok ?_
 obtain ⟨v1,hv1,h0⟩ := bnd h0
 refine jB rfl w0 rfl (cP 4 (cZ hv1) rfl rfl rfl) (tpm ?_)
 refine nT (u := 6) h0 rfl (fun hc h0 => ?_) (fun hc h0 => ?_)
 refine bS rfl (w1 rfl rfl rfl) rfl (uL tok rfl rfl rfl rfl rfl rfl rfl) rfl rfl rfl (bS rfl (w1 rfl rfl rfl) rfl (nG tok rfl rfl rfl rfl rfl) rfl rfl rfl ?_)
 obtain ⟨v2,hv2,h0⟩ := bnd h0
 refine jB rfl (w1 rfl rfl rfl) rfl (cP 4 (cZ hv2) rfl rfl rfl) (vG ?_)
 refine tpm ?_
 refine nT (u := 11) h0 rfl (fun hc h0 => ?_) (fun hc h0 => ?_)
 refine bS rfl (w1 rfl rfl rfl) rfl (uL tok rfl rfl rfl rfl rfl rfl rfl) rfl rfl rfl (bS rfl (w1 rfl rfl rfl) rfl (nG tok rfl rfl rfl rfl rfl) rfl rfl rfl (bS rfl (w1 rfl rfl rfl) rfl (uL tok rfl rfl rfl rfl rfl rfl rfl) rfl rfl rfl (bS rfl (w1 rfl rfl rfl) rfl (nG tok rfl rfl rfl rfl rfl) rfl rfl rfl ?_)))
 obtain ⟨v3,hv3,h0⟩ := bnd h0
 refine jB rfl (w1 rfl rfl rfl) rfl (cP 4 (rN hv3) rfl rfl rfl) ?_
 obtain ⟨v4,hv4,h0⟩ := bnd h0
 refine jB rfl (w1 rfl rfl rfl) rfl (cP 4 (aAm hv4) rfl rfl rfl) (qJ rfl (w1 rfl rfl rfl) rfl (eN rfl rfl) (vG ?_))
 refine tpa ?_
 refine bE ?_
 refine ⟨by kernel_rfl,?_⟩
 refine aI (aD ?_)
 cases h0
 exact r0t 2 rfl
 iterate 7 refine k2 ?_
 refine tA ?_
 refine tpa ?_
 refine bE ?_
 refine ⟨by kernel_rfl,?_⟩
 refine aI (aD ?_)
 cases h0
 exact r0t 2 rfl
 iterate 3 refine k2 ?_
 refine tA ?_
 refine tpm ?_
 iterate 7 refine k2 ?_
 refine tA ?_
 refine tpa ?_
 refine bE ?_
 refine ⟨by kernel_rfl,?_⟩
 refine aI (aD ?_)
 cases h0
 exact r0t 2 rfl
theorem aBk {p0 : Int} {p1 : Int} {r : Bool} (h0 : sV p0 p1 = some r) : FnC Tryz.prog 240 [] [dI p0,(dI p1)] [] (dB r) := by
 refine fi 18 tok Tryz.func240 ?_
 unfold sV at h0
 refine sq [0] (pa (nx (sq [0,1,2,3,4,5,6,7,8,9,10,11,12,13] ?_)))
 refine pm ?_
 refine rP rfl (tN rfl rfl) (pm ?_)
 refine gT (u := 7) h0 rfl (fun hc h0 => ?_) (fun hc h0 => ?_)
 refine pm1 ?_
 refine rp rfl (w1 rfl rfl rfl) rfl (iW rfl rfl) (pkt ?_)
 refine pm ?_
 refine gT (u := 11) h0 rfl (fun hc h0 => ?_) (fun hc h0 => ?_)
 iterate 3 refine pm1 ?_
 refine rp rfl (w1 rfl rfl rfl) rfl (bI rfl rfl) ?_
 obtain ⟨v1,hv1,h0⟩ := bnd h0
 refine rs rfl (w1 rfl rfl rfl) rfl (aO 3 (cZ hv1) rfl rfl rfl) (pkt ?_)
 refine pa (nx (aD ?_))
 cases h0
 exact r0t 4 rfl
 iterate 5 refine k1 ?_
 refine pkf ?_
 refine pa (nx (aD ?_))
 cases h0
 exact r0t 4 rfl
 refine k1 ?_
 refine k1 ?_
 refine pkf ?_
 refine pm ?_
 iterate 5 refine k1 ?_
 refine pkf ?_
 refine pa (nx (aD ?_))
 cases h0
 exact r0t 4 rfl
theorem aPq {p0 : qE} {r : Bool} (h0 : zA p0 = some r) : FnC Tryz.prog 175 [] [.ref (aB8 p0)] [] (dB r) := by
 refine fi 30 tok Tryz.func175 ?_
 unfold zA at h0
 refine sq [0] (pa (nx (aG ?_)))
 refine aF (is := [0,1,2,3,4,5,6,7,8,9,10,11,12,13,14,15,16,17,18,19,20,21,22,23,24,25,26,27]) [0,1,3,7,0,16,48,112,255,511,1023,2047,4095,8191,1023,17407,50175,115711,262143,524287,1048575,2097151,4194303,8388607,16777215,33554431,67108863,134217727] follows (by kernel_rfl) (rZ ?_)
 refine tnr ?_
 refine tfr tok ?_
 refine tlr tok ?_
 refine rZ ?_
 refine tnr ?_
 refine tfr tok ?_
 refine tlr tok ?_
 obtain ⟨v1,hv1,h0⟩ := bnd h0
 refine jB rfl w0 rfl (cP 3 (aBk hv1) rfl rfl rfl) (tpm ?_)
 refine nT (u := 12) h0 rfl (fun hc h0 => ?_) (fun hc h0 => ?_)
 refine qF ?_
 refine aB3 ?_
 refine wR tok ?_
 refine aAi tok ?_
 refine qF ?_
 refine aB3 ?_
 refine wR tok ?_
 refine aAi tok ?_
 obtain ⟨v2,hv2,h0⟩ := bnd h0
 refine jB rfl (w1 rfl rfl rfl) rfl (cP 3 (aBk hv2) rfl rfl rfl) (vG ?_)
 refine tpm ?_
 refine nT (u := 23) h0 rfl (fun hc h0 => ?_) (fun hc h0 => ?_)
 refine qF ?_
 refine aB3 ?_
 refine wR tok ?_
 refine aAi tok ?_
 obtain ⟨v3,hv3,h0⟩ := bnd h0
 refine jB rfl (w1 rfl rfl rfl) rfl (cP 3 (cZ hv3) rfl rfl rfl) (vG ?_)
 refine tpa ?_
 refine bE ?_
 refine ⟨by kernel_rfl,?_⟩
 refine aI (aD ?_)
 cases h0
 exact r0t 2 rfl
 iterate 5 refine k2 ?_
 refine tA ?_
 refine tpa ?_
 refine bE ?_
 refine ⟨by kernel_rfl,?_⟩
 refine aI (aD ?_)
 cases h0
 exact r0t 2 rfl
 iterate 9 refine k2 ?_
 refine tA ?_
 refine tpm ?_
 iterate 5 refine k2 ?_
 refine tA ?_
 refine tpa ?_
 refine bE ?_
 refine ⟨by kernel_rfl,?_⟩
 refine aI (aD ?_)
 cases h0
 exact r0t 2 rfl
theorem aMb {p0 : aJ} {r : Bool} (h0 : xG p0 = some r) : FnC Tryz.prog 176 [] [.agg [dI p0.Num,(dI p0.Den)]] [] (dB r) := by
 refine fi 11 tok Tryz.func176 ?_
 unfold xG at h0
 refine sq [0,1] (bxx 3 ?_)
 refine pa (nx (sq [0,1,2,3,4,5,6,7,8] ?_))
 refine fa tok ?_
 refine ld tok ?_
 obtain ⟨v1,hv1,h0⟩ := bnd h0
 refine rS rfl (aO 4 (cZ hv1) rfl rfl rfl) (pm ?_)
 refine dH (u := 6) h0 rfl (fun hc h0 => ?_) (fun hc h0 => ?_)
 refine fa1 tok ?_
 refine ld1 tok ?_
 refine rp rfl (w1 rfl rfl rfl) rfl (iW rfl rfl) (pkt ?_)
 refine pa (nx (aD ?_))
 cases h0
 exact r0t 2 rfl
 iterate 3 refine k1 ?_
 refine pkf ?_
 refine pa (nx (aD ?_))
 cases h0
 exact r0t 2 rfl
theorem qO {p0 : List Int} {r : List Int} (h0 : jY p0 = some r) : FnC Tryz.prog 204 [] [dL cI p0] [.live [⟨2,1, .data (List.map cI r)⟩]] (.own 0 0 r.length) := by
 refine fi 6 tok Tryz.func204 ?_
 unfold jY at h0
 refine sq [0] (pa (nx (sq [0,1,2,3] ?_)))
 refine rS rfl (eJ 3 tok rfl rfl rfl rfl) (pm ?_)
 obtain ⟨hq1,h0⟩ := dM h0
 refine rw1 rfl w0 rfl (fP tok hq1 rfl rfl rfl rfl rfl rfl rfl rfl rfl rfl rfl rfl (fun _ => rfl)) (rP rfl (aR (r := .own _ _ _) rfl) (nx (aD ?_)))
 cases h0
 exact dJ (rs := [.tmp 2]) [3] rfl
theorem vZ {p0 : Int} {p1 : Int} {p2 : Int} {r : List aZ} (h0 : jA p0 p1 p2 = some r) : FnC Tryz.prog 272 [] [dI p0,(dI p1),(dI p2)] [] (dL aV r) := by
 refine fi 67 tok Tryz.func272 ?_
 unfold jA at h0
 refine sq [0] (pa (nx (sq [0,1,2] ?_)))
 refine rP rfl (pbl (C0 := [z0,zl]) tok rfl rfl rfl) (rS rfl (aSe tok aV [(⟨1,[]⟩ : aZ)] rfl rfl rfl (by repeat (first | exact Els.nil _ | apply Els.cons (cs := [.d _]) rfl rfl rfl | apply Els.cons (cs := _ :: _) rfl rfl rfl)) rfl rfl rfl (by repeat (first | exact aId.nil | (apply aId.cons; (repeat (first | exact aM9.nil | apply aM9.niln | apply aM9.cons))))) rfl) (pa (nx ?_)))
 obtain ⟨v75,h1,h0⟩ := bnd h0
 refine bG ⟨aE ((fun _ => .dead)) 7 (dL aV v75),lks [.no, .no, .no]⟩ ?_ ?_
 refine sq [0] (pa (nx (aK ?_)))
 refine bD (fun s38 => ⟨aE (aE (aE (aE (aE ((fun _ => .dead)) 0 (dI p0)) 1 (dI p1)) 2 (dI p2)) 7 (dL aV s38.1)) 8 (dI s38.2),lks [.no, .no, .no]⟩) h1 ?_ (fun s38 y h2 => ?_)
 exact wk [0,1,2]
 refine aG (sq [0,1,2] (pm ?_))
 refine pm ?_
 refine rP rfl (bX rfl rfl) (nx ?_)
 refine bM h2 rfl (fun hc h2 => ?_) (fun hc h2 => ?_)
 refine sk ?_
 obtain ⟨v74,h3,h2⟩ := bnd h2
 refine bG ⟨aE (aE (aE (aE (aE ((fun _ => .dead)) 0 (dI p0)) 1 (dI p1)) 2 (dI p2)) 7 (.own 3 0 (v74).length)) 8 (dI s38.2),lks [.no, .no, .no, .live [⟨306,2, .data (List.map aV v74)⟩]]⟩ ?_ ?_
 refine aK (sq [0,1] (rS rfl (eJ 3 tok rfl rfl rfl rfl) (rP rfl (aR (r := .own _ _ _) rfl) (nx ?_))))
 obtain ⟨v73,h4,h3⟩ := bnd h3
 refine bG ⟨aE (aE (aE (aE (aE ((fun _ => .dead)) 0 (dI p0)) 1 (dI p1)) 2 (dI p2)) 8 (dI s38.2)) 9 (.own 3 0 (v73).length),lks [.no, .no, .no, .live [⟨306,2, .data (List.map aV v73)⟩]]⟩ ?_ ?_
 refine sq [0] (pa (nx (aK ?_)))
 refine bD (fun s56 => ⟨aE (aE (aE (aE (aE (aE (aE ((fun _ => .dead)) 0 (dI p0)) 1 (dI p1)) 2 (dI p2)) 7 (dL aV s38.1)) 8 (dI s38.2)) 9 (.own 3 0 (s56.2).length)) 10 (dI s56.1),lks [.no, .no, .no, .live [⟨306,2, .data (List.map aV s56.2)⟩]]⟩) h4 ?_ (fun s56 y h5 => ?_)
 exact wk [0,1,2,3]
 refine aG (sq [0,1,2,3] (pm ?_))
 refine pm ?_
 refine rP rfl (aN tok rfl rfl rfl) (rP rfl (bX rfl rfl) (nx ?_))
 refine bM h5 rfl (fun hc h5 => ?_) (fun hc h5 => ?_)
 refine sk ?_
 obtain ⟨v72,h6,h5⟩ := bnd h5
 refine bG ⟨aE (aE (aE (aE (aE (aE (aE ((fun _ => .dead)) 0 (dI p0)) 1 (dI p1)) 2 (dI p2)) 7 (dL aV s38.1)) 8 (dI s38.2)) 9 (.own 3 0 (v72).length)) 10 (dI s56.1),lks [.no, .no, .no, .live [⟨306,2, .data (List.map aV v72)⟩]]⟩ ?_ ?_
 refine aK (sq [0,1] (pm ?_))
 refine pa (nx ?_)
 obtain ⟨v59,h7,h6⟩ := bnd h6
 refine bG ⟨aE (aE (aE (aE (aE (aE (aE (aE ((fun _ => .dead)) 0 (dI p0)) 1 (dI p1)) 2 (dI p2)) 7 (dL aV s38.1)) 8 (dI s38.2)) 9 (.own 3 0 (s56.2).length)) 10 (dI s56.1)) 11 (dI v59),lks [.no, .no, .no, .live [⟨306,2, .data (List.map aV s56.2)⟩]]⟩ ?_ ?_
 refine sq [0,1] (pm ?_)
 refine rP rfl (eI rfl rfl) (nx ?_)
 refine bM h7 rfl (fun hc h7 => ?_) (fun hc h7 => ?_)
 refine sr [0,1,2,3,4,5,6,7,8,9] (pm ?_)
 refine pm ?_
 obtain ⟨v57,hv57,h7⟩ := bnd h7
 refine rP rfl (cV tok hv57 rfl rfl rfl rfl rfl rfl) (fr tok ?_)
 refine lr tok ?_
 refine pm ?_
 refine rP rfl (eM rfl rfl) ?_
 obtain ⟨v58,hv58,h7⟩ := bnd h7
 refine rP rfl (cV tok hv58 rfl rfl rfl rfl rfl rfl) (lr tok ?_)
 refine pa (nx ?_)
 cases h7
 exact wk [0,1,2,3]
 refine sk ?_
 cases h7
 exact wk [0,1,2,3]
 refine sq [0,1] (pm ?_)
 refine pa (nx (aK ?_))
 refine bD (fun s66 => ⟨aE (aE (aE (aE (aE (aE (aE (aE ((fun _ => .dead)) 0 (dI p0)) 1 (dI p1)) 2 (dI p2)) 7 (dL aV s38.1)) 8 (dI s38.2)) 9 (.own 3 0 (s66.2).length)) 10 (dI s56.1)) 12 (dI s66.1),lks [.no, .no, .no, .live [⟨306,2, .data (List.map aV s66.2)⟩]]⟩) h6 ?_ (fun s66 y h7 => ?_)
 exact wk [0,1,2,3]
 refine aG (sq [0,1,2] (pm ?_))
 refine pm ?_
 refine rP rfl (iW rfl rfl) (nx ?_)
 refine bM h7 rfl (fun hc h7 => ?_) (fun hc h7 => ?_)
 refine sk (aG (aK (aF (is := [0,1,2,3,4,5,6,7,8,9,10,11,12,14,13,15,16,17,18,19,20]) [0,0,0,6,14,30,0,126,0,0,768,1792,3840,7936,0,16384,65280,131070,262142,524287,1048575] follows (by kernel_rfl) (tP rfl (aH (r := .own _ _ _) rfl) (tpm ?_)))))
 refine tpm ?_
 obtain ⟨v67,hv67,h7⟩ := bnd h7
 refine tP rfl (cV tok hv67 rfl rfl rfl rfl rfl rfl) (tfr tok ?_)
 refine tlr tok ?_
 refine tpm ?_
 refine tP rfl (fO rfl rfl) (tpm ?_)
 refine tpm ?_
 obtain ⟨v68,hv68,h7⟩ := bnd h7
 refine tP rfl (cV tok hv68 rfl rfl rfl rfl rfl rfl) (tfr tok ?_)
 refine tlr tok ?_
 refine tpm ?_
 obtain ⟨v69,hv69,h7⟩ := bnd h7
 refine jB rfl w0 rfl (cP 6 (qO hv69) rfl rfl rfl) (aBa rfl w0 rfl rfl (fun hx hk => xY 4 tok cI [s66.1] rfl rfl rfl (by repeat (first | exact Els.nil _ | apply Els.cons (cs := [.d _]) rfl rfl rfl | apply Els.cons (cs := _ :: _) rfl rfl rfl)) rfl rfl rfl (by repeat (first | exact cX.nil | (apply cX.cons; (repeat (first | exact fZ.nil | apply fZ.cons))))) rfl hk) ?_)
 obtain ⟨hq70,h7⟩ := dM h7
 refine zR rfl w0 rfl (aV4 (fP tok hq70 rfl rfl rfl rfl rfl rfl rfl rfl rfl rfl rfl rfl (fun _ => rfl))) (tP rfl (pbl (C0 := [z0,zl]) tok rfl rfl rfl) (aBa rfl w0 rfl rfl (fun hx hk => xY 5 tok aV [(⟨w64 (v67.value * s66.1),v69 ++ [s66.1]⟩ : aZ)] rfl rfl rfl (by repeat (first | exact Els.nil _ | apply Els.cons (cs := [.d _]) rfl rfl rfl | apply Els.cons (cs := _ :: _) rfl rfl rfl)) rfl rfl rfl (by repeat (first | exact cX.nil | (apply cX.cons; (repeat (first | exact fZ.nil | apply fZ.cons))))) rfl hk) ?_))
 obtain ⟨hq71,h7⟩ := dM h7
 refine zR rfl w0 rfl (fP tok hq71 rfl rfl rfl rfl rfl rfl rfl rfl rfl rfl rfl rfl (fun _ => rfl)) (tP rfl (aR (r := .own _ _ _) rfl) (bE ?_))
 refine ⟨by kernel_rfl,?_⟩
 refine bF (aI (sr [0,1,2] (pm ?_)))
 refine rP rfl (bI rfl rfl) (pa (bB ?_))
 refine cA ?_
 cases h7
 refine ⟨_,rfl,?_⟩
 exact wk [0,1,2,3]
 refine bK (bY ?_)
 cases h7
 refine cC ⟨_,rfl,fun e => ?_⟩
 subst e
 refine aY ?_
 refine bF (aI ?_)
 exact wk [0,1,2,3]
 refine sr [0,1,2] (pm ?_)
 refine rP rfl (bI rfl rfl) (pa (bB ?_))
 refine cA ?_
 cases h5
 refine ⟨_,rfl,?_⟩
 exact wk [0,1,2,3]
 refine bK (bY ?_)
 cases h5
 refine cC ⟨_,rfl,fun e => ?_⟩
 subst e
 refine aY (aI ?_)
 exact wk [0,1,2,3]
 refine sr [0,1] (rP rfl (aH (r := .own _ _ _) rfl) (rP rfl (aR (r := .own _ _ _) rfl) (bB (bF (aI ?_)))))
 cases h3
 exact wk [0,1,2,3]
 refine sr [0,1,2] (pm ?_)
 refine rP rfl (bI rfl rfl) (pa (bB ?_))
 refine cA ?_
 cases h2
 refine ⟨_,rfl,?_⟩
 refine iM.trans_ (tU (k := 3) (t' := aE (aE (aE (aE (aE ((fun _ => .dead)) 0 (dI p0)) 1 (dI p1)) 2 (dI p2)) 7 (dL aV v74)) 8 (dI (w64 (s38.2 + 1)))) rfl (FzL.nil)) ?_
 exact wk [0,1,2]
 refine bK (bY ?_)
 cases h2
 refine cC ⟨_,rfl,fun e => ?_⟩
 subst e
 refine aY (aI ?_)
 exact wk [0,1,2]
 refine sq [0,1] (pm ?_)
 refine pa (nx (aD ?_))
 cases h0
 exact r0t 6 rfl
theorem aH9 {p0 : List aZ} {p1 : List aZ} {r : List aZ} (h0 : pG p0 p1 = some r) : FnC Tryz.prog 283 [] [dL aV p0,(dL aV p1)] [.live [⟨306,2, .data (List.map aV r)⟩]] (.own 0 0 r.length) := by
 refine fi 53 tok Tryz.func283 ?_
 unfold pG at h0
 refine sq [0] (pa (nx (sq [0,1] ?_)))
 refine rS rfl (eJ 3 tok rfl rfl rfl rfl) (rP rfl (aR (r := .own _ _ _) rfl) (nx (sq [0] (pa (nx ?_)))))
 obtain ⟨v35,h1,h0⟩ := bnd h0
 refine bG ⟨aE (aE (aE ((fun _ => .dead)) 0 (dL aV p0)) 5 (.own 3 0 (v35.2).length)) 6 (dI v35.1),lks [.no, .no, .no, .live [⟨306,2, .data (List.map aV v35.2)⟩]]⟩ ?_ ?_
 refine sq [0] (pa (nx (aK ?_)))
 refine bD (fun s18 => ⟨aE (aE (aE (aE (aE ((fun _ => .dead)) 0 (dL aV p0)) 1 (dL aV p1)) 5 (.own 3 0 (s18.2.2).length)) 6 (dI s18.1)) 7 (dI s18.2.1),lks [.no, .no, .no, .live [⟨306,2, .data (List.map aV s18.2.2)⟩]]⟩) h1 ?_ (fun s18 y h2 => ?_)
 exact wk [0,1,2,3]
 refine aG (sq [0,1,2,3] (pm ?_))
 refine pm ?_
 refine rP rfl (aN tok rfl rfl rfl) (rP rfl (bX rfl rfl) (nx ?_))
 refine bM h2 rfl (fun hc h2 => ?_) (fun hc h2 => ?_)
 refine sk ?_
 obtain ⟨v34,h3,h2⟩ := bnd h2
 refine bG ⟨aE (aE (aE (aE (aE ((fun _ => .dead)) 0 (dL aV p0)) 1 (dL aV p1)) 5 (.own 3 0 (v34.2).length)) 6 (dI v34.1)) 7 (dI s18.2.1),lks [.no, .no, .no, .live [⟨306,2, .data (List.map aV v34.2)⟩]]⟩ ?_ ?_
 refine aK ?_
 obtain ⟨v31,h4,h3⟩ := bnd h3
 refine bG ⟨aE (aE (aE (aE (aE ((fun _ => .dead)) 0 (dL aV p0)) 1 (dL aV p1)) 5 (.own 3 0 (v31.2).length)) 6 (dI v31.1)) 7 (dI s18.2.1),lks [.no, .no, .no, .live [⟨306,2, .data (List.map aV v31.2)⟩]]⟩ ?_ ?_
 refine aK ?_
 refine bD (fun s25 => ⟨aE (aE (aE (aE (aE ((fun _ => .dead)) 0 (dL aV p0)) 1 (dL aV p1)) 5 (.own 3 0 (s25.2).length)) 6 (dI s25.1)) 7 (dI s18.2.1),lks [.no, .no, .no, .live [⟨306,2, .data (List.map aV s25.2)⟩]]⟩) h4 ?_ (fun s25 y h5 => ?_)
 exact wk [0,1,2,3]
 refine aG ?_
 obtain ⟨v28,h6,h5⟩ := bnd h5
 refine bG ⟨aE (aE (aE (aE (aE (aE ((fun _ => .dead)) 0 (dL aV p0)) 1 (dL aV p1)) 5 (.own 3 0 (s25.2).length)) 6 (dI s25.1)) 7 (dI s18.2.1)) 31 (dB v28),lks [.no, .no, .no, .live [⟨306,2, .data (List.map aV s25.2)⟩]]⟩ ?_ ?_
 refine aF (is := [0,1,2,3,4,5,6,7,8,9,10,11,12,13,14,15,16]) [0,0,2,7,15,31,31,127,255,511,31,31,3103,7199,15391,32767,65535] follows (by kernel_rfl) (tpm ?_)
 refine tpm ?_
 refine tP rfl (aN tok rfl rfl rfl) (tP rfl (bX rfl rfl) (tpm ?_))
 refine aEs (u := 19) h6 rfl (fun hc h6 => ?_) (fun hc h6 => ?_)
 refine aJc ?_
 refine aJc ?_
 obtain ⟨v26,hv26,h6⟩ := bnd h6
 refine qJ rfl (w1 rfl rfl rfl) rfl (cV tok hv26 rfl rfl rfl rfl rfl rfl) (wR tok ?_)
 refine aAi tok ?_
 refine aJc ?_
 refine aJc ?_
 obtain ⟨v27,hv27,h6⟩ := bnd h6
 refine qJ rfl (w1 rfl rfl rfl) rfl (cV tok hv27 rfl rfl rfl rfl rfl rfl) (wR tok ?_)
 refine aAi tok ?_
 refine qJ rfl (w1 rfl rfl rfl) rfl (iW rfl rfl) (vG ?_)
 refine bE ?_
 refine ⟨by kernel_rfl,?_⟩
 refine aI ?_
 cases h6
 refine iM.trans_ (gW (d := 23) (ds := cI v26.value) rfl (by repeat (first | exact Pre.z _ | apply Pre.t))) (iM.trans_ (gW (d := 28) (ds := cI v27.value) rfl (by repeat (first | exact Pre.z _ | apply Pre.t))) ?_)
 exact wk [0,1,2,3]
 iterate 11 refine k2 ?_
 refine tA ?_
 refine bE ?_
 refine ⟨by kernel_rfl,?_⟩
 refine aI ?_
 cases h6
 exact wk [0,1,2,3]
 refine bL h5 rfl (fun hc h5 => ?_) (fun hc h5 => ?_)
 refine sk (aK (sq [0,1,2,3,4,5,6,7] (rP rfl (aH (r := .own _ _ _) rfl) (pm ?_))))
 refine pm ?_
 obtain ⟨v29,hv29,h5⟩ := bnd h5
 refine rP rfl (cV tok hv29 rfl rfl rfl rfl rfl rfl) (rP rfl (bT tok rfl rfl rfl (by repeat (first | exact kK.z _ | apply kK.t))) (rS rfl (iL tok aV [v29] rfl rfl rfl (by repeat (first | exact Els.nil _ | apply Els.cons (cs := [.d _]) rfl rfl rfl | apply Els.cons (cs := _ :: _) rfl rfl rfl)) rfl rfl rfl (by repeat (first | exact cX.nil | (apply cX.cons; (repeat (first | exact fZ.nil | apply fZ.cons))))) rfl) ?_))
 obtain ⟨hq30,h5⟩ := dM h5
 refine rw1 rfl w0 rfl (fP tok hq30 rfl rfl rfl rfl rfl rfl rfl rfl rfl rfl rfl rfl (fun _ => rfl)) (rP rfl (aR (r := .own _ _ _) rfl) (nx (sr [0,1,2] (pm ?_))))
 refine rP rfl (bI rfl rfl) (pa (bB ?_))
 refine bF (cA ?_)
 cases h5
 refine ⟨_,rfl,?_⟩
 exact wk [0,1,2,3]
 refine bK (bY ?_)
 cases h5
 refine cC ⟨_,rfl,fun e => ?_⟩
 subst e
 refine aY (aI ?_)
 exact wk [0,1,2,3]
 refine sr [0,1,2,3,4,5,6,7] (rP rfl (aH (r := .own _ _ _) rfl) (pm ?_))
 refine pm ?_
 obtain ⟨v32,hv32,h3⟩ := bnd h3
 refine rP rfl (cV tok hv32 rfl rfl rfl rfl rfl rfl) (rP rfl (bT tok rfl rfl rfl (by repeat (first | exact kK.z _ | apply kK.t))) (rS rfl (iL tok aV [v32] rfl rfl rfl (by repeat (first | exact Els.nil _ | apply Els.cons (cs := [.d _]) rfl rfl rfl | apply Els.cons (cs := _ :: _) rfl rfl rfl)) rfl rfl rfl (by repeat (first | exact cX.nil | (apply cX.cons; (repeat (first | exact fZ.nil | apply fZ.cons))))) rfl) ?_))
 obtain ⟨hq33,h3⟩ := dM h3
 refine rw1 rfl w0 rfl (fP tok hq33 rfl rfl rfl rfl rfl rfl rfl rfl rfl rfl rfl rfl (fun _ => rfl)) (rP rfl (aR (r := .own _ _ _) rfl) (bB (bF (aI ?_))))
 cases h3
 exact wk [0,1,2,3]
 refine sr [0,1,2] (pm ?_)
 refine rP rfl (bI rfl rfl) (pa (bB ?_))
 refine cA ?_
 cases h2
 refine ⟨_,rfl,?_⟩
 exact wk [0,1,2,3]
 refine bK (bY ?_)
 cases h2
 refine cC ⟨_,rfl,fun e => ?_⟩
 subst e
 refine aY (aI ?_)
 exact wk [0,1,2,3]
 refine sq [0,1,2,3,4,5] (rP rfl (aH (r := .own _ _ _) rfl) (pm ?_))
 refine pm ?_
 obtain ⟨hq36,h0⟩ := dM h0
 refine rP rfl (uO tok hq36 rfl (.inr ⟨_,_,rfl,rfl⟩) (.inl ⟨rfl,rfl⟩) rfl rfl rfl (fun _ => rfl)) ?_
 obtain ⟨hq37,h0⟩ := dM h0
 refine rw1 rfl w0 rfl (fP tok hq37 rfl rfl rfl rfl rfl rfl rfl rfl rfl rfl rfl rfl (fun _ => rfl)) (rP rfl (aR (r := .own _ _ _) rfl) (nx (aD ?_)))
 cases h0
 exact dJ (rs := [.tmp 4]) [3] rfl
theorem aKj {n' : Nat} {p0 : List aZ} {r : List aZ} (h0 : jH n' p0 = some r) : FnC Tryz.prog 273 [] [dL aV p0] [] (dL aV r) := by
 induction n' generalizing p0 r with
 | zero => simp [jH] at h0
 | succ n' ih =>
 refine fi 20 tok Tryz.func273 ?_
 unfold jH at h0
 refine sq [0] (pa (nx (aG (sq [0,1,2] ?_))))
 refine pm ?_
 refine rP rfl (aN tok rfl rfl rfl) (rP rfl (bX rfl rfl) (nx ?_))
 refine bM h0 rfl (fun hc h0 => ?_) (fun hc h0 => ?_)
 refine sq [0,1] (pm ?_)
 refine pa (nx (aD (aS ?_)))
 cases h0
 exact r0t 2 rfl
 refine sk (sq [0,1,2,3] (pm ?_))
 refine rP rfl (aN tok rfl rfl rfl) (rP rfl (kN rfl rfl (by decide)) (pa (nx (aG ?_))))
 refine aF (is := [0,1,2,4,5,6,3,7,8,9]) [0,0,3,7,0,0,48,127,255,511] follows (by kernel_rfl) (tpm ?_)
 refine tpm ?_
 obtain ⟨hq2,h0⟩ := dM h0
 refine tP rfl (uO tok hq2 rfl (.inl ⟨rfl,rfl⟩) (.inr ⟨_,_,rfl,rfl⟩) rfl rfl rfl (fun _ => rfl)) (tpm ?_)
 refine tpm ?_
 obtain ⟨hq3,h0⟩ := dM h0
 refine tP rfl (uO tok hq3 rfl (.inr ⟨_,_,rfl,rfl⟩) (.inl ⟨rfl,rfl⟩) rfl rfl rfl (fun _ => rfl)) ?_
 obtain ⟨v4,hv4,h0⟩ := bnd h0
 refine jB rfl w0 rfl (cP 3 (ih hv4) rfl rfl rfl) ?_
 obtain ⟨v5,hv5,h0⟩ := bnd h0
 refine jB rfl w0 rfl (cP 3 (ih hv5) rfl rfl rfl) ?_
 obtain ⟨v6,hv6,h0⟩ := bnd h0
 refine jB rfl w0 rfl (cP 3 (aH9 hv6) rfl rfl rfl) (tP rfl (aR (r := .own _ _ _) rfl) (bE ?_))
 refine ⟨by kernel_rfl,?_⟩
 refine aI (cJ (tU (k := 3) (t' := aE ((fun _ => .dead)) 2 (dL aV v6)) rfl (FzL.nil)) (aD ?_))
 cases h0
 exact r0t 2 rfl
theorem aHw {p0 : List aZ} {p1 : Int} {r : Int} (h0 : pV p0 p1 = some r) : FnC Tryz.prog 274 [] [dL aV p0,(dI p1)] [] (dI r) := by
 refine fi 28 tok Tryz.func274 ?_
 unfold pV at h0
 refine sq [0] (pa (nx (sq [0] ?_)))
 refine pa (nx (sq [0,1,2] ?_))
 refine pm ?_
 refine rP rfl (aN tok rfl rfl rfl) (pa (nx ?_))
 obtain ⟨v7,h1,h0⟩ := bnd h0
 refine bG ⟨aE ((fun _ => .dead)) 5 (dI v7),lks [.no, .no, .no]⟩ ?_ ?_
 refine aK ?_
 refine bD (fun s4 => ⟨aE (aE (aE (aE ((fun _ => .dead)) 0 (dL aV p0)) 1 (dI p1)) 5 (dI s4.1)) 6 (dI s4.2),lks [.no, .no, .no]⟩) h1 ?_ (fun s4 y h2 => ?_)
 exact wk [0,1,2]
 refine aG (sq [0,1,2] (pm ?_))
 refine pm ?_
 refine rP rfl (bX rfl rfl) (nx ?_)
 refine bM h2 rfl (fun hc h2 => ?_) (fun hc h2 => ?_)
 refine sk (aK (sq [0,1,2,3,4] (pm ?_)))
 refine pm ?_
 refine rP rfl (bI rfl rfl) (rP rfl (kN rfl rfl (by decide)) (pa (nx (sq [0,1,2,3,4,5,6] ?_))))
 refine pm ?_
 refine pm ?_
 obtain ⟨v6,hv6,h2⟩ := bnd h2
 refine rP rfl (cV tok hv6 rfl rfl rfl rfl rfl rfl) (fr tok ?_)
 refine lr tok ?_
 refine pm ?_
 refine rP rfl (bX rfl rfl) (nx ?_)
 refine bM h2 rfl (fun hc h2 => ?_) (fun hc h2 => ?_)
 refine sr [0,1,2] (pm ?_)
 refine rP rfl (bI rfl rfl) (pa (bB ?_))
 refine bF (cA ?_)
 cases h2
 refine ⟨_,rfl,?_⟩
 exact wk [0,1,2]
 refine sr [0,1] (pm ?_)
 refine pa (bB ?_)
 refine bF (cA ?_)
 cases h2
 refine ⟨_,rfl,?_⟩
 exact wk [0,1,2]
 refine bK (bY ?_)
 cases h2
 refine cC ⟨_,rfl,fun e => ?_⟩
 subst e
 refine aY (aI ?_)
 exact wk [0,1,2]
 refine sq [0,1] (pm ?_)
 refine pa (nx (aD ?_))
 cases h0
 exact r0t 4 rfl
theorem aD9 {p0 : List Int} {r : List Int} (h0 : oK p0 = some r) : FnC Tryz.prog 299 [] [dL cI p0] [.live [⟨2,1, .data (List.map cI r)⟩]] (.own 0 0 r.length) := by
 refine fi 48 tok Tryz.func299 ?_
 unfold oK at h0
 refine sq [0] (pa (nx (sq [0,1] ?_)))
 refine rS rfl (eJ 3 tok rfl rfl rfl rfl) (rP rfl (aR (r := .own _ _ _) rfl) (nx ?_))
 obtain ⟨v35,h1,h0⟩ := bnd h0
 refine bG ⟨aE ((fun _ => .dead)) 3 (.own 3 0 (v35).length),lks [.no, .no, .no, .live [⟨2,1, .data (List.map cI v35)⟩]]⟩ ?_ ?_
 refine sq [0] (pa (nx (aK ?_)))
 refine bD (fun s18 => ⟨aE (aE (aE ((fun _ => .dead)) 0 (dL cI p0)) 3 (.own 3 0 (s18.2).length)) 4 (dI s18.1),lks [.no, .no, .no, .live [⟨2,1, .data (List.map cI s18.2)⟩]]⟩) h1 ?_ (fun s18 y h2 => ?_)
 exact wk [0,1,2,3]
 refine aG (sq [0,1,2,3] (pm ?_))
 refine pm ?_
 refine rP rfl (aN tok rfl rfl rfl) (rP rfl (bX rfl rfl) (nx ?_))
 refine bM h2 rfl (fun hc h2 => ?_) (fun hc h2 => ?_)
 refine sk ?_
 obtain ⟨v34,h3,h2⟩ := bnd h2
 refine bG ⟨aE (aE (aE ((fun _ => .dead)) 0 (dL cI p0)) 3 (.own 3 0 (v34).length)) 4 (dI s18.1),lks [.no, .no, .no, .live [⟨2,1, .data (List.map cI v34)⟩]]⟩ ?_ ?_
 refine aK (sq [0,1,2] (rP rfl (aH (r := .own _ _ _) rfl) (rL rfl (nO tok rfl rfl rfl rfl rfl) (pa (nx ?_)))))
 obtain ⟨v27,h4,h3⟩ := bnd h3
 refine bG ⟨aE (aE (aE (aE ((fun _ => .dead)) 0 (dL cI p0)) 3 (.own 3 0 (s18.2).length)) 4 (dI s18.1)) 5 (dI v27),lks [.no, .no, .no, .live [⟨2,1, .data (List.map cI s18.2)⟩]]⟩ ?_ ?_
 refine aK ?_
 refine bD (fun s23 => ⟨aE (aE (aE (aE ((fun _ => .dead)) 0 (dL cI p0)) 3 (.own 3 0 (s18.2).length)) 4 (dI s18.1)) 5 (dI s23),lks [.no, .no, .no, .live [⟨2,1, .data (List.map cI s18.2)⟩]]⟩) h4 ?_ (fun s23 y h5 => ?_)
 exact wk [0,1,2,3]
 refine aG ?_
 obtain ⟨v26,h6,h5⟩ := bnd h5
 refine bG ⟨aE (aE (aE (aE (aE ((fun _ => .dead)) 0 (dL cI p0)) 3 (.own 3 0 (s18.2).length)) 4 (dI s18.1)) 5 (dI s23)) 29 (dB v26),lks [.no, .no, .no, .live [⟨2,1, .data (List.map cI s18.2)⟩]]⟩ ?_ ?_
 refine aF (is := [0,1,2,3,4,5,6,7,8,9,10,11,12,13]) [0,1,3,7,7,23,63,127,7,7,775,1799,4095,8191] follows (by kernel_rfl) (tpm ?_)
 refine tP rfl (eI rfl rfl) (tpm ?_)
 refine aEs (u := 18) h6 rfl (fun hc h6 => ?_) (fun hc h6 => ?_)
 refine qJ rfl (w1 rfl rfl rfl) rfl (aH (r := .own _ _ _) rfl) (aJc ?_)
 refine qJ rfl (w1 rfl rfl rfl) rfl (eM rfl rfl) ?_
 obtain ⟨v24,hv24,h6⟩ := bnd h6
 refine bS rfl (w1 rfl rfl rfl) rfl (lI tok hv24 rfl rfl rfl rfl rfl rfl rfl rfl) rfl rfl rfl (bS rfl (w1 rfl rfl rfl) rfl (nY tok (iY hv24).2.1 rfl rfl rfl rfl rfl rfl) rfl rfl rfl (aJc ?_))
 refine aJc ?_
 obtain ⟨v25,hv25,h6⟩ := bnd h6
 refine qJ rfl (w1 rfl rfl rfl) rfl (cV tok hv25 rfl rfl rfl rfl rfl rfl) (aAi tok ?_)
 refine qJ rfl (w1 rfl rfl rfl) rfl (eI rfl rfl) (vG ?_)
 refine bE ?_
 refine ⟨by kernel_rfl,?_⟩
 refine aI ?_
 cases h6
 exact wk [0,1,2,3]
 iterate 10 refine k2 ?_
 refine tA ?_
 refine bE ?_
 refine ⟨by kernel_rfl,?_⟩
 refine aI ?_
 cases h6
 exact wk [0,1,2,3]
 refine bL h5 rfl (fun hc h5 => ?_) (fun hc h5 => ?_)
 refine sk (aK (sr [0,1,2] (pm ?_)))
 refine rP rfl (eM rfl rfl) (pa (bB ?_))
 refine bF (cA ?_)
 cases h5
 refine ⟨_,rfl,?_⟩
 exact wk [0,1,2,3]
 refine bK (bY ?_)
 cases h5
 refine cC ⟨_,rfl,fun e => ?_⟩
 subst e
 refine aY (aI ?_)
 exact wk [0,1,2,3]
 refine aG (cJ (tU (k := 3) (t' := aE (aE (aE (aE ((fun _ => .dead)) 0 (dL cI p0)) 3 (dL cI s18.2)) 4 (dI s18.1)) 5 (dI v27)) rfl (FzL.nil)) (aF (is := [0,1,2,4,5,6,7,3,8,9,10]) [0,0,3,7,0,0,48,112,240,511,1023] follows (by kernel_rfl) (tpm ?_)))
 refine tpm ?_
 obtain ⟨hq28,h3⟩ := dM h3
 refine tP rfl (uO tok hq28 rfl (.inl ⟨rfl,rfl⟩) (.inr ⟨_,_,rfl,rfl⟩) rfl rfl rfl (fun _ => rfl)) (tpm ?_)
 refine tpm ?_
 obtain ⟨v29,hv29,h3⟩ := bnd h3
 refine tP rfl (cV tok hv29 rfl rfl rfl rfl rfl rfl) (tlr tok ?_)
 obtain ⟨v30,hv30,h3⟩ := bnd h3
 refine jB rfl w0 rfl (cP 5 (qO hv30) rfl rfl rfl) (aBa rfl w0 rfl rfl (fun hx hk => xY 4 tok cI [v29] rfl rfl rfl (by repeat (first | exact Els.nil _ | apply Els.cons (cs := [.d _]) rfl rfl rfl | apply Els.cons (cs := _ :: _) rfl rfl rfl)) rfl rfl rfl (by repeat (first | exact cX.nil | (apply cX.cons; (repeat (first | exact fZ.nil | apply fZ.cons))))) rfl hk) ?_)
 obtain ⟨hq31,h3⟩ := dM h3
 refine zR rfl w0 rfl (fP tok hq31 rfl rfl rfl rfl rfl rfl rfl rfl rfl rfl rfl rfl (fun _ => rfl)) (tP rfl (aR (r := .own _ _ _) rfl) (bE ?_))
 refine ⟨by kernel_rfl,?_⟩
 refine aI (sr [0,1,2,3,4,5] (rP rfl (aH (r := .own _ _ _) rfl) (pm ?_)))
 refine pm ?_
 obtain ⟨hq32,h3⟩ := dM h3
 refine rP rfl (uO tok hq32 rfl (.inr ⟨_,_,rfl,rfl⟩) (.inl ⟨rfl,rfl⟩) rfl rfl rfl (fun _ => rfl)) ?_
 obtain ⟨hq33,h3⟩ := dM h3
 refine rw1 rfl w0 rfl (fP tok hq33 rfl rfl rfl rfl rfl rfl rfl rfl rfl rfl rfl rfl (fun _ => rfl)) (rP rfl (aR (r := .own _ _ _) rfl) (bB (bF (aI ?_))))
 cases h3
 exact wk [0,1,2,5]
 refine sr [0,1,2] (pm ?_)
 refine rP rfl (bI rfl rfl) (pa (bB ?_))
 refine cA ?_
 cases h2
 refine ⟨_,rfl,?_⟩
 exact wk [0,1,2,3]
 refine bK (bY ?_)
 cases h2
 refine cC ⟨_,rfl,fun e => ?_⟩
 subst e
 refine aY (aI ?_)
 exact wk [0,1,2,3]
 refine sq [0,1] (rP rfl (aH (r := .own _ _ _) rfl) (rP rfl (aR (r := .own _ _ _) rfl) (nx (aD ?_))))
 cases h0
 exact dJ (rs := [.tmp 2]) [3] rfl
theorem aIj {p0 : List Int} {p1 : List Int} {r : List dW} (h0 : pT p0 p1 = some r) : FnC Tryz.prog 284 [] [dL cI p0,(dL cI p1)] [.live [⟨121,2, .data (List.map eY r)⟩]] (.own 0 0 r.length) := by
 refine fi 37 tok Tryz.func284 ?_
 unfold pT at h0
 refine sq [0] (pa (nx (sq [0,1,2] ?_)))
 refine pm ?_
 obtain ⟨v1,hv1,h0⟩ := bnd h0
 refine rS rfl (aO 3 (aD9 hv1) rfl rfl rfl) (rP rfl (aR (r := .own _ _ _) rfl) (nx (sq [0,1,2] (pm ?_))))
 obtain ⟨v2,hv2,h0⟩ := bnd h0
 refine rS rfl (aO 4 (aD9 hv2) rfl rfl rfl) (rP rfl (aR (r := .own _ _ _) rfl) (nx (sq [0,1] (rS rfl (eJ 5 tok rfl rfl rfl rfl) (rP rfl (aR (r := .own _ _ _) rfl) (nx ?_))))))
 obtain ⟨v11,h1,h0⟩ := bnd h0
 refine bG ⟨aE ((fun _ => .dead)) 7 (.own 3 0 (v11).length),lks [.no, .no, .no, .live [⟨121,2, .data (List.map eY v11)⟩]]⟩ ?_ ?_
 refine sq [0] (pa (nx (aK ?_)))
 refine bD (fun s7 => ⟨aE (aE (aE (aE ((fun _ => .dead)) 5 (.own 3 0 (v1).length)) 6 (.own 4 0 (v2).length)) 7 (.own 5 0 (s7.2).length)) 8 (dI s7.1),lks [.no, .no, .no, .live [⟨2,1, .data (List.map cI v1)⟩], .live [⟨2,1, .data (List.map cI v2)⟩], .live [⟨121,2, .data (List.map eY s7.2)⟩]]⟩) h1 ?_ (fun s7 y h2 => ?_)
 exact wk [0,1,2,3,4,5]
 refine aG (sq [0,1,2,3] (pm ?_))
 refine rP rfl (aH (r := .own _ _ _) rfl) (rL rfl (nO tok rfl rfl rfl rfl rfl) (rP rfl (bX rfl rfl) (nx ?_)))
 refine bM h2 rfl (fun hc h2 => ?_) (fun hc h2 => ?_)
 refine sk (aG (aK (aF (is := [0,1,2,3,4,5,6,7,8,9,10,11,12,13,14,15,16]) [0,0,0,4,12,0,60,126,254,0,0,1536,3584,8190,16382,32767,65535] follows (by kernel_rfl) ?_)))
 iterate 3 refine tP rfl (aH (r := .own _ _ _) rfl) ?_
 refine bS rfl w0 rfl (nO tok rfl rfl rfl rfl rfl) rfl rfl rfl (tP rfl (eM rfl rfl) (tpm ?_))
 refine tP rfl (eM rfl rfl) ?_
 obtain ⟨v8,hv8,h2⟩ := bnd h2
 refine bS rfl w0 rfl (lI tok hv8 rfl rfl rfl rfl rfl rfl rfl rfl) rfl rfl rfl (bS rfl w0 rfl (nY tok (iY hv8).2.1 rfl rfl rfl rfl rfl rfl) rfl rfl rfl (tP rfl (aH (r := .own _ _ _) rfl) (tpm ?_)))
 obtain ⟨v9,hv9,h2⟩ := bnd h2
 refine bS rfl w0 rfl (lI tok hv9 rfl rfl rfl rfl rfl rfl rfl rfl) rfl rfl rfl (bS rfl w0 rfl (nY tok (iY hv9).2.1 rfl rfl rfl rfl rfl rfl) rfl rfl rfl (tP rfl (pbl (C0 := [z0,z0]) tok rfl rfl rfl) (aSt rfl w0 rfl (iL tok eY [(⟨v8,v9⟩ : dW)] rfl rfl rfl (by repeat (first | exact Els.nil _ | apply Els.cons (cs := [.d _]) rfl rfl rfl | apply Els.cons (cs := _ :: _) rfl rfl rfl)) rfl rfl rfl (by repeat (first | exact cX.nil | (apply cX.cons; (repeat (first | exact fZ.nil | apply fZ.cons))))) rfl) ?_)))
 obtain ⟨hq10,h2⟩ := dM h2
 refine zR rfl w0 rfl (fP tok hq10 rfl rfl rfl rfl rfl rfl rfl rfl rfl rfl rfl rfl (fun _ => rfl)) (tP rfl (aR (r := .own _ _ _) rfl) (bE ?_))
 refine ⟨by kernel_rfl,?_⟩
 refine bF (aI (sr [0,1,2] (pm ?_)))
 refine rP rfl (bI rfl rfl) (pa (bB ?_))
 refine cA ?_
 cases h2
 refine ⟨_,rfl,?_⟩
 exact wk [0,1,2,3,4,5]
 refine bK (bY ?_)
 cases h2
 refine cC ⟨_,rfl,fun e => ?_⟩
 subst e
 refine aY (aI ?_)
 exact wk [0,1,2,5]
 refine sq [0,1] (rP rfl (aH (r := .own _ _ _) rfl) (rP rfl (aR (r := .own _ _ _) rfl) (nx (aD ?_))))
 cases h0
 exact dJ (rs := [.tmp 4]) [3] rfl
theorem aFj {p0 : List dW} {r : Int} (h0 : qQ p0 = some r) : FnC Tryz.prog 300 [] [dL eY p0] [] (dI r) := by
 refine fi 25 tok Tryz.func300 ?_
 unfold qQ at h0
 refine sq [0] (pa (nx (sq [0] ?_)))
 refine pa (nx ?_)
 obtain ⟨v7,h1,h0⟩ := bnd h0
 refine bG ⟨aE ((fun _ => .dead)) 3 (dI v7),lks [.no, .no, .no]⟩ ?_ ?_
 refine sq [0] (pa (nx (aK ?_)))
 refine bD (fun s4 => ⟨aE (aE (aE ((fun _ => .dead)) 0 (dL eY p0)) 3 (dI s4.1)) 4 (dI s4.2),lks [.no, .no, .no]⟩) h1 ?_ (fun s4 y h2 => ?_)
 exact wk [0,1,2]
 refine aG (sq [0,1,2,3] (pm ?_))
 refine pm ?_
 refine rP rfl (aN tok rfl rfl rfl) (rP rfl (bX rfl rfl) (nx ?_))
 refine bM h2 rfl (fun hc h2 => ?_) (fun hc h2 => ?_)
 refine sk (aG (aK (aF (is := [0,1,2,3,4,5,6,7,8,9,10,11,12,13]) [0,0,0,6,14,30,0,0,192,448,960,2046,4095,8191] follows (by kernel_rfl) ?_)))
 iterate 3 refine tpm ?_
 obtain ⟨v5,hv5,h2⟩ := bnd h2
 refine tP rfl (cV tok hv5 rfl rfl rfl rfl rfl rfl) (tfr tok ?_)
 refine tlr tok ?_
 refine tpm ?_
 refine tpm ?_
 obtain ⟨v6,hv6,h2⟩ := bnd h2
 refine tP rfl (cV tok hv6 rfl rfl rfl rfl rfl rfl) (tfr tok ?_)
 refine tlr tok ?_
 refine tP rfl (bI rfl rfl) (tP rfl (bI rfl rfl) (tpa ?_))
 refine bE ?_
 refine ⟨by kernel_rfl,?_⟩
 refine bF (aI (sr [0,1,2] (pm ?_)))
 refine rP rfl (bI rfl rfl) (pa (bB ?_))
 refine cA ?_
 cases h2
 refine ⟨_,rfl,?_⟩
 exact wk [0,1,2]
 refine bK (bY ?_)
 cases h2
 refine cC ⟨_,rfl,fun e => ?_⟩
 subst e
 refine aY (aI ?_)
 exact wk [0,1,2]
 refine sq [0,1] (pm ?_)
 refine pa (nx (aD ?_))
 cases h0
 exact r0t 2 rfl
theorem sJ {p0 : Int} {r : aJ} (h0 : iC p0 = some r) : FnC Tryz.prog 251 [] [dI p0] [] (.agg [dI r.Num,(dI r.Den)]) := by
 refine fi 5 tok Tryz.func251 ?_
 unfold iC at h0
 refine sq [0] (al 3 [z0,z0] tok (nx (sq [0,1,2] ?_)))
 refine pm ?_
 refine rP rfl (pbl (C0 := [z0,z0]) tok rfl rfl rfl) (bst tok (nx (aD ?_)))
 cases h0
 exact fN (rs := [.cell 2 62]) rfl
theorem aEm {p0 : aJ} {p1 : aJ} {r : Int} (h0 : oX p0 p1 = some r) : FnC Tryz.prog 301 [] [.agg [dI p0.Num,(dI p0.Den)], .agg [dI p1.Num,(dI p1.Den)]] [] (dI r) := by
 refine fi 25 tok Tryz.func301 ?_
 unfold oX at h0
 refine sq [0,1,2] (bxx 3 ?_)
 refine bxx 4 ?_
 refine pa (nx (sq [0,1,2,3,4,5] ?_))
 refine fa tok ?_
 refine ld tok ?_
 refine fa tok ?_
 refine ld tok ?_
 refine rP rfl (fO rfl rfl) (pa (nx (sq [0,1,2,3,4,5] ?_)))
 refine fa tok ?_
 refine ld tok ?_
 refine fa tok ?_
 refine ld tok ?_
 refine rP rfl (fO rfl rfl) (pa (nx (aG (aK (sq [0,1,2,3] ?_)))))
 refine pm ?_
 refine pm ?_
 refine rP rfl (bX rfl rfl) (pa (nx ?_))
 refine bM h0 rfl (fun hc h0 => ?_) (fun hc h0 => ?_)
 refine sq [0] (pa (nx (aD ?_)))
 refine bH (aS ?_)
 cases h0
 exact r0t 4 rfl
 refine sq [0,1,2,3] (pm ?_)
 refine pm ?_
 refine rP rfl (eI rfl rfl) (pa (nx ?_))
 refine bM h0 rfl (fun hc h0 => ?_) (fun hc h0 => ?_)
 refine sq [0] (pa (nx (aD ?_)))
 refine bH (aS ?_)
 cases h0
 exact r0t 4 rfl
 refine cU (bF (aI (sq [0] (pa (nx (aD ?_))))))
 cases h0
 exact r0t 4 rfl
theorem aEk {p0 : List dW} {p1 : List dW} {r : Int} (h0 : lU p0 p1 = some r) : FnC Tryz.prog 285 [] [dL eY p0,(dL eY p1)] [] (dI r) := by
 refine fi 91 tok Tryz.func285 ?_
 unfold lU at h0
 refine sq [0] (pa (nx (sq [0,1,2,3] ?_)))
 refine pm ?_
 obtain ⟨v1,hv1,h0⟩ := bnd h0
 refine rS rfl (aO 3 (aFj hv1) rfl rfl rfl) (rS rfl (vE 3 tok cI [v1] rfl rfl rfl (by repeat (first | exact Els.nil _ | apply Els.cons (cs := [.d _]) rfl rfl rfl | apply Els.cons (cs := _ :: _) rfl rfl rfl)) rfl rfl rfl (by repeat (first | exact cX.nil | (apply cX.cons; (repeat (first | exact fZ.nil | apply fZ.cons))))) rfl rfl) (rP rfl (aR (r := .own _ _ _) rfl) (nx (sq [0,1,2,3] (pm ?_)))))
 obtain ⟨v2,hv2,h0⟩ := bnd h0
 refine rS rfl (aO 4 (aFj hv2) rfl rfl rfl) (rS rfl (vE 4 tok cI [v2] rfl rfl rfl (by repeat (first | exact Els.nil _ | apply Els.cons (cs := [.d _]) rfl rfl rfl | apply Els.cons (cs := _ :: _) rfl rfl rfl)) rfl rfl rfl (by repeat (first | exact cX.nil | (apply cX.cons; (repeat (first | exact fZ.nil | apply fZ.cons))))) rfl rfl) (rP rfl (aR (r := .own _ _ _) rfl) (nx ?_)))
 obtain ⟨v11,h1,h0⟩ := bnd h0
 refine bG ⟨aE (aE (aE ((fun _ => .dead)) 1 (dL eY p1)) 5 (.own 3 0 (v11).length)) 6 (.own 4 0 ([v2]).length),lks [.no, .no, .no, .live [⟨2,1, .data (List.map cI v11)⟩], .live [⟨2,1, .data (List.map cI [v2])⟩]]⟩ ?_ ?_
 refine sq [0] (pa (nx (aK ?_)))
 refine bD (fun s7 => ⟨aE (aE (aE (aE (aE ((fun _ => .dead)) 0 (dL eY p0)) 1 (dL eY p1)) 5 (.own 3 0 (s7.2).length)) 6 (.own 4 0 ([v2]).length)) 7 (dI s7.1),lks [.no, .no, .no, .live [⟨2,1, .data (List.map cI s7.2)⟩], .live [⟨2,1, .data (List.map cI [v2])⟩]]⟩) h1 ?_ (fun s7 y h2 => ?_)
 exact wk [0,1,2,3,4]
 refine aG (sq [0,1,2,3] (pm ?_))
 refine pm ?_
 refine rP rfl (aN tok rfl rfl rfl) (rP rfl (bX rfl rfl) (nx ?_))
 refine bM h2 rfl (fun hc h2 => ?_) (fun hc h2 => ?_)
 refine sk (aG (aK (aF (is := [0,1,2,3,4,5,6,7,8,9,10,11,12,13]) [0,0,0,6,14,30,0,0,192,448,960,2046,4095,8191] follows (by kernel_rfl) (tP rfl (aH (r := .own _ _ _) rfl) (tpm ?_)))))
 refine tpm ?_
 obtain ⟨v8,hv8,h2⟩ := bnd h2
 refine tP rfl (cV tok hv8 rfl rfl rfl rfl rfl rfl) (tfr tok ?_)
 refine tlr tok ?_
 refine tpm ?_
 refine tpm ?_
 obtain ⟨v9,hv9,h2⟩ := bnd h2
 refine tP rfl (cV tok hv9 rfl rfl rfl rfl rfl rfl) (tfr tok ?_)
 refine tlr tok ?_
 refine aSt rfl w0 rfl (iL tok cI [v8.Driver,v9.Driven] rfl rfl rfl (by repeat (first | exact Els.nil _ | apply Els.cons (cs := [.d _]) rfl rfl rfl | apply Els.cons (cs := _ :: _) rfl rfl rfl)) rfl rfl rfl (by repeat (first | exact cX.nil | (apply cX.cons; (repeat (first | exact fZ.nil | apply fZ.cons))))) rfl) ?_
 obtain ⟨hq10,h2⟩ := dM h2
 refine zR rfl w0 rfl (fP tok hq10 rfl rfl rfl rfl rfl rfl rfl rfl rfl rfl rfl rfl (fun _ => rfl)) (tP rfl (aR (r := .own _ _ _) rfl) (bE ?_))
 refine ⟨by kernel_rfl,?_⟩
 refine bF (aI (sr [0,1,2] (pm ?_)))
 refine rP rfl (bI rfl rfl) (pa (bB ?_))
 refine cA ?_
 cases h2
 refine ⟨_,rfl,?_⟩
 exact wk [0,1,2,3,4]
 refine bK (bY ?_)
 cases h2
 refine cC ⟨_,rfl,fun e => ?_⟩
 subst e
 refine aY (aI ?_)
 exact wk [0,1,2,3,4]
 obtain ⟨v20,h1,h0⟩ := bnd h0
 refine bG ⟨aE (aE ((fun _ => .dead)) 5 (.own 3 0 (v11).length)) 6 (.own 4 0 (v20).length),lks [.no, .no, .no, .live [⟨2,1, .data (List.map cI v11)⟩], .live [⟨2,1, .data (List.map cI v20)⟩]]⟩ ?_ ?_
 refine sq [0] (pa (nx (aK ?_)))
 refine bD (fun s16 => ⟨aE (aE (aE (aE ((fun _ => .dead)) 1 (dL eY p1)) 5 (.own 3 0 (v11).length)) 6 (.own 4 0 (s16.2).length)) 8 (dI s16.1),lks [.no, .no, .no, .live [⟨2,1, .data (List.map cI v11)⟩], .live [⟨2,1, .data (List.map cI s16.2)⟩]]⟩) h1 ?_ (fun s16 y h2 => ?_)
 exact wk [0,1,2,3,4]
 refine aG (sq [0,1,2,3] (pm ?_))
 refine pm ?_
 refine rP rfl (aN tok rfl rfl rfl) (rP rfl (bX rfl rfl) (nx ?_))
 refine bM h2 rfl (fun hc h2 => ?_) (fun hc h2 => ?_)
 refine sk (aG (aK (aF (is := [0,1,2,3,4,5,6,7,8,9,10,11,12,13]) [0,0,0,6,14,30,0,0,192,448,960,2046,4095,8191] follows (by kernel_rfl) (tP rfl (aH (r := .own _ _ _) rfl) (tpm ?_)))))
 refine tpm ?_
 obtain ⟨v17,hv17,h2⟩ := bnd h2
 refine tP rfl (cV tok hv17 rfl rfl rfl rfl rfl rfl) (tfr tok ?_)
 refine tlr tok ?_
 refine tpm ?_
 refine tpm ?_
 obtain ⟨v18,hv18,h2⟩ := bnd h2
 refine tP rfl (cV tok hv18 rfl rfl rfl rfl rfl rfl) (tfr tok ?_)
 refine tlr tok ?_
 refine aSt rfl w0 rfl (iL tok cI [v17.Driver,v18.Driven] rfl rfl rfl (by repeat (first | exact Els.nil _ | apply Els.cons (cs := [.d _]) rfl rfl rfl | apply Els.cons (cs := _ :: _) rfl rfl rfl)) rfl rfl rfl (by repeat (first | exact cX.nil | (apply cX.cons; (repeat (first | exact fZ.nil | apply fZ.cons))))) rfl) ?_
 obtain ⟨hq19,h2⟩ := dM h2
 refine zR rfl w0 rfl (fP tok hq19 rfl rfl rfl rfl rfl rfl rfl rfl rfl rfl rfl rfl (fun _ => rfl)) (tP rfl (aR (r := .own _ _ _) rfl) (bE ?_))
 refine ⟨by kernel_rfl,?_⟩
 refine bF (aI (sr [0,1,2] (pm ?_)))
 refine rP rfl (bI rfl rfl) (pa (bB ?_))
 refine cA ?_
 cases h2
 refine ⟨_,rfl,?_⟩
 exact wk [0,1,2,3,4]
 refine bK (bY ?_)
 cases h2
 refine cC ⟨_,rfl,fun e => ?_⟩
 subst e
 refine aY (aI ?_)
 exact wk [0,1,2,3,4]
 obtain ⟨v33x,h1,h0⟩ := bnd h0
 refine dX v33x (fun v33 => ⟨aE (aE ((fun _ => .dead)) 5 (.own 3 0 (v11).length)) 6 (.own 4 0 (v20).length),lks [.no, .no, .no, .live [⟨2,1, .data (List.map cI v11)⟩], .live [⟨2,1, .data (List.map cI v20)⟩]]⟩) ?_ ?_
 refine sq [0] (pa (nx (aK ?_)))
 refine bD (fun s27 => ⟨aE (aE (aE ((fun _ => .dead)) 5 (.own 3 0 (v11).length)) 6 (.own 4 0 (v20).length)) 9 (dI s27),lks [.no, .no, .no, .live [⟨2,1, .data (List.map cI v11)⟩], .live [⟨2,1, .data (List.map cI v20)⟩]]⟩) h1 ?_ (fun s27 y h2 => ?_)
 exact wk [0,1,2,3,4]
 refine aG ?_
 obtain ⟨v28,h3,h2⟩ := bnd h2
 refine bG ⟨aE (aE (aE (aE ((fun _ => .dead)) 5 (.own 3 0 (v11).length)) 6 (.own 4 0 (v20).length)) 9 (dI s27)) 63 (dB v28),lks [.no, .no, .no, .live [⟨2,1, .data (List.map cI v11)⟩], .live [⟨2,1, .data (List.map cI v20)⟩]]⟩ ?_ ?_
 refine sr [0,1,2,3,4,5,6,7,8,9] (pm ?_)
 refine rP rfl (aH (r := .own _ _ _) rfl) (rL rfl (nO tok rfl rfl rfl rfl rfl) (rP rfl (bX rfl rfl) (pm ?_)))
 refine gT (u := 58) h3 rfl (fun hc h3 => ?_) (fun hc h3 => ?_)
 refine pm1 ?_
 refine rp rfl (w1 rfl rfl rfl) rfl (aH (r := .own _ _ _) rfl) (rl rfl (w1 rfl rfl rfl) rfl (nO tok rfl rfl rfl rfl rfl) (rp rfl (w1 rfl rfl rfl) rfl (bX rfl rfl) (pkt (nx ?_))))
 cases h3
 exact wk [0,1,2,3,4]
 iterate 4 refine k1 ?_
 refine pkf (nx ?_)
 cases h3
 exact wk [0,1,2,3,4]
 refine bL h2 rfl (fun hc h2 => ?_) (fun hc h2 => ?_)
 refine sk (aG (aK (aG (aG (aF (is := [0,1,2,3,4,5,6,7,8]) [0,0,3,7,0,0,48,112,255] follows (by kernel_rfl) (tP rfl (aH (r := .own _ _ _) rfl) (tpm ?_)))))))
 obtain ⟨v29,hv29,h2⟩ := bnd h2
 refine bS rfl w0 rfl (lI tok hv29 rfl rfl rfl rfl rfl rfl rfl rfl) rfl rfl rfl (bS rfl w0 rfl (nY tok (iY hv29).2.1 rfl rfl rfl rfl rfl rfl) rfl rfl rfl (tP rfl (aH (r := .own _ _ _) rfl) (tpm ?_)))
 obtain ⟨v30,hv30,h2⟩ := bnd h2
 refine bS rfl w0 rfl (lI tok hv30 rfl rfl rfl rfl rfl rfl rfl rfl) rfl rfl rfl (bS rfl w0 rfl (nY tok (iY hv30).2.1 rfl rfl rfl rfl rfl rfl) rfl rfl rfl (tP rfl (bX rfl rfl) (bE ?_)))
 refine ⟨by kernel_rfl,?_⟩
 refine aI ?_
 refine bM h2 rfl (fun hc h2 => ?_) (fun hc h2 => ?_)
 refine sq [0] (pa (nx (aD (aS ?_))))
 refine bH (aS ?_)
 cases h2
 refine eV ⟨_,rfl,fun e => ?_⟩
 subst e
 refine bH ?_
 replace h0 := gG h0
 refine aS ?_
 cases h0
 exact r0t 4 rfl
 refine sk (aG (aF (is := [0,1,2,3,4,5,6,7,8]) [0,0,3,7,0,0,48,112,255] follows (by kernel_rfl) (tP rfl (aH (r := .own _ _ _) rfl) (tpm ?_))))
 obtain ⟨v31,hv31,h2⟩ := bnd h2
 refine bS rfl w0 rfl (lI tok hv31 rfl rfl rfl rfl rfl rfl rfl rfl) rfl rfl rfl (bS rfl w0 rfl (nY tok (iY hv31).2.1 rfl rfl rfl rfl rfl rfl) rfl rfl rfl (tP rfl (aH (r := .own _ _ _) rfl) (tpm ?_)))
 obtain ⟨v32,hv32,h2⟩ := bnd h2
 refine bS rfl w0 rfl (lI tok hv32 rfl rfl rfl rfl rfl rfl rfl rfl) rfl rfl rfl (bS rfl w0 rfl (nY tok (iY hv32).2.1 rfl rfl rfl rfl rfl rfl) rfl rfl rfl (tP rfl (eI rfl rfl) (bE ?_)))
 refine ⟨by kernel_rfl,?_⟩
 refine aI ?_
 refine bM h2 rfl (fun hc h2 => ?_) (fun hc h2 => ?_)
 refine sq [0] (pa (nx (aD ?_)))
 refine bH (aS ?_)
 cases h2
 refine eV ⟨_,rfl,fun e => ?_⟩
 subst e
 refine bH ?_
 replace h0 := gG h0
 refine aS ?_
 cases h0
 exact r0t 4 rfl
 refine cU (bF (aI (sr [0,1,2] (pm ?_))))
 refine rP rfl (bI rfl rfl) (pa (bB ?_))
 refine cA ?_
 cases h2
 refine ⟨_,rfl,?_⟩
 exact wk [0,1,2,3,4]
 refine bK (bY ?_)
 cases h2
 refine cC ⟨_,rfl,fun e => ?_⟩
 subst e
 refine aY (aI ?_)
 refine ⟨_,rfl,?_⟩
 exact wk [0,1,2,3,4]
 rintro v33 rfl
 replace h0 := iP h0
 refine sq [0,1,2,3,4,5,6,7] (rP rfl (aH (r := .own _ _ _) rfl) (rL rfl (nO tok rfl rfl rfl rfl rfl) ?_))
 obtain ⟨v34,hv34,h0⟩ := bnd h0
 refine rS rfl (aO 5 (sJ hv34) rfl rfl rfl) (rP rfl (aH (r := .own _ _ _) rfl) (rL rfl (nO tok rfl rfl rfl rfl rfl) ?_))
 obtain ⟨v35,hv35,h0⟩ := bnd h0
 refine rS rfl (aO 5 (sJ hv35) rfl rfl rfl) ?_
 obtain ⟨v36,hv36,h0⟩ := bnd h0
 refine rS rfl (aO 5 (aEm hv36) rfl rfl rfl) (pa (nx (aD ?_)))
 cases h0
 exact r0t 4 rfl
theorem vB {p0 : fH} {p1 : aJ} {p2 : aZ} {p3 : aZ} {r : fH} (h0 : hH p0 p1 p2 p3 = some r) : FnC Tryz.prog 275 [.live [⟨304,4, .av [[dI p0.driver,(dI p0.driven),(dI p0.off),(dL eY p0.train)]]⟩]] [.ptr 0 0 1 0 0, .agg [dI p1.Num,(dI p1.Den)], .ref (aV p2), .ref (aV p3)] [.live [⟨304,4, .av [[dI r.driver,(dI r.driven),(dI r.off),(dL eY r.train)]]⟩]] (.tup []) := by
 refine fi 105 tok Tryz.func275 ?_
 unfold hH at h0
 refine sq [0] (bxx 3 (nx (aG ?_)))
 refine aF (is := [0,1,2,3,4,5,6,7,8,9,10,11,12,13,14,15,16]) [0,1,3,7,0,16,63,0,128,384,896,0,2048,8064,16383,32767,65535] follows (by kernel_rfl) (rZ ?_)
 refine tnr ?_
 refine tfr tok ?_
 refine tlr tok ?_
 refine tfa tok ?_
 refine tld tok ?_
 refine tP rfl (fO rfl rfl) (rZ ?_)
 refine tnr ?_
 refine tfr tok ?_
 refine tlr tok ?_
 refine tfa tok ?_
 refine tld tok ?_
 refine tP rfl (fO rfl rfl) (tP rfl (eM rfl rfl) ?_)
 obtain ⟨v1,hv1,h0⟩ := bnd h0
 refine jB rfl w0 rfl (cP 4 (rN hv1) rfl rfl rfl) (tpa ?_)
 refine bE ?_
 refine ⟨by kernel_rfl,?_⟩
 refine aI (sq [0,1,2,3,4,5,6] (pm ?_))
 refine rP rfl (aH (r := .ptr _ _ _ _ _) rfl) (rL rfl (cW rfl rfl) (fa tok ?_))
 refine ld tok ?_
 refine rP rfl (fO rfl rfl) (pa (nx (aG ?_)))
 refine aF (is := [0,1,2,3,4,5,6,7,8,9]) [0,1,3,7,0,16,48,112,255,511] follows (by kernel_rfl) (tP rfl (aH (r := .ptr _ _ _ _ _) rfl) (bS rfl w0 rfl (cW rfl rfl) rfl rfl rfl (tfa tok ?_)))
 refine tld tok ?_
 refine rZ ?_
 refine tnr ?_
 refine tfr tok ?_
 refine tlr tok ?_
 refine tP rfl (fO rfl rfl) (tpa ?_)
 refine bE ?_
 refine ⟨by kernel_rfl,?_⟩
 refine aI (aG ?_)
 obtain ⟨v2,h1,h0⟩ := bnd h0
 refine bG ⟨aE (aE (aE (aE (aE (aE (aE ((fun _ => .dead)) 0 (.ptr 0 0 1 0 0)) 2 (.ref (aV p2))) 3 (.ref (aV p3))) 8 (dI v1)) 9 (dI (w64 (v1 * p0.driven)))) 10 (dI (w64 (p0.off * p3.value)))) 53 (dB v2),lks [.live [⟨304,4, .av [[dI p0.driver,(dI p0.driven),(dI p0.off),(dL eY p0.train)]]⟩], .no, .no]⟩ ?_ ?_
 refine sr [0,1,2,3,4,5,6,7,8,9,10] (rP rfl (aH (r := .ptr _ _ _ _ _) rfl) (rL rfl (cW rfl rfl) (fa tok ?_)))
 refine ld tok ?_
 refine rP rfl (aN tok rfl rfl rfl) (rP rfl (eI rfl rfl) (pm ?_))
 refine gT (u := 49) h1 rfl (fun hc h1 => ?_) (fun hc h1 => ?_)
 refine pm1 ?_
 refine pm1 ?_
 refine rp rfl (w1 rfl rfl rfl) rfl (eI rfl rfl) (pkt (nx ?_))
 cases h1
 exact wk [0,1,2]
 iterate 3 refine k1 ?_
 refine pkf (nx ?_)
 cases h1
 exact wk [0,1,2]
 refine bL h0 rfl (fun hc h0 => ?_) (fun hc h0 => ?_)
 refine aD (aS ?_)
 cases h0
 exact nU (rs := []) 1 rfl rfl
 refine sk (aG (aF (is := [0,1,2,3,4,5,6,7,8,9]) [0,1,3,7,0,16,48,112,255,511] follows (by kernel_rfl) (rZ ?_)))
 refine tnr ?_
 refine tfr tok ?_
 refine tlr tok ?_
 refine rZ ?_
 refine tnr ?_
 refine tfr tok ?_
 refine tlr tok ?_
 obtain ⟨v3,hv3,h0⟩ := bnd h0
 refine jB rfl w0 rfl (cP 3 (aIj hv3) rfl rfl rfl) (tP rfl (aR (r := .own _ _ _) rfl) (bE ?_))
 refine ⟨by kernel_rfl,?_⟩
 refine aI ?_
 obtain ⟨v5,h1,h0⟩ := bnd h0
 refine bG ⟨aE (aE (aE (aE (aE (aE ((fun _ => .dead)) 0 (.ptr 0 0 1 0 0)) 2 (.ref (aV p2))) 3 (.ref (aV p3))) 8 (dI v1)) 11 (.own 3 0 (v3).length)) 82 (dB v5),lks [.live [⟨304,4, .av [[dI p0.driver,(dI p0.driven),(dI p0.off),(dL eY p0.train)]]⟩], .no, .no, .live [⟨121,2, .data (List.map eY v3)⟩]]⟩ ?_ ?_
 refine sr [0,1,2,3,4,5,6,7,8,9,10,11,12,13,14,15,16,17,18,19] (rP rfl (aH (r := .ptr _ _ _ _ _) rfl) (rL rfl (cW rfl rfl) (fa tok ?_)))
 refine ld tok ?_
 refine rP rfl (aN tok rfl rfl rfl) (rP rfl (eN rfl rfl) (pm ?_))
 refine gT (u := 69) h1 rfl (fun hc h1 => ?_) (fun hc h1 => ?_)
 iterate 3 refine k1 ?_
 refine pkt ?_
 refine pm ?_
 iterate 7 refine k1 ?_
 refine pkt (nx ?_)
 cases h1
 exact wk [0,1,2,3]
 refine pm1 ?_
 refine pm1 ?_
 refine rp rfl (w1 rfl rfl rfl) rfl (bX rfl rfl) (pkf ?_)
 refine pm ?_
 refine gT (u := 74) h1 rfl (fun hc h1 => ?_) (fun hc h1 => ?_)
 iterate 7 refine k1 ?_
 refine pkt (nx ?_)
 cases h1
 exact wk [0,1,2,3]
 refine rp rfl (w1 rfl rfl rfl) rfl (aH (r := .own _ _ _) rfl) (rp rfl (w1 rfl rfl rfl) rfl (aH (r := .ptr _ _ _ _ _) rfl) (rl rfl (w1 rfl rfl rfl) rfl (cW rfl rfl) (fa1 tok ?_)))
 refine ld1 tok ?_
 obtain ⟨v4,hv4,h1⟩ := bnd h1
 refine rs rfl (w1 rfl rfl rfl) rfl (eE 4 (aEk hv4) rfl rfl) (rp rfl (w1 rfl rfl rfl) rfl (bX rfl rfl) (pkf (nx ?_)))
 cases h1
 exact wk [0,1,2,3]
 refine bL h0 rfl (fun hc h0 => ?_) (fun hc h0 => ?_)
 refine sq [0,1,2,3,4,5,6,7] (rP rfl (aH (r := .ptr _ _ _ _ _) rfl) (pmr ?_))
 refine nr ?_
 refine fr tok ?_
 refine lr tok ?_
 refine rL rfl (cW rfl rfl) (fa tok ?_)
 refine bs1 tok (nx (sq [0,1,2,3,4,5,6,7] ?_))
 refine rP rfl (aH (r := .ptr _ _ _ _ _) rfl) (pmr ?_)
 refine nr ?_
 refine fr tok ?_
 refine lr tok ?_
 refine rL rfl (cW rfl rfl) (fa tok ?_)
 refine bs1 tok (nx (sq [0,1,2,3,4] ?_))
 refine rP rfl (aH (r := .ptr _ _ _ _ _) rfl) (pm ?_)
 refine rL rfl (cW rfl rfl) (fa tok ?_)
 refine bs1 tok (nx (sr [0,1,2,3,4] ?_))
 refine rP rfl (aH (r := .ptr _ _ _ _ _) rfl) (rP rfl (aH (r := .own _ _ _) rfl) (rL rfl (cW rfl rfl) (fa tok ?_)))
 refine uM (tU (k := 3) (t' := aE (aE ((fun _ => .dead)) 102 (dL eY v3)) 104 (.ptr 0 0 1 0 3)) rfl (FzL.nil)) (bs1 tok (bB ?_))
 cases h0
 exact nU (rs := []) 1 rfl rfl
 refine cU ?_
 cases h0
 exact nU (rs := []) 1 rfl rfl
theorem aF1 {p0 : aJ} {p1 : qE} {r : List dW} (h0 : nE p0 p1 = some r) : FnC Tryz.prog 241 [] [.agg [dI p0.Num,(dI p0.Den)], .ref (aB8 p1)] [] (dL eY r) := by
 refine fi 129 tok Tryz.func241 ?_
 unfold nE at h0
 refine sq [0,1] (bxx 3 ?_)
 refine pa (nx (aG ?_))
 refine aF (is := [0,1,2,3,4,5,6,7,8,9,10,11,12,13]) [0,1,3,7,0,16,48,112,0,256,768,1792,4095,8191] follows (by kernel_rfl) (rZ ?_)
 refine tnr ?_
 refine tfr tok ?_
 refine tlr tok ?_
 refine rZ ?_
 refine tnr ?_
 refine tfr tok ?_
 refine tlr tok ?_
 refine rZ ?_
 refine tnr ?_
 refine tfr tok ?_
 refine tlr tok ?_
 obtain ⟨v1,hv1,h0⟩ := bnd h0
 refine jB rfl w0 rfl (cP 4 (vZ hv1) rfl rfl rfl) (tpa ?_)
 refine bE ?_
 refine ⟨by kernel_rfl,?_⟩
 refine aI (aG (aF (is := [0,1,2,3,4,5,6,7,8,9,10,11,12,13,14]) [0,1,3,7,0,16,48,112,0,256,768,1792,4095,8191,16383] follows (by kernel_rfl) (rZ ?_)))
 refine tnr ?_
 refine tfr tok ?_
 refine tlr tok ?_
 refine rZ ?_
 refine tnr ?_
 refine tfr tok ?_
 refine tlr tok ?_
 refine rZ ?_
 refine tnr ?_
 refine tfr tok ?_
 refine tlr tok ?_
 obtain ⟨v2,hv2,h0⟩ := bnd h0
 refine jB rfl w0 rfl (cP 4 (vZ hv2) rfl rfl rfl) ?_
 obtain ⟨v3,hv3,h0⟩ := bnd h0
 refine jB rfl w0 rfl (cP 4 (aKj hv3) rfl rfl rfl) (tpa ?_)
 refine bE ?_
 refine ⟨by kernel_rfl,?_⟩
 refine aI (sq [0,1,2] (rP rfl (pbl (C0 := [z0,z0,z0,zl]) tok rfl rfl rfl) (bxx 4 ?_)))
 refine uM (qS 5 rfl 121 2 (kb := 4) (j := 3) rfl rfl (by repeat (first | exact Spl.z _ | apply Spl.t | apply Spl.d))) (uM (tU (k := 5) (t' := aE (aE (aE (aE (aE ((fun _ => .dead)) 2 (.ptr 3 0 1 0 0)) 5 (dL aV v1)) 6 (dL aV v3)) 41 (.agg [z0,z0,z0,zl])) 42 (.ptr 4 0 1 0 0)) rfl (FzL.box (kb := 4) (ds := [z0,z0,z0,(dL eY ([] : List dW))]) rfl rfl (by repeat (first | exact fX.nil | apply fX.cons | exact FzR.d _ | exact FzR.own rfl (by first | rfl | (simp; done) | (simp; omega)) | exact FzR.ptr rfl (by repeat (first | exact Drp.z _ | apply Drp.d)) | exact FzR.own' | exact FzR.ptr' | exact FzR.ref _ | apply FzR.agg | apply FzR.tup | apply FzR.fn | exact FzR.dead _)) (FzL.nil))) (rP rfl (aR (r := .ptr _ _ _ _ _) rfl) (nx ?_)))
 obtain ⟨v70,h1,h0⟩ := bnd h0
 refine bG ⟨aE ((fun _ => .dead)) 7 (.ptr 3 0 1 0 0),lks [.no, .no, .no, .live [⟨304,4, .av [[dI v70.driver,(dI v70.driven),(dI v70.off),(dL eY v70.train)]]⟩]]⟩ ?_ ?_
 refine sq [0] (pa (nx (aK ?_)))
 refine bD (fun s37 => ⟨aE (aE (aE (aE (aE ((fun _ => .dead)) 2 (.ptr 3 0 1 0 0)) 5 (dL aV v1)) 6 (dL aV v3)) 7 (.ptr 4 0 1 0 0)) 8 (dI s37.1),lks [.no, .no, .no, .live [⟨62,2, .av [[dI p0.Num,(dI p0.Den)]]⟩], .live [⟨304,4, .av [[dI s37.2.driver,(dI s37.2.driven),(dI s37.2.off),(dL eY s37.2.train)]]⟩]]⟩) h1 ?_ (fun s37 y h2 => ?_)
 exact wk [0,1,2,3,4]
 refine aG (sq [0,1,2,3] (pm ?_))
 refine pm ?_
 refine rP rfl (aN tok rfl rfl rfl) (rP rfl (bX rfl rfl) (nx ?_))
 refine bM h2 rfl (fun hc h2 => ?_) (fun hc h2 => ?_)
 refine sk ?_
 obtain ⟨v69,h3,h2⟩ := bnd h2
 refine bG ⟨aE (aE (aE (aE (aE ((fun _ => .dead)) 2 (.ptr 3 0 1 0 0)) 5 (dL aV v1)) 6 (dL aV v3)) 7 (.ptr 4 0 1 0 0)) 8 (dI s37.1),lks [.no, .no, .no, .live [⟨62,2, .av [[dI p0.Num,(dI p0.Den)]]⟩], .live [⟨304,4, .av [[dI v69.driver,(dI v69.driven),(dI v69.off),(dL eY v69.train)]]⟩]]⟩ ?_ ?_
 refine aK (aG (aF (is := [0,1,2,3,4,5,6,7,8,9,10,11]) [0,0,3,7,15,0,32,127,0,256,1023,2047] follows (by kernel_rfl) (tpm ?_)))
 refine tpm ?_
 obtain ⟨v38,hv38,h3⟩ := bnd h3
 refine tP rfl (cV tok hv38 rfl rfl rfl rfl rfl rfl) (tfr tok ?_)
 refine tlr tok ?_
 refine tfa tok ?_
 refine tld tok ?_
 refine tP rfl (fO rfl rfl) (tfa tok ?_)
 refine tld tok ?_
 obtain ⟨hq39,h3⟩ := dM h3
 refine tP rfl (kN rfl rfl hq39) (tpa ?_)
 refine bE ?_
 refine ⟨by kernel_rfl,?_⟩
 refine aI (sq [0,1,2,3,4] (pm ?_))
 refine pm ?_
 refine rP rfl (bI rfl rfl) ?_
 obtain ⟨v40,hv40,h3⟩ := bnd h3
 refine rS rfl (aO 5 (aHw hv40) rfl rfl rfl) (pa (nx ?_))
 obtain ⟨v54,h4,h3⟩ := bnd h3
 refine bG ⟨aE (aE (aE (aE (aE (aE ((fun _ => .dead)) 2 (.ptr 3 0 1 0 0)) 5 (dL aV v1)) 6 (dL aV v3)) 7 (.ptr 4 0 1 0 0)) 8 (dI s37.1)) 10 (dI v40),lks [.no, .no, .no, .live [⟨62,2, .av [[dI p0.Num,(dI p0.Den)]]⟩], .live [⟨304,4, .av [[dI v54.driver,(dI v54.driven),(dI v54.off),(dL eY v54.train)]]⟩]]⟩ ?_ ?_
 refine sq [0,1] (pm ?_)
 refine rP rfl (eI rfl rfl) (nx ?_)
 refine bM h4 rfl (fun hc h4 => ?_) (fun hc h4 => ?_)
 refine sq [0,1,2,3,4,5,6] (pm ?_)
 refine pm ?_
 refine rP rfl (eM rfl rfl) ?_
 obtain ⟨v41,hv41,h4⟩ := bnd h4
 refine rP rfl (cV tok hv41 rfl rfl rfl rfl rfl rfl) (fr tok ?_)
 refine lr tok ?_
 refine pa (nx (sq [0,1,2] ?_))
 refine pm ?_
 refine rP rfl (eM rfl rfl) (pa (nx (aK ?_)))
 refine bD (fun s48 => ⟨aE (aE (aE (aE (aE (aE (aE (aE ((fun _ => .dead)) 2 (.ptr 3 0 1 0 0)) 5 (dL aV v1)) 6 (dL aV v3)) 7 (.ptr 4 0 1 0 0)) 8 (dI s37.1)) 10 (dI v40)) 11 (dI v41.value)) 12 (dI s48.1),lks [.no, .no, .no, .live [⟨62,2, .av [[dI p0.Num,(dI p0.Den)]]⟩], .live [⟨304,4, .av [[dI s48.2.driver,(dI s48.2.driven),(dI s48.2.off),(dL eY s48.2.train)]]⟩]]⟩) h4 ?_ (fun s48 y h5 => ?_)
 exact wk [0,1,2,3,4]
 refine aG ?_
 obtain ⟨v50,h6,h5⟩ := bnd h5
 refine bG ⟨aE (aE (aE (aE (aE (aE (aE (aE (aE ((fun _ => .dead)) 2 (.ptr 3 0 1 0 0)) 5 (dL aV v1)) 6 (dL aV v3)) 7 (.ptr 4 0 1 0 0)) 8 (dI s37.1)) 10 (dI v40)) 11 (dI v41.value)) 12 (dI s48.1)) 84 (dB v50),lks [.no, .no, .no, .live [⟨62,2, .av [[dI p0.Num,(dI p0.Den)]]⟩], .live [⟨304,4, .av [[dI s48.2.driver,(dI s48.2.driven),(dI s48.2.off),(dL eY s48.2.train)]]⟩]]⟩ ?_ ?_
 refine sr [0,1,2,3,4,5,6,7,8,9,10] (pm ?_)
 refine rP rfl (tN rfl rfl) (pm ?_)
 refine gT (u := 76) h6 rfl (fun hc h6 => ?_) (fun hc h6 => ?_)
 refine pm1 ?_
 refine pm1 ?_
 obtain ⟨v49,hv49,h6⟩ := bnd h6
 refine rp rfl (w1 rfl rfl rfl) rfl (cV tok hv49 rfl rfl rfl rfl rfl rfl) (fr1 tok ?_)
 refine lr1 tok ?_
 refine pm1 ?_
 refine rp rfl (w1 rfl rfl rfl) rfl (eN rfl rfl) (pkt (nx ?_))
 cases h6
 refine iM.trans_ (gW (d := 80) (ds := cI v49.value) rfl (by repeat (first | exact Pre.z _ | apply Pre.t))) ?_
 exact wk [0,1,2,3,4]
 iterate 7 refine k1 ?_
 refine pkf (nx ?_)
 cases h6
 exact wk [0,1,2,3,4]
 refine bL h5 rfl (fun hc h5 => ?_) (fun hc h5 => ?_)
 refine sk (aG (aK (aF (is := [0,1,2,3,4,5,6,7,8]) [0,0,0,0,12,0,0,96,255] follows (by kernel_rfl) (tP rfl (aH (r := .ptr _ _ _ _ _) rfl) (bS rfl w0 rfl (aU tok rfl rfl rfl rfl) rfl rfl rfl (tpm ?_))))))
 refine tpm ?_
 obtain ⟨v51,hv51,h5⟩ := bnd h5
 refine tP rfl (cV tok hv51 rfl rfl rfl rfl rfl rfl) (tpm ?_)
 refine tpm ?_
 obtain ⟨v52,hv52,h5⟩ := bnd h5
 refine tP rfl (cV tok hv52 rfl rfl rfl rfl rfl rfl) ?_
 obtain ⟨v53,hv53,h5⟩ := bnd h5
 refine aMd rfl w0 rfl (by repeat (first | exact jZ _ | exact kA rfl | refine kD ?_ rfl)) (xE 4 (vB hv53) rfl rfl rfl) ?_
 refine bE ?_
 refine ⟨by kernel_rfl,?_⟩
 refine bF (aI (sr [0,1,2] (pm ?_)))
 refine rP rfl (eM rfl rfl) (pa (bB ?_))
 refine cA ?_
 cases h5
 refine ⟨_,rfl,?_⟩
 exact wk [0,1,2,3,4]
 refine bK (bY ?_)
 cases h5
 refine cC ⟨_,rfl,fun e => ?_⟩
 subst e
 refine aY (aI ?_)
 exact wk [0,1,2,3,4]
 refine sk ?_
 cases h4
 exact wk [0,1,2,3,4]
 refine sq [0,1] (pm ?_)
 refine pa (nx (aK ?_))
 refine bD (fun s62 => ⟨aE (aE (aE (aE (aE (aE (aE ((fun _ => .dead)) 2 (.ptr 3 0 1 0 0)) 5 (dL aV v1)) 6 (dL aV v3)) 7 (.ptr 4 0 1 0 0)) 8 (dI s37.1)) 10 (dI v40)) 13 (dI s62.1),lks [.no, .no, .no, .live [⟨62,2, .av [[dI p0.Num,(dI p0.Den)]]⟩], .live [⟨304,4, .av [[dI s62.2.driver,(dI s62.2.driven),(dI s62.2.off),(dL eY s62.2.train)]]⟩]]⟩) h3 ?_ (fun s62 y h4 => ?_)
 exact wk [0,1,2,3,4]
 refine aG ?_
 obtain ⟨v65,h5,h4⟩ := bnd h4
 refine bG ⟨aE (aE (aE (aE (aE (aE (aE (aE ((fun _ => .dead)) 2 (.ptr 3 0 1 0 0)) 5 (dL aV v1)) 6 (dL aV v3)) 7 (.ptr 4 0 1 0 0)) 8 (dI s37.1)) 10 (dI v40)) 13 (dI s62.1)) 113 (dB v65),lks [.no, .no, .no, .live [⟨62,2, .av [[dI p0.Num,(dI p0.Den)]]⟩], .live [⟨304,4, .av [[dI s62.2.driver,(dI s62.2.driven),(dI s62.2.off),(dL eY s62.2.train)]]⟩]]⟩ ?_ ?_
 refine aF (is := [0,1,2,3,4,5,6,7,8,9,10,11,12,13,14,15,16]) [0,0,2,7,15,31,31,127,255,511,31,31,3103,7199,15391,32767,65535] follows (by kernel_rfl) (tpm ?_)
 refine tpm ?_
 refine tP rfl (aN tok rfl rfl rfl) (tP rfl (bX rfl rfl) (tpm ?_))
 refine aEs (u := 101) h5 rfl (fun hc h5 => ?_) (fun hc h5 => ?_)
 refine aJc ?_
 refine aJc ?_
 obtain ⟨v63,hv63,h5⟩ := bnd h5
 refine qJ rfl (w1 rfl rfl rfl) rfl (cV tok hv63 rfl rfl rfl rfl rfl rfl) (wR tok ?_)
 refine aAi tok ?_
 refine aJc ?_
 refine aJc ?_
 obtain ⟨v64,hv64,h5⟩ := bnd h5
 refine qJ rfl (w1 rfl rfl rfl) rfl (cV tok hv64 rfl rfl rfl rfl rfl rfl) (wR tok ?_)
 refine aAi tok ?_
 refine qJ rfl (w1 rfl rfl rfl) rfl (eN rfl rfl) (vG ?_)
 refine bE ?_
 refine ⟨by kernel_rfl,?_⟩
 refine aI ?_
 cases h5
 refine iM.trans_ (gW (d := 105) (ds := cI v63.value) rfl (by repeat (first | exact Pre.z _ | apply Pre.t))) (iM.trans_ (gW (d := 110) (ds := cI v64.value) rfl (by repeat (first | exact Pre.z _ | apply Pre.t))) ?_)
 exact wk [0,1,2,3,4]
 iterate 11 refine k2 ?_
 refine tA ?_
 refine bE ?_
 refine ⟨by kernel_rfl,?_⟩
 refine aI ?_
 cases h5
 exact wk [0,1,2,3,4]
 refine bL h4 rfl (fun hc h4 => ?_) (fun hc h4 => ?_)
 refine sk (aG (aK (aF (is := [0,1,2,3,4,5,6,7,8]) [0,0,0,0,12,0,0,96,255] follows (by kernel_rfl) (tP rfl (aH (r := .ptr _ _ _ _ _) rfl) (bS rfl w0 rfl (aU tok rfl rfl rfl rfl) rfl rfl rfl (tpm ?_))))))
 refine tpm ?_
 obtain ⟨v66,hv66,h4⟩ := bnd h4
 refine tP rfl (cV tok hv66 rfl rfl rfl rfl rfl rfl) (tpm ?_)
 refine tpm ?_
 obtain ⟨v67,hv67,h4⟩ := bnd h4
 refine tP rfl (cV tok hv67 rfl rfl rfl rfl rfl rfl) ?_
 obtain ⟨v68,hv68,h4⟩ := bnd h4
 refine aMd rfl w0 rfl (by repeat (first | exact jZ _ | exact kA rfl | refine kD ?_ rfl)) (xE 4 (vB hv68) rfl rfl rfl) ?_
 refine bE ?_
 refine ⟨by kernel_rfl,?_⟩
 refine bF (aI (sr [0,1,2] (pm ?_)))
 refine rP rfl (bI rfl rfl) (pa (bB ?_))
 refine cA ?_
 cases h4
 refine ⟨_,rfl,?_⟩
 exact wk [0,1,2,3,4]
 refine bK (bY ?_)
 cases h4
 refine cC ⟨_,rfl,fun e => ?_⟩
 subst e
 refine aY ?_
 refine bF (aI ?_)
 exact wk [0,1,2,3,4]
 refine sr [0,1,2] (pm ?_)
 refine rP rfl (bI rfl rfl) (pa (bB ?_))
 refine cA ?_
 cases h2
 refine ⟨_,rfl,?_⟩
 exact wk [0,1,2,3,4]
 refine bK (bY ?_)
 cases h2
 refine cC ⟨_,rfl,fun e => ?_⟩
 subst e
 refine aY (aI ?_)
 exact wk [0,1,2,4]
 refine sq [0,1,2,3,4] (rP rfl (aH (r := .ptr _ _ _ _ _) rfl) (rL rfl (cW rfl rfl) (fa tok ?_)))
 refine ld tok ?_
 refine pa (nx (aD ?_))
 cases h0
 exact r0t 4 rfl
theorem aKb {p0 : dW} {r : Bool} (h0 : tX p0 = some r) : FnC Tryz.prog 286 [] [.agg [dI p0.Driver,(dI p0.Driven)]] [] (dB r) := by
 refine fi 11 tok Tryz.func286 ?_
 unfold tX at h0
 refine sq [0,1] (bxx 3 ?_)
 refine pa (nx (sq [0,1,2,3,4,5,6,7,8] ?_))
 refine fa tok ?_
 refine ld tok ?_
 obtain ⟨v1,hv1,h0⟩ := bnd h0
 refine rS rfl (aO 4 (qC hv1) rfl rfl rfl) (pm ?_)
 refine dH (u := 6) h0 rfl (fun hc h0 => ?_) (fun hc h0 => ?_)
 refine fa1 tok ?_
 refine ld1 tok ?_
 obtain ⟨v2,hv2,h0⟩ := bnd h0
 refine rs rfl (w1 rfl rfl rfl) rfl (aO 4 (qC hv2) rfl rfl rfl) (pkt ?_)
 refine pa (nx (aD ?_))
 cases h0
 exact r0t 2 rfl
 iterate 3 refine k1 ?_
 refine pkf ?_
 refine pa (nx (aD ?_))
 cases h0
 exact r0t 2 rfl
theorem aOk {p0 : List dW} {r : Bool} (h0 : wL p0 = some r) : FnC Tryz.prog 276 [] [dL eY p0] [] (dB r) := by
 refine fi 19 tok Tryz.func276 ?_
 unfold wL at h0
 refine sq [0] (pa (nx ?_))
 obtain ⟨v7x,h1,h0⟩ := bnd h0
 refine dX v7x (fun v7 => ⟨aE ((fun _ => .dead)) 0 (dL eY p0),lks [.no, .no, .no]⟩) ?_ ?_
 refine sq [0] (pa (nx (aK ?_)))
 refine bD (fun s4 => ⟨aE (aE ((fun _ => .dead)) 0 (dL eY p0)) 3 (dI s4),lks [.no, .no, .no]⟩) h1 ?_ (fun s4 y h2 => ?_)
 exact wk [0,1,2]
 refine aG (sq [0,1,2,3] (pm ?_))
 refine pm ?_
 refine rP rfl (aN tok rfl rfl rfl) (rP rfl (bX rfl rfl) (nx ?_))
 refine bM h2 rfl (fun hc h2 => ?_) (fun hc h2 => ?_)
 refine sk (aG (aK (sq [0,1,2,3,4,5] (pm ?_))))
 refine pm ?_
 obtain ⟨v5,hv5,h2⟩ := bnd h2
 refine rP rfl (cV tok hv5 rfl rfl rfl rfl rfl rfl) (rP rfl (bT tok rfl rfl rfl (by repeat (first | exact kK.z _ | apply kK.t))) ?_)
 obtain ⟨v6,hv6,h2⟩ := bnd h2
 refine rS rfl (aO 3 (aKb hv6) rfl rfl rfl) (rP rfl (bO rfl) (nx ?_))
 refine bL h2 rfl (fun hc h2 => ?_) (fun hc h2 => ?_)
 refine sq [0] (pa (nx (aD ?_)))
 refine bH (aS ?_)
 cases h2
 refine eV ⟨_,rfl,fun e => ?_⟩
 subst e
 refine bH ?_
 replace h0 := gG h0
 refine aS ?_
 cases h0
 exact r0t 2 rfl
 refine cU (bF (aI (sr [0,1,2] (pm ?_))))
 refine rP rfl (bI rfl rfl) (pa (bB ?_))
 refine cA ?_
 cases h2
 refine ⟨_,rfl,?_⟩
 exact wk [0,1,2]
 refine bK (bY ?_)
 cases h2
 refine cC ⟨_,rfl,fun e => ?_⟩
 subst e
 refine aY (aI ?_)
 refine ⟨_,rfl,?_⟩
 exact wk [0,1,2]
 rintro v7 rfl
 replace h0 := iP h0
 refine sq [0,1,2,3] (pm ?_)
 refine rP rfl (aN tok rfl rfl rfl) (rP rfl (iW rfl rfl) (pa (nx (aD ?_))))
 cases h0
 exact r0t 2 rfl
theorem aAl {p0 : aJ} {p1 : aJ} {r : aJ × Bool} (h0 : iR p0 p1 = some r) : FnC Tryz.prog 83 [] [.agg [dI p0.Num,(dI p0.Den)], .agg [dI p1.Num,(dI p1.Den)]] [] (.tup [.agg [dI r.1.Num,(dI r.1.Den)],(dB r.2)]) := by
 refine fi 19 tok Tryz.func83 ?_
 unfold iR at h0
 refine sq [0,1,2,3] (bxx 3 ?_)
 refine bxx 4 ?_
 refine al 5 [z0,z0] tok ?_
 refine pa (nx (sq [0,1,2,3,4,5,6,7,8,9,10,11,12,13,14] ?_))
 refine fa tok ?_
 refine ld tok ?_
 refine fa tok ?_
 refine ld tok ?_
 refine rP rfl (fO rfl rfl) (fa tok ?_)
 refine ld tok ?_
 refine fa tok ?_
 refine ld tok ?_
 refine rP rfl (fO rfl rfl) ?_
 obtain ⟨v1,hv1,h0⟩ := bnd h0
 refine rS rfl (aO 6 (nZ hv1) rfl rfl rfl) (rP rfl (aQ rfl rfl) (rP rfl (aQ rfl rfl) (bst tok ?_)))
 refine pa (nx (aD ?_))
 cases h0
 exact fN (rs := [.cell 4 62, .tmp 5]) rfl
theorem aH7 {p0 : List dW} {r : aJ × Bool} (h0 : qA p0 = some r) : FnC Tryz.prog 287 [] [dL eY p0] [] (.tup [.agg [dI r.1.Num,(dI r.1.Den)],(dB r.2)]) := by
 refine fi 43 tok Tryz.func287 ?_
 unfold qA at h0
 refine sq [0,1] (al 3 [z0,z0] tok ?_)
 refine pa (nx (sq [0,1,2] ?_))
 obtain ⟨v1,hv1,h0⟩ := bnd h0
 refine rS rfl (aO 4 (sJ hv1) rfl rfl rfl) (al 4 [z0,z0] tok ?_)
 refine bst tok (nx ?_)
 obtain ⟨v12x,h1,h0⟩ := bnd h0
 refine dX v12x (fun v12 => ⟨aE (aE ((fun _ => .dead)) 2 (.ptr 3 0 1 0 0)) 4 (.ptr 4 0 1 0 0),lks [.no, .no, .no, .live [⟨62,2, .av [[z0,z0]]⟩], .live [⟨62,2, .av [[dI v12.Num,(dI v12.Den)]]⟩]]⟩) ?_ ?_
 refine sq [0] (pa (nx (aK ?_)))
 refine bD (fun s7 => ⟨aE (aE (aE (aE ((fun _ => .dead)) 0 (dL eY p0)) 2 (.ptr 3 0 1 0 0)) 4 (.ptr 4 0 1 0 0)) 5 (dI s7.1),lks [.no, .no, .no, .live [⟨62,2, .av [[z0,z0]]⟩], .live [⟨62,2, .av [[dI s7.2.Num,(dI s7.2.Den)]]⟩]]⟩) h1 ?_ (fun s7 y h2 => ?_)
 exact wk [0,1,2,3,4]
 refine aG (sq [0,1,2,3] (pm ?_))
 refine pm ?_
 refine rP rfl (aN tok rfl rfl rfl) (rP rfl (bX rfl rfl) (nx ?_))
 refine bM h2 rfl (fun hc h2 => ?_) (fun hc h2 => ?_)
 refine sk (aG (aK (aG (aF (is := [0,1,2,3,4,5,6,7,8,9,10,11,12,13,14,15,16,17]) [0,0,3,7,15,31,0,0,192,448,960,2047,4095,8191,8191,0,49151,131071] follows (by kernel_rfl) (tpm ?_)))))
 refine tpm ?_
 obtain ⟨v8,hv8,h2⟩ := bnd h2
 refine tP rfl (cV tok hv8 rfl rfl rfl rfl rfl rfl) (tfr tok ?_)
 refine tlr tok ?_
 refine tP rfl (vC rfl) (tpm ?_)
 refine tpm ?_
 obtain ⟨v9,hv9,h2⟩ := bnd h2
 refine tP rfl (cV tok hv9 rfl rfl rfl rfl rfl rfl) (tfr tok ?_)
 refine tlr tok ?_
 obtain ⟨v10,hv10,h2⟩ := bnd h2
 refine jB rfl w0 rfl (cP 6 (nZ hv10) rfl rfl rfl) (tP rfl (aH (r := .tup _) rfl) (tP rfl (aQ rfl rfl) (tP rfl (aQ rfl rfl) (aBa rfl w0 rfl rfl (fun hx hk => jJ 5 (cs := [z0,z0]) tok rfl rfl hk) (iK rfl w0 (fQ (cs := _ :: _) tok rfl rfl rfl rfl rfl rfl rfl) (tpa ?_))))))
 refine bE ?_
 refine ⟨by kernel_rfl,?_⟩
 refine aI (sq [0,1,2,3,4,5,6,7,8] (rL rfl (aU tok rfl rfl rfl rfl) (rL rfl (aU tok rfl rfl rfl rfl) ?_)))
 obtain ⟨v11,hv11,h2⟩ := bnd h2
 refine rS rfl (aO 6 (aAl hv11) rfl rfl rfl) (rP rfl (aH (r := .tup _) rfl) (rP rfl (aQ rfl rfl) (rP rfl (aQ rfl rfl) (al 6 [z0,z0] tok ?_))))
 refine bst tok ?_
 refine pa (nx (aG (sq [0,1] ?_)))
 refine pm ?_
 refine rP rfl (bO rfl) (nx ?_)
 refine bL h2 rfl (fun hc h2 => ?_) (fun hc h2 => ?_)
 refine sq [0,1,2] (rP rfl (pbl (C0 := [z0,z0]) tok rfl rfl rfl) (bst tok ?_))
 refine pa (nx (aD (aS ?_)))
 refine bH (aS ?_)
 cases h2
 refine eV ⟨_,rfl,fun e => ?_⟩
 subst e
 refine bH ?_
 replace h0 := gG h0
 refine aS ?_
 cases h0
 exact fN (rs := [.cell 2 62, .tmp 3]) rfl
 refine sk (sr [0,1] (rL rfl (aU tok rfl rfl rfl rfl) (bst tok (bB ?_))))
 refine bF (aI (sr [0,1,2] (pm ?_)))
 refine rP rfl (bI rfl rfl) (pa (bB ?_))
 refine cA ?_
 cases h2
 refine ⟨_,rfl,?_⟩
 exact wk [0,1,2,3,4]
 refine bK (bY ?_)
 cases h2
 refine cC ⟨_,rfl,fun e => ?_⟩
 subst e
 refine aY (aI ?_)
 refine ⟨_,rfl,?_⟩
 exact wk [0,1,2,3,4]
 rintro v12 rfl
 replace h0 := iP h0
 refine sq [0,1,2] (rL rfl (aU tok rfl rfl rfl rfl) (bst tok ?_))
 refine pa (nx (aD ?_))
 cases h0
 exact fN (rs := [.cell 2 62, .tmp 3]) rfl
theorem aMe {p0 : aJ} {r : aJ} (h0 : xC p0 = some r) : FnC Tryz.prog 85 [] [.agg [dI p0.Num,(dI p0.Den)]] [] (.agg [dI r.Num,(dI r.Den)]) := by
 refine fi 9 tok Tryz.func85 ?_
 unfold xC at h0
 refine sq [0,1] (bxx 3 ?_)
 refine al 4 [z0,z0] tok (nx (sq [0,1,2,3,4,5,6] ?_))
 refine fa tok ?_
 refine ld tok ?_
 refine rP rfl (vC rfl) (fa tok ?_)
 refine ld tok ?_
 refine rP rfl (pbl (C0 := [z0,z0]) tok rfl rfl rfl) (bst tok (nx (aD ?_)))
 cases h0
 exact fN (rs := [.cell 2 62]) rfl
theorem aMx {p0 : aJ} {p1 : aJ} {r : aJ × Bool} (h0 : xP p0 p1 = some r) : FnC Tryz.prog 84 [] [.agg [dI p0.Num,(dI p0.Den)], .agg [dI p1.Num,(dI p1.Den)]] [] (.tup [.agg [dI r.1.Num,(dI r.1.Den)],(dB r.2)]) := by
 refine fi 25 tok Tryz.func84 ?_
 unfold xP at h0
 refine sq [0,1,2,3] (bxx 3 ?_)
 refine bxx 4 ?_
 refine al 5 [z0,z0] tok ?_
 refine pa (nx (sq [0,1,2,3,4,5,6,7,8,9,10,11,12,13,14,15,16,17,18,19,20] ?_))
 refine fa tok ?_
 refine ld tok ?_
 refine fa tok ?_
 refine ld tok ?_
 refine rP rfl (fO rfl rfl) (fa tok ?_)
 refine ld tok ?_
 refine fa tok ?_
 refine ld tok ?_
 refine rP rfl (fO rfl rfl) (rP rfl (bI rfl rfl) (fa tok ?_))
 refine ld tok ?_
 refine fa tok ?_
 refine ld tok ?_
 refine rP rfl (fO rfl rfl) ?_
 obtain ⟨v1,hv1,h0⟩ := bnd h0
 refine rS rfl (aO 6 (nZ hv1) rfl rfl rfl) (rP rfl (aQ rfl rfl) (rP rfl (aQ rfl rfl) (bst tok ?_)))
 refine pa (nx (aD ?_))
 cases h0
 exact fN (rs := [.cell 4 62, .tmp 5]) rfl
theorem aKn {p0 : List dW} {p1 : aJ} {r : aJ × Bool} (h0 : rX p0 p1 = some r) : FnC Tryz.prog 277 [] [dL eY p0, .agg [dI p1.Num,(dI p1.Den)]] [] (.tup [.agg [dI r.1.Num,(dI r.1.Den)],(dB r.2)]) := by
 refine fi 26 tok Tryz.func277 ?_
 unfold rX at h0
 refine sq [0,1,2] (bxx 3 ?_)
 refine al 4 [z0,z0] tok ?_
 refine pa (nx (sq [0,1,2,3,4,5,6,7] ?_))
 refine pm ?_
 obtain ⟨v1,hv1,h0⟩ := bnd h0
 refine rS rfl (aO 5 (aH7 hv1) rfl rfl rfl) (rP rfl (aH (r := .tup _) rfl) (rP rfl (aQ rfl rfl) (rP rfl (aQ rfl rfl) (al 5 [z0,z0] tok ?_))))
 refine bst tok ?_
 refine pa (nx (aG (sq [0,1] ?_)))
 refine pm ?_
 refine rP rfl (bO rfl) (nx ?_)
 refine bL h0 rfl (fun hc h0 => ?_) (fun hc h0 => ?_)
 refine sq [0,1,2] (rP rfl (pbl (C0 := [z0,z0]) tok rfl rfl rfl) (bst tok ?_))
 refine pa (nx (aD (aS ?_)))
 cases h0
 exact fN (rs := [.cell 4 62, .tmp 5]) rfl
 refine sk (sq [0,1,2,3,4] (fa tok ?_))
 refine ld tok ?_
 obtain ⟨v2,hv2,h0⟩ := bnd h0
 refine rS rfl (aO 6 (rN hv2) rfl rfl rfl) (fa tok ?_)
 refine bs1 tok (nx (aG ?_))
 refine aF (is := [0,1,2,3,4,5,6,7]) [0,0,2,7,15,15,63,127] follows (by kernel_rfl) (bS rfl w0 rfl (aU tok rfl rfl rfl rfl) rfl rfl rfl (bS rfl w0 rfl (aU tok rfl rfl rfl rfl) rfl rfl rfl ?_))
 obtain ⟨v3,hv3,h0⟩ := bnd h0
 refine jB rfl w0 rfl (cP 6 (aMe hv3) rfl rfl rfl) ?_
 obtain ⟨v4,hv4,h0⟩ := bnd h0
 refine jB rfl w0 rfl (cP 6 (aMx hv4) rfl rfl rfl) (tP rfl (aQ rfl rfl) (tP rfl (aQ rfl rfl) (iK rfl w0 (fQ (cs := _ :: _) tok rfl rfl rfl rfl rfl rfl rfl) (tpa ?_))))
 refine bE ?_
 refine ⟨by kernel_rfl,?_⟩
 refine aI (aD ?_)
 cases h0
 exact fN (rs := [.cell 4 62, .tmp 5]) rfl
theorem aKg {p0 : List dW} {p1 : aJ} {r : aJ × Int} (h0 : uU p0 p1 = some r) : FnC Tryz.prog 242 [] [dL eY p0, .agg [dI p1.Num,(dI p1.Den)]] [] (.tup [.agg [dI r.1.Num,(dI r.1.Den)],(dI r.2)]) := by
 refine fi 31 tok Tryz.func242 ?_
 unfold uU at h0
 refine sq [0,1,2] (bxx 3 ?_)
 refine al 4 [z0,z0] tok ?_
 refine pa (nx (aG ?_))
 obtain ⟨v3,h1,h0⟩ := bnd h0
 refine bG ⟨aE (aE (aE (aE ((fun _ => .dead)) 0 (dL eY p0)) 3 (.ptr 3 0 1 0 0)) 4 (.ptr 4 0 1 0 0)) 15 (dB v3),lks [.no, .no, .no, .live [⟨62,2, .av [[dI p1.Num,(dI p1.Den)]]⟩], .live [⟨62,2, .av [[z0,z0]]⟩]]⟩ ?_ ?_
 refine sr [0,1,2,3,4,5,6,7] (pm ?_)
 obtain ⟨v1,hv1,h1⟩ := bnd h1
 refine rS rfl (aO 5 (aOk hv1) rfl rfl rfl) (rP rfl (bO rfl) (pm ?_))
 refine dH (u := 11) h1 rfl (fun hc h1 => ?_) (fun hc h1 => ?_)
 iterate 3 refine k1 ?_
 refine pkt (nx ?_)
 cases h1
 exact wk [0,1,2,3,4]
 refine rl rfl (w1 rfl rfl rfl) rfl (aU tok rfl rfl rfl rfl) ?_
 obtain ⟨v2,hv2,h1⟩ := bnd h1
 refine rs rfl (w1 rfl rfl rfl) rfl (aO 5 (aHy hv2) rfl rfl rfl) (rp rfl (w1 rfl rfl rfl) rfl (bO rfl) (pkf (nx ?_)))
 cases h1
 exact wk [0,1,2,3,4]
 refine bL h0 rfl (fun hc h0 => ?_) (fun hc h0 => ?_)
 refine sq [0,1,2] (rP rfl (pbl (C0 := [z0,z0]) tok rfl rfl rfl) (bst tok ?_))
 refine pa (nx (aD (aS ?_)))
 cases h0
 exact fN (rs := [.cell 4 62, .tmp 5]) rfl
 refine sk (sq [0,1,2,3,4,5,6,7,8] (pm ?_))
 refine rL rfl (aU tok rfl rfl rfl rfl) ?_
 obtain ⟨v4,hv4,h0⟩ := bnd h0
 refine rS rfl (aO 5 (aKn hv4) rfl rfl rfl) (rP rfl (aH (r := .tup _) rfl) (rP rfl (aQ rfl rfl) (rP rfl (aQ rfl rfl) (al 5 [z0,z0] tok ?_))))
 refine bst tok ?_
 refine pa (nx (aG (sq [0,1] ?_)))
 refine pm ?_
 refine rP rfl (bO rfl) (nx ?_)
 refine bL h0 rfl (fun hc h0 => ?_) (fun hc h0 => ?_)
 refine sq [0,1,2] (rP rfl (pbl (C0 := [z0,z0]) tok rfl rfl rfl) (bst tok ?_))
 refine pa (nx (aD (aS ?_)))
 cases h0
 exact fN (rs := [.cell 4 62, .tmp 5]) rfl
 refine sk (sq [0,1,2,3,4] (fa tok ?_))
 refine ld tok ?_
 obtain ⟨v5,hv5,h0⟩ := bnd h0
 refine rS rfl (aO 6 (rN hv5) rfl rfl rfl) (fa tok ?_)
 refine bs1 tok (nx (sq [0,1,2] ?_))
 refine rL rfl (aU tok rfl rfl rfl rfl) (bst tok ?_)
 refine pa (nx (aD ?_))
 cases h0
 exact fN (rs := [.cell 4 62, .tmp 5]) rfl
theorem aJe {p0 : aJ} {p1 : qE} {r : aBl × Int} (h0 : uA p0 p1 = some r) : FnC Tryz.prog 177 [] [.agg [dI p0.Num,(dI p0.Den)], .ref (aB8 p1)] [] (.tup [.agg [dL eY r.1.Train,(dI r.1.Error.Num),(dI r.1.Error.Den)],(dI r.2)]) := by
 refine fi 25 tok Tryz.func177 ?_
 unfold uA at h0
 refine sq [0,1,2] (bxx 3 ?_)
 refine al 4 [zl,z0,z0] tok ?_
 refine pa (nx (sq [0,1,2,3] ?_))
 refine rL rfl (aU tok rfl rfl rfl rfl) (pmr ?_)
 obtain ⟨v1,hv1,h0⟩ := bnd h0
 refine rS rfl (aO 5 (aF1 hv1) rfl rfl rfl) (pa (nx (sq [0,1,2,3,4,5,6,7,8] ?_)))
 refine pm ?_
 refine rL rfl (aU tok rfl rfl rfl rfl) ?_
 obtain ⟨v2,hv2,h0⟩ := bnd h0
 refine rS rfl (aO 5 (aKg hv2) rfl rfl rfl) (rP rfl (aH (r := .tup _) rfl) (rP rfl (aQ rfl rfl) (rP rfl (aQ rfl rfl) (al 5 [z0,z0] tok ?_))))
 refine bst tok ?_
 refine pa (nx (aG (sq [0,1] ?_)))
 refine pm ?_
 refine rP rfl (fA rfl rfl) (nx ?_)
 refine bM h0 rfl (fun hc h0 => ?_) (fun hc h0 => ?_)
 refine sq [0,1,2,3] (rP rfl (pbl (C0 := [zl,z0,z0]) tok rfl rfl rfl) (pm ?_))
 refine bst tok ?_
 refine pa (nx ?_)
 refine wa 6 121 2 4 0 ?_
 refine cJ (tU (k := 6) (t' := aE (aE ((fun _ => .dead)) 4 (.ptr 4 0 1 0 0)) 5 (dI v2.2)) rfl (FzL.box (kb := 4) (ds := [dL eY ([] : List dW),z0,z0]) rfl rfl (by repeat (first | exact fX.nil | apply fX.cons | exact FzR.d _ | exact FzR.own rfl (by first | rfl | (simp; done) | (simp; omega)) | exact FzR.ptr rfl (by repeat (first | exact Drp.z _ | apply Drp.d)) | exact FzR.own' | exact FzR.ptr' | exact FzR.ref _ | apply FzR.agg | apply FzR.tup | apply FzR.fn | exact FzR.dead _)) (FzL.nil))) (aD (aS ?_))
 cases h0
 exact fN (rs := [.cell 4 115, .tmp 5]) rfl
 refine sk (sq [0,1,2,3,4] (pm ?_))
 refine rL rfl (aU tok rfl rfl rfl rfl) (rP rfl (pbl (C0 := [zl,z0,z0]) tok rfl rfl rfl) (bst tok ?_))
 refine pa (nx (aD ?_))
 cases h0
 exact fN (rs := [.cell 4 115, .tmp 5]) rfl
theorem aGc {p0 : aJ} {p1 : qE} {r : aBl × Int} (h0 : nA p0 p1 = some r) : FnC Tryz.prog 94 [] [.agg [dI p0.Num,(dI p0.Den)], .agg [dI p1.LowDriver,(dI p1.HighDriver),(dI p1.LowDriven),(dI p1.HighDriven),(dI p1.Stages)]] [] (.tup [.agg [dL eY r.1.Train,(dI r.1.Error.Num),(dI r.1.Error.Den)],(dI r.2)]) := by
 refine fi 22 tok Tryz.func94 ?_
 unfold nA at h0
 refine sq [0,1,2,3] (bxx 3 ?_)
 refine bxx 4 ?_
 refine al 5 [zl,z0,z0] tok ?_
 refine pa (nx (aG ?_))
 obtain ⟨v3,h1,h0⟩ := bnd h0
 refine bG ⟨aE (aE (aE (aE ((fun _ => .dead)) 2 (.ptr 3 0 1 0 0)) 3 (.ptr 4 0 1 0 0)) 4 (.ptr 5 0 1 0 0)) 12 (dB v3),lks [.no, .no, .no, .live [⟨62,2, .av [[dI p0.Num,(dI p0.Den)]]⟩], .live [⟨119,5, .av [[dI p1.LowDriver,(dI p1.HighDriver),(dI p1.LowDriven),(dI p1.HighDriven),(dI p1.Stages)]]⟩], .live [⟨115,3, .av [[zl,z0,z0]]⟩]]⟩ ?_ ?_
 refine sr [0,1,2,3,4,5,6] (rL rfl (aU tok rfl rfl rfl rfl) ?_)
 obtain ⟨v1,hv1,h1⟩ := bnd h1
 refine rS rfl (aO 6 (aHy hv1) rfl rfl rfl) (rP rfl (bO rfl) (pm ?_))
 refine dH (u := 9) h1 rfl (fun hc h1 => ?_) (fun hc h1 => ?_)
 refine k1 ?_
 refine k1 ?_
 refine pkt (nx ?_)
 cases h1
 exact wk [0,1,2,3,4,5]
 obtain ⟨v2,hv2,h1⟩ := bnd h1
 refine rs rfl (w1 rfl rfl rfl) rfl (eE 6 (aPq hv2) rfl rfl) (rp rfl (w1 rfl rfl rfl) rfl (bO rfl) (pkf (nx ?_)))
 cases h1
 exact wk [0,1,2,3,4,5]
 refine bL h0 rfl (fun hc h0 => ?_) (fun hc h0 => ?_)
 refine sq [0,1,2] (rP rfl (pbl (C0 := [zl,z0,z0]) tok rfl rfl rfl) (bst tok ?_))
 refine pa (nx ?_)
 refine wa 6 121 2 5 0 ?_
 refine cJ (tU (k := 6) (t' := aE (aE ((fun _ => .dead)) 4 (.ptr 5 0 1 0 0)) 5 (dI 1)) rfl (FzL.box (kb := 5) (ds := [dL eY ([] : List dW),z0,z0]) rfl rfl (by repeat (first | exact fX.nil | apply fX.cons | exact FzR.d _ | exact FzR.own rfl (by first | rfl | (simp; done) | (simp; omega)) | exact FzR.ptr rfl (by repeat (first | exact Drp.z _ | apply Drp.d)) | exact FzR.own' | exact FzR.ptr' | exact FzR.ref _ | apply FzR.agg | apply FzR.tup | apply FzR.fn | exact FzR.dead _)) (FzL.nil))) (aD (aS ?_))
 cases h0
 exact fN (rs := [.cell 4 115, .tmp 5]) rfl
 refine sk (aG (sq [0,1,2] (rL rfl (aU tok rfl rfl rfl rfl) ?_)))
 obtain ⟨v4,hv4,h0⟩ := bnd h0
 refine rS rfl (aO 6 (aMb hv4) rfl rfl rfl) (rP rfl (bO rfl) (nx ?_))
 refine bL h0 rfl (fun hc h0 => ?_) (fun hc h0 => ?_)
 refine sq [0,1,2] (rP rfl (pbl (C0 := [zl,z0,z0]) tok rfl rfl rfl) (bst tok ?_))
 refine pa (nx ?_)
 refine wa 6 121 2 5 0 ?_
 refine cJ (tU (k := 6) (t' := aE (aE ((fun _ => .dead)) 4 (.ptr 5 0 1 0 0)) 5 (dI 2)) rfl (FzL.box (kb := 5) (ds := [dL eY ([] : List dW),z0,z0]) rfl rfl (by repeat (first | exact fX.nil | apply fX.cons | exact FzR.d _ | exact FzR.own rfl (by first | rfl | (simp; done) | (simp; omega)) | exact FzR.ptr rfl (by repeat (first | exact Drp.z _ | apply Drp.d)) | exact FzR.own' | exact FzR.ptr' | exact FzR.ref _ | apply FzR.agg | apply FzR.tup | apply FzR.fn | exact FzR.dead _)) (FzL.nil))) (aD (aS ?_))
 cases h0
 exact fN (rs := [.cell 4 115, .tmp 5]) rfl
 refine sk (sq [0,1,2,3,4,5] (rL rfl (aU tok rfl rfl rfl rfl) ?_))
 obtain ⟨v5,hv5,h0⟩ := bnd h0
 refine uM (aV5 (k := 4) (t' := aE (aE (aE ((fun _ => .dead)) 3 (.ref (aB8 p1))) 4 (.ptr 5 0 1 0 0)) 18 (.agg [dI p0.Num,(dI p0.Den)])) rfl (FzL.nil)) (rS rfl (aO 6 (aJe hv5) rfl rfl rfl) (rP rfl (aQ rfl rfl) (rP rfl (aQ rfl rfl) (bst tok ?_))))
 refine pa (nx (aD ?_))
 cases h0
 exact fN (rs := [.cell 4 115, .tmp 5]) rfl
theorem aBi {p0 : List dW} {r : bJ} (h0 : mI p0 = some r) : FnC Tryz.prog 96 [] [dL eY p0] [.live [⟨123,2, .data (List.map aL r.Arbors)⟩], .live [⟨125,4, .data (List.map bC r.Meshes)⟩]] (.agg [.own 0 0 r.Arbors.length, .own 1 0 r.Meshes.length]) := by
 refine fi 36 tok Tryz.func96 ?_
 unfold mI at h0
 refine sq [0] (al 3 [zl,zl] tok (nx (aG ?_)))
 refine aF (is := [0,1,2,3,6,7,8,9,10,11,12,13,16,17,18,19,27,28,29,30,4,5,14,15,20,21,22,23,24,25,26,31,32,33]) [0,1,3,7,15,31,0,64,192,448,0,1024,3072,7168,16320,32704,0,65536,196608,458752,983040,2031616,0,4194304,0,16777216,67108863,0,0,0,0,2013265920,4294967295,8589934591] follows (by kernel_rfl) (tpm ?_)
 obtain ⟨v1,hv1,h0⟩ := bnd h0
 refine tP rfl (cV tok hv1 rfl rfl rfl rfl rfl rfl) (tfr tok ?_)
 refine tlr tok ?_
 refine tpm ?_
 obtain ⟨v2,hv2,h0⟩ := bnd h0
 refine tP rfl (cV tok hv2 rfl rfl rfl rfl rfl rfl) (tfr tok ?_)
 refine tlr tok ?_
 refine tpm ?_
 obtain ⟨v3,hv3,h0⟩ := bnd h0
 refine tP rfl (cV tok hv3 rfl rfl rfl rfl rfl rfl) (tfr tok ?_)
 refine tlr tok ?_
 refine tpm ?_
 obtain ⟨v4,hv4,h0⟩ := bnd h0
 refine tP rfl (cV tok hv4 rfl rfl rfl rfl rfl rfl) (tfr tok ?_)
 refine tlr tok ?_
 iterate 4 refine tP rfl (pbl (C0 := [z0,z0,z0,z0]) tok rfl rfl rfl) ?_
 refine aBa rfl w0 rfl rfl (fun hx hk => xY 4 tok cI [v1.Driver,12] rfl rfl rfl (by repeat (first | exact Els.nil _ | apply Els.cons (cs := [.d _]) rfl rfl rfl | apply Els.cons (cs := _ :: _) rfl rfl rfl)) rfl rfl rfl (by repeat (first | exact cX.nil | (apply cX.cons; (repeat (first | exact fZ.nil | apply fZ.cons))))) rfl hk) (tP rfl (pbl (C0 := [ze,zl]) tok rfl rfl rfl) (aBa rfl w0 rfl rfl (fun hx hk => xY 5 tok cI [v2.Driven,v3.Driver] rfl rfl rfl (by repeat (first | exact Els.nil _ | apply Els.cons (cs := [.d _]) rfl rfl rfl | apply Els.cons (cs := _ :: _) rfl rfl rfl)) rfl rfl rfl (by repeat (first | exact cX.nil | (apply cX.cons; (repeat (first | exact fZ.nil | apply fZ.cons))))) rfl hk) (tP rfl (pbl (C0 := [ze,zl]) tok rfl rfl rfl) (aBa rfl w0 rfl rfl (fun hx hk => xY 6 tok cI [v4.Driven] rfl rfl rfl (by repeat (first | exact Els.nil _ | apply Els.cons (cs := [.d _]) rfl rfl rfl | apply Els.cons (cs := _ :: _) rfl rfl rfl)) rfl rfl rfl (by repeat (first | exact cX.nil | (apply cX.cons; (repeat (first | exact fZ.nil | apply fZ.cons))))) rfl hk) (tP rfl (pbl (C0 := [ze,zl]) tok rfl rfl rfl) (aBa rfl w0 rfl rfl (fun hx hk => xY 7 tok cI [36,10] rfl rfl rfl (by repeat (first | exact Els.nil _ | apply Els.cons (cs := [.d _]) rfl rfl rfl | apply Els.cons (cs := _ :: _) rfl rfl rfl)) rfl rfl rfl (by repeat (first | exact cX.nil | (apply cX.cons; (repeat (first | exact fZ.nil | apply fZ.cons))))) rfl hk) (tP rfl (pbl (C0 := [ze,zl]) tok rfl rfl rfl) (aBa rfl w0 rfl rfl (fun hx hk => xY 8 tok cI [40] rfl rfl rfl (by repeat (first | exact Els.nil _ | apply Els.cons (cs := [.d _]) rfl rfl rfl | apply Els.cons (cs := _ :: _) rfl rfl rfl)) rfl rfl rfl (by repeat (first | exact cX.nil | (apply cX.cons; (repeat (first | exact fZ.nil | apply fZ.cons))))) rfl hk) (tP rfl (pbl (C0 := [ze,zl]) tok rfl rfl rfl) (aBa rfl w0 rfl rfl (fun hx hk => vE 9 tok aL [(⟨(⟨#[99,101,110,116,101,114]⟩ : ByteArray),[v1.Driver,12]⟩ : cQ),(⟨(⟨#[116,104,105,114,100]⟩ : ByteArray),[v2.Driven,v3.Driver]⟩ : cQ),(⟨(⟨#[101,115,99,97,112,101]⟩ : ByteArray),[v4.Driven]⟩ : cQ),(⟨(⟨#[109,105,110,117,116,101]⟩ : ByteArray),[36,10]⟩ : cQ),(⟨(⟨#[104,111,117,114]⟩ : ByteArray),[40]⟩ : cQ)] rfl rfl rfl (by repeat (first | exact Els.nil _ | apply Els.cons (cs := [.d _]) rfl rfl rfl | apply Els.cons (cs := _ :: _) rfl rfl rfl)) rfl rfl rfl (by repeat (first | exact cX.nil | (apply cX.cons; (repeat (first | exact fZ.nil | apply fZ.cons))))) rfl hk) (aBa rfl w0 rfl rfl (fun hx hk => vE 10 tok bC [(⟨0,0,1,0⟩ : cH),(⟨1,1,2,0⟩ : cH),(⟨0,1,3,0⟩ : cH),(⟨3,1,4,0⟩ : cH)] rfl rfl rfl (by repeat (first | exact Els.nil _ | apply Els.cons (cs := [.d _]) rfl rfl rfl | apply Els.cons (cs := _ :: _) rfl rfl rfl)) rfl rfl rfl (by repeat (first | exact cX.nil | (apply cX.cons; (repeat (first | exact fZ.nil | apply fZ.cons))))) rfl hk) (tP rfl (pbl (C0 := [zl,zl]) tok rfl rfl rfl) (iK rfl w0 (fQ (cs := _ :: _) tok rfl rfl rfl rfl rfl rfl rfl) (bE ?_))))))))))))))
 refine ⟨by kernel_rfl,?_⟩
 refine aI (aD ?_)
 cases h0
 exact dJ (rs := [.cell 2 27]) [9,10] rfl
theorem aFd {p0 : aA} {r : aA} (h0 : oI p0 = some r) : FnC Tryz.prog 97 [] [.ref (dG p0)] [.live [⟨170,3, .data (List.map aM r.Months)⟩], .live [⟨181,3, .data (List.map aB r.Rules)⟩]] (.agg [dS r.Name, .own 0 0 r.Months.length, .own 1 0 r.Rules.length,(dI r.Week)]) := by
 refine fi 22 tok Tryz.func97 ?_
 unfold oI at h0
 refine sq [0] (al 3 [ze,zl,zl,z0] tok (nx (sq [0,1,2,3,4] ?_)))
 refine pmr ?_
 refine nr ?_
 refine rP rfl (bT tok rfl rfl rfl (by repeat (first | exact kK.z _ | apply kK.t))) (al 4 [ze,zl,zl,z0] tok ?_)
 refine bst tok (nx (sq [0,1,2,3,4,5,6,7] ?_))
 refine rS rfl (eJ 5 tok rfl rfl rfl rfl) (pmr ?_)
 refine nr ?_
 refine fr tok ?_
 refine lr tok ?_
 obtain ⟨hq1,h0⟩ := dM h0
 refine rw1 rfl w0 rfl (fP tok hq1 rfl rfl rfl rfl rfl rfl rfl rfl rfl rfl rfl rfl (fun _ => rfl)) (fa tok ?_)
 refine rw0 rfl w0 (fQ (cs := [.own _ _ _]) tok rfl rfl rfl rfl rfl rfl rfl) (nx (sq [0,1,2,3,4,5,6,7] (rS rfl (eJ 6 tok rfl rfl rfl rfl) (pmr ?_))))
 refine nr ?_
 refine fr tok ?_
 refine lr tok ?_
 obtain ⟨hq2,h0⟩ := dM h0
 refine rw1 rfl w0 rfl (fP tok hq2 rfl rfl rfl rfl rfl rfl rfl rfl rfl rfl rfl rfl (fun _ => rfl)) (fa tok ?_)
 refine rw0 rfl w0 (fQ (cs := [.own _ _ _]) tok rfl rfl rfl rfl rfl rfl rfl) (nx (sq [0,1] (rL rfl (aU tok rfl rfl rfl rfl) (bst tok (nx (aD ?_))))))
 cases h0
 exact dJ (rs := [.cell 2 31]) [5,6] rfl
end Go.Proofs.YtgcdbbidmfdonaaGreat
