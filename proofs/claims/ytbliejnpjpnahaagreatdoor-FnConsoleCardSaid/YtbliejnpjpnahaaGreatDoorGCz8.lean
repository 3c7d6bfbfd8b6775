/- Texts of this claim, one behind the other (merged by a program of mine). -/
import Derived.Test.YtbliejnpjpnahaaGreatDoorRows
import Derived.ProofKit
import Derived.OpenShut
import Derived.ShutString
import Derived.ChangeOld
import Derived.Below
import Derived.Deep.Slices
import Derived.Test.YtbliejnpjpnahaaGreatDoorProg
import Derived.Shelf.Strings.Builder1
import Derived.Shelf.LaysM
import Derived.Shelf.LaysC
import Derived.Shelf.Lays
import Derived.Ground.NamesProg
import Derived.Shelf.Strconv.Itoa4
import Derived.Lib.AppendIntMem
import Derived.Shelf.Strings.Count
import Derived.Test.YtbliejnpjpnahaaGreatDoorGCz7
set_option linter.unusedSimpArgs false
set_option linter.unusedVariables false
namespace Go.Proofs.YtbliejnpjpnahaaGreatDoor
open Go.ChangeShapes Go.WideShapes Go.ChangeAt Go.RowKit
open Go.ChangeMaps (open_string shut_string)
set_option maxRecDepth 100000
theorem own:ownKnob Tryz.prog.godebug=none:=by kernel_rfl
theorem aY3:laidOutB Tryz.prog=true:=by kernel_rfl
end Go.Proofs.YtbliejnpjpnahaaGreatDoor
namespace Go.Proofs.YtbliejnpjpnahaaGreatDoor
open Go.ChangeShapes Go.WideShapes Go.ChangeAt Go.RowKit Go.Deep
set_option linter.unusedVariables false
set_option maxRecDepth 100000
theorem aVf {w:World} {a:Addr} {v:Value} (h:w.cell? a=some v):a.block<w.heap.size:=by
 unfold World.cell? at h
 cases hb:w.heap[a.block]? with
 | none=>simp [hb] at h
 | some b=>exact (Array.getElem?_eq_some_iff.1 hb).1
def aXc (w:World) (cs:List Value) (ds:List DV):Prop:=cs.length=ds.length ∧ ∀ (j:Nat) v x,cs[j]? = some v→ds[j]? = some x→xV w (fun b=>b<w.heap.size) v x
theorem aPd {w:World}:aXc w [] []:=⟨rfl,fun j v x h=>by simp at h⟩
theorem aKx {w:World} {v:Value} {x:DV} {cs:List Value} {ds:List DV} (h:xV w (fun b=>b<w.heap.size) v x) (k:aXc w cs ds):aXc w (v :: cs) (x :: ds):=by
 refine ⟨by simp [k.1],fun j a b h1 h2 => ?_⟩
 cases j with
 | zero=>simp at h1 h2;subst h1 h2;exact h
 | succ j=>simp at h1 h2;exact k.2 j a b h1 h2
theorem aWl {w:World} (k:IntKind) (z:Int):xV w (fun b=>b<w.heap.size) (.int k z) (.v (.int k z)) := .v _ rfl
theorem aU8 {w:World} : ∀ (i:Nat) v a,(List.toArray ([]:List Value))[i]? = some v→([]:List AV)[i]? = some a→eP w (fun b=>b<w.heap.size) (fun _ _=>none) (lks []) v a:=fun i v a h=>by simp at h
theorem aRy {w:World} {v0:Value} {a0:AV} {vs:List Value} {bs:List AV} (h:eP w (fun b=>b<w.heap.size) (fun _ _=>none) (lks []) v0 a0) (k : ∀ (i:Nat) v a,vs.toArray[i]? = some v→bs[i]? = some a→eP w (fun b=>b<w.heap.size) (fun _ _=>none) (lks []) v a) :
  ∀ (i:Nat) v a,(v0 :: vs).toArray[i]? = some v→(a0 :: bs)[i]? = some a→eP w (fun b=>b<w.heap.size) (fun _ _=>none) (lks []) v a:=fun i v a h1 h2=>by
 cases i with
 | zero=>simp at h1 h2;subst h1 h2;exact h
 | succ i =>
  simp at h1 h2
  exact k i v a (by simpa using h1) h2
section
variable {H:Type} {enc:TypeId × Value→H} {W:World} {b0:Nat} {spare:Nat→Bool} {held:Bool} {aDp:Nat} {cs:List Value} {x:DataW H × List MemPlace}
theorem bCa {P:Program} {t e:TypeId} {α:Type} [Inhabited α] {a:Value} (f:α→List DV) (ok:α→Prop) (sz:Nat) (hf : ∀ a,(f a).length=sz) (hsz:0<sz) (ht:P.underlying t=some (.slice e)) (hC:P.cellsOf e=sz)
  (rd : ∀ (aDp:Nat) (cs:List Value) (x:DataW H × List MemPlace),DataW.trod enc P W b0 spare held aDp e cs=some x → ∃ m,aXc W cs (f m)∧ok m)
  (h : ∃ n y,DataW.trod enc P W b0 spare held n t [a]=some y) :
  ∃ xs:List α,xV W (fun b=>b<W.heap.size) a (.sl (xs.map f))∧xs.length≤9223372036854775807 ∧ ∀ m ∈ xs,ok m:=by
 obtain ⟨n,y,h⟩:=h
 rcases DataW.trod_slice ht h with ⟨h0,_⟩ | ⟨ad,len,cap,elems,rest,n',_,hcs,_,hb,hl,hm,hel,hi,_,_⟩
 ·simp at h0
  subst h0
  exact ⟨[], .nil,by simp,fun m hm=>by simp at hm⟩
 ·simp at hcs
  subst hcs
  rw [hC] at hi
  obtain ⟨q,hq⟩:=choose_lt (α:=α) (n:=len) (p:=fun k q=>(∃ cs',W.cells? b0 (ad.add (k*sz)) sz=some cs'∧aXc W cs' (f q))∧ok q) (fun k hk=>by
   have h1:=hi k hk
   rw [List.getElem?_eq_getElem (by omega)] at h1
   obtain ⟨cs',hc,htr⟩:=Option.bind_eq_some_iff.1 h1
   obtain ⟨m,hm1,hm2⟩:=rd _ _ _ htr
   exact ⟨m,⟨cs',hc,hm1⟩,hm2⟩)
  have hxl:((List.range len).map q).length=len:=by simp
  refine ⟨(List.range len).map q,?_,by rw [hxl];unfold maxLen at hm;omega,fun m hm' => ?_⟩
  ·have hcell : ∀ k,k<len → ∀ j,j<sz → ∃ v,W.cell? (ad.add (k*sz+j))=some v ∧ ∀ x,(f (q k))[j]? = some x→xV W (fun b=>b<W.heap.size) v x:=by
    intro k hk j hj
    obtain ⟨⟨cs',hc,hr⟩,_⟩:=hq k hk
    obtain ⟨_,hl',hat⟩:=World.cells?_some hc
    have hjl:j<cs'.length:=by rw [hr.1,hf];exact hj
    refine ⟨cs'[j],?_,fun x hx=>hr.2 j _ x (List.getElem?_eq_getElem hjl) hx⟩
    rw [← Go.Deep.add_add, ← List.getElem?_eq_getElem hjl]
    exact hat j hj
   rcases Nat.eq_zero_or_pos len with h0 | h0
   ·subst h0
    exact .emp _ _ hm
   ·obtain ⟨v0,h00,_⟩:=hcell 0 h0 0 hsz
    obtain ⟨b,off,spot⟩:=ad
    have hspot:spot=none:=by
     have:=World.cell?_spot h00
     simpa [Addr.add] using this
    subst hspot
    have hdd:xV W (fun b=>b<W.heap.size) (.slice (some ⟨b,off,none⟩) ((List.range len).map (fun k=>f (q k))).length cap) (.sl ((List.range len).map fun k=>f (q k))):=by
     refine .sl b off cap sz _ (fun i j=>(W.cell? ⟨b,off+i*sz+j,none⟩).getD undef) ?_ (by simpa using hl) hm (fun i e he => ?_) (fun i e j x he hx => ?_) (fun i e j x he hx => ?_)
     ·have h01:=aVf h00
      simp only [Addr.add] at h01
      split at h01 <;> exact h01
     ·rw [List.getElem?_map] at he
      obtain ⟨k,_,rfl⟩:=Option.map_eq_some_iff.1 he
      exact hf _
     all_goals
      rw [List.getElem?_map] at he
      obtain ⟨k,hk,rfl⟩:=Option.map_eq_some_iff.1 he
      obtain ⟨hil,rfl⟩:=List.getElem?_eq_some_iff.1 hk
      simp only [List.length_range] at hil
      simp only [List.getElem_range] at hx
      have hjl:j<sz:=by have:=(List.getElem?_eq_some_iff.1 hx).1;rw [hf] at this;exact this
      obtain ⟨v,hv,hr⟩:=hcell i hil j hjl
      rw [add_plain, ← Nat.add_assoc] at hv
      rw [hv]
     ·rfl
     ·exact hr x hx
    simpa [List.map_map,Function.comp_def] using hdd
  ·obtain ⟨k,hk,rfl⟩:=List.mem_map.1 hm'
   exact (hq k (by simpa using hk)).2
end
end Go.Proofs.YtbliejnpjpnahaaGreatDoor
namespace Go.Proofs.YtbliejnpjpnahaaGreatDoor
open Go.ChangeShapes Go.WideShapes Go.ChangeAt Go.RowKit Go.Deep
set_option linter.unusedVariables false
set_option maxRecDepth 100000
def osI (x:Int):Prop := -9223372036854775808≤x∧x≤9223372036854775807
def bAq (x:Int):Prop:=0≤x∧x≤255
def osL {α:Type} (ok:α→Prop) (xs:List α):Prop:=xs.length≤9223372036854775807 ∧ ∀ m ∈ xs,ok m
section
variable {H:Type} {enc:TypeId × Value→H} {W:World} {b0:Nat} {spare:Nat→Bool} {held:Bool} {aDp:Nat} {cs:List Value} {x:DataW H × List MemPlace}
theorem bB9 {P:Program} {t e:TypeId} (ht:P.underlying t=some (.slice e)) (h:DataW.trod enc P W b0 spare held aDp t cs=some x) : ∃ v,cs=[v]:=by
 rcases DataW.trod_slice ht h with ⟨h0,_⟩ | ⟨ad,len,cap,elems,rest,n',_,hcs,_⟩
 ·exact ⟨_,h0⟩
 ·exact ⟨_,hcs⟩
theorem bCb {P:Program} {t e:TypeId} {α:Type} {a:Value} (f:α→List DV) (ok:α→Prop) (sz:Nat) (hf : ∀ a,(f a).length=sz) (hsz:0<sz) (ht:P.underlying t=some (.slice e)) (hC:P.cellsOf e=sz)
  (rd : ∀ (aDp:Nat) (cs:List Value) (x:DataW H × List MemPlace),DataW.trod enc P W b0 spare held aDp e cs=some x → ∃ m,aXc W cs (f m)∧ok m)
  (h : ∃ n y,DataW.trod enc P W b0 spare held n t [a]=some y) :
  ∃ xs:List α,xV W (fun b=>b<W.heap.size) a (.sl (xs.map f))∧xs.length≤9223372036854775807 ∧ ∀ m ∈ xs,ok m:=by
 by_cases hne:Nonempty α
 ·haveI:Inhabited α:=⟨Classical.choice hne⟩
  exact bCa f ok sz hf hsz ht hC rd h
 ·obtain ⟨n,y,h⟩:=h
  rcases DataW.trod_slice ht h with ⟨h0,_⟩ | ⟨ad,len,cap,elems,rest,n',_,hcs,_,hb,hl,hm,hel,hi,_,_⟩
  ·simp at h0
   subst h0
   exact ⟨[], .nil,by simp,fun m hm=>by simp at hm⟩
  ·simp at hcs
   subst hcs
   rcases Nat.eq_zero_or_pos len with h0 | h0
   ·subst h0
    exact ⟨[], .emp _ _ hm,by simp,fun m hm=>by simp at hm⟩
   ·exfalso
    have h1:=hi 0 h0
    rw [List.getElem?_eq_getElem (by omega)] at h1
    obtain ⟨cs',hc,htr⟩:=Option.bind_eq_some_iff.1 h1
    obtain ⟨m,_⟩:=rd _ _ _ htr
    exact hne ⟨m⟩
end
end Go.Proofs.YtbliejnpjpnahaaGreatDoor
namespace Go.Proofs.YtbliejnpjpnahaaGreatDoor
open Go.RowKit
set_option linter.unusedVariables false
set_option maxRecDepth 100000
set_option maxHeartbeats 2000000
end Go.Proofs.YtbliejnpjpnahaaGreatDoor
namespace Go.Proofs.YtbliejnpjpnahaaGreatDoor
open Go.ChangeShapes Go.WideShapes Go.ChangeAt Go.RowKit Go.Deep
set_option linter.unusedVariables false
set_option maxRecDepth 100000
set_option maxHeartbeats 2000000
theorem bGe {H:Type} {enc:TypeId × Value→H} {W:World} {b0:Nat} {spare:Nat→Bool} {held:Bool} {aDp:Nat} {cs:List Value} {x:DataW H × List MemPlace} (h:DataW.trod enc Tryz.prog W b0 spare held aDp 5 cs=some x) : ∃ v:Int,aXc W cs (cU8 v)∧bAq v:=by
 obtain ⟨z,rfl,_,hw⟩:=DataW.trod_int Tryz.underlying5 h
 exact ⟨z,aKx (aWl _ _) aPd,by simpa [bAq,Lit.wf,IntKind.min,IntKind.max,IntKind.bits,IntKind.signed] using hw⟩
theorem bDu {H:Type} {enc:TypeId × Value→H} {W:World} {b0:Nat} {spare:Nat→Bool} {held:Bool} {aDp:Nat} {cs:List Value} {x:DataW H × List MemPlace} (h:DataW.trod enc Tryz.prog W b0 spare held aDp 22 cs=some x) : ∃ v:List Int,aXc W cs ((cL cU8) v)∧(osL bAq) v:=by
 obtain ⟨v,hv⟩ : ∃ v,cs=[v]:=bB9 (t:=22) Tryz.underlying22 h
 subst hv
 obtain ⟨xs,hr,hm,hok⟩:=bCb cU8 bAq 1 (fun _=>rfl) (by omega) Tryz.underlying22 (by kernel_rfl) (fun aDp cs x h=>bGe h) ⟨_,_,h⟩
 exact ⟨xs,aKx hr aPd,hm,hok⟩
theorem aZf {H:Type} {enc:TypeId × Value→H} {W:World} {b0 base:Nat} {spare:Nat→Bool} {held:Bool} {v:Value} {d:DataW H} {p:List MemPlace} (hv:Value.okWide Tryz.prog W .any base 22 v) (h:DataW.Trod enc Tryz.prog W b0 spare held 22 v d p) : ∃ x:List Int,eP W (fun b=>b<W.heap.size) (fun _ _=>none) (lks []) v (.d (.sl (List.map cU8 x)))∧(osL bAq) x:=by
 obtain ⟨a,len,cap,rfl⟩:=okWide_slice Tryz.underlying22 hv
 obtain ⟨aDp,hf⟩:=h
 obtain ⟨x,hr,hok⟩:=bDu hf
 exact ⟨x, .d _ _ (hr.2 0 _ _ rfl rfl),hok⟩
end Go.Proofs.YtbliejnpjpnahaaGreatDoor
namespace Go.Proofs.YtbliejnpjpnahaaGreatDoor
open Go.RowKit
set_option linter.unusedVariables false
set_option maxRecDepth 100000
theorem ty2:iK Tryz.prog 2 ⟨.int .i64,1,8, .int .i64 0⟩:=aV (by kernel_rfl)
theorem ty3:iK Tryz.prog 3 ⟨.int .i64,1,8, .int .i64 0⟩:=aV (by kernel_rfl)
theorem ty4:iK Tryz.prog 4 ⟨.bool,1,1, .bool false⟩:=aV (by kernel_rfl)
theorem ty5:iK Tryz.prog 5 ⟨.int .u8,1,1, .int .u8 0⟩:=aV (by kernel_rfl)
theorem ty6:iK Tryz.prog 6 ⟨.int .u8,1,1, .int .u8 0⟩:=aV (by kernel_rfl)
theorem ty8 : iK Tryz.prog 8 ⟨.struct #[⟨"x",2,0,false, "", "runtime",0⟩,⟨"y",3,1,false, "", "runtime",8⟩,⟨"signed",4,2,false, "", "runtime",16⟩,⟨"code",6,3,false, "", "runtime",17⟩],4,24, .agg #[.int .i64 0, .int .i64 0, .bool false, .int .u8 0]⟩ := aV (by kernel_rfl)
theorem ty9:iK Tryz.prog 9 ⟨.string,1,16, .string ⟨#[]⟩⟩:=aV (by kernel_rfl)
theorem bGj:iK Tryz.prog 10 ⟨.string,1,16, .string ⟨#[]⟩⟩:=aV (by kernel_rfl)
theorem bGk:iK Tryz.prog 11 ⟨.string,1,16, .string ⟨#[]⟩⟩:=aV (by kernel_rfl)
theorem bGl:iK Tryz.prog 12 ⟨.int .u64,1,8, .int .u64 0⟩:=aV (by kernel_rfl)
theorem bGm : iK Tryz.prog 14 ⟨.struct #[⟨"msg",9,0,false, "", "runtime",0⟩,⟨"addr",12,1,false, "", "runtime",16⟩],2,24, .agg #[.string ⟨#[]⟩, .int .u64 0]⟩ := aV (by kernel_rfl)
theorem bGn:iK Tryz.prog 15 ⟨.pointer 381,1,8, .pointer none⟩:=aV (by kernel_rfl)
theorem bGo:iK Tryz.prog 16 ⟨.pointer 384,1,8, .pointer none⟩:=aV (by kernel_rfl)
theorem bGp:iK Tryz.prog 17 ⟨.pointer 391,1,8, .pointer none⟩:=aV (by kernel_rfl)
theorem bGq : iK Tryz.prog 19 ⟨.struct #[⟨"typ",17,0,false, "", "internal/runtime/maps",0⟩],1,8, .agg #[.pointer none]⟩ := aV (by kernel_rfl)
theorem bGr:iK Tryz.prog 21 ⟨.int .i32,1,4, .int .i32 0⟩:=aV (by kernel_rfl)
theorem bGs:iK Tryz.prog 22 ⟨.slice 5,1,24, .slice none 0 0⟩:=aV (by kernel_rfl)
theorem bGt:iK Tryz.prog 24 ⟨.slice 9,1,24, .slice none 0 0⟩:=aV (by kernel_rfl)
theorem bGu:iK Tryz.prog 26 ⟨.slice 117,1,24, .slice none 0 0⟩:=aV (by kernel_rfl)
theorem bGv:iK Tryz.prog 27 ⟨.slice 147,1,24, .slice none 0 0⟩:=aV (by kernel_rfl)
theorem bGw : iK Tryz.prog 29 ⟨.struct #[⟨"Arbors",26,0,false, "", "",0⟩,⟨"Meshes",27,1,false, "", "",24⟩],2,48, .agg #[.slice none 0 0, .slice none 0 0]⟩ := aV (by kernel_rfl)
theorem bGx:iK Tryz.prog 30 ⟨.slice 127,1,24, .slice none 0 0⟩:=aV (by kernel_rfl)
theorem bGy:iK Tryz.prog 31 ⟨.slice 129,1,24, .slice none 0 0⟩:=aV (by kernel_rfl)
theorem bGz : iK Tryz.prog 33 ⟨.struct #[⟨"Name",9,0,false, "", "",0⟩,⟨"Months",30,1,false, "", "",16⟩,⟨"Rules",31,2,false, "", "",40⟩,⟨"Week",2,3,false, "", "",64⟩],4,72, .agg #[.string ⟨#[]⟩, .slice none 0 0, .slice none 0 0, .int .i64 0]⟩ := aV (by kernel_rfl)
theorem bG0:iK Tryz.prog 34 ⟨.slice 2,1,24, .slice none 0 0⟩:=aV (by kernel_rfl)
theorem bG1 : iK Tryz.prog 36 ⟨.struct #[⟨"Name",9,0,false, "", "",0⟩,⟨"Works",29,1,false, "", "",16⟩,⟨"Minute",2,3,false, "", "",64⟩,⟨"Hour",2,4,false, "", "",72⟩,⟨"Escape",2,5,false, "", "",80⟩,⟨"Teeth",2,6,false, "", "",88⟩,⟨"Beats",2,7,false, "", "",96⟩,⟨"Calendar",33,8,false, "", "",104⟩,⟨"Cam",34,12,false, "", "",176⟩,⟨"Strike",2,13,false, "", "",200⟩],14,208, .agg #[.string ⟨#[]⟩, .slice none 0 0, .slice none 0 0, .int .i64 0, .int .i64 0, .int .i64 0, .int .i64 0, .int .i64 0, .string ⟨#[]⟩, .slice none 0 0, .slice none 0 0, .int .i64 0, .slice none 0 0, .int .i64 0]⟩ := aV (by kernel_rfl)
theorem bG2 : iK Tryz.prog 38 ⟨.struct #[⟨"Year",2,0,false, "", "",0⟩,⟨"Month",2,1,false, "", "",8⟩,⟨"Day",2,2,false, "", "",16⟩],3,24, .agg #[.int .i64 0, .int .i64 0, .int .i64 0]⟩ := aV (by kernel_rfl)
theorem bG3 : iK Tryz.prog 40 ⟨.struct #[⟨"Cam",34,0,false, "", "",0⟩,⟨"Months",2,1,false, "", "",24⟩,⟨"Teeth",2,2,false, "", "",32⟩,⟨"At",2,3,false, "", "",40⟩,⟨"Day",2,4,false, "", "",48⟩,⟨"Week",2,5,false, "", "",56⟩,⟨"Weekday",2,6,false, "", "",64⟩],7,72, .agg #[.slice none 0 0, .int .i64 0, .int .i64 0, .int .i64 0, .int .i64 0, .int .i64 0, .int .i64 0]⟩ := aV (by kernel_rfl)
theorem bG4 : iK Tryz.prog 42 ⟨.struct #[⟨"Movement",36,0,false, "", "",0⟩,⟨"Start",38,14,false, "", "",208⟩,⟨"First",2,17,false, "", "",232⟩,⟨"Clock",2,18,false, "", "",240⟩,⟨"Dial",40,19,false, "", "",248⟩],26,320, .agg #[.string ⟨#[]⟩, .slice none 0 0, .slice none 0 0, .int .i64 0, .int .i64 0, .int .i64 0, .int .i64 0, .int .i64 0, .string ⟨#[]⟩, .slice none 0 0, .slice none 0 0, .int .i64 0, .slice none 0 0, .int .i64 0, .int .i64 0, .int .i64 0, .int .i64 0, .int .i64 0, .int .i64 0, .slice none 0 0, .int .i64 0, .int .i64 0, .int .i64 0, .int .i64 0, .int .i64 0, .int .i64 0]⟩ := aV (by kernel_rfl)
theorem bG5 : iK Tryz.prog 44 ⟨.struct #[⟨"Sim",42,0,false, "", "",0⟩],26,320, .agg #[.string ⟨#[]⟩, .slice none 0 0, .slice none 0 0, .int .i64 0, .int .i64 0, .int .i64 0, .int .i64 0, .int .i64 0, .string ⟨#[]⟩, .slice none 0 0, .slice none 0 0, .int .i64 0, .slice none 0 0, .int .i64 0, .int .i64 0, .int .i64 0, .int .i64 0, .int .i64 0, .int .i64 0, .slice none 0 0, .int .i64 0, .int .i64 0, .int .i64 0, .int .i64 0, .int .i64 0, .int .i64 0]⟩ := aV (by kernel_rfl)
theorem bG6:iK Tryz.prog 52 ⟨.pointer 81,1,8, .pointer none⟩:=aV (by kernel_rfl)
theorem bG7:iK Tryz.prog 66 ⟨.pointer 42,1,8, .pointer none⟩:=aV (by kernel_rfl)
theorem bG8:iK Tryz.prog 69 ⟨.pointer 71,1,8, .pointer none⟩:=aV (by kernel_rfl)
theorem bG9 : iK Tryz.prog 71 ⟨.struct #[⟨"addr",69,0,false, "", "strings",0⟩,⟨"buf",22,1,false, "", "strings",8⟩],2,32, .agg #[.pointer none, .slice none 0 0]⟩ := aV (by kernel_rfl)
theorem bHa:iK Tryz.prog 79 ⟨.int .u64,1,8, .int .u64 0⟩:=aV (by kernel_rfl)
theorem bHb : iK Tryz.prog 81 ⟨.struct #[⟨"code",22,0,false, "", "loop.example/g00921/spec",0⟩,⟨"at",3,1,false, "", "loop.example/g00921/spec",24⟩,⟨"seed",79,2,false, "", "loop.example/g00921/spec",32⟩],3,40, .agg #[.slice none 0 0, .int .i64 0, .int .u64 0]⟩ := aV (by kernel_rfl)
theorem bHc : iK Tryz.prog 92 ⟨.struct #[⟨"Num",2,0,false, "", "",0⟩,⟨"Den",2,1,false, "", "",8⟩],2,16, .agg #[.int .i64 0, .int .i64 0]⟩ := aV (by kernel_rfl)
theorem bHd : iK Tryz.prog 94 ⟨.struct #[⟨"word",9,0,false, "", "loop.example/g00921/impl",0⟩,⟨"numbers",34,1,false, "", "loop.example/g00921/impl",16⟩,⟨"ratio",92,2,false, "", "loop.example/g00921/impl",40⟩,⟨"date",38,4,false, "", "loop.example/g00921/impl",56⟩,⟨"text",9,7,false, "", "loop.example/g00921/impl",80⟩],8,96, .agg #[.string ⟨#[]⟩, .slice none 0 0, .int .i64 0, .int .i64 0, .int .i64 0, .int .i64 0, .int .i64 0, .string ⟨#[]⟩]⟩ := aV (by kernel_rfl)
theorem bD3:iK Tryz.prog 105 ⟨.pointer 36,1,8, .pointer none⟩:=aV (by kernel_rfl)
theorem bD4:iK Tryz.prog 110 ⟨.pointer 40,1,8, .pointer none⟩:=aV (by kernel_rfl)
theorem bD5 : iK Tryz.prog 117 ⟨.struct #[⟨"Name",9,0,false, "", "",0⟩,⟨"Wheels",34,1,false, "", "",16⟩],2,40, .agg #[.string ⟨#[]⟩, .slice none 0 0]⟩ := aV (by kernel_rfl)
theorem bD6:iK Tryz.prog 123 ⟨.pointer 5,1,8, .pointer none⟩:=aV (by kernel_rfl)
theorem bD7:iK Tryz.prog 124 ⟨.int .u64,1,8, .int .u64 0⟩:=aV (by kernel_rfl)
theorem bD8 : iK Tryz.prog 127 ⟨.struct #[⟨"Name",9,0,false, "", "",0⟩,⟨"Days",2,1,false, "", "",16⟩,⟨"Leap",2,2,false, "", "",24⟩],3,32, .agg #[.string ⟨#[]⟩, .int .i64 0, .int .i64 0]⟩ := aV (by kernel_rfl)
theorem bD9 : iK Tryz.prog 129 ⟨.struct #[⟨"Every",2,0,false, "", "",0⟩,⟨"Rest",2,1,false, "", "",8⟩,⟨"Leap",4,2,false, "", "",16⟩],3,24, .agg #[.int .i64 0, .int .i64 0, .bool false]⟩ := aV (by kernel_rfl)
theorem bEa:iK Tryz.prog 137 ⟨.slice 145,1,24, .slice none 0 0⟩:=aV (by kernel_rfl)
theorem bEb : iK Tryz.prog 139 ⟨.struct #[⟨"Train",137,0,false, "", "",0⟩,⟨"Error",92,1,false, "", "",24⟩],3,40, .agg #[.slice none 0 0, .int .i64 0, .int .i64 0]⟩ := aV (by kernel_rfl)
theorem bEc : iK Tryz.prog 143 ⟨.struct #[⟨"LowDriver",2,0,false, "", "",0⟩,⟨"HighDriver",2,1,false, "", "",8⟩,⟨"LowDriven",2,2,false, "", "",16⟩,⟨"HighDriven",2,3,false, "", "",24⟩,⟨"Stages",2,4,false, "", "",32⟩],5,40, .agg #[.int .i64 0, .int .i64 0, .int .i64 0, .int .i64 0, .int .i64 0]⟩ := aV (by kernel_rfl)
theorem bEd : iK Tryz.prog 145 ⟨.struct #[⟨"Driver",2,0,false, "", "",0⟩,⟨"Driven",2,1,false, "", "",8⟩],2,16, .agg #[.int .i64 0, .int .i64 0]⟩ := aV (by kernel_rfl)
theorem bEe : iK Tryz.prog 147 ⟨.struct #[⟨"A",2,0,false, "", "",0⟩,⟨"WheelA",2,1,false, "", "",8⟩,⟨"B",2,2,false, "", "",16⟩,⟨"WheelB",2,3,false, "", "",24⟩],4,32, .agg #[.int .i64 0, .int .i64 0, .int .i64 0, .int .i64 0]⟩ := aV (by kernel_rfl)
theorem bEf:iK Tryz.prog 179 ⟨.pointer 29,1,8, .pointer none⟩:=aV (by kernel_rfl)
theorem bEg:iK Tryz.prog 182 ⟨.pointer 33,1,8, .pointer none⟩:=aV (by kernel_rfl)
theorem bEh:iK Tryz.prog 184 ⟨.slice 92,1,24, .slice none 0 0⟩:=aV (by kernel_rfl)
theorem bEi:iK Tryz.prog 218 ⟨.array 3 2,3,24, .agg #[.int .i64 0, .int .i64 0, .int .i64 0]⟩:=aV (by kernel_rfl)
theorem bEj:iK Tryz.prog 228 ⟨.slice 232,1,24, .slice none 0 0⟩:=aV (by kernel_rfl)
theorem bEk : iK Tryz.prog 232 ⟨.struct #[⟨"Year",2,0,false, "", "",0⟩,⟨"Month",2,1,false, "", "",8⟩,⟨"Shown",2,2,false, "", "",16⟩,⟨"Right",2,3,false, "", "",24⟩],4,32, .agg #[.int .i64 0, .int .i64 0, .int .i64 0, .int .i64 0]⟩ := aV (by kernel_rfl)
theorem bEl:iK Tryz.prog 246 ⟨.pointer 117,1,8, .pointer none⟩:=aV (by kernel_rfl)
theorem bEm:iK Tryz.prog 252 ⟨.slice 4,1,24, .slice none 0 0⟩:=aV (by kernel_rfl)
theorem bEn:iK Tryz.prog 273 ⟨.map 2 285,1,8, .map none⟩:=aV (by kernel_rfl)
theorem bEo : iK Tryz.prog 275 ⟨.struct #[⟨"products",34,0,false, "", "loop.example/g00921/impl",0⟩,⟨"lists",273,1,false, "", "loop.example/g00921/impl",24⟩],2,32, .agg #[.slice none 0 0, .map none]⟩ := aV (by kernel_rfl)
theorem bEp:iK Tryz.prog 277 ⟨.slice 282,1,24, .slice none 0 0⟩:=aV (by kernel_rfl)
theorem bEq : iK Tryz.prog 282 ⟨.struct #[⟨"p",2,0,false, "", "loop.example/g00921/impl",0⟩,⟨"q",2,1,false, "", "loop.example/g00921/impl",8⟩,⟨"far",2,2,false, "", "loop.example/g00921/impl",16⟩],3,24, .agg #[.int .i64 0, .int .i64 0, .int .i64 0]⟩ := aV (by kernel_rfl)
theorem bEr:iK Tryz.prog 285 ⟨.slice 34,1,24, .slice none 0 0⟩:=aV (by kernel_rfl)
theorem bEs:iK Tryz.prog 311 ⟨.array 24 5,24,24, .agg #[.int .u8 0, .int .u8 0, .int .u8 0, .int .u8 0, .int .u8 0, .int .u8 0, .int .u8 0, .int .u8 0, .int .u8 0, .int .u8 0, .int .u8 0, .int .u8 0, .int .u8 0, .int .u8 0, .int .u8 0, .int .u8 0, .int .u8 0, .int .u8 0, .int .u8 0, .int .u8 0, .int .u8 0, .int .u8 0, .int .u8 0, .int .u8 0]⟩:=aV (by kernel_rfl)
theorem bEt:iK Tryz.prog 327 ⟨.int .i64,1,8, .int .i64 0⟩:=aV (by kernel_rfl)
theorem bEu:iK Tryz.prog 330 ⟨.pointer 356,1,8, .pointer none⟩:=aV (by kernel_rfl)
theorem bEv:iK Tryz.prog 336 ⟨.int .u32,1,4, .int .u32 0⟩:=aV (by kernel_rfl)
theorem bEw:iK Tryz.prog 343 ⟨.array 20 79,20,160, .agg #[.int .u64 0, .int .u64 0, .int .u64 0, .int .u64 0, .int .u64 0, .int .u64 0, .int .u64 0, .int .u64 0, .int .u64 0, .int .u64 0, .int .u64 0, .int .u64 0, .int .u64 0, .int .u64 0, .int .u64 0, .int .u64 0, .int .u64 0, .int .u64 0, .int .u64 0, .int .u64 0]⟩:=aV (by kernel_rfl)
theorem bEx:iK Tryz.prog 344 ⟨.array 65 5,65,65, .agg #[.int .u8 0, .int .u8 0, .int .u8 0, .int .u8 0, .int .u8 0, .int .u8 0, .int .u8 0, .int .u8 0, .int .u8 0, .int .u8 0, .int .u8 0, .int .u8 0, .int .u8 0, .int .u8 0, .int .u8 0, .int .u8 0, .int .u8 0, .int .u8 0, .int .u8 0, .int .u8 0, .int .u8 0, .int .u8 0, .int .u8 0, .int .u8 0, .int .u8 0, .int .u8 0, .int .u8 0, .int .u8 0, .int .u8 0, .int .u8 0, .int .u8 0, .int .u8 0, .int .u8 0, .int .u8 0, .int .u8 0, .int .u8 0, .int .u8 0, .int .u8 0, .int .u8 0, .int .u8 0, .int .u8 0, .int .u8 0, .int .u8 0, .int .u8 0, .int .u8 0, .int .u8 0, .int .u8 0, .int .u8 0, .int .u8 0, .int .u8 0, .int .u8 0, .int .u8 0, .int .u8 0, .int .u8 0, .int .u8 0, .int .u8 0, .int .u8 0, .int .u8 0, .int .u8 0, .int .u8 0, .int .u8 0, .int .u8 0, .int .u8 0, .int .u8 0, .int .u8 0]⟩:=aV (by kernel_rfl)
theorem bEy:iK Tryz.prog 348 ⟨.array 256 5,256,256, .agg #[.int .u8 0, .int .u8 0, .int .u8 0, .int .u8 0, .int .u8 0, .int .u8 0, .int .u8 0, .int .u8 0, .int .u8 0, .int .u8 0, .int .u8 0, .int .u8 0, .int .u8 0, .int .u8 0, .int .u8 0, .int .u8 0, .int .u8 0, .int .u8 0, .int .u8 0, .int .u8 0, .int .u8 0, .int .u8 0, .int .u8 0, .int .u8 0, .int .u8 0, .int .u8 0, .int .u8 0, .int .u8 0, .int .u8 0, .int .u8 0, .int .u8 0, .int .u8 0, .int .u8 0, .int .u8 0, .int .u8 0, .int .u8 0, .int .u8 0, .int .u8 0, .int .u8 0, .int .u8 0, .int .u8 0, .int .u8 0, .int .u8 0, .int .u8 0, .int .u8 0, .int .u8 0, .int .u8 0, .int .u8 0, .int .u8 0, .int .u8 0, .int .u8 0, .int .u8 0, .int .u8 0, .int .u8 0, .int .u8 0, .int .u8 0, .int .u8 0, .int .u8 0, .int .u8 0, .int .u8 0, .int .u8 0, .int .u8 0, .int .u8 0, .int .u8 0, .int .u8 0, .int .u8 0, .int .u8 0, .int .u8 0, .int .u8 0, .int .u8 0, .int .u8 0, .int .u8 0, .int .u8 0, .int .u8 0, .int .u8 0, .int .u8 0, .int .u8 0, .int .u8 0, .int .u8 0, .int .u8 0, .int .u8 0, .int .u8 0, .int .u8 0, .int .u8 0, .int .u8 0, .int .u8 0, .int .u8 0, .int .u8 0, .int .u8 0, .int .u8 0, .int .u8 0, .int .u8 0, .int .u8 0, .int .u8 0, .int .u8 0, .int .u8 0, .int .u8 0, .int .u8 0, .int .u8 0, .int .u8 0, .int .u8 0, .int .u8 0, .int .u8 0, .int .u8 0, .int .u8 0, .int .u8 0, .int .u8 0, .int .u8 0, .int .u8 0, .int .u8 0, .int .u8 0, .int .u8 0, .int .u8 0, .int .u8 0, .int .u8 0, .int .u8 0, .int .u8 0, .int .u8 0, .int .u8 0, .int .u8 0, .int .u8 0, .int .u8 0, .int .u8 0, .int .u8 0, .int .u8 0, .int .u8 0, .int .u8 0, .int .u8 0, .int .u8 0, .int .u8 0, .int .u8 0, .int .u8 0, .int .u8 0, .int .u8 0, .int .u8 0, .int .u8 0, .int .u8 0, .int .u8 0, .int .u8 0, .int .u8 0, .int .u8 0, .int .u8 0, .int .u8 0, .int .u8 0, .int .u8 0, .int .u8 0, .int .u8 0, .int .u8 0, .int .u8 0, .int .u8 0, .int .u8 0, .int .u8 0, .int .u8 0, .int .u8 0, .int .u8 0, .int .u8 0, .int .u8 0, .int .u8 0, .int .u8 0, .int .u8 0, .int .u8 0, .int .u8 0, .int .u8 0, .int .u8 0, .int .u8 0, .int .u8 0, .int .u8 0, .int .u8 0, .int .u8 0, .int .u8 0, .int .u8 0, .int .u8 0, .int .u8 0, .int .u8 0, .int .u8 0, .int .u8 0, .int .u8 0, .int .u8 0, .int .u8 0, .int .u8 0, .int .u8 0, .int .u8 0, .int .u8 0, .int .u8 0, .int .u8 0, .int .u8 0, .int .u8 0, .int .u8 0, .int .u8 0, .int .u8 0, .int .u8 0, .int .u8 0, .int .u8 0, .int .u8 0, .int .u8 0, .int .u8 0, .int .u8 0, .int .u8 0, .int .u8 0, .int .u8 0, .int .u8 0, .int .u8 0, .int .u8 0, .int .u8 0, .int .u8 0, .int .u8 0, .int .u8 0, .int .u8 0, .int .u8 0, .int .u8 0, .int .u8 0, .int .u8 0, .int .u8 0, .int .u8 0, .int .u8 0, .int .u8 0, .int .u8 0, .int .u8 0, .int .u8 0, .int .u8 0, .int .u8 0, .int .u8 0, .int .u8 0, .int .u8 0, .int .u8 0, .int .u8 0, .int .u8 0, .int .u8 0, .int .u8 0, .int .u8 0, .int .u8 0, .int .u8 0, .int .u8 0, .int .u8 0, .int .u8 0, .int .u8 0, .int .u8 0, .int .u8 0, .int .u8 0, .int .u8 0, .int .u8 0, .int .u8 0, .int .u8 0, .int .u8 0, .int .u8 0, .int .u8 0, .int .u8 0, .int .u8 0, .int .u8 0, .int .u8 0, .int .u8 0, .int .u8 0, .int .u8 0, .int .u8 0, .int .u8 0, .int .u8 0]⟩:=aV (by kernel_rfl)
theorem bEz : iK Tryz.prog 350 ⟨.struct #[⟨"lo",5,0,false, "", "unicode/utf8",0⟩,⟨"hi",5,1,false, "", "unicode/utf8",1⟩],2,2, .agg #[.int .u8 0, .int .u8 0]⟩ := aV (by kernel_rfl)
theorem bE0:iK Tryz.prog 351 ⟨.array 16 350,32,32, .agg #[.int .u8 0, .int .u8 0, .int .u8 0, .int .u8 0, .int .u8 0, .int .u8 0, .int .u8 0, .int .u8 0, .int .u8 0, .int .u8 0, .int .u8 0, .int .u8 0, .int .u8 0, .int .u8 0, .int .u8 0, .int .u8 0, .int .u8 0, .int .u8 0, .int .u8 0, .int .u8 0, .int .u8 0, .int .u8 0, .int .u8 0, .int .u8 0, .int .u8 0, .int .u8 0, .int .u8 0, .int .u8 0, .int .u8 0, .int .u8 0, .int .u8 0, .int .u8 0]⟩:=aV (by kernel_rfl)
theorem bE1:iK Tryz.prog 353 ⟨.slice 3,1,24, .slice none 0 0⟩:=aV (by kernel_rfl)
theorem bE2 : iK Tryz.prog 356 ⟨.struct #[⟨"Func",9,0,false, "", "",0⟩,⟨"Num",9,1,false, "", "",16⟩,⟨"Err",75,2,false, "", "",32⟩],3,48, .agg #[.string ⟨#[]⟩, .string ⟨#[]⟩, .nilIface]⟩ := aV (by kernel_rfl)
theorem bE3:iK Tryz.prog 359 ⟨.int .i64,1,8, .int .i64 0⟩:=aV (by kernel_rfl)
theorem bE4:iK Tryz.prog 366 ⟨.pointer 368,1,8, .pointer none⟩:=aV (by kernel_rfl)
theorem bE5 : iK Tryz.prog 368 ⟨.struct #[⟨"s",9,0,false, "", "errors",0⟩],1,16, .agg #[.string ⟨#[]⟩]⟩ := aV (by kernel_rfl)
theorem bE6:iK Tryz.prog 369 ⟨.int .u64,1,8, .int .u64 0⟩:=aV (by kernel_rfl)
theorem bE7:iK Tryz.prog 373 ⟨.pointer 3,1,8, .pointer none⟩:=aV (by kernel_rfl)
theorem bE8:iK Tryz.prog 375 ⟨.array 32 5,32,32, .agg #[.int .u8 0, .int .u8 0, .int .u8 0, .int .u8 0, .int .u8 0, .int .u8 0, .int .u8 0, .int .u8 0, .int .u8 0, .int .u8 0, .int .u8 0, .int .u8 0, .int .u8 0, .int .u8 0, .int .u8 0, .int .u8 0, .int .u8 0, .int .u8 0, .int .u8 0, .int .u8 0, .int .u8 0, .int .u8 0, .int .u8 0, .int .u8 0, .int .u8 0, .int .u8 0, .int .u8 0, .int .u8 0, .int .u8 0, .int .u8 0, .int .u8 0, .int .u8 0]⟩:=aV (by kernel_rfl)
theorem bE9:iK Tryz.prog 376 ⟨.array 64 5,64,64, .agg #[.int .u8 0, .int .u8 0, .int .u8 0, .int .u8 0, .int .u8 0, .int .u8 0, .int .u8 0, .int .u8 0, .int .u8 0, .int .u8 0, .int .u8 0, .int .u8 0, .int .u8 0, .int .u8 0, .int .u8 0, .int .u8 0, .int .u8 0, .int .u8 0, .int .u8 0, .int .u8 0, .int .u8 0, .int .u8 0, .int .u8 0, .int .u8 0, .int .u8 0, .int .u8 0, .int .u8 0, .int .u8 0, .int .u8 0, .int .u8 0, .int .u8 0, .int .u8 0, .int .u8 0, .int .u8 0, .int .u8 0, .int .u8 0, .int .u8 0, .int .u8 0, .int .u8 0, .int .u8 0, .int .u8 0, .int .u8 0, .int .u8 0, .int .u8 0, .int .u8 0, .int .u8 0, .int .u8 0, .int .u8 0, .int .u8 0, .int .u8 0, .int .u8 0, .int .u8 0, .int .u8 0, .int .u8 0, .int .u8 0, .int .u8 0, .int .u8 0, .int .u8 0, .int .u8 0, .int .u8 0, .int .u8 0, .int .u8 0, .int .u8 0, .int .u8 0]⟩:=aV (by kernel_rfl)
theorem bFa:iK Tryz.prog 377 ⟨.pointer 369,1,8, .pointer none⟩:=aV (by kernel_rfl)
theorem bFb:iK Tryz.prog 386 ⟨.int .u8,1,1, .int .u8 0⟩:=aV (by kernel_rfl)
def tt : Tab := iN (iN (iN (iN (iN (iN (iN (iN (iN (iN (iN (iN (iN (iN (iN (iN (iN (iN (iN (iN (iN (iN (iN (iN (iN (iN (iN (iN (iN (iN (iN (iN (iN (iN (iN (iN (iN (iN (iN (iN (iN (iN (iN (iN (iN (iN (iN (iN (iN (iN (iN (iN (iN (iN (iN (iN (iN (iN (iN (iN (iN (iN (iN (iN (iN (iN (iN (iN (iN (iN (iN (iN (iN (iN (iN (iN (iN (iN (iN (iN (iN (iN (iN ((fun _ => none)) 2 ⟨.int .i64,1,8, .int .i64 0⟩) 3 ⟨.int .i64,1,8, .int .i64 0⟩) 4 ⟨.bool,1,1, .bool false⟩) 5 ⟨.int .u8,1,1, .int .u8 0⟩) 6 ⟨.int .u8,1,1, .int .u8 0⟩) 8 ⟨.struct #[⟨"x",2,0,false, "", "runtime",0⟩,⟨"y",3,1,false, "", "runtime",8⟩,⟨"signed",4,2,false, "", "runtime",16⟩,⟨"code",6,3,false, "", "runtime",17⟩],4,24, .agg #[.int .i64 0, .int .i64 0, .bool false, .int .u8 0]⟩) 9 ⟨.string,1,16, .string ⟨#[]⟩⟩) 10 ⟨.string,1,16, .string ⟨#[]⟩⟩) 11 ⟨.string,1,16, .string ⟨#[]⟩⟩) 12 ⟨.int .u64,1,8, .int .u64 0⟩) 14 ⟨.struct #[⟨"msg",9,0,false, "", "runtime",0⟩,⟨"addr",12,1,false, "", "runtime",16⟩],2,24, .agg #[.string ⟨#[]⟩, .int .u64 0]⟩) 15 ⟨.pointer 381,1,8, .pointer none⟩) 16 ⟨.pointer 384,1,8, .pointer none⟩) 17 ⟨.pointer 391,1,8, .pointer none⟩) 19 ⟨.struct #[⟨"typ",17,0,false, "", "internal/runtime/maps",0⟩],1,8, .agg #[.pointer none]⟩) 21 ⟨.int .i32,1,4, .int .i32 0⟩) 22 ⟨.slice 5,1,24, .slice none 0 0⟩) 24 ⟨.slice 9,1,24, .slice none 0 0⟩) 26 ⟨.slice 117,1,24, .slice none 0 0⟩) 27 ⟨.slice 147,1,24, .slice none 0 0⟩) 29 ⟨.struct #[⟨"Arbors",26,0,false, "", "",0⟩,⟨"Meshes",27,1,false, "", "",24⟩],2,48, .agg #[.slice none 0 0, .slice none 0 0]⟩) 30 ⟨.slice 127,1,24, .slice none 0 0⟩) 31 ⟨.slice 129,1,24, .slice none 0 0⟩) 33 ⟨.struct #[⟨"Name",9,0,false, "", "",0⟩,⟨"Months",30,1,false, "", "",16⟩,⟨"Rules",31,2,false, "", "",40⟩,⟨"Week",2,3,false, "", "",64⟩],4,72, .agg #[.string ⟨#[]⟩, .slice none 0 0, .slice none 0 0, .int .i64 0]⟩) 34 ⟨.slice 2,1,24, .slice none 0 0⟩) 36 ⟨.struct #[⟨"Name",9,0,false, "", "",0⟩,⟨"Works",29,1,false, "", "",16⟩,⟨"Minute",2,3,false, "", "",64⟩,⟨"Hour",2,4,false, "", "",72⟩,⟨"Escape",2,5,false, "", "",80⟩,⟨"Teeth",2,6,false, "", "",88⟩,⟨"Beats",2,7,false, "", "",96⟩,⟨"Calendar",33,8,false, "", "",104⟩,⟨"Cam",34,12,false, "", "",176⟩,⟨"Strike",2,13,false, "", "",200⟩],14,208, .agg #[.string ⟨#[]⟩, .slice none 0 0, .slice none 0 0, .int .i64 0, .int .i64 0, .int .i64 0, .int .i64 0, .int .i64 0, .string ⟨#[]⟩, .slice none 0 0, .slice none 0 0, .int .i64 0, .slice none 0 0, .int .i64 0]⟩) 38 ⟨.struct #[⟨"Year",2,0,false, "", "",0⟩,⟨"Month",2,1,false, "", "",8⟩,⟨"Day",2,2,false, "", "",16⟩],3,24, .agg #[.int .i64 0, .int .i64 0, .int .i64 0]⟩) 40 ⟨.struct #[⟨"Cam",34,0,false, "", "",0⟩,⟨"Months",2,1,false, "", "",24⟩,⟨"Teeth",2,2,false, "", "",32⟩,⟨"At",2,3,false, "", "",40⟩,⟨"Day",2,4,false, "", "",48⟩,⟨"Week",2,5,false, "", "",56⟩,⟨"Weekday",2,6,false, "", "",64⟩],7,72, .agg #[.slice none 0 0, .int .i64 0, .int .i64 0, .int .i64 0, .int .i64 0, .int .i64 0, .int .i64 0]⟩) 42 ⟨.struct #[⟨"Movement",36,0,false, "", "",0⟩,⟨"Start",38,14,false, "", "",208⟩,⟨"First",2,17,false, "", "",232⟩,⟨"Clock",2,18,false, "", "",240⟩,⟨"Dial",40,19,false, "", "",248⟩],26,320, .agg #[.string ⟨#[]⟩, .slice none 0 0, .slice none 0 0, .int .i64 0, .int .i64 0, .int .i64 0, .int .i64 0, .int .i64 0, .string ⟨#[]⟩, .slice none 0 0, .slice none 0 0, .int .i64 0, .slice none 0 0, .int .i64 0, .int .i64 0, .int .i64 0, .int .i64 0, .int .i64 0, .int .i64 0, .slice none 0 0, .int .i64 0, .int .i64 0, .int .i64 0, .int .i64 0, .int .i64 0, .int .i64 0]⟩) 44 ⟨.struct #[⟨"Sim",42,0,false, "", "",0⟩],26,320, .agg #[.string ⟨#[]⟩, .slice none 0 0, .slice none 0 0, .int .i64 0, .int .i64 0, .int .i64 0, .int .i64 0, .int .i64 0, .string ⟨#[]⟩, .slice none 0 0, .slice none 0 0, .int .i64 0, .slice none 0 0, .int .i64 0, .int .i64 0, .int .i64 0, .int .i64 0, .int .i64 0, .int .i64 0, .slice none 0 0, .int .i64 0, .int .i64 0, .int .i64 0, .int .i64 0, .int .i64 0, .int .i64 0]⟩) 52 ⟨.pointer 81,1,8, .pointer none⟩) 66 ⟨.pointer 42,1,8, .pointer none⟩) 69 ⟨.pointer 71,1,8, .pointer none⟩) 71 ⟨.struct #[⟨"addr",69,0,false, "", "strings",0⟩,⟨"buf",22,1,false, "", "strings",8⟩],2,32, .agg #[.pointer none, .slice none 0 0]⟩) 79 ⟨.int .u64,1,8, .int .u64 0⟩) 81 ⟨.struct #[⟨"code",22,0,false, "", "loop.example/g00921/spec",0⟩,⟨"at",3,1,false, "", "loop.example/g00921/spec",24⟩,⟨"seed",79,2,false, "", "loop.example/g00921/spec",32⟩],3,40, .agg #[.slice none 0 0, .int .i64 0, .int .u64 0]⟩) 92 ⟨.struct #[⟨"Num",2,0,false, "", "",0⟩,⟨"Den",2,1,false, "", "",8⟩],2,16, .agg #[.int .i64 0, .int .i64 0]⟩) 94 ⟨.struct #[⟨"word",9,0,false, "", "loop.example/g00921/impl",0⟩,⟨"numbers",34,1,false, "", "loop.example/g00921/impl",16⟩,⟨"ratio",92,2,false, "", "loop.example/g00921/impl",40⟩,⟨"date",38,4,false, "", "loop.example/g00921/impl",56⟩,⟨"text",9,7,false, "", "loop.example/g00921/impl",80⟩],8,96, .agg #[.string ⟨#[]⟩, .slice none 0 0, .int .i64 0, .int .i64 0, .int .i64 0, .int .i64 0, .int .i64 0, .string ⟨#[]⟩]⟩) 105 ⟨.pointer 36,1,8, .pointer none⟩) 110 ⟨.pointer 40,1,8, .pointer none⟩) 117 ⟨.struct #[⟨"Name",9,0,false, "", "",0⟩,⟨"Wheels",34,1,false, "", "",16⟩],2,40, .agg #[.string ⟨#[]⟩, .slice none 0 0]⟩) 123 ⟨.pointer 5,1,8, .pointer none⟩) 124 ⟨.int .u64,1,8, .int .u64 0⟩) 127 ⟨.struct #[⟨"Name",9,0,false, "", "",0⟩,⟨"Days",2,1,false, "", "",16⟩,⟨"Leap",2,2,false, "", "",24⟩],3,32, .agg #[.string ⟨#[]⟩, .int .i64 0, .int .i64 0]⟩) 129 ⟨.struct #[⟨"Every",2,0,false, "", "",0⟩,⟨"Rest",2,1,false, "", "",8⟩,⟨"Leap",4,2,false, "", "",16⟩],3,24, .agg #[.int .i64 0, .int .i64 0, .bool false]⟩) 137 ⟨.slice 145,1,24, .slice none 0 0⟩) 139 ⟨.struct #[⟨"Train",137,0,false, "", "",0⟩,⟨"Error",92,1,false, "", "",24⟩],3,40, .agg #[.slice none 0 0, .int .i64 0, .int .i64 0]⟩) 143 ⟨.struct #[⟨"LowDriver",2,0,false, "", "",0⟩,⟨"HighDriver",2,1,false, "", "",8⟩,⟨"LowDriven",2,2,false, "", "",16⟩,⟨"HighDriven",2,3,false, "", "",24⟩,⟨"Stages",2,4,false, "", "",32⟩],5,40, .agg #[.int .i64 0, .int .i64 0, .int .i64 0, .int .i64 0, .int .i64 0]⟩) 145 ⟨.struct #[⟨"Driver",2,0,false, "", "",0⟩,⟨"Driven",2,1,false, "", "",8⟩],2,16, .agg #[.int .i64 0, .int .i64 0]⟩) 147 ⟨.struct #[⟨"A",2,0,false, "", "",0⟩,⟨"WheelA",2,1,false, "", "",8⟩,⟨"B",2,2,false, "", "",16⟩,⟨"WheelB",2,3,false, "", "",24⟩],4,32, .agg #[.int .i64 0, .int .i64 0, .int .i64 0, .int .i64 0]⟩) 179 ⟨.pointer 29,1,8, .pointer none⟩) 182 ⟨.pointer 33,1,8, .pointer none⟩) 184 ⟨.slice 92,1,24, .slice none 0 0⟩) 218 ⟨.array 3 2,3,24, .agg #[.int .i64 0, .int .i64 0, .int .i64 0]⟩) 228 ⟨.slice 232,1,24, .slice none 0 0⟩) 232 ⟨.struct #[⟨"Year",2,0,false, "", "",0⟩,⟨"Month",2,1,false, "", "",8⟩,⟨"Shown",2,2,false, "", "",16⟩,⟨"Right",2,3,false, "", "",24⟩],4,32, .agg #[.int .i64 0, .int .i64 0, .int .i64 0, .int .i64 0]⟩) 246 ⟨.pointer 117,1,8, .pointer none⟩) 252 ⟨.slice 4,1,24, .slice none 0 0⟩) 273 ⟨.map 2 285,1,8, .map none⟩) 275 ⟨.struct #[⟨"products",34,0,false, "", "loop.example/g00921/impl",0⟩,⟨"lists",273,1,false, "", "loop.example/g00921/impl",24⟩],2,32, .agg #[.slice none 0 0, .map none]⟩) 277 ⟨.slice 282,1,24, .slice none 0 0⟩) 282 ⟨.struct #[⟨"p",2,0,false, "", "loop.example/g00921/impl",0⟩,⟨"q",2,1,false, "", "loop.example/g00921/impl",8⟩,⟨"far",2,2,false, "", "loop.example/g00921/impl",16⟩],3,24, .agg #[.int .i64 0, .int .i64 0, .int .i64 0]⟩) 285 ⟨.slice 34,1,24, .slice none 0 0⟩) 311 ⟨.array 24 5,24,24, .agg #[.int .u8 0, .int .u8 0, .int .u8 0, .int .u8 0, .int .u8 0, .int .u8 0, .int .u8 0, .int .u8 0, .int .u8 0, .int .u8 0, .int .u8 0, .int .u8 0, .int .u8 0, .int .u8 0, .int .u8 0, .int .u8 0, .int .u8 0, .int .u8 0, .int .u8 0, .int .u8 0, .int .u8 0, .int .u8 0, .int .u8 0, .int .u8 0]⟩) 327 ⟨.int .i64,1,8, .int .i64 0⟩) 330 ⟨.pointer 356,1,8, .pointer none⟩) 336 ⟨.int .u32,1,4, .int .u32 0⟩) 343 ⟨.array 20 79,20,160, .agg #[.int .u64 0, .int .u64 0, .int .u64 0, .int .u64 0, .int .u64 0, .int .u64 0, .int .u64 0, .int .u64 0, .int .u64 0, .int .u64 0, .int .u64 0, .int .u64 0, .int .u64 0, .int .u64 0, .int .u64 0, .int .u64 0, .int .u64 0, .int .u64 0, .int .u64 0, .int .u64 0]⟩) 344 ⟨.array 65 5,65,65, .agg #[.int .u8 0, .int .u8 0, .int .u8 0, .int .u8 0, .int .u8 0, .int .u8 0, .int .u8 0, .int .u8 0, .int .u8 0, .int .u8 0, .int .u8 0, .int .u8 0, .int .u8 0, .int .u8 0, .int .u8 0, .int .u8 0, .int .u8 0, .int .u8 0, .int .u8 0, .int .u8 0, .int .u8 0, .int .u8 0, .int .u8 0, .int .u8 0, .int .u8 0, .int .u8 0, .int .u8 0, .int .u8 0, .int .u8 0, .int .u8 0, .int .u8 0, .int .u8 0, .int .u8 0, .int .u8 0, .int .u8 0, .int .u8 0, .int .u8 0, .int .u8 0, .int .u8 0, .int .u8 0, .int .u8 0, .int .u8 0, .int .u8 0, .int .u8 0, .int .u8 0, .int .u8 0, .int .u8 0, .int .u8 0, .int .u8 0, .int .u8 0, .int .u8 0, .int .u8 0, .int .u8 0, .int .u8 0, .int .u8 0, .int .u8 0, .int .u8 0, .int .u8 0, .int .u8 0, .int .u8 0, .int .u8 0, .int .u8 0, .int .u8 0, .int .u8 0, .int .u8 0]⟩) 348 ⟨.array 256 5,256,256, .agg #[.int .u8 0, .int .u8 0, .int .u8 0, .int .u8 0, .int .u8 0, .int .u8 0, .int .u8 0, .int .u8 0, .int .u8 0, .int .u8 0, .int .u8 0, .int .u8 0, .int .u8 0, .int .u8 0, .int .u8 0, .int .u8 0, .int .u8 0, .int .u8 0, .int .u8 0, .int .u8 0, .int .u8 0, .int .u8 0, .int .u8 0, .int .u8 0, .int .u8 0, .int .u8 0, .int .u8 0, .int .u8 0, .int .u8 0, .int .u8 0, .int .u8 0, .int .u8 0, .int .u8 0, .int .u8 0, .int .u8 0, .int .u8 0, .int .u8 0, .int .u8 0, .int .u8 0, .int .u8 0, .int .u8 0, .int .u8 0, .int .u8 0, .int .u8 0, .int .u8 0, .int .u8 0, .int .u8 0, .int .u8 0, .int .u8 0, .int .u8 0, .int .u8 0, .int .u8 0, .int .u8 0, .int .u8 0, .int .u8 0, .int .u8 0, .int .u8 0, .int .u8 0, .int .u8 0, .int .u8 0, .int .u8 0, .int .u8 0, .int .u8 0, .int .u8 0, .int .u8 0, .int .u8 0, .int .u8 0, .int .u8 0, .int .u8 0, .int .u8 0, .int .u8 0, .int .u8 0, .int .u8 0, .int .u8 0, .int .u8 0, .int .u8 0, .int .u8 0, .int .u8 0, .int .u8 0, .int .u8 0, .int .u8 0, .int .u8 0, .int .u8 0, .int .u8 0, .int .u8 0, .int .u8 0, .int .u8 0, .int .u8 0, .int .u8 0, .int .u8 0, .int .u8 0, .int .u8 0, .int .u8 0, .int .u8 0, .int .u8 0, .int .u8 0, .int .u8 0, .int .u8 0, .int .u8 0, .int .u8 0, .int .u8 0, .int .u8 0, .int .u8 0, .int .u8 0, .int .u8 0, .int .u8 0, .int .u8 0, .int .u8 0, .int .u8 0, .int .u8 0, .int .u8 0, .int .u8 0, .int .u8 0, .int .u8 0, .int .u8 0, .int .u8 0, .int .u8 0, .int .u8 0, .int .u8 0, .int .u8 0, .int .u8 0, .int .u8 0, .int .u8 0, .int .u8 0, .int .u8 0, .int .u8 0, .int .u8 0, .int .u8 0, .int .u8 0, .int .u8 0, .int .u8 0, .int .u8 0, .int .u8 0, .int .u8 0, .int .u8 0, .int .u8 0, .int .u8 0, .int .u8 0, .int .u8 0, .int .u8 0, .int .u8 0, .int .u8 0, .int .u8 0, .int .u8 0, .int .u8 0, .int .u8 0, .int .u8 0, .int .u8 0, .int .u8 0, .int .u8 0, .int .u8 0, .int .u8 0, .int .u8 0, .int .u8 0, .int .u8 0, .int .u8 0, .int .u8 0, .int .u8 0, .int .u8 0, .int .u8 0, .int .u8 0, .int .u8 0, .int .u8 0, .int .u8 0, .int .u8 0, .int .u8 0, .int .u8 0, .int .u8 0, .int .u8 0, .int .u8 0, .int .u8 0, .int .u8 0, .int .u8 0, .int .u8 0, .int .u8 0, .int .u8 0, .int .u8 0, .int .u8 0, .int .u8 0, .int .u8 0, .int .u8 0, .int .u8 0, .int .u8 0, .int .u8 0, .int .u8 0, .int .u8 0, .int .u8 0, .int .u8 0, .int .u8 0, .int .u8 0, .int .u8 0, .int .u8 0, .int .u8 0, .int .u8 0, .int .u8 0, .int .u8 0, .int .u8 0, .int .u8 0, .int .u8 0, .int .u8 0, .int .u8 0, .int .u8 0, .int .u8 0, .int .u8 0, .int .u8 0, .int .u8 0, .int .u8 0, .int .u8 0, .int .u8 0, .int .u8 0, .int .u8 0, .int .u8 0, .int .u8 0, .int .u8 0, .int .u8 0, .int .u8 0, .int .u8 0, .int .u8 0, .int .u8 0, .int .u8 0, .int .u8 0, .int .u8 0, .int .u8 0, .int .u8 0, .int .u8 0, .int .u8 0, .int .u8 0, .int .u8 0, .int .u8 0, .int .u8 0, .int .u8 0, .int .u8 0, .int .u8 0, .int .u8 0, .int .u8 0, .int .u8 0, .int .u8 0, .int .u8 0, .int .u8 0, .int .u8 0, .int .u8 0, .int .u8 0, .int .u8 0, .int .u8 0, .int .u8 0, .int .u8 0, .int .u8 0, .int .u8 0, .int .u8 0, .int .u8 0, .int .u8 0, .int .u8 0, .int .u8 0, .int .u8 0, .int .u8 0, .int .u8 0]⟩) 350 ⟨.struct #[⟨"lo",5,0,false, "", "unicode/utf8",0⟩,⟨"hi",5,1,false, "", "unicode/utf8",1⟩],2,2, .agg #[.int .u8 0, .int .u8 0]⟩) 351 ⟨.array 16 350,32,32, .agg #[.int .u8 0, .int .u8 0, .int .u8 0, .int .u8 0, .int .u8 0, .int .u8 0, .int .u8 0, .int .u8 0, .int .u8 0, .int .u8 0, .int .u8 0, .int .u8 0, .int .u8 0, .int .u8 0, .int .u8 0, .int .u8 0, .int .u8 0, .int .u8 0, .int .u8 0, .int .u8 0, .int .u8 0, .int .u8 0, .int .u8 0, .int .u8 0, .int .u8 0, .int .u8 0, .int .u8 0, .int .u8 0, .int .u8 0, .int .u8 0, .int .u8 0, .int .u8 0]⟩) 353 ⟨.slice 3,1,24, .slice none 0 0⟩) 356 ⟨.struct #[⟨"Func",9,0,false, "", "",0⟩,⟨"Num",9,1,false, "", "",16⟩,⟨"Err",75,2,false, "", "",32⟩],3,48, .agg #[.string ⟨#[]⟩, .string ⟨#[]⟩, .nilIface]⟩) 359 ⟨.int .i64,1,8, .int .i64 0⟩) 366 ⟨.pointer 368,1,8, .pointer none⟩) 368 ⟨.struct #[⟨"s",9,0,false, "", "errors",0⟩],1,16, .agg #[.string ⟨#[]⟩]⟩) 369 ⟨.int .u64,1,8, .int .u64 0⟩) 373 ⟨.pointer 3,1,8, .pointer none⟩) 375 ⟨.array 32 5,32,32, .agg #[.int .u8 0, .int .u8 0, .int .u8 0, .int .u8 0, .int .u8 0, .int .u8 0, .int .u8 0, .int .u8 0, .int .u8 0, .int .u8 0, .int .u8 0, .int .u8 0, .int .u8 0, .int .u8 0, .int .u8 0, .int .u8 0, .int .u8 0, .int .u8 0, .int .u8 0, .int .u8 0, .int .u8 0, .int .u8 0, .int .u8 0, .int .u8 0, .int .u8 0, .int .u8 0, .int .u8 0, .int .u8 0, .int .u8 0, .int .u8 0, .int .u8 0, .int .u8 0]⟩) 376 ⟨.array 64 5,64,64, .agg #[.int .u8 0, .int .u8 0, .int .u8 0, .int .u8 0, .int .u8 0, .int .u8 0, .int .u8 0, .int .u8 0, .int .u8 0, .int .u8 0, .int .u8 0, .int .u8 0, .int .u8 0, .int .u8 0, .int .u8 0, .int .u8 0, .int .u8 0, .int .u8 0, .int .u8 0, .int .u8 0, .int .u8 0, .int .u8 0, .int .u8 0, .int .u8 0, .int .u8 0, .int .u8 0, .int .u8 0, .int .u8 0, .int .u8 0, .int .u8 0, .int .u8 0, .int .u8 0, .int .u8 0, .int .u8 0, .int .u8 0, .int .u8 0, .int .u8 0, .int .u8 0, .int .u8 0, .int .u8 0, .int .u8 0, .int .u8 0, .int .u8 0, .int .u8 0, .int .u8 0, .int .u8 0, .int .u8 0, .int .u8 0, .int .u8 0, .int .u8 0, .int .u8 0, .int .u8 0, .int .u8 0, .int .u8 0, .int .u8 0, .int .u8 0, .int .u8 0, .int .u8 0, .int .u8 0, .int .u8 0, .int .u8 0, .int .u8 0, .int .u8 0, .int .u8 0]⟩) 377 ⟨.pointer 369,1,8, .pointer none⟩) 386 ⟨.int .u8,1,1, .int .u8 0⟩
theorem tok:TOk Tryz.prog tt:=(aU (aU (aU (aU (aU (aU (aU (aU (aU (aU (aU (aU (aU (aU (aU (aU (aU (aU (aU (aU (aU (aU (aU (aU (aU (aU (aU (aU (aU (aU (aU (aU (aU (aU (aU (aU (aU (aU (aU (aU (aU (aU (aU (aU (aU (aU (aU (aU (aU (aU (aU (aU (aU (aU (aU (aU (aU (aU (aU (aU (aU (aU (aU (aU (aU (aU (aU (aU (aU (aU (aU (aU (aU (aU (aU (aU (aU (aU (aU (aU (aU (aU (aU (bAc _) ty2) ty3) ty4) ty5) ty6) ty8) ty9) bGj) bGk) bGl) bGm) bGn) bGo) bGp) bGq) bGr) bGs) bGt) bGu) bGv) bGw) bGx) bGy) bGz) bG0) bG1) bG2) bG3) bG4) bG5) bG6) bG7) bG8) bG9) bHa) bHb) bHc) bHd) bD3) bD4) bD5) bD6) bD7) bD8) bD9) bEa) bEb) bEc) bEd) bEe) bEf) bEg) bEh) bEi) bEj) bEk) bEl) bEm) bEn) bEo) bEp) bEq) bEr) bEs) bEt) bEu) bEv) bEw) bEx) bEy) bEz) bE0) bE1) bE2) bE3) bE4) bE5) bE6) bE7) bE8) bE9) bFa) bFb)
theorem follows:Tryz.prog.follows .mixedOrders=true:=by kernel_rfl
end Go.Proofs.YtbliejnpjpnahaaGreatDoor
namespace Go.Proofs.YtbliejnpjpnahaaGreatDoor
open Go.Shelf Go.RowKit
set_option linter.unusedVariables false
structure Bfr (w w':World) (e:TypeId) (p:Option Nat) (g' c:Nat) (cur:Array Value) (xs:List Value):Prop where
 os:w'.os=w.os
 tape:w'.tape=w.tape
 output:w'.output=w.output
 size:w.heap.size≤w'.heap.size
 block : ∀ k,k<w.heap.size→p≠some k→w'.heap[k]? = w.heap[k]?
 at_:p=some g'∨w.heap.size≤g'
 hp:w'.heap[g']? = some (.cells cur e (0,0))
 cs:cur.size=c
 n:xs.length≤c
 m:c≤maxLen
 tk:cur.toList.take xs.length=xs
theorem aYh {P:Program} {w:World} {t u ty e:TypeId} {i:TypeInfo} (ht:P.underlying t=some (.slice e)) (hu:P.underlying u=some .string) (hi:P.info? e=some i) (hz:i.zero=some (.int .u8 0)) (hsize:i.size=1) (hby:i.bytes=1)
  {v:Value} {xs:List Value} {s:ByteArray} (hown:w.ownsRow 0 e 1 v xs.length xs) (h0:s.size≠0) (hl:xs.length+s.size≤140737488355328) :
  ∃ w' g' c cur,(Builtin.append_ #[t,u] ty #[v, .string s]).run P w = .ok (.slice (some ⟨g',0,none⟩) (xs.length+s.size) c) w'∧Bfr w w' e v.ownBlock g' c cur (xs++Lib.strCells s):=by
 have hle:(xs++Lib.strCells s).length=xs.length+s.size:=by rw [List.length_append,Lib.strCells_length]
 have grown : ∀ (old:Nat),old<xs.length+s.size → ∀ (row:Option Nat),
   Bfr w (w.drew.alloc (.cells (xs.toArray++(Lib.strCells s).toArray++Builtin.zeroCells (Value.int .u8 0).cells (grownCap w (xs.length+s.size) old e-(xs.length+s.size))) e)) e row w.heap.size (grownCap w (xs.length+s.size) old e) (xs.toArray++(Lib.strCells s).toArray++Builtin.zeroCells (Value.int .u8 0).cells (grownCap w (xs.length+s.size) old e-(xs.length+s.size))) (xs++Lib.strCells s):=by
  intro old ho row
  have hge:=grownCap_ge w (xs.length+s.size) old e
  have hcm:grownCap w (xs.length+s.size) old e≤maxLen:=grownCap_le_maxLen w (xs.length+s.size) old e (by unfold maxLen;omega)
  refine ⟨rfl,rfl,rfl,by simp,fun k hk _=>heap_alloc_old w.drew _ hk, .inr (Nat.le_refl _),heap_alloc_new w.drew _,?_,by rw [hle];exact hge,hcm,?_⟩
  ·have hz1:(Value.int IntKind.u8 0).cells.size=1:=rfl
   simp only [Array.size_append,List.size_toArray,size_zeroCells,hz1,Lib.strCells_length]
   omega
  ·simp only [Array.toList_append,List.append_assoc]
   rw [← List.append_assoc]
   exact List.take_left
 rcases hown.2 with ⟨rfl,h1⟩ | ⟨g,cap,cur,rfl,_,hg,hnc,hcm,hcs,htake⟩
 ·have hx:xs=[]:=List.eq_nil_of_length_eq_zero h1
  subst hx
  have hr:=run_append_nil_string (P:=P) w t u ty e i (.int .u8 0) ht hu hi hz s (by omega) (by simp at hl;omega) (by rw [hby];simp at hl;omega)
  have hgr:=grown 0 (by simp;omega) (Value.ownBlock (.slice none 0 0))
  have e1:(s.data.map fun b=>Value.int .u8 b.toNat)=(Lib.strCells s).toArray:=by
   apply Array.ext'
   simp [Lib.strCells]
  rw [e1] at hr
  simp only [List.length_nil,Nat.zero_add,List.nil_append,Array.empty_append] at hgr ⊢
  exact ⟨_,_,_,_,hr,by simpa using hgr⟩
 ·by_cases hroom:xs.length+s.size≤cap
  ·have hcs':cur.size=cap:=by simpa using hcs
   have hr:=Lib.run_append_room_string (P:=P) w t u ty e i ht hu hi hsize g xs.length cap cur hg s hroom (by omega)
   refine ⟨_,g,cap,_,hr,⟨rfl,rfl,rfl,by simp,fun k _ hk=>setRow_other w g k _ (fun e=>hk (by simp [Value.ownBlock,e])), .inl rfl,setRow_heap w g cur _ e _ hg,?_,by rw [hle];exact hroom,hcm,?_⟩⟩
   ·simp only [List.size_toArray,List.length_append,List.length_take,List.length_drop,Array.length_toList,Lib.strCells_length]
    omega
   ·have ht':cur.toList.take xs.length=xs:=by simpa using htake
    rw [ht']
    exact List.take_left
  ·have holds : ∀ j u,xs[j]? = some u→w.cell? ((⟨g,0,none⟩:Addr).add j)=some u:=hown.cells (g:=g) rfl
   have hr:=Lib.run_append_grow_string (P:=P) w t u ty e i (.int .u8 0) ht hu hi hz ⟨g,0,none⟩ xs.length cap xs (by rw [hsize];simp) holds s (by omega) (by omega) (by rw [hby];exact growslice_fits (by omega) (by omega))
   exact ⟨_,_,_,_,hr,grown cap (by omega) _⟩
theorem aN7 {P:Program} {w:World} {ops:Array Oper} {rest:List Oper} {o:Oper} {a:Act} {Q:Exit→Act→World→Prop} (hgd:o.guard=none) (sl x:Operand) (t u:TypeId) (ho:o.op = .call { callee := .builtin .append,args := #[sl,x],argTypes := #[t,u] })
  (e:TypeId) (i:TypeInfo) (ht:P.underlying t=some (.slice e)) (hu:P.underlying u=some .string) (hi:P.info? e=some i) (hz:i.zero=some (.int .u8 0)) (hsize:i.size=1) (hby:i.bytes=1)
  (v:Value) (xs:List Value) (hs:a.eval sl=v) (hown:w.ownsRow 0 e 1 v xs.length xs) (s:ByteArray) (hx:a.eval x = .string s) (h0:s.size≠0) (hl:xs.length+s.size≤140737488355328)
  (h : ∀ w' g' c cur,Bfr w w' e v.ownBlock g' c cur (xs++Lib.strCells s)→wpList P ops Q rest (a.put o.dst (.slice (some ⟨g',0,none⟩) (xs.length+s.size) c)) w'):wpList P ops Q (o :: rest) a w:=by
 refine wpList_plain hgd fun K hK => ?_
 obtain ⟨w',g',c,cur,hr,hb⟩:=aYh (P:=P) (w:=w) (ty:=o.type) ht hu hi hz hsize hby hown h0 hl
 unfold Oper.wp execOp
 simp only [ho,resolve,invoke,builtin,Sem.run_bind,Sem.run_pure,Result.andThen_ok,List.map_toArray,List.map_cons,List.map_nil,hs,hx,hr]
 exact hK _ _ (h w' g' c cur hb)
section
variable {P:Program} {ρ:Go.Shelf.Ren}
structure bCk (w w':World) (b:Nat) (o:Obj):Prop where
 os:w'.os=w.os
 tape:w'.tape=w.tape
 output:w'.output=w.output
 size:w'.heap.size=w.heap.size
 block : ∀ k,k≠b→w'.heap[k]? = w.heap[k]?
 here:w'.heap[b]? = some o
theorem aR4 {w:World} {b j:Nat} {cs:Array Value} {T:TypeId} {fr:Nat × Nat} (hb:w.heap[b]? = some (.cells cs T fr)) (v:Value):bCk w (w.setCell ⟨b,j,none⟩ v) b (.cells (cs.setIfInBounds j v) T fr):=by
 refine ⟨rfl,rfl,rfl,by simp [World.setCell],fun k hk=>Below.heap_setCell _ _ _ _ (fun e=>hk (by simp [e])),?_⟩
 simp [World.setCell,Array.getElem?_modify,hb]
structure aRr (P:Program) (T:TypeId):Prop where
 cells:P.cellsOf T=2
 lies : ∀ c,1≤c→liesAt P P.depth T c 0 T 1=true
theorem uP {w:World} {b:Nat} {cs:Array Value} {T:TypeId} {fr:Nat × Nat} (hb:w.heap[b]? = some (.cells cs T fr)) (j:Nat):w.cell? ⟨b,j,none⟩=cs[j]? := Lib.cell_of_heap hb j
set_option maxHeartbeats 1000000 in
set_option maxRecDepth 100000 in
theorem aVe (L:Lays.n240 P ρ) (X:Builder.X72 P ρ) (Y:aRr P (ρ.t 72)) (b m:Nat) (w:World) (hm:2≤m) (h0:w.cell? ⟨b,0,none⟩=some (.pointer none)) (hsh:w.shape? b=some ((ρ.t 72),m)) (hfz:w.frozen? ⟨b,0,none⟩=false) :
  Calls P (ρ.f 240) #[.pointer (some ⟨b,0,none⟩)] w fun e w'=>e = .returned (.tuple #[])∧w'=w.setCell ⟨b,0,none⟩ (.pointer (some ⟨b,0,none⟩)):=by
 obtain ⟨j,hj,hjs⟩:=Option.map_eq_some_iff.1 X.sizeBuilder
 have hl:liesAt P P.depth (ρ.t 72) (m / P.cellsOf (ρ.t 72)) 0 (ρ.t 72) 1=true:=Y.lies _ (by rw [Y.cells];omega)
 have mixed:=L.mixed
 have t72:=L.t72;have a72:=L.a72;have z72:=L.z72;have v72:=L.v72;have u72:=run_underlying L.t72
 have t70:=L.t70;have a70:=L.a70;have z70:=L.z70;have v70:=L.v70;have u70:=run_underlying L.t70
 have t9:=L.t9;have a9:=L.a9;have z9:=L.z9;have v9:=L.v9;have u9:=run_underlying L.t9
 have t4:=L.t4;have a4:=L.a4;have z4:=L.z4;have v4:=L.v4;have u4:=run_underlying L.t4
 have t164:=L.t164;have a164:=L.a164;have z164:=L.z164;have v164:=L.v164;have u164:=run_underlying L.t164
 go_enter L.f240,Body.n240_ntmps ρ
 go_wp2
 rw [Lib.run_to_unsafe w ⟨b,0,none⟩ L.t70 L.t164 hj (by rw [hjs];decide) hsh (show 0<m by omega)]
 simp only [Result.andThen]
 rw [Oper.upon_value]
 go_wp2
 rw [run_callFunc_extern L.f276 (by kernel_rfl) (by kernel_rfl) (by kernel_rfl) (e:=Extern.AbiNoEscape.same) (by kernel_rfl)]
 rw [Lib.run_noEscape]
 simp only [Result.andThen]
 rw [Oper.upon_value]
 go_wp2
 rw [Lib.run_from_unsafe w ⟨b,0,none⟩ L.t164 L.t70 hj hsh hl]
 simp only [Result.andThen]
 rw [Oper.upon_value]
 go_wp2
 go_end0
 exact ⟨rfl,rfl⟩
theorem bA2 (L:Lays.n240 P ρ) (X:Builder.X72 P ρ) (Y:aRr P (ρ.t 72)) (b:Nat) (p v:Value) (cur:Array Value) (w:World) (hbk:w.heap[b]? = some (.cells cur (ρ.t 72) (0,0))) (h0:cur[0]? = some p) (h1:cur[1]? = some v) (hp:p = .pointer none∨p = .pointer (some ⟨b,0,none⟩)) :
  Calls P (ρ.f 240) #[.pointer (some ⟨b,0,none⟩)] w fun e w'=>e = .returned (.tuple #[])∧bCk w w' b (.cells (cur.setIfInBounds 0 (.pointer (some ⟨b,0,none⟩))) (ρ.t 72) (0,0)):=by
 have hs:2≤cur.size:=(Array.getElem?_eq_some_iff.1 h1).1
 rcases hp with rfl | rfl
 ·refine (aVe L X Y b cur.size w hs (by rw [uP hbk];exact h0) (by simp [World.shape?,hbk]) (Lib.frozen_of_heap hbk 0)).mono ?_
  rintro e w' ⟨rfl,rfl⟩
  exact ⟨rfl,aR4 hbk _⟩
 ·refine (Any.Builder_copyCheck_used L X b w (by rw [uP hbk];exact h0)).mono ?_
  rintro e w' ⟨rfl,rfl⟩
  refine ⟨rfl,rfl,rfl,rfl,rfl,fun _ _=>rfl,?_⟩
  rw [hbk]
  congr 2
  apply Array.ext
  ·simp
  ·intro i h2 h3
   rw [Array.getElem_setIfInBounds (by omega)]
   split
   ·next e=>subst e;have:=(Array.getElem?_eq_some_iff.1 h0).2;exact this
   ·rfl
set_option maxHeartbeats 2000000 in
set_option maxRecDepth 100000 in
theorem bCj (L:Lays.n166 P ρ) (X:Builder.Extra P ρ) (Y:aRr P (ρ.t 72)) (b:Nat) (p v:Value) (cur:Array Value) (xs:List Value) (s:ByteArray) (w:World) (hbk:w.heap[b]? = some (.cells cur (ρ.t 72) (0,0))) (hc0:cur[0]? = some p) (hc1:cur[1]? = some v) (hp:p = .pointer none∨p = .pointer (some ⟨b,0,none⟩)) (hown:w.ownsRow 0 (ρ.t 5) 1 v xs.length xs) (h0:s.size≠0) (hl:xs.length+s.size≤140737488355328) :
  Calls P (ρ.f 166) #[.pointer (some ⟨b,0,none⟩), .string s] w fun e w'=>e = .returned (.tuple #[.int .i64 s.size, .nilIface]) ∧ ∃ w1 w2 g' c cur',bCk w w1 b (.cells (cur.setIfInBounds 0 (.pointer (some ⟨b,0,none⟩))) (ρ.t 72) (0,0))∧Bfr w1 w2 (ρ.t 5) v.ownBlock g' c cur' (xs++Lib.strCells s)∧bCk w2 w' b (.cells ((cur.setIfInBounds 0 (.pointer (some ⟨b,0,none⟩))).setIfInBounds 1 (.slice (some ⟨g',0,none⟩) (xs.length+s.size) c)) (ρ.t 72) (0,0)):=by
 obtain ⟨i0,hi,hz0,hz1,hz2⟩:=info_parts X.infoByte
 have hne:=Lib.ownBlock_ne hown hbk X.neB5
 have hs:2≤cur.size:=(Array.getElem?_eq_some_iff.1 hc1).1
 have mixed:=L.mixed
 have t72:=L.t72;have a72:=L.a72;have z72:=L.z72;have v72:=L.v72;have u72:=run_underlying L.t72
 have t70:=L.t70;have a70:=L.a70;have z70:=L.z70;have v70:=L.v70;have u70:=run_underlying L.t70
 have t37:=L.t37;have a37:=L.a37;have z37:=L.z37;have v37:=L.v37;have u37:=run_underlying L.t37
 have t3:=L.t3;have a3:=L.a3;have z3:=L.z3;have v3:=L.v3;have u3:=run_underlying L.t3
 have t9:=L.t9;have a9:=L.a9;have z9:=L.z9;have v9:=L.v9;have u9:=run_underlying L.t9
 have t4:=L.t4;have a4:=L.a4;have z4:=L.z4;have v4:=L.v4;have u4:=run_underlying L.t4
 have t164:=L.t164;have a164:=L.a164;have z164:=L.z164;have v164:=L.v164;have u164:=run_underlying L.t164
 have t5:=X.t5;have a5:=X.a5;have z5:=X.z5;have v5:=X.v5;have u5:=run_underlying X.t5
 have e240 : ∀ args w,(callFunc (ρ.f 240) args).run P w = .ok (.enter (ρ.f 240) args) w:=enters_of L.f240 (by kernel_rfl) rfl
 go_enter L.f166,Body.n166_ntmps ρ
 go_wp2_with (go_at_fn (ρ.f 240);refine (bA2 { L with } X.toX72 Y b p v cur _ hbk hc0 hc1 hp).mono ?_)
 rintro e w1 ⟨rfl,hb1⟩
 have hown1:w1.ownsRow 0 (ρ.t 5) 1 v xs.length xs:=hown.kept (row:=some b) ⟨hb1.os,hb1.tape,hb1.output,Nat.le_of_eq hb1.size.symm,fun k _ hk=>hb1.block k fun e=>hk (by rw [e])⟩ (.inr hne)
 have hbk1:=hb1.here
 have c0:w1.cell? ⟨b,0,none⟩=some (.pointer (some ⟨b,0,none⟩)):=by rw [uP hbk1,Array.getElem?_setIfInBounds_self_of_lt (by omega)]
 have c1:w1.cell? ⟨b,1,none⟩=some v:=by rw [uP hbk1,Array.getElem?_setIfInBounds_ne (by decide)];exact hc1
 go_wp2_with (at_builtin;refine aN7 rfl _ _ (ρ.t 37) (ρ.t 9) rfl (ρ.t 5) i0 L.t37 L.t9 hi hz0 hz1 hz2 v xs rfl hown1 s rfl h0 hl ?_)
 intro w2 g' c cur' hgrow
 have hlt:b<w1.heap.size:=(Array.getElem?_eq_some_iff.1 hbk1).1
 have hb2:w2.heap[b]? = some (.cells (cur.setIfInBounds 0 (.pointer (some ⟨b,0,none⟩))) (ρ.t 72) (0,0)):=by
  rw [hgrow.block b hlt hne]
  exact hbk1
 have d0:w2.cell? ⟨b,0,none⟩=some (.pointer (some ⟨b,0,none⟩)):=by rw [uP hb2,Array.getElem?_setIfInBounds_self_of_lt (by omega)]
 have d1:w2.cell? ⟨b,1,none⟩=some v:=by rw [uP hb2,Array.getElem?_setIfInBounds_ne (by decide)];exact hc1
 have f1:w2.frozen? ⟨b,1,none⟩=false:=Lib.frozen_of_heap hb2 1
 go_wp2
 go_ret2
 exact ⟨rfl,w1,w2,g',c,cur',hb1,hgrow,aR4 hb2 _⟩
structure Sfr (w w':World) (p:Option Nat):Prop where
 os:w'.os=w.os
 tape:w'.tape=w.tape
 output:w'.output=w.output
 size:w.heap.size≤w'.heap.size
 block : ∀ k,k<w.heap.size→p≠some k→w'.heap[k]? = w.heap[k]?
theorem aPj {w:World} {p:Option Nat}:Sfr w w.drew p:=⟨rfl,rfl,rfl,Nat.le_refl _,fun _ _ _=>rfl⟩
theorem aRg {w:World} {g n:Nat}:Sfr w (w.drew.freeze ⟨g,0,none⟩ n) (some g):=by
 have hb:=Lib.below_freeze (B:=0) (Below.drew (Below.refl 0 w)) (p:=⟨g,0,none⟩) (Nat.zero_le _) n
 refine ⟨hb.os,hb.tape,hb.output,hb.size,fun k hk hne => ?_⟩
 unfold World.freeze
 split
 ·rfl
 ·simp only [Array.getElem?_modify]
  rw [if_neg fun e=>hne (by rw [e])]
  rfl
set_option maxHeartbeats 1000000 in
set_option maxRecDepth 100000 in
theorem aW5 (L:Lays.n169 P ρ) (X:Builder.Extra P ρ) (b:Nat) (v:Value) (cb:Array Value) (l:List UInt8) (w:World) (hbk:w.heap[b]? = some (.cells cb (ρ.t 72) (0,0))) (hc1:cb[1]? = some v) (hown:w.ownsRow 0 (ρ.t 5) 1 v l.length (Lib.byteCells l)) (h0:l≠[]) :
  Calls P (ρ.f 169) #[.pointer (some ⟨b,0,none⟩)] w fun e w'=>e = .returned (.string ⟨l.toArray⟩)∧Sfr w w' v.ownBlock:=by
 have hl0:l.length≠0:=by simpa using h0
 obtain ⟨g,cap,cur,rfl,hbg,hg,hnc,hcm,hcs,htake⟩ : ∃ g cap cur,v = .slice (some ⟨g,0,none⟩) l.length cap∧0≤g∧w.heap[g]? = some (.cells cur (ρ.t 5) (0,0))∧l.length≤cap∧cap≤maxLen∧cur.size=cap*1∧cur.toList.take (l.length*1)=Lib.byteCells l:=by
  rcases hown.2 with ⟨_,hz⟩ | ⟨g,cap,cur,hv,r⟩
  ·exact absurd hz hl0
  ·exact ⟨g,cap,cur,hv,r⟩
 have c1:w.drew.cell? ⟨b,1,none⟩=some (.slice (some ⟨g,0,none⟩) l.length cap):=by
  have:w.drew.heap[b]? = some (.cells cb (ρ.t 72) (0,0)):=hbk
  rw [uP this];exact hc1
 have hSD:(Builtin.unsafeSliceData_ #[(ρ.t 37)] (ρ.t 127) #[.slice (some ⟨g,0,none⟩) l.length cap]).run P w.drew = .ok (.pointer (some ⟨g,0,none⟩)) w.drew :=
  Lib.run_unsafeSliceData_row _ _ _ _ _ _ (by omega)
 have hUS:(Builtin.unsafeString_ #[(ρ.t 127),(ρ.t 3)] (ρ.t 9) #[.pointer (some ⟨g,0,none⟩), .int .i64 l.length]).run P w.drew = .ok (.string ⟨l.toArray⟩) (w.drew.freeze ⟨g,0,none⟩ l.length):=by
  refine Lib.run_unsafeString_row w.drew (ρ.t 127) (ρ.t 3) (ρ.t 9) (ρ.t 5) L.t127 X.cellsByte g cur.size (by have hg':w.drew.heap[g]? = some (.cells cur (ρ.t 5) (0,0)):=hg;simp [World.shape?,hg']) l h0 (by omega) (by unfold maxLen at hcm;omega) ?_
  intro j x hx
  exact hown.cells (g:=g) rfl j (.int .u8 x.toNat) (by simp [Lib.byteCells,hx])
 have mixed:=L.mixed
 have t72:=L.t72;have a72:=L.a72;have z72:=L.z72;have v72:=L.v72;have u72:=run_underlying L.t72
 have t70:=L.t70;have a70:=L.a70;have z70:=L.z70;have v70:=L.v70;have u70:=run_underlying L.t70
 have t37:=L.t37;have a37:=L.a37;have z37:=L.z37;have v37:=L.v37;have u37:=run_underlying L.t37
 have t127:=L.t127;have a127:=L.a127;have z127:=L.z127;have v127:=L.v127;have u127:=run_underlying L.t127
 have t3:=L.t3;have a3:=L.a3;have z3:=L.z3;have v3:=L.v3;have u3:=run_underlying L.t3
 have t9:=L.t9;have a9:=L.a9;have z9:=L.z9;have v9:=L.v9;have u9:=run_underlying L.t9
 have t5:=X.t5;have a5:=X.a5;have z5:=X.z5;have v5:=X.v5;have u5:=run_underlying X.t5
 go_enter L.f169,Body.n169_ntmps ρ
 go_wp2
 go_region_o
 all_goals (go_wp2;go_ret;exact ⟨rfl,aRg⟩)
set_option maxHeartbeats 2000000 in
set_option maxRecDepth 100000 in
theorem aW4 (L:Lays.n169 P ρ) (X:Builder.Extra P ρ) (b:Nat) (v:Value) (cb:Array Value) (w:World) (hbk:w.heap[b]? = some (.cells cb (ρ.t 72) (0,0))) (hc1:cb[1]? = some v) (hown:w.ownsRow 0 (ρ.t 5) 1 v 0 []) :
  Calls P (ρ.f 169) #[.pointer (some ⟨b,0,none⟩)] w fun e w'=>e = .returned (.string ⟨#[]⟩)∧Sfr w w' v.ownBlock:=by
 have hUS:=Any.unsafeString_none L X
 have hlt:b<w.heap.size:=(Array.getElem?_eq_some_iff.1 hbk).1
 have c1:w.drew.cell? ⟨b,1,none⟩=some v:=by
  have:w.drew.heap[b]? = some (.cells cb (ρ.t 72) (0,0)):=hbk
  rw [uP this];exact hc1
 rcases hown.2 with ⟨rfl,_⟩ | ⟨g,cap,cur,rfl,_,hg,_,_,_,_⟩
 ·have hSD:(Builtin.unsafeSliceData_ #[(ρ.t 37)] (ρ.t 127) #[.slice none 0 0]).run P w.drew = .ok (.pointer none) w.drew:=rfl
  have mixed:=L.mixed
  have t72:=L.t72;have a72:=L.a72;have z72:=L.z72;have v72:=L.v72;have u72:=run_underlying L.t72
  have t70:=L.t70;have a70:=L.a70;have z70:=L.z70;have v70:=L.v70;have u70:=run_underlying L.t70
  have t37:=L.t37;have a37:=L.a37;have z37:=L.z37;have v37:=L.v37;have u37:=run_underlying L.t37
  have t127:=L.t127;have a127:=L.a127;have z127:=L.z127;have v127:=L.v127;have u127:=run_underlying L.t127
  have t3:=L.t3;have a3:=L.a3;have z3:=L.z3;have v3:=L.v3;have u3:=run_underlying L.t3
  have t9:=L.t9;have a9:=L.a9;have z9:=L.z9;have v9:=L.v9;have u9:=run_underlying L.t9
  have t5:=X.t5;have a5:=X.a5;have z5:=X.z5;have v5:=X.v5;have u5:=run_underlying X.t5
  go_enter L.f169,Body.n169_ntmps ρ
  go_wp2
  go_region_o
  all_goals (go_wp2;go_ret;exact ⟨rfl,aPj⟩)
 ·by_cases hc0:cap=0
  ·subst hc0
   have hSD:(Builtin.unsafeSliceData_ #[(ρ.t 37)] (ρ.t 127) #[.slice (some ⟨g,0,none⟩) 0 0]).run P w.drew = .ok (.pointer (some ⟨w.drew.heap.size,0,none⟩)) (w.drew.alloc (.view ⟨g,0,none⟩ (ρ.t 5))) :=
    Lib.run_unsafeSliceData_zero w.drew _ _ (ρ.t 5) L.t127 ⟨g,0,none⟩ 0 ((ρ.t 5),cur.size) (by have hg':w.drew.heap[g]? = some (.cells cur (ρ.t 5) (0,0)):=hg;simp [World.shape?,hg'])
   have c2:(w.drew.alloc (.view ⟨g,0,none⟩ (ρ.t 5))).cell? ⟨b,1,none⟩=some (.slice (some ⟨g,0,none⟩) 0 0):=by
    have:(w.drew.alloc (.view ⟨g,0,none⟩ (ρ.t 5))).heap[b]? = _:=(Lib.alloc_old w.drew _ b hlt).trans hbk
    rw [uP this];exact hc1
   have c3:(w.alloc (.view ⟨g,0,none⟩ (ρ.t 5))).drew.cell? ⟨b,1,none⟩=some (.slice (some ⟨g,0,none⟩) 0 0):=c2
   have c0:w.cell? ⟨b,1,none⟩=some (.slice (some ⟨g,0,none⟩) 0 0):=c1
   have mixed:=L.mixed
   have t72:=L.t72;have a72:=L.a72;have z72:=L.z72;have v72:=L.v72;have u72:=run_underlying L.t72
   have t70:=L.t70;have a70:=L.a70;have z70:=L.z70;have v70:=L.v70;have u70:=run_underlying L.t70
   have t37:=L.t37;have a37:=L.a37;have z37:=L.z37;have v37:=L.v37;have u37:=run_underlying L.t37
   have t127:=L.t127;have a127:=L.a127;have z127:=L.z127;have v127:=L.v127;have u127:=run_underlying L.t127
   have t3:=L.t3;have a3:=L.a3;have z3:=L.z3;have v3:=L.v3;have u3:=run_underlying L.t3
   have t9:=L.t9;have a9:=L.a9;have z9:=L.z9;have v9:=L.v9;have u9:=run_underlying L.t9
   have t5:=X.t5;have a5:=X.a5;have z5:=X.z5;have v5:=X.v5;have u5:=run_underlying X.t5
   go_enter L.f169,Body.n169_ntmps ρ
   go_wp2
   go_region_o
   all_goals (go_wp2;go_ret;exact ⟨rfl,rfl,rfl,rfl,by simp,fun k hk _=>Lib.alloc_old w.drew _ k hk⟩)
  ·have hSD:(Builtin.unsafeSliceData_ #[(ρ.t 37)] (ρ.t 127) #[.slice (some ⟨g,0,none⟩) 0 cap]).run P w.drew = .ok (.pointer (some ⟨g,0,none⟩)) w.drew :=
    Lib.run_unsafeSliceData_row _ _ _ _ _ _ hc0
   clear hc0
   have mixed:=L.mixed
   have t72:=L.t72;have a72:=L.a72;have z72:=L.z72;have v72:=L.v72;have u72:=run_underlying L.t72
   have t70:=L.t70;have a70:=L.a70;have z70:=L.z70;have v70:=L.v70;have u70:=run_underlying L.t70
   have t37:=L.t37;have a37:=L.a37;have z37:=L.z37;have v37:=L.v37;have u37:=run_underlying L.t37
   have t127:=L.t127;have a127:=L.a127;have z127:=L.z127;have v127:=L.v127;have u127:=run_underlying L.t127
   have t3:=L.t3;have a3:=L.a3;have z3:=L.z3;have v3:=L.v3;have u3:=run_underlying L.t3
   have t9:=L.t9;have a9:=L.a9;have z9:=L.z9;have v9:=L.v9;have u9:=run_underlying L.t9
   have t5:=X.t5;have a5:=X.a5;have z5:=X.z5;have v5:=X.v5;have u5:=run_underlying X.t5
   go_enter L.f169,Body.n169_ntmps ρ
   go_wp2
   go_region_o
   all_goals (go_wp2;go_ret;exact ⟨rfl,aPj⟩)
end
end Go.Proofs.YtbliejnpjpnahaaGreatDoor
namespace Go.Proofs.YtbliejnpjpnahaaGreatDoor
open Go.Shelf Go.RowKit
set_option linter.unusedVariables false
set_option maxRecDepth 100000
theorem aOe {s:ByteArray}:(bU s).length=s.size:=by unfold bU;rw [List.length_map];rfl
theorem aXi {s:ByteArray} {i:Nat} {e:List DV} (h:(bU s)[i]? = some e) : ∃ u,(Lib.strCells s)[i]? = some u∧e=[.v u]∧u.oneCell'=true:=by
 unfold bU at h
 rw [List.getElem?_map] at h
 obtain ⟨b,hb,rfl⟩:=Option.map_eq_some_iff.1 h
 exact ⟨_,by unfold Lib.strCells;rw [List.getElem?_map,hb];rfl,rfl,rfl⟩
section
variable {P:Program} {T:Tab} {L N:Nat} {ops:Array Oper} {E:Env} {t:Nat→AV} {h h':dG} {dst:Option Tmp} {ty:TypeId} {pos:String} {aft:Array Edge} {g:Option (Nat × Bool)} {x:Operand}
theorem iA.alloc2 {F:Nat→Prop} {μ:bJ} {w:World} (H:iA E F μ h w) (k:Nat) (hk:h k = .no) (bt te:TypeId) (cs:Array Value) (hc0:cs[0]? = some (.pointer none)) (hc1:cs[1]? = some (.slice none 0 0)) :
  iA E F (uH (uH μ k 0 (some w.heap.size)) k 1 none) (upd h k (yG bt te k ⟨#[]⟩)) (w.alloc (.cells cs bt))∧Evo w F μ h (w.alloc (.cells cs bt)) F (uH (uH μ k 0 (some w.heap.size)) k 1 none) (upd h k (yG bt te k ⟨#[]⟩)):=by
 have hold : ∀ b,b<w.heap.size→(w.alloc (.cells cs bt)).heap[b]? = w.heap[b]? := fun b hb=>Below.heap_alloc w _ b hb
 have hl : ∀ f o',lv (upd h k (yG bt te k ⟨#[]⟩)) k f=some o'→(f=0∧o'=⟨bt,2, .av [[.d (.v (.pointer none)), .own k 1 0]]⟩)∨(f=1∧o'=⟨te,1, .data []⟩):=fun f o' ho=>by
  unfold yG at ho
  rw [cO] at ho
  match f with
  | 0=>simp at ho;exact .inl ⟨rfl,ho.symm⟩
  | 1=>simp at ho;exact .inr ⟨rfl,ho.symm⟩
  | f+2=>simp at ho
 have bk:upd h k (yG bt te k ⟨#[]⟩) k ≠ .no:=by rw [bR];intro e;cases e
 have hne : ∀ {k' f'},k'≠k→uH (uH μ k 0 (some w.heap.size)) k 1 none k' f'=μ k' f':=fun e=>by
  rw [jY _ _ (fun ⟨e',_⟩=>e e'),jY _ _ (fun ⟨e',_⟩=>e e')]
 have m0:uH (uH μ k 0 (some w.heap.size)) k 1 none k 0=some w.heap.size:=by rw [jY _ _ (by simp),cE]
 have m1:uH (uH μ k 0 (some w.heap.size)) k 1 none k 1=none:=cE _ _ _ _
 have V:Evo w F μ h (w.alloc (.cells cs bt)) F (uH (uH μ k 0 (some w.heap.size)) k 1 none) (upd h k (yG bt te k ⟨#[]⟩)):=by
  refine ⟨fun b hb=>hold b (H.fz b hb),fun _ hb=>hb,fun k' hb => ?_,fun k' f o' hb ho' => ?_⟩
  ·by_cases e:k'=k
   ·rw [e] at hb;exact absurd hk hb
   ·rw [dE _ _ e];exact hb
  ·have e:k'≠k:=fun e=>by rw [e] at hb;exact hb hk
   rw [eJ _ _ _ e] at ho'
   refine ⟨o',ho', .inr ⟨rfl,rfl,hne e,fun b cur hm hc=>⟨cur,?_,rfl⟩⟩⟩
   rw [hold b (H.lt ho' hm)];exact hc
 have real : ∀ {k' f' o' b},lv (upd h k (yG bt te k ⟨#[]⟩)) k' f'=some o'→uH (uH μ k 0 (some w.heap.size)) k 1 none k' f'=some b→(k'=k∧f'=0∧b=w.heap.size)∨(k'≠k∧lv h k' f'=some o'∧μ k' f'=some b):=fun {k' f' o' b} hlv hm=>by
  by_cases e:k'=k
  ·subst e
   rcases hl _ _ hlv with ⟨rfl,rfl⟩ | ⟨rfl,rfl⟩
   ·rw [m0] at hm;injection hm with hm;exact .inl ⟨rfl,rfl,hm.symm⟩
   ·rw [m1] at hm;cases hm
  ·rw [eJ _ _ _ e] at hlv
   rw [hne e] at hm
   exact .inr ⟨e,hlv,hm⟩
 refine ⟨⟨fun k' f' o' hlv => ?_,fun k1 f1 o1 k2 f2 o2 b h1 h2 n1 n2 => ?_,fun k' f' o' b hlv hm => ?_,fun k' f' o' b hlv hm => ?_,fun b hb => ?_,H.fsrc,(H.ev.trans V),H.os,H.tape,H.output,?_,fun b h1 h2 => ?_⟩,V⟩
 ·by_cases e:k'=k
  ·subst e
   rcases hl _ _ hlv with ⟨rfl,rfl⟩ | ⟨rfl,rfl⟩
   ·rw [m0]
    refine .inr ⟨_,cs,rfl,Go.heap_alloc_new w _,fun i cells hi => ?_⟩
    match i with
    | i+1=>simp [aX.get] at hi
    | 0 =>
     simp [aX.get] at hi
     subst hi
     refine ⟨rfl,fun j c hj => ?_⟩
     match j with
     | 0=>simp at hj;subst hj;exact ⟨_,hc0, .d _ _ (.v _ rfl)⟩
     | 1 =>
      simp at hj;subst hj
      refine ⟨_,hc1, .own _ _ _ _ rfl bk fun o ho => ?_⟩
      rcases hl _ _ ho with ⟨e,_⟩ | ⟨_,rfl⟩
      ·cases e
      ·exact ⟨Nat.zero_le _,fun _ => .inl ⟨m1,rfl,rfl⟩⟩
     | j+2=>simp at hj
   ·rw [m1];exact .inl ⟨rfl,rfl⟩
  ·rw [eJ _ _ _ e] at hlv
   rw [hne e]
   exact (H.ob k' f' o' hlv).evo V fun b hm=>hold b (H.lt hlv hm)
 ·rcases real h1 n1 with ⟨rfl,rfl,rfl⟩ | ⟨e1,l1,q1⟩
  ·rcases real h2 n2 with ⟨rfl,rfl,_⟩ | ⟨e2,l2,q2⟩
   ·exact ⟨rfl,rfl⟩
   ·have:=H.lt l2 q2;omega
  ·rcases real h2 n2 with ⟨rfl,rfl,rfl⟩ | ⟨e2,l2,q2⟩
   ·have:=H.lt l1 q1;omega
   ·exact H.inj _ _ _ _ _ _ b l1 l2 q1 q2
 ·rcases real hlv hm with ⟨rfl,rfl,rfl⟩ | ⟨e,l,n⟩
  ·intro hb
   have:=H.fz _ hb
   omega
  ·exact H.sep _ _ _ b l n
 ·rcases real hlv hm with ⟨rfl,rfl,rfl⟩ | ⟨e,l,n⟩
  ·exact .inr H.size
  ·exact H.src _ _ _ b l n
 ·have:=H.fz b hb
  simp;omega
 ·have:=H.size
  simp;omega
 ·rw [hold b (by have:=H.size;omega)]
  exact H.keep b h1 h2
theorem aX9 (k:Nat) (te:TypeId) (hT:TOk P T) {d:Tmp} {bt:TypeId} {ti:TI} (h1:T bt=some ti) (hc:ti.zero.cells = #[.pointer none, .slice none 0 0]) (hk:h k = .no) :
  cQ P N ⟨some d, .alloc bt,ty,pos,aft,g⟩ ⟨t,h⟩ (.ptr k 0 1 0 0) (upd h k (yG bt te k ⟨#[]⟩)) ∧ ∀ k',h k' ≠ .no→upd h k (yG bt te k ⟨#[]⟩) k'=h k':=by
 refine ⟨fun E F μ w ρ H st => ?_,wO hk⟩
 have e:(execOp ρ ⟨some d, .alloc bt,ty,pos,aft,g⟩).run P w = .ok (.value (.pointer (some ⟨w.heap.size,0,none⟩))) (w.alloc (.cells ti.zero.cells bt)):=by
  simp [execOp,Instr.alloc,aI1 hT h1,newVar,newRow]
 rw [e]
 obtain ⟨H',V⟩:=H.alloc2 k hk bt te ti.zero.cells (by rw [hc];rfl) (by rw [hc];rfl)
 refine ⟨F,_,H',V, .ptr _ _ _ _ _ _ rfl (by rw [bR];intro e;cases e) fun o ho => ?_⟩
 unfold yG at ho
 rw [cO] at ho
 simp at ho
 subst ho
 exact ⟨Nat.le_refl _,fun _=>⟨_,by rw [jY _ _ (by simp),cE],by simp⟩⟩
theorem aOv (hT:TOk P T) {d:Tmp} {at_ e bt:TypeId} {y:Operand} {kk:IntKind} {iv:Int} {k n sz j:Nat} {cells:List AV} {ti ei:TI} (hq:0≤iv∧iv<n) (hx:evA N ⟨t,h⟩ x = .ptr k 0 1 0 j) (hy:evA N ⟨t,h⟩ y = .d (.v (.int kk iv))) (h1:T at_=some ti) (h2:ti.desc = .array n e) (h3:T e=some ei) (h4:ei.size=1) (hk:h k = .live [⟨bt,sz, .av [cells]⟩]) :
  jJ P N ⟨some d, .indexAddr at_ x y,ty,pos,aft,g⟩ ⟨t,h⟩ (.ptr k 0 1 0 (j+iv.toNat)) :=
 vL (x:=x) (k:=k) (f:=0) (ob:=⟨bt,sz, .av [cells]⟩) (by simp [Op.operands]) (by rw [hx];rfl) (qG hk) (fun z hz k' hk'=>by
  simp [Op.operands] at hz
  rcases hz with rfl | rfl
  ·rw [hx] at hk';simpa [AV.key] using hk'.symm
  ·rw [hy] at hk';cases hk') fun E F μ hh w ρ H st hl=>by
  have hr:=st x (by simp [Op.operands])
  have hr2:=gU (by have:=st y (by simp [Op.operands]);rw [hy] at this;exact this)
  rw [hx] at hr
  obtain ⟨b,cur,hv,hm,hb,hlen,hcs⟩:=aCu H hr hl rfl rfl
  have hu:=(hT _ _ h1).1
  rw [h2] at hu
  refine ⟨.pointer (some ⟨b,0*sz+j+iv.toNat,none⟩),?_, .ptr _ _ _ _ _ _ rfl (aMt hl) fun o' ho' => ?_⟩
  ·simp only [execOp,Instr.indexAt,hv,hr2]
   simp [Sem.run_bind,run_underlying hu,asIntOf,fV hT h3,h4,oW,Instr.sureAddr,hq.1,hq.2]
  ·rw [hl] at ho'
   injection ho' with ho'
   subst ho'
   exact ⟨Nat.le_refl _,fun _=>⟨b,hm,by rw [Nat.add_assoc]⟩⟩
abbrev bCo (a:Int × Int × Int):List AV:=[.d (.v (.int .i64 a.1)), .d (.v (.int .i64 a.2.1)), .d (.v (.int .i64 a.2.2))]
theorem aZ6 (hT:TOk P T) {bt bt':TypeId} {y:Operand} {k sz:Nat} {iv v:Int} {a:Int × Int × Int} {ti:TI} (hq:0≤iv∧iv<(3:Nat)) (hx:evA N ⟨t,h⟩ x = .ptr k 0 1 0 (0+iv.toNat)) (hy:evA N ⟨t,h⟩ y = .d (.v (.int .i64 v))) (h1:T bt=some ti) (h4:ti.size=1) (hk:h k = .live [⟨bt',sz, .av [bCo a]⟩]) :
  cQ P N ⟨dst, .store bt x y,ty,pos,aft,g⟩ ⟨t,h⟩ .dead (upd h k (.live [⟨bt',sz, .av [bCo (bDs iv.toNat v a)]⟩])):=by
 have hs:Spl iv.toNat [.d (.v (.int .i64 v))] (bCo a) (bCo (bDs iv.toNat v a)):=by
  have hlt:iv.toNat<3:=by omega
  match iv.toNat,hlt with
  | 0,_=>repeat (first | exact Spl.z _ | apply Spl.t | apply Spl.d)
  | 1,_=>repeat (first | exact Spl.z _ | apply Spl.t | apply Spl.d)
  | 2,_=>repeat (first | exact Spl.z _ | apply Spl.t | apply Spl.d)
 rw [Nat.zero_add] at hx
 exact aR8 hT hx (cs:=[.d (.v (.int .i64 v))]) (by rw [hy];rfl) rfl h1 (by rw [h4];rfl) (by rw [h4];rfl) hk hs
theorem aR3 {h:dG} {k:Nat} {tb te:TypeId} {s:ByteArray} (hk:h k=yG tb te k s):lv h k 0=some ⟨tb,2, .av [[bP k s, .own k 1 s.size]]⟩∧lv h k 1=some ⟨te,1, .data (bU s)⟩:=by
 unfold yG at hk
 exact ⟨iX hk 0,iX hk 1⟩
theorem aXj {F:Nat→Prop} {μ:bJ} {w:World} (H:iA E F μ h w) {k:Nat} {tb te:TypeId} {s:ByteArray} (hk:h k=yG tb te k s) :
  ∃ b cur p v, μ k 0=some b∧w.heap[b]? = some (.cells cur tb (0,0))∧cur[0]? = some p∧cur[1]? = some v∧(p = .pointer none∨p = .pointer (some ⟨b,0,none⟩))∧eP w F μ h v (.own k 1 s.size)∧v.ownBlock=μ k 1∧w.ownsRow 0 te 1 v (Lib.strCells s).length (Lib.strCells s):=by
 obtain ⟨l0,l1⟩:=aR3 hk
 rcases H.ob k 0 _ l0 with ⟨_,q⟩ | ⟨b,cur,m0,hb,q⟩
 ·simp [aX.len] at q
 obtain ⟨_,q⟩:=q 0 _ rfl
 obtain ⟨p,hp,rp⟩:=q 0 _ rfl
 obtain ⟨v,hv,rv⟩:=q 1 _ rfl
 simp at hp hv
 refine ⟨b,cur,p,v,m0,hb,hp,hv,?_,rv,?_⟩
 ·unfold bP at rp
  cases e:Nat.beq s.size 0 with
  | true=>rw [e] at rp;exact .inl (gU rp)
  | false =>
   rw [e] at rp
   cases rp with | ptr _ _ _ _ _ _ _ _ hv' =>
   obtain ⟨b',e1,e2⟩:=(hv' _ l0).2 rfl
   rw [m0] at e1
   injection e1 with e1
   subst e1
   exact .inr (by rw [e2];simp)
 ·cases rv with | own _ _ _ _ _ _ hv' =>
  have hlen:(aX.data (bU s)).len=s.size:=by simp [aX.len,aOe]
  have hcl:(Lib.strCells s).length=s.size:=Lib.strCells_length s
  rcases (hv' _ l1).2 hlen with ⟨a1,a2,rfl⟩ | ⟨g,c,cur1,a1,rfl,a3,a4,a5,a6⟩
  ·refine ⟨a1.symm,?_⟩
   have:Lib.strCells s=[]:=List.eq_nil_of_length_eq_zero (by rw [hcl];exact a2)
   rw [this]
   exact World.ownsRow_nil w 0 te 1
  ·refine ⟨a1.symm,by simp, .inr ⟨g,c,cur1,by rw [hcl],Nat.zero_le _,a3,by rw [hcl];exact a5,a6,a4,?_⟩⟩
   rcases H.ob k 1 _ l1 with ⟨q1,_⟩ | ⟨g',cur',q1,q2,q3⟩
   ·rw [a1] at q1;cases q1
   rw [a1] at q1;injection q1 with q1;subst q1
   rw [a3] at q2;injection q2 with q2;injection q2 with q2;subst q2
   rw [Nat.mul_one]
   apply List.ext_getElem?
   intro j
   by_cases hj:j<s.size
   ·rw [List.getElem?_take_of_lt (by rw [hcl];exact hj),Array.getElem?_toList]
    obtain ⟨e,he⟩ : ∃ e,(bU s)[j]? = some e:=⟨_,List.getElem?_eq_getElem (by rw [aOe];exact hj)⟩
    obtain ⟨u,hu,rfl,_⟩:=aXi he
    obtain ⟨_,q4⟩:=q3 j [.d (.v u)] (by simp [aX.get,he])
    obtain ⟨z,hz,rz⟩:=q4 0 _ rfl
    have:=gU rz
    subst this
    rw [hu]
    simpa using hz
   ·rw [List.getElem?_take_eq_none (by rw [hcl];omega),List.getElem?_eq_none (by rw [hcl];omega)]
section
variable {ρ:Go.Shelf.Ren}
theorem bFd (L1:Lays.n166 P ρ) (X:Builder.Extra P ρ) (Y:aRr P (ρ.t 72)) (hc:aF2 P (ρ.f 166)=true) {k:Nat} {acc s:ByteArray} {args:Array Operand} {at_:Array TypeId} (hq:s.size≠0∧acc.size+s.size≤140737488355328) (hx:evA N ⟨t,h⟩ x = .fn (ρ.f 166) []) (ha:evL N ⟨t,h⟩ args.toList++[]=[.ptr k 0 1 0 0, .d (.v (.string s))]) (hk:h k=yG (ρ.t 72) (ρ.t 5) k acc) :
  cQ P N ⟨dst, .call ⟨.value x,args,at_⟩,ty,pos,aft,g⟩ ⟨t,h⟩ (.tup [.d (.v (.int .i64 s.size)), .d (.v .nilIface)]) (upd h k (yG (ρ.t 72) (ρ.t 5) k (acc++s))):=fun E F μ w σ H st=>by
 obtain ⟨cap,c1,c2,c3⟩:=zW st hx
 rw [aAb hc c1]
 rw [ha] at c2 c3
 generalize args.map σ++cap=vs at c2 c3
 obtain ⟨a0,a1,rfl⟩ : ∃ a0 a1,vs = #[a0,a1]:=by
  obtain ⟨l⟩:=vs
  match l,c2 with
  | [a,b],_=>exact ⟨a,b,rfl⟩
 have r0:=c3 0 a0 _ rfl rfl
 have r1:=gU (c3 1 a1 _ rfl rfl)
 subst r1
 obtain ⟨l0,l1⟩:=aR3 hk
 obtain ⟨b,cur,p,v,m0,hb,hp0,hv1,hp,hvr,hvo,hown⟩:=aXj H hk
 cases r0 with | ptr _ _ _ _ _ _ _ _ hv' =>
 obtain ⟨b',e1,rfl⟩:=(hv' _ l0).2 rfl
 rw [m0] at e1
 injection e1 with e1
 subst e1
 have hcl:(Lib.strCells acc).length=acc.size:=Lib.strCells_length acc
 have hsl:(Lib.strCells acc++Lib.strCells s).length=acc.size+s.size:=by rw [List.length_append,hcl,Lib.strCells_length]
 refine (bCj L1 X Y b p v cur (Lib.strCells acc) s w hb hp0 hv1 hp hown hq.1 (by rw [hcl];exact hq.2)).mono ?_
 rintro e w' ⟨rfl,w1,w2,g',c,cur',B1,A,B2⟩
 rw [hcl] at B2
 have hcs2:2≤cur.size:=(Array.getElem?_eq_some_iff.1 hv1).1
 have hbs:b<w.heap.size:=(Array.getElem?_eq_some_iff.1 hb).1
 have happ:(acc++s).size=acc.size+s.size:=ByteArray.size_append
 have hcat:Lib.strCells (acc++s)=Lib.strCells acc++Lib.strCells s:=by simp [Lib.strCells]
 have hkl:h k = .live [⟨ρ.t 72,2, .av [[bP k acc, .own k 1 acc.size]]⟩,⟨ρ.t 5,1, .data (bU acc)⟩]:=hk
 have bk0:h k ≠ .no:=by rw [hkl];intro e;cases e
 -- the address is written
 obtain ⟨H1,V1⟩:=H.put (w':=w1) hkl (f:=0) rfl (o':=⟨ρ.t 72,2, .av [[.ptr k 0 1 0 0, .own k 1 acc.size]]⟩) b (cur.setIfInBounds 0 (.pointer (some ⟨b,0,none⟩))) (Nat.le_of_eq B1.size.symm) B1.os B1.tape B1.output
  (fun b2 _ hne=>B1.block b2 fun e=>hne (by rw [m0,e])) (.inl m0) (by rw [B1.size];exact hbs) B1.here
  (.inr ⟨rfl,rfl,rfl,m0,fun cur2 h2=>by rw [hb] at h2;injection h2 with h2;injection h2 with h2;rw [← h2];simp⟩) (fun i cells hi=>by
   match i with
   | i+1=>simp [aX.get] at hi
   | 0 =>
    simp [aX.get] at hi
    subst hi
    refine ⟨rfl,fun j c hj => ?_⟩
    match j with
    | 0 =>
     simp at hj;subst hj
     exact ⟨_,by simp;exact Array.getElem?_setIfInBounds_self_of_lt (by omega), .ptr _ _ _ _ _ _ rfl bk0 fun o ho=>by rw [l0] at ho;injection ho with ho;subst ho;exact ⟨Nat.le_refl _,fun _=>⟨b,m0,by simp⟩⟩⟩
    | 1 =>
     simp at hj;subst hj
     exact ⟨v,(Array.getElem?_setIfInBounds_ne (by simp)).trans hv1,hvr⟩
    | j+2=>simp at hj)
 simp only [List.set_cons_zero] at H1 V1
 generalize hμ1:uH μ k 0 (some b)=μ1 at H1 V1
 have n0:μ1 k 0=some b:=by rw [← hμ1,cE]
 have n1:μ1 k 1=μ k 1:=by rw [← hμ1];exact jY _ _ (by simp)
 have hk1:upd h k (.live [⟨ρ.t 72,2, .av [[.ptr k 0 1 0 0, .own k 1 acc.size]]⟩,⟨ρ.t 5,1, .data (bU acc)⟩]) k = .live [⟨ρ.t 72,2, .av [[.ptr k 0 1 0 0, .own k 1 acc.size]]⟩,⟨ρ.t 5,1, .data (bU acc)⟩]:=bR _ _ _
 have glt:g'<w2.heap.size:=(Array.getElem?_eq_some_iff.1 A.hp).1
 -- the bytes are appended
 obtain ⟨H2,V2⟩:=H1.put (w':=w2) hk1 (f:=1) rfl (o':=⟨ρ.t 5,1, .data (bU (acc++s))⟩) g' cur' A.size A.os A.tape A.output
  (fun b2 h2 hne=>A.block b2 h2 (by rw [hvo, ← n1];exact hne)) (by rw [n1, ← hvo];exact A.at_) glt A.hp
  (.inl (by simp only [aX.len,aOe,happ];omega)) (fun i cells hi=>by
   simp only [aX.get,Option.map_eq_some_iff] at hi
   obtain ⟨e,he,rfl⟩:=hi
   obtain ⟨u,hu,rfl,hone⟩:=aXi he
   refine ⟨rfl,fun j cc hj => ?_⟩
   match j with
   | 0 =>
    simp at hj;subst hj
    refine ⟨u,?_, .d _ _ (.v _ hone)⟩
    have hi':i<(Lib.strCells acc++Lib.strCells s).length:=by rw [← hcat];exact (List.getElem?_eq_some_iff.1 hu).1
    have:=congrArg (·[i]?) A.tk
    simp only [List.getElem?_take_of_lt hi',Array.getElem?_toList] at this
    rw [hcat] at hu
    simpa [hu] using this
   | j+1=>simp at hj)
 simp only [List.set_cons_succ,List.set_cons_zero] at H2 V2
 rw [aN5] at H2 V2
 generalize hμ2:uH μ1 k 1 (some g')=μ2 at H2 V2
 have q0:μ2 k 0=some b:=by rw [← hμ2,jY _ _ (by simp)];exact n0
 have q1:μ2 k 1=some g':=by rw [← hμ2,cE]
 have hk2:upd h k (.live [⟨ρ.t 72,2, .av [[.ptr k 0 1 0 0, .own k 1 acc.size]]⟩,⟨ρ.t 5,1, .data (bU (acc++s))⟩]) k = .live [⟨ρ.t 72,2, .av [[.ptr k 0 1 0 0, .own k 1 acc.size]]⟩,⟨ρ.t 5,1, .data (bU (acc++s))⟩]:=bR _ _ _
 have bk2:upd h k (.live [⟨ρ.t 72,2, .av [[.ptr k 0 1 0 0, .own k 1 acc.size]]⟩,⟨ρ.t 5,1, .data (bU (acc++s))⟩]) k ≠ .no:=by rw [hk2];intro e;cases e
 have hb2:w2.heap[b]? = some (.cells (cur.setIfInBounds 0 (.pointer (some ⟨b,0,none⟩))) (ρ.t 72) (0,0)):=by
  rw [A.block b (by rw [B1.size];exact hbs) (Lib.ownBlock_ne hown hb X.neB5)]
  exact B1.here
 have hb2s:b<w2.heap.size:=(Array.getElem?_eq_some_iff.1 hb2).1
 -- the new handle is written
 obtain ⟨H3,V3⟩:=H2.put (w':=w') hk2 (f:=0) rfl (o':=⟨ρ.t 72,2, .av [[.ptr k 0 1 0 0, .own k 1 (acc++s).size]]⟩) b _ (Nat.le_of_eq B2.size.symm) B2.os B2.tape B2.output
  (fun b2 _ hne=>B2.block b2 fun e=>hne (by rw [q0,e])) (.inl q0) (by rw [B2.size];exact hb2s) B2.here
  (.inr ⟨rfl,rfl,rfl,q0,fun cur2 h2=>by rw [hb2] at h2;injection h2 with h2;injection h2 with h2;rw [← h2];simp⟩) (fun i cells hi=>by
   match i with
   | i+1=>simp [aX.get] at hi
   | 0 =>
    simp [aX.get] at hi
    subst hi
    refine ⟨rfl,fun j cc hj => ?_⟩
    match j with
    | 0 =>
     simp at hj;subst hj
     exact ⟨.pointer (some ⟨b,0,none⟩),(Array.getElem?_setIfInBounds_ne (by simp)).trans (Array.getElem?_setIfInBounds_self_of_lt (by omega)), .ptr _ _ _ _ _ _ rfl bk2 fun o ho=>by rw [iX hk2] at ho;simp at ho;subst ho;exact ⟨Nat.le_refl _,fun _=>⟨b,q0,by simp⟩⟩⟩
    | 1 =>
     simp at hj;subst hj
     refine ⟨_,by simp;exact Array.getElem?_setIfInBounds_self_of_lt (by simp;omega), .own _ _ _ _ rfl bk2 fun o ho => ?_⟩
     rw [iX hk2] at ho
     simp at ho
     subst ho
     refine ⟨by simp [aX.len,aOe],fun _ => .inr ⟨g',c,cur',q1,rfl,A.hp,by rw [A.cs,Nat.mul_one],?_,A.m⟩⟩
     have:=A.n
     rw [hsl] at this
     omega
    | j+2=>simp at hj)
 simp only [List.set_cons_zero] at H3 V3
 rw [aN5] at H3 V3
 have hfin:yG (ρ.t 72) (ρ.t 5) k (acc++s) = .live [⟨ρ.t 72,2, .av [[.ptr k 0 1 0 0, .own k 1 (acc++s).size]]⟩,⟨ρ.t 5,1, .data (bU (acc++s))⟩]:=by
  have:Nat.beq (acc++s).size 0=false:=by rw [happ];cases hh:Nat.beq (acc.size+s.size) 0 with | false=>rfl | true=>have:=Nat.eq_of_beq_eq_true hh;omega
  unfold yG bP
  rw [this]
  rfl
 rw [hfin]
 refine ⟨_,rfl,F,_,H3,V1.trans (V2.trans V3), .tup _ _ rfl fun i v a h1 h2 => ?_⟩
 match i with
 | 0=>simp at h1 h2;subst h1 h2;exact .d _ _ (.v _ rfl)
 | 1=>simp at h1 h2;subst h1 h2;exact .d _ _ (.v _ rfl)
 | i+2=>simp at h2
theorem bCi (L1:Lays.n169 P ρ) (X:Builder.Extra P ρ) (hc:aF2 P (ρ.f 169)=true) {k:Nat} {acc:ByteArray} {args:Array Operand} {at_:Array TypeId} (hx:evA N ⟨t,h⟩ x = .fn (ρ.f 169) []) (ha:evL N ⟨t,h⟩ args.toList++[]=[.ptr k 0 1 0 0]) (hk:h k=yG (ρ.t 72) (ρ.t 5) k acc) :
  cQ P N ⟨dst, .call ⟨.value x,args,at_⟩,ty,pos,aft,g⟩ ⟨t,h⟩ (.d (.v (.string acc))) (upd h k .dead):=fun E F μ w σ H st=>by
 obtain ⟨cap,c1,c2,c3⟩:=zW st hx
 rw [aAb hc c1]
 rw [ha] at c2 c3
 generalize args.map σ++cap=vs at c2 c3
 obtain ⟨a0,rfl⟩ : ∃ a0,vs = #[a0]:=by
  obtain ⟨l⟩:=vs
  match l,c2 with
  | [a],_=>exact ⟨a,rfl⟩
 have r0:=c3 0 a0 _ rfl rfl
 obtain ⟨l0,l1⟩:=aR3 hk
 obtain ⟨b,cur,p,v,m0,hb,hp0,hv1,hp,hvr,hvo,hown⟩:=aXj H hk
 cases r0 with | ptr _ _ _ _ _ _ _ _ hv' =>
 obtain ⟨b',e1,rfl⟩:=(hv' _ l0).2 rfl
 rw [m0] at e1
 injection e1 with e1
 subst e1
 have hcall:Calls P (ρ.f 169) #[.pointer (some ⟨b,0,none⟩)] w fun e w'=>e = .returned (.string acc)∧Sfr w w' v.ownBlock:=by
  by_cases h0:acc.data.toList=[]
  ·have e0:acc=⟨#[]⟩:=by
    obtain ⟨⟨l⟩⟩:=acc
    simp at h0
    subst h0
    rfl
   subst e0
   exact aW4 L1 X b v cur w hb hv1 hown
  ·have e1:Lib.byteCells acc.data.toList=Lib.strCells acc:=rfl
   have e2:(Lib.strCells acc).length=acc.data.toList.length:=by simp [Lib.strCells]
   rw [e2, ← e1] at hown
   refine (aW5 L1 X b v cur acc.data.toList w hb hv1 hown h0).mono ?_
   rintro e w' ⟨rfl,hs⟩
   exact ⟨rfl,hs⟩
 refine hcall.mono ?_
 rintro e w' ⟨rfl,S⟩
 rw [hvo] at S
 obtain ⟨H1,V1⟩:=H.drop k (show h k ≠ .no by rw [hk];unfold yG;intro e;cases e)
 have notF : ∀ b2,F b2→μ k 1≠some b2:=fun b2 hF hm=>H.sep _ _ _ b2 l1 hm hF
 have keepF : ∀ b2,F b2→w'.heap[b2]? = w.heap[b2]? := fun b2 hF=>S.block b2 (H.fz b2 hF) (notF b2 hF)
 have other : ∀ {p f o b2},lv (upd h k .dead) p f=some o→μ p f=some b2→w'.heap[b2]? = w.heap[b2]? := fun {p f o b2} hl hm=>by
  have e:p≠k:=fun e=>by subst e;simp [lv,bR] at hl
  rw [eJ _ _ _ e] at hl
  exact S.block b2 (H.lt hl hm) fun hm2=>e (H.inj _ _ _ _ _ _ b2 hl l1 hm hm2).1
 have V2:Evo w F μ (upd h k .dead) w' F μ (upd h k .dead):=⟨keepF,fun _ hb=>hb,fun _ hb=>hb,fun p f o' _ ho'=>⟨o',ho', .inr ⟨rfl,rfl,rfl,fun b2 cur hm hc=>⟨cur,(other ho' hm).trans hc,rfl⟩⟩⟩⟩
 refine ⟨_,rfl,F, μ,⟨fun p f o hl=>(H1.ob p f o hl).evo V2 fun b2 hm=>other hl hm,H1.inj,H1.sep,H1.src,fun b2 hb2=>Nat.lt_of_lt_of_le (H1.fz b2 hb2) S.size,H1.fsrc,H1.ev.trans V2,S.os.trans H1.os,S.tape.trans H1.tape,S.output.trans H1.output,Nat.le_trans H1.size S.size,fun b2 h1 h2 => ?_⟩,V1.trans V2, .d _ _ (.v _ rfl)⟩
 rw [← H1.keep b2 h1 h2]
 refine S.block b2 (Nat.lt_of_lt_of_le h1 H1.size) fun hm => ?_
 rcases H.src _ _ _ b2 l1 hm with q | q
 ·exact h2 q
 ·omega
end
end
end Go.Proofs.YtbliejnpjpnahaaGreatDoor
namespace Go.Proofs
open Go.Shelf
def Tryz.layLaysMn173_ren:Go.Shelf.Ren:=⟨fun | 173=>107 | 246=>179 | 283=>238 | 284=>239 | 285=>240 | 286=>241 | 129=>274 | 317=>273 | 318=>275 | 319=>276 | 320=>277 | 337=>297 | 338=>298 | n=>n,fun | 2=>2 | 3=>3 | 9=>9 | 4=>4 | 171=>311 | 0=>0 | 53=>79 | 37=>22 | 5=>5 | 173=>314 | 212=>343 | 51=>336 | 20=>20 | 213=>344 | 46=>124 | 232=>375 | 233=>376 | n=>n,fun | 17=>1 | 18=>6 | 19=>7 | n=>n⟩
theorem Tryz.layLaysMn173:Go.Proofs.LaysM.n173 Tryz.prog Tryz.layLaysMn173_ren:={
 mixed:=by kernel_rfl
 f129:=Tryz.func274.trans (congrArg some (by kernel_rfl))
 f173:=Tryz.func107.trans (congrArg some (by kernel_rfl))
 f246:=Tryz.func179.trans (congrArg some (by kernel_rfl))
 f283:=Tryz.func238.trans (congrArg some (by kernel_rfl))
 f284:=Tryz.func239.trans (congrArg some (by kernel_rfl))
 f285:=Tryz.func240.trans (congrArg some (by kernel_rfl))
 f286:=Tryz.func241.trans (congrArg some (by kernel_rfl))
 f317:=Tryz.func273.trans (congrArg some (by kernel_rfl))
 f318:=Tryz.func275.trans (congrArg some (by kernel_rfl))
 f319:=Tryz.func276.trans (congrArg some (by kernel_rfl))
 f320:=Tryz.func277.trans (congrArg some (by kernel_rfl))
 f337:=Tryz.func297.trans (congrArg some (by kernel_rfl))
 f338:=Tryz.func298.trans (congrArg some (by kernel_rfl))
 t0:=Tryz.underlying0
 a0:=Tryz.isAgg0
 z0:=Tryz.sizeOf0
 v0:=Tryz.zeroValue0
 t2:=Tryz.underlying2
 a2:=Tryz.isAgg2
 z2:=Tryz.sizeOf2
 v2:=Tryz.zeroValue2
 t3:=Tryz.underlying3
 a3:=Tryz.isAgg3
 z3:=Tryz.sizeOf3
 v3:=Tryz.zeroValue3
 t4:=Tryz.underlying4
 a4:=Tryz.isAgg4
 z4:=Tryz.sizeOf4
 v4:=Tryz.zeroValue4
 t5:=Tryz.underlying5
 a5:=Tryz.isAgg5
 z5:=Tryz.sizeOf5
 v5:=Tryz.zeroValue5
 t9:=Tryz.underlying9
 a9:=Tryz.isAgg9
 z9:=Tryz.sizeOf9
 v9:=Tryz.zeroValue9
 t20:=Tryz.underlying20
 a20:=Tryz.isAgg20
 z20:=Tryz.sizeOf20
 v20:=Tryz.zeroValue20
 t37:=Tryz.underlying22
 a37:=Tryz.isAgg22
 z37:=Tryz.sizeOf22
 v37:=Tryz.zeroValue22
 t46:=Tryz.underlying124
 a46:=Tryz.isAgg124
 z46:=Tryz.sizeOf124
 v46:=Tryz.zeroValue124
 t51:=Tryz.underlying336
 a51:=Tryz.isAgg336
 z51:=Tryz.sizeOf336
 v51:=Tryz.zeroValue336
 t53:=Tryz.underlying79
 a53:=Tryz.isAgg79
 z53:=Tryz.sizeOf79
 v53:=Tryz.zeroValue79
 t171:=Tryz.underlying311
 a171:=Tryz.isAgg311
 z171:=Tryz.sizeOf311
 v171:=Tryz.zeroValue311
 t173:=Tryz.underlying314
 a173:=Tryz.isAgg314
 z173:=Tryz.sizeOf314
 v173:=Tryz.zeroValue314
 t212:=Tryz.underlying343
 a212:=Tryz.isAgg343
 z212:=Tryz.sizeOf343
 v212:=Tryz.zeroValue343
 t213:=Tryz.underlying344
 a213:=Tryz.isAgg344
 z213:=Tryz.sizeOf344
 t232:=Tryz.underlying375
 a232:=Tryz.isAgg375
 z232:=Tryz.sizeOf375
 v232:=Tryz.zeroValue375
 t233:=Tryz.underlying376
 a233:=Tryz.isAgg376
 z233:=Tryz.sizeOf376
 v233:=Tryz.zeroValue376
 g17:=by kernel_rfl
 g18:=by kernel_rfl
 g19:=by kernel_rfl
 i0:=by kernel_rfl
 i2:=by kernel_rfl
 i3:=by kernel_rfl
 i4:=by kernel_rfl
 i5:=by kernel_rfl
 i9:=by kernel_rfl
 i20:=by kernel_rfl
 i37:=by kernel_rfl
 i46:=by kernel_rfl
 i51:=by kernel_rfl
 i53:=by kernel_rfl
 i171:=by kernel_rfl
 i173:=by kernel_rfl
 i212:=by kernel_rfl
 i232:=by kernel_rfl
 i233:=by kernel_rfl
 m17:=by kernel_rfl
 m18:=by kernel_rfl
 m19:=by kernel_rfl }
def Tryz.layLaysCn174_ren:Go.Shelf.Ren:=⟨fun | 174=>135 | 247=>207 | 245=>208 | 287=>261 | 279=>262 | 280=>263 | 281=>264 | 282=>265 | 321=>282 | 322=>283 | 316=>284 | 171=>286 | 205=>285 | 243=>299 | 246=>179 | 283=>238 | 284=>239 | 285=>240 | 286=>241 | 129=>274 | 317=>273 | 318=>275 | 319=>276 | 320=>277 | 337=>297 | 338=>298 | n=>n,fun | 9=>9 | 3=>3 | 2=>2 | 75=>75 | 85=>214 | 4=>4 | 167=>327 | 5=>5 | 53=>79 | 175=>328 | 46=>124 | 168=>330 | 37=>22 | 0=>0 | 210=>356 | 21=>21 | 127=>123 | 145=>368 | 143=>366 | 171=>311 | 173=>314 | 212=>343 | 51=>336 | 20=>20 | 213=>344 | 232=>375 | 233=>376 | 80=>78 | n=>n,fun | 15=>4 | 16=>5 | 17=>1 | 18=>6 | 19=>7 | n=>n⟩
theorem Tryz.layLaysCn174:Go.Proofs.LaysC.n174 Tryz.prog Tryz.layLaysCn174_ren:={
 mixed:=by kernel_rfl
 f129:=Tryz.func274.trans (congrArg some (by kernel_rfl))
 f171:=Tryz.func286.trans (congrArg some (by kernel_rfl))
 f174:=Tryz.func135.trans (congrArg some (by kernel_rfl))
 f205:=Tryz.func285.trans (congrArg some (by kernel_rfl))
 f243:=Tryz.func299.trans (congrArg some (by kernel_rfl))
 f245:=Tryz.func208.trans (congrArg some (by kernel_rfl))
 f246:=Tryz.func179.trans (congrArg some (by kernel_rfl))
 f247:=Tryz.func207.trans (congrArg some (by kernel_rfl))
 f279:=Tryz.func262.trans (congrArg some (by kernel_rfl))
 f280:=Tryz.func263.trans (congrArg some (by kernel_rfl))
 f281:=Tryz.func264.trans (congrArg some (by kernel_rfl))
 f282:=Tryz.func265.trans (congrArg some (by kernel_rfl))
 f283:=Tryz.func238.trans (congrArg some (by kernel_rfl))
 f284:=Tryz.func239.trans (congrArg some (by kernel_rfl))
 f285:=Tryz.func240.trans (congrArg some (by kernel_rfl))
 f286:=Tryz.func241.trans (congrArg some (by kernel_rfl))
 f287:=Tryz.func261.trans (congrArg some (by kernel_rfl))
 f316:=Tryz.func284.trans (congrArg some (by kernel_rfl))
 f317:=Tryz.func273.trans (congrArg some (by kernel_rfl))
 f318:=Tryz.func275.trans (congrArg some (by kernel_rfl))
 f319:=Tryz.func276.trans (congrArg some (by kernel_rfl))
 f320:=Tryz.func277.trans (congrArg some (by kernel_rfl))
 f321:=Tryz.func282.trans (congrArg some (by kernel_rfl))
 f322:=Tryz.func283.trans (congrArg some (by kernel_rfl))
 f337:=Tryz.func297.trans (congrArg some (by kernel_rfl))
 f338:=Tryz.func298.trans (congrArg some (by kernel_rfl))
 t0:=Tryz.underlying0
 a0:=Tryz.isAgg0
 z0:=Tryz.sizeOf0
 v0:=Tryz.zeroValue0
 t2:=Tryz.underlying2
 a2:=Tryz.isAgg2
 z2:=Tryz.sizeOf2
 v2:=Tryz.zeroValue2
 t3:=Tryz.underlying3
 a3:=Tryz.isAgg3
 z3:=Tryz.sizeOf3
 v3:=Tryz.zeroValue3
 t4:=Tryz.underlying4
 a4:=Tryz.isAgg4
 z4:=Tryz.sizeOf4
 v4:=Tryz.zeroValue4
 t5:=Tryz.underlying5
 a5:=Tryz.isAgg5
 z5:=Tryz.sizeOf5
 v5:=Tryz.zeroValue5
 t9:=Tryz.underlying9
 a9:=Tryz.isAgg9
 z9:=Tryz.sizeOf9
 v9:=Tryz.zeroValue9
 t20:=Tryz.underlying20
 a20:=Tryz.isAgg20
 z20:=Tryz.sizeOf20
 v20:=Tryz.zeroValue20
 t21:=Tryz.underlying21
 a21:=Tryz.isAgg21
 z21:=Tryz.sizeOf21
 v21:=Tryz.zeroValue21
 t37:=Tryz.underlying22
 a37:=Tryz.isAgg22
 z37:=Tryz.sizeOf22
 v37:=Tryz.zeroValue22
 t46:=Tryz.underlying124
 a46:=Tryz.isAgg124
 z46:=Tryz.sizeOf124
 v46:=Tryz.zeroValue124
 t51:=Tryz.underlying336
 a51:=Tryz.isAgg336
 z51:=Tryz.sizeOf336
 v51:=Tryz.zeroValue336
 t53:=Tryz.underlying79
 a53:=Tryz.isAgg79
 z53:=Tryz.sizeOf79
 v53:=Tryz.zeroValue79
 t75:=Tryz.underlying75
 a75:=Tryz.isAgg75
 z75:=Tryz.sizeOf75
 v75:=Tryz.zeroValue75
 t85:=Tryz.underlying214
 a85:=Tryz.isAgg214
 z85:=Tryz.sizeOf214
 v85:=Tryz.zeroValue214
 t127:=Tryz.underlying123
 a127:=Tryz.isAgg123
 z127:=Tryz.sizeOf123
 v127:=Tryz.zeroValue123
 t143:=Tryz.underlying366
 a143:=Tryz.isAgg366
 z143:=Tryz.sizeOf366
 v143:=Tryz.zeroValue366
 t145:=Tryz.underlying368
 a145:=Tryz.isAgg368
 z145:=Tryz.sizeOf368
 v145:=Tryz.zeroValue368
 t167:=Tryz.underlying327
 a167:=Tryz.isAgg327
 z167:=Tryz.sizeOf327
 v167:=Tryz.zeroValue327
 t168:=Tryz.underlying330
 a168:=Tryz.isAgg330
 z168:=Tryz.sizeOf330
 v168:=Tryz.zeroValue330
 t171:=Tryz.underlying311
 a171:=Tryz.isAgg311
 z171:=Tryz.sizeOf311
 v171:=Tryz.zeroValue311
 t173:=Tryz.underlying314
 a173:=Tryz.isAgg314
 z173:=Tryz.sizeOf314
 v173:=Tryz.zeroValue314
 t175:=Tryz.underlying328
 a175:=Tryz.isAgg328
 z175:=Tryz.sizeOf328
 v175:=Tryz.zeroValue328
 t210:=Tryz.underlying356
 a210:=Tryz.isAgg356
 z210:=Tryz.sizeOf356
 v210:=Tryz.zeroValue356
 t212:=Tryz.underlying343
 a212:=Tryz.isAgg343
 z212:=Tryz.sizeOf343
 v212:=Tryz.zeroValue343
 t213:=Tryz.underlying344
 a213:=Tryz.isAgg344
 z213:=Tryz.sizeOf344
 t232:=Tryz.underlying375
 a232:=Tryz.isAgg375
 z232:=Tryz.sizeOf375
 v232:=Tryz.zeroValue375
 t233:=Tryz.underlying376
 a233:=Tryz.isAgg376
 z233:=Tryz.sizeOf376
 v233:=Tryz.zeroValue376
 g15:=by kernel_rfl
 g16:=by kernel_rfl
 g17:=by kernel_rfl
 g18:=by kernel_rfl
 g19:=by kernel_rfl
 t80:=Tryz.underlying78
 a80:=Tryz.isAgg78
 z80:=Tryz.sizeOf78
 v80:=Tryz.zeroValue78
 i0:=by kernel_rfl
 i2:=by kernel_rfl
 i3:=by kernel_rfl
 i4:=by kernel_rfl
 i5:=by kernel_rfl
 i9:=by kernel_rfl
 i20:=by kernel_rfl
 i21:=by kernel_rfl
 i37:=by kernel_rfl
 i46:=by kernel_rfl
 i51:=by kernel_rfl
 i53:=by kernel_rfl
 i75:=by kernel_rfl
 i80:=by kernel_rfl
 i85:=by kernel_rfl
 i127:=by kernel_rfl
 i143:=by kernel_rfl
 i145:=by kernel_rfl
 i167:=by kernel_rfl
 i168:=by kernel_rfl
 i171:=by kernel_rfl
 i173:=by kernel_rfl
 i175:=by kernel_rfl
 i210:=by kernel_rfl
 i212:=by kernel_rfl
 i232:=by kernel_rfl
 i233:=by kernel_rfl
 m15:=by kernel_rfl
 m16:=by kernel_rfl
 m17:=by kernel_rfl
 m18:=by kernel_rfl
 m19:=by kernel_rfl
 c0:=by kernel_rfl
 c2:=by kernel_rfl
 c3:=by kernel_rfl
 c4:=by kernel_rfl
 c5:=by kernel_rfl
 c9:=by kernel_rfl
 c20:=by kernel_rfl
 c21:=by kernel_rfl
 c37:=by kernel_rfl
 c46:=by kernel_rfl
 c51:=by kernel_rfl
 c53:=by kernel_rfl
 c75:=by kernel_rfl
 c80:=by kernel_rfl
 c85:=by kernel_rfl
 c127:=by kernel_rfl
 c143:=by kernel_rfl
 c145:=by kernel_rfl
 c167:=by kernel_rfl
 c168:=by kernel_rfl
 c171:=by kernel_rfl
 c173:=by kernel_rfl
 c175:=by kernel_rfl
 c210:=by kernel_rfl
 c212:=by kernel_rfl
 c213:=by kernel_rfl
 c232:=by kernel_rfl
 c233:=by kernel_rfl }
def Tryz.layLaysn101_ren:Go.Shelf.Ren:=⟨fun | 101=>134 | 208=>206 | 206=>260 | n=>n,fun | 9=>9 | 4=>4 | 3=>3 | n=>n,fun | n=>n⟩
theorem Tryz.layLaysn101:Go.Proofs.Lays.n101 Tryz.prog Tryz.layLaysn101_ren:={
 mixed:=by kernel_rfl
 f101:=Tryz.func134.trans (congrArg some (by kernel_rfl))
 f206:=Tryz.func260.trans (congrArg some (by kernel_rfl))
 f208:=Tryz.func206.trans (congrArg some (by kernel_rfl))
 t3:=Tryz.underlying3
 a3:=Tryz.isAgg3
 z3:=Tryz.sizeOf3
 v3:=Tryz.zeroValue3
 t4:=Tryz.underlying4
 a4:=Tryz.isAgg4
 z4:=Tryz.sizeOf4
 v4:=Tryz.zeroValue4
 t9:=Tryz.underlying9
 a9:=Tryz.isAgg9
 z9:=Tryz.sizeOf9
 v9:=Tryz.zeroValue9 }
end Go.Proofs
namespace Go.Proofs.YtbliejnpjpnahaaGreatDoor
open Go.Shelf Go.RowKit
set_option linter.unusedVariables false
set_option maxRecDepth 100000
theorem aW6 : Tryz.prog.globalNamed "internal/strconv.uint64pow10" = some 1 := by kernel_rfl
theorem aJh {W : World} {F : Nat → Prop} (gl : aDi F W) : Lib.TabIs Tryz.prog W "internal/strconv.uint64pow10" .u64 Lib.pow10Tab := by
 obtain ⟨-,t,f,e⟩:=gl (bD2 1 (Lib.pow10Tab.map fun z=>Value.int .u64 z)) (by simp [aQd])
 unfold Lib.TabIs World.var?
 rw [aW6]
 simp [e]
theorem bB8 {n:Int} (h0 : -9223372036854775808≤n) (h1:n≤9223372036854775807):FnC Tryz.prog 107 [] [.d (.v (.int .i64 n)), .d (.v (.int .i64 10))] [] (.d (.v (.string ⟨(Lib.itoa n).toArray⟩))) :=
 aYw (v := .string ⟨(Lib.itoa n).toArray⟩) (by kernel_rfl) rfl fun W F gl=>(Any.strconv_FormatInt_10 Tryz.layLaysMn173 n h0 h1 W (aJh gl)).mono (by rintro e w' ⟨rfl,k,os,rfl⟩;exact ⟨rfl,Lib.below_grow _ _ (Nat.le_refl _) _ _⟩)
end Go.Proofs.YtbliejnpjpnahaaGreatDoor
namespace Go.Proofs
open Go.Shelf
def Tryz.layLaysn138_ren:Go.Shelf.Ren:=⟨fun | 138=>113 | 195=>182 | 218=>184 | 143=>114 | 219=>185 | 217=>246 | 225=>247 | 224=>248 | 267=>249 | 266=>280 | 314=>281 | n=>n,fun | 9=>9 | 3=>3 | 4=>4 | 5=>5 | 0=>0 | 46=>124 | 146=>337 | 51=>336 | n=>n,fun | 1=>0 | n=>n⟩
theorem Tryz.layLaysn138:Go.Proofs.Lays.n138 Tryz.prog Tryz.layLaysn138_ren:={
 mixed:=by kernel_rfl
 f138:=Tryz.func113.trans (congrArg some (by kernel_rfl))
 f143:=Tryz.func114.trans (congrArg some (by kernel_rfl))
 f195:=Tryz.func182.trans (congrArg some (by kernel_rfl))
 f217:=Tryz.func246.trans (congrArg some (by kernel_rfl))
 f218:=Tryz.func184.trans (congrArg some (by kernel_rfl))
 f219:=Tryz.func185.trans (congrArg some (by kernel_rfl))
 f224:=Tryz.func248.trans (congrArg some (by kernel_rfl))
 f225:=Tryz.func247.trans (congrArg some (by kernel_rfl))
 f266:=Tryz.func280.trans (congrArg some (by kernel_rfl))
 f267:=Tryz.func249.trans (congrArg some (by kernel_rfl))
 f314:=Tryz.func281.trans (congrArg some (by kernel_rfl))
 t0:=Tryz.underlying0
 a0:=Tryz.isAgg0
 z0:=Tryz.sizeOf0
 v0:=Tryz.zeroValue0
 t3:=Tryz.underlying3
 a3:=Tryz.isAgg3
 z3:=Tryz.sizeOf3
 v3:=Tryz.zeroValue3
 t4:=Tryz.underlying4
 a4:=Tryz.isAgg4
 z4:=Tryz.sizeOf4
 v4:=Tryz.zeroValue4
 t5:=Tryz.underlying5
 a5:=Tryz.isAgg5
 z5:=Tryz.sizeOf5
 v5:=Tryz.zeroValue5
 t9:=Tryz.underlying9
 a9:=Tryz.isAgg9
 z9:=Tryz.sizeOf9
 v9:=Tryz.zeroValue9
 t46:=Tryz.underlying124
 a46:=Tryz.isAgg124
 z46:=Tryz.sizeOf124
 v46:=Tryz.zeroValue124
 t51:=Tryz.underlying336
 a51:=Tryz.isAgg336
 z51:=Tryz.sizeOf336
 v51:=Tryz.zeroValue336
 t146:=Tryz.underlying337
 a146:=Tryz.isAgg337
 z146:=Tryz.sizeOf337
 v146:=Tryz.zeroValue337
 g1:=by kernel_rfl }
end Go.Proofs
namespace Go.Proofs.YtbliejnpjpnahaaGreatDoor
open Go.Shelf Go.RowKit
set_option linter.unusedVariables false
set_option maxRecDepth 100000
theorem aWw {s:ByteArray} {c:UInt8}:FnC Tryz.prog 113 [] [.d (.v (.string s)), .d (.v (.string ⟨#[c]⟩))] [] (.d (.v (.int .i64 (Lib.countByte s.data.toList c)))) :=
 aSp (v := .int .i64 (Lib.countByte s.data.toList c)) (by kernel_rfl) rfl fun W=>(Any.strings_Count_one Tryz.layLaysn138 s c W).mono (by rintro e w' ⟨rfl,rfl⟩;exact ⟨rfl,Below.refl _ _⟩)
end Go.Proofs.YtbliejnpjpnahaaGreatDoor
